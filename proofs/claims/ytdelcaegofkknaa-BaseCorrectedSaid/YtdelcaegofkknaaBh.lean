/-
  A region that draws its order, of whose first k operations one (h) may turn blocks made in the region; early ones are asked for by h and one another alone; late ones come behind h. Nothing of any program stands here.
-/
import Derived.Test.YtdelcaegofkknaaBo
import Derived.Test.YtdelcaegofkknaaFe
namespace Go.Wx
open Go.RowKit
def hLateOK (ops : Array Oper) : List Nat → List Nat → Bool
  | _, [] => true
  | acc, j :: r => (match ops[j]? with | some o => o.after.any fun e => Region.binds .any e && acc.contains e.on | none => false) && hLateOK ops (j :: acc) r
def hEarlyOK (ops : Array Oper) : List Nat → List Nat → Bool
  | _, [] => true
  | acc, j :: r => (acc.any fun i => match ops[i]? with | some o => o.after.any fun e => Region.binds .any e && Nat.beq e.on j | none => false) && hEarlyOK ops (j :: acc) r
def usesOK (ops : Array Oper) (k h : Nat) (early : List Nat) : Bool := (List.range k).all fun i => Nat.beq i h || early.contains i || (match ops[i]? with | some o => o.after.all fun e => !(Region.binds .any e && early.contains e.on) | none => true)
def keptL (K : World → World → Prop) (skip : List Nat) : Nat → List Ph → Prop
  | _, [] => True
  | i, q :: r => (skip.contains i = true ∨ ∀ v W W', q.holds v W → K W W' → q.holds v W') ∧ keptL K skip (i + 1) r
theorem keptL.at {K : World → World → Prop} {skip : List Nat} : ∀ {l : List Ph} {s : Nat}, keptL K skip s l → ∀ i, skip.contains (s + i) = false → ∀ v W W', (l.getD i (.eq undef)).holds v W → K W W' → (l.getD i (.eq undef)).holds v W'
  | [], _, _, i, _, v, W, W', h, _ => by
    have e : ([] : List Ph).getD i (.eq undef) = .eq undef := by simp
    rw [e] at h ⊢
    exact h
  | q :: r, s, hk, 0, hs, v, W, W', h, k => by
    rcases hk.1 with e | e
    · rw [show s + 0 = s from rfl] at hs; rw [hs] at e; cases e
    · simpa using e v W W' (by simpa using h) k
  | q :: r, s, hk, i + 1, hs, v, W, W', h, k => by
    simpa using hk.2.at i (by rw [show s + 1 + i = s + (i + 1) by omega]; exact hs) v W W' (by simpa using h) k
theorem late_of {ops : Array Oper} {L : Nat → Bool} {h : Nat} (hDn : DnL ops L) : ∀ {late acc : List Nat}, hLateOK ops acc late = true → (∀ i ∈ acc, L i = true → L h = true) → ∀ j ∈ late, L j = true → L h = true
  | [], _, _, _, j, hj, _ => by cases hj
  | i :: r, acc, hl, ha, j, hj, hL => by
    unfold hLateOK at hl
    rw [Bool.and_eq_true] at hl
    have hi : L i = true → L h = true := fun h1 => by
      cases ho : ops[i]? with
      | none => rw [ho] at hl; cases hl.1
      | some o =>
        rw [ho] at hl
        obtain ⟨e, he, hb⟩ := Array.any_eq_true'.1 hl.1
        rw [Bool.and_eq_true] at hb
        exact ha e.on (by simpa using hb.2) (hDn i o ho h1 e he hb.1)
    rcases List.mem_cons.1 hj with rfl | hj
    · exact hi hL
    · exact late_of hDn hl.2 (fun m hm h2 => (List.mem_cons.1 hm).elim (fun e => hi (e ▸ h2)) (fun hm => ha m hm h2)) j hj hL
theorem early_of {ops : Array Oper} {L : Nat → Bool} (hDn : DnL ops L) : ∀ {early acc : List Nat}, hEarlyOK ops acc early = true → (∀ i ∈ acc, L i = true) → ∀ j ∈ early, L j = true
  | [], _, _, _, j, hj => by cases hj
  | i :: r, acc, hl, ha, j, hj => by
    unfold hEarlyOK at hl
    rw [Bool.and_eq_true] at hl
    have hi : L i = true := by
      obtain ⟨m, hm, h1⟩ := List.any_eq_true.1 hl.1
      cases ho : ops[m]? with
      | none => rw [ho] at h1; cases h1
      | some o =>
        rw [ho] at h1
        obtain ⟨e, he, hb⟩ := Array.any_eq_true'.1 h1
        rw [Bool.and_eq_true] at hb
        rw [← Nat.eq_of_beq_eq_true hb.2]
        exact hDn m o ho (ha m hm) e he hb.1
    rcases List.mem_cons.1 hj with rfl | hj
    · exact hi
    · exact early_of hDn hl.2 (fun m hm => (List.mem_cons.1 hm).elim (fun e => e ▸ hi) (fun hm => ha m hm)) j hj
section
variable {R : Option Nat} {m : Nat} {P : Program} {n : Nat} {ds : List Deferred} {Q : Exit → Go.Act → World → Prop} {l : Env} {w : World}
theorem CW.freeH {id : Nat} {opsL : List Oper} (k h : Nat) (early late : List Nat) (phs : List Ph) (keep : List Nat) (K : World → World → Prop) (hm : P.follows .mixedOrders = true) (hl : noPred l = true)
    (hA : aheadOK opsL.toArray = true) (hC : (Nat.beq k opsL.toArray.size || closOK opsL.toArray k) = true) (hF : farOK opsL.toArray k = true) (hks : Nat.ble k opsL.toArray.size = true) (hD : dstOK' n opsL.toArray 0 k = true) (hTl : tailOK opsL.toArray k = true)
    (hfree : freeOK l (opsL.take k) = true) (hla : hLateOK opsL.toArray [h] late = true) (hea : hEarlyOK opsL.toArray [h] early = true) (hus : usesOK opsL.toArray k h early = true) (hph : allU phs) (hkp : keptL K (h :: (early ++ late)) 0 phs)
    (hop : ∀ W, Up w.drew W → allL (fun i o => o.guard = none ∧ (i ≠ h → TU P n ds (knp opsL.toArray (fun i => phs.getD i (.eq undef)) 0 o ++ l) W o (phs.getD i (.eq undef))) ∧
      (i = h → ∀ a, Ag n ds (knp opsL.toArray (fun i => phs.getD i (.eq undef)) 0 o ++ l) a W → OpY P o a W (fun v W' => (Up w.drew W' ∧ K W W') ∧ (phs.getD i (.eq undef)).holds v W'))) 0 (opsL.take k))
    (hend : ∀ W (g : Nat → Value), Up w.drew W → (∀ i o d, i < k → early.contains i = false → opsL[i]? = some o → o.dst = some d → (phs.getD i (.eq undef)).holds (g d) W) → LW R m P n ds opsL.toArray Q (opsL.drop k) (keep.map (fun d => (d, .eq (g d))) ++ l) W) :
    CW R m P n ds (.region id opsL.toArray true) Q l w := by
  have hks' : k ≤ opsL.length := by have := Nat.le_of_ble_eq_true hks; simp at this; omega
  have sub : ∀ j o, j < k → opsL.toArray[j]? = some o → (opsL.take k)[j]? = some o := fun j o hjk ho => by
    rw [List.getElem?_take_of_lt hjk]; simpa using ho
  have hbd : ∀ i ph, lk l i = some ph → ∀ (j : Nat) (o : Oper), 0 ≤ j → j < k → opsL.toArray[j]? = some o → o.dst ≠ some i := fun i ph hi j o _ hjk ho => freeOK_at hfree hi (List.mem_of_getElem? (sub j o hjk ho))
  refine CW.draws_up hm hl fun fuel listed a hf hu ha => ?_
  refine AWF.gen (k := k) (fun _ => .pred fun _ _ => True) (fun _ _ => True) (fun L f W => Up w.drew W ∧ ∀ (j : Nat) (o : Oper) (d : Nat), j < k → L j = true → opsL.toArray[j]? = some o → o.dst = some d → (early.contains j = true → L h = false) → (phs.getD j (.eq undef)).holds (f d) W) (f0 := fun t => a.tmps.getD t undef) (fun _ => trivial) (fun _ _ _ _ _ => trivial) (fun _ _ _ _ _ _ => trivial) hA hC hF hks (by simp) hD hl hbd ?_ ⟨Up.refl _, fun j o d _ hj => by simp at hj⟩ ?_ fuel listed a hf hu ha (fun _ => rfl)
  · intro i o _ hi hio L f W _ hDn hLi hed hInv a ha hsl
    obtain ⟨hU, hI⟩ := hInv
    have ha2 : Ag n ds (knp opsL.toArray (fun i => phs.getD i (.eq undef)) 0 o ++ l) a W := by
      refine ⟨ha.defers, ha.size, fun t q ht => ?_⟩
      rcases lk_append ht with h1 | h1
      · obtain ⟨e, he, hb, _, p, hp, hpd, rfl⟩ := knp_at h1
        rw [hsl]
        refine hI e.on p t (by have := aheadOK_at hA hio e he hb; omega) (hed e he hb) hp hpd (fun hE => ?_)
        by_cases ih : i = h
        · rw [← ih]; exact hLi
        · have h2 := List.all_eq_true.1 hus i (List.mem_range.2 hi)
          rw [Bool.or_eq_true, Bool.or_eq_true] at h2
          rcases h2 with (h2 | h2) | h2
          · exact absurd (Nat.eq_of_beq_eq_true h2) ih
          · cases hLh : L h with
            | false => rfl
            | true =>
              have := early_of hDn hea (fun m hm => by rw [List.mem_singleton.1 hm]; exact hLh) i (by simpa using h2)
              rw [hLi] at this; cases this
          · rw [hio] at h2
            have h3 := Array.all_eq_true_iff_forall_mem.1 h2 e he
            rw [hb, hE] at h3
            cases h3
      · refine ha.val t q ?_
        rw [lk_right]
        · exact h1
        · cases hq : lk (knp opsL.toArray (fun _ => Ph.pred fun _ _ => True) 0 o) t with
          | none => rfl
          | some q' =>
            obtain ⟨e, he, hb, _, p, hp, hpd, _⟩ := knp_at hq
            exact absurd hpd (hbd t q h1 e.on p (Nat.zero_le _) (by have := aheadOK_at hA hio e he hb; omega) hp)
    have h3 := (hop W hU).at (sub i o hi hio)
    rw [Nat.zero_add] at h3
    obtain ⟨hg, h3, h4⟩ := h3
    rw [if_pos (by simp [Region.wanted, hg])]
    by_cases ih : i = h
    · have done : ∀ v W', (Up w.drew W' ∧ K W W') ∧ (phs.getD i (.eq undef)).holds v W' → True ∧ (∀ d, o.dst = some d → (Ph.pred fun _ _ => True).holds v W') ∧ Up w.drew W' ∧ ∀ (j : Nat) (o' : Oper) (d : Nat), j < k → setL L i j = true → opsL.toArray[j]? = some o' → o'.dst = some d → (early.contains j = true → setL L i h = false) → (phs.getD j (.eq undef)).holds (setS f o.dst v d) W' := by
        rintro v W' ⟨⟨hu, hk⟩, hv⟩
        refine ⟨trivial, fun _ _ => trivial, hu, fun j o' d hj hLj hj' hd hE => ?_⟩
        by_cases e : j = i
        · subst e
          rw [hio] at hj'; cases hj'
          simpa [setS, hd] using hv
        · have h5 : L j = true := by simpa [setL, e] using hLj
          have h6 : setS f o.dst v d = f d := by
            have := (dstOK'_at hD (Nat.zero_le _) hj hj' hd).2 i o (Nat.zero_le _) hi (Ne.symm e) hio
            simp [setS, this]
          rw [h6]
          have h7 : early.contains j = false := by
            cases hc : early.contains j with
            | false => rfl
            | true => have := hE hc; simp [setL, ih] at this
          have h8 : late.contains j = false := by
            cases hc : late.contains j with
            | false => rfl
            | true =>
              have := late_of (h := h) hDn hla (fun m hm h2 => (List.mem_singleton.1 hm) ▸ h2) j (by simpa using hc) h5
              rw [← ih, hLi] at this; cases this
          refine hkp.at j ?_ _ W W' (hI j o' d hj h5 hj' hd (fun hc => by rw [h7] at hc; cases hc)) hk
          rw [Nat.zero_add, Bool.eq_false_iff]
          intro hc
          rw [List.contains_iff_mem, List.mem_cons, List.mem_append] at hc
          rcases hc with hc | hc | hc
          · exact e (hc.trans ih.symm)
          · rw [← List.contains_iff_mem, h7] at hc; cases hc
          · rw [← List.contains_iff_mem, h8] at hc; cases hc
      rcases h4 ih a ha2 with ⟨v, W', hr, hp⟩ | ⟨fn, args, w1, hr, hc⟩
      · exact .inl (.inl ⟨v, W', hr, done v W' hp⟩)
      · exact .inl (.inr ⟨fn, args, w1, hr, hc.mono done⟩)
    · have done : ∀ v W', Up W W' ∧ (phs.getD i (.eq undef)).holds v W' → True ∧ (∀ d, o.dst = some d → (Ph.pred fun _ _ => True).holds v W') ∧ Up w.drew W' ∧ ∀ (j : Nat) (o' : Oper) (d : Nat), j < k → setL L i j = true → opsL.toArray[j]? = some o' → o'.dst = some d → (early.contains j = true → setL L i h = false) → (phs.getD j (.eq undef)).holds (setS f o.dst v d) W' := by
        rintro v W' ⟨hu, hv⟩
        refine ⟨trivial, fun _ _ => trivial, hU.trans hu, fun j o' d hj hLj hj' hd hE => ?_⟩
        by_cases e : j = i
        · subst e
          rw [hio] at hj'; cases hj'
          simpa [setS, hd] using hv
        · have h5 : L j = true := by simpa [setL, e] using hLj
          have h6 : setS f o.dst v d = f d := by
            have := (dstOK'_at hD (Nat.zero_le _) hj hj' hd).2 i o (Nat.zero_le _) hi (Ne.symm e) hio
            simp [setS, this]
          rw [h6]
          exact hph.at j _ W W' (hI j o' d hj h5 hj' hd (fun hc => by have := hE hc; simpa [setL, Ne.symm ih] using this)) hu
      rcases h3 ih a ha2 with ⟨v, W', hr, hp⟩ | ⟨fn, args, w1, hr, hc⟩
      · exact .inl (.inl ⟨v, W', hr, done v W' hp⟩)
      · exact .inl (.inr ⟨fn, args, w1, hr, hc.mono done⟩)
  · intro f W _ hInv fuel' listed' a' hf' hu' ha' hsl'
    obtain ⟨hUp, hI⟩ := hInv
    have key : ∀ i o d, i < k → early.contains i = false → opsL[i]? = some o → o.dst = some d → (phs.getD i (.eq undef)).holds (f d) W := fun i o d hik hE ho hd => hI i o d hik (by simpa using hik) (by simpa using ho) hd (fun hc => by rw [hE] at hc; cases hc)
    refine tail_order hTl hA (opsL.toArray.size - k) k fuel' listed' a' W rfl (by simp; omega) (Nat.le_refl _) hf' hu' ?_
    refine hend W f hUp key a' ⟨ha'.defers, ha'.size, fun t q ht => ?_⟩
    rcases lk_append ht with h | h
    · obtain ⟨d, _, he⟩ := List.mem_map.1 (lk_mem h)
      cases he
      exact hsl' _
    · refine ha'.val t q ?_
      rw [lk_right]
      · exact h
      · cases hq : lk (allP opsL.toArray (fun _ => Ph.pred fun _ _ => True) 0 k) t with
        | none => rfl
        | some q' =>
          obtain ⟨j, p, _, hjk, hp, hpd, _⟩ := allP_at hq
          exact absurd hpd (hbd t q h j p (Nat.zero_le _) hjk hp)
theorem Ag.learn {t : Nat} {v : Value} {a : Go.Act} {env : Env} (ha : Ag n ds env a w) (hv : a.tmps.getD t undef = v) : Ag n ds ((t, .eq v) :: env) a w := ⟨ha.defers, ha.size, fun s q hs => by
  by_cases e : s = t
  · subst e; rw [lk_cons_eq] at hs; cases hs; exact hv
  · rw [lk_cons_ne e] at hs; exact ha.val s q hs⟩
end
end Go.Wx
