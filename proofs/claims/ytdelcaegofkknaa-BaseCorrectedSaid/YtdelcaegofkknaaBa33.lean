import Derived.Test.YtdelcaegofkknaaBa32
namespace Go.Wx

theorem eqb_eq {f g : Fact} (h : Fact.eqb f g = true) : f = g := by
  obtain ⟨h1, h2⟩ := eqb_get h
  simp only [Fact.eqb, Bool.and_eq_true, beq_iff_eq] at h
  obtain ⟨a0, _, a2, a3, a4, _⟩ := h
  exact fact_ext a0 a2 a3 a4 (text_inj h2) h1
theorem eqb_iff {f g : Fact} : Fact.eqb f g = true ↔ f = g := ⟨eqb_eq, fun e => by rw [e]; exact eqb_refl g⟩
theorem lst_nodup (l : List Fact) (d : Int) {j : Nat} (hj : j < 11) : (lstOf (ofB l d) j).Nodup := by
  rw [lst_ofB l d hj]
  unfold lstAt
  rw [if_pos (List.mem_singleton.2 rfl)]
  exact ((sortK_sts _).same.perm.nodup_iff).2 ((factsM_nodup l d).filter _)
theorem lst_mem2 {l : List Fact} {d : Int} {j : Nat} (hj : j < 11) {x : Fact} : x ∈ lstOf (ofB l d) j ↔ eff l d x ∧ x.Gone = false ∧ x.Kind = ((j + 1 : Nat) : Int) := by
  rw [lst_ofB l d hj]
  unfold lstAt
  rw [if_pos (List.mem_singleton.2 rfl), (sortK_sts _).same.mem, List.mem_filter, best_eff]
  simp
theorem effv {l : List Fact} {d : Int} {x : Fact} (h : eff l d x) : validB x = true := keyB_valid h.2.1
theorem effk {l : List Fact} {d : Int} {x y : Fact} (hx : eff l d x) (hy : eff l d y) (e : keyB x = keyB y) : x = y := prev_total (effv hx) (effv hy) e (hy.2.2.2 x hx.1 hx.2.2.1) (hx.2.2.2 y hy.1 hy.2.2.1)
theorem lst_lt {l : List Fact} {d : Int} {j i : Nat} (hj : j < 11) {a f : Fact} (hi : 0 < i) (ha : (lstOf (ofB l d) j)[i - 1]? = some a) (hf : (lstOf (ofB l d) j)[i]? = some f) : ltK (ordK ((j + 1 : Nat) : Int) a) (ordK ((j + 1 : Nat) : Int) f) = true := by
  obtain ⟨l1, e1⟩ := List.getElem?_eq_some_iff.1 ha
  obtain ⟨l2, e2⟩ := List.getElem?_eq_some_iff.1 hf
  have hs : srt (ordK ((j + 1 : Nat) : Int)) (lstOf (ofB l d) j) := by
    rw [lst_ofB l d hj]; unfold lstAt; rw [if_pos (List.mem_singleton.2 rfl)]; exact (sortK_sts _).ord
  have h1 := List.pairwise_iff_getElem.1 hs (i - 1) i l1 l2 (by omega)
  rw [e1, e2] at h1
  have hne := List.pairwise_iff_getElem.1 (lst_nodup l d hj) (i - 1) i l1 l2 (by omega)
  rw [e1, e2] at hne
  cases h : ltK (ordK ((j + 1 : Nat) : Int) a) (ordK ((j + 1 : Nat) : Int) f) with
  | true => rfl
  | false =>
    have ma := (lst_mem2 hj).1 (List.mem_of_getElem? ha)
    have mf := (lst_mem2 hj).1 (List.mem_of_getElem? hf)
    exact absurd (effk ma.1 mf.1 (key_of_ord (effv ma.1) (effv mf.1) ma.2.2 mf.2.2 (eqK_of h h1))) hne
theorem get_in {f : Fact} (h : validB f = true) : ∀ j : Nat, j < 14 → inW (getN f (j : Int)) := by
  obtain ⟨h1, h2, _⟩ := valid_parts h
  have key : ∀ o, okOff o = true → inW (getF f o) := fun o ho => by
    by_cases hx : ∃ x ∈ fieldsOf f.Kind, x.off = o
    · obtain ⟨x, hx, rfl⟩ := hx; exact h2 x hx
    · rw [h1 o ho (fun x a b => hx ⟨x, a, b⟩)]; exact ⟨by omega, by omega⟩
  intro j hj
  have hc : j = 0 ∨ j = 1 ∨ j = 2 ∨ j = 3 ∨ j = 4 ∨ j = 5 ∨ j = 6 ∨ j = 7 ∨ j = 8 ∨ j = 9 ∨ j = 10 ∨ j = 11 ∨ j = 12 ∨ j = 13 := by omega
  rcases hc with rfl | rfl | rfl | rfl | rfl | rfl | rfl | rfl | rfl | rfl | rfl | rfl | rfl | rfl
  · exact key 1 rfl
  · exact key 7 rfl
  · exact key 8 rfl
  · exact key 9 rfl
  · exact key 10 rfl
  · exact key 11 rfl
  · exact key 12 rfl
  · exact key 13 rfl
  · exact key 14 rfl
  · exact key 15 rfl
  · exact key 5 rfl
  · exact key 6 rfl
  · exact key 16 rfl
  · exact key 17 rfl
def cl (b : Base) : Nat → Nat
  | 0 => 0
  | k + 1 => cl b k + (lstOf b k).length
def beats (d : Int) (i : Nat) (f : Fact) (k : Nat) (g : Fact) : Bool := (decide (g.Day ≤ d) && prevB g f) || (decide ((k : Int) < (i : Int)) && Fact.eqb g f)
def bst (L : List Fact) (d : Int) (i : Nat) (f : Fact) : Nat → Bool
  | 0 => true
  | k + 1 => bst L d i f k && !(match L[k]? with | none => false | some g => beats d i f k g)
theorem bst_yes {L : List Fact} {d : Int} {i k : Nat} {f g : Fact} (h : L[k]? = some g) (hb : beats d i f k g = true) : bst L d i f (k + 1) = false := by
  unfold bst; rw [h]; dsimp only; rw [hb]; simp
theorem bst_no {L : List Fact} {d : Int} {i k : Nat} {f g : Fact} (h : L[k]? = some g) (hb : beats d i f k g = false) : bst L d i f (k + 1) = bst L d i f k := by
  rw [bst, h]; dsimp only; rw [hb]; simp
theorem bst_iff {L : List Fact} {d : Int} {i : Nat} {f : Fact} : ∀ {n : Nat}, bst L d i f n = true ↔ ∀ k, k < n → ∀ g, L[k]? = some g → beats d i f k g = false
  | 0 => ⟨fun _ k hk => by omega, fun _ => rfl⟩
  | n + 1 => by
    rw [bst, Bool.and_eq_true, bst_iff]
    constructor
    · rintro ⟨h1, h2⟩ k hk g hg
      by_cases e : k = n
      · subst e; rw [hg] at h2; simpa using h2
      · exact h1 k (by omega) g hg
    · intro h
      refine ⟨fun k hk g hg => h k (by omega) g hg, ?_⟩
      cases e : L[n]? with
      | none => rfl
      | some g => dsimp only; rw [h n (by omega) g e]; rfl
def kSkip (d : Int) (f : Fact) : Bool := (decide (keyB f = []) || decide (d < f.Day)) || f.Gone
def kOk (L : List Fact) (d : Int) (i : Nat) : Bool := match L[i]? with
  | none => false
  | some f => !kSkip d f && bst L d i f L.length
def kc (L : List Fact) (d : Int) : Nat → Nat
  | 0 => 0
  | i + 1 => kc L d i + if kOk L d i then 1 else 0
theorem kc_le (L : List Fact) (d : Int) : ∀ n, kc L d n ≤ n
  | 0 => Nat.le_refl _
  | n + 1 => by have := kc_le L d n; unfold kc; split <;> omega
theorem kc_skip {L : List Fact} {d : Int} {i : Nat} {f : Fact} (h : L[i]? = some f) (hs : kSkip d f = true) : kc L d (i + 1) = kc L d i := by
  have : kOk L d i = false := by unfold kOk; rw [h]; dsimp only; rw [hs]; rfl
  rw [kc, this]; rfl
theorem kc_count {L : List Fact} {d : Int} {i : Nat} {f : Fact} (h : L[i]? = some f) (hs : kSkip d f = false) : kc L d (i + 1) = kc L d i + if bst L d i f L.length then 1 else 0 := by
  have : kOk L d i = bst L d i f L.length := by unfold kOk; rw [h]; dsimp only; rw [hs]; rfl
  rw [kc, this]
def inE (L : List Fact) (d : Int) : List Fact := (factsM (bestL L d)).filter fun f => !f.Gone
theorem inE_mem {L : List Fact} {d : Int} {f : Fact} : f ∈ inE L d ↔ eff L d f ∧ f.Gone = false := by unfold inE; rw [List.mem_filter, best_eff]; simp
theorem fsplit {p q r : Fact → Bool} : ∀ {l : List Fact}, (∀ x ∈ l, (r x = (p x || q x)) ∧ (p x && q x) = false) → (l.filter r).length = (l.filter p).length + (l.filter q).length
  | [], _ => rfl
  | x :: l, h => by
    have ih := fsplit (p := p) (q := q) (r := r) (l := l) (fun y hy => h y (List.mem_cons_of_mem _ hy))
    obtain ⟨h1, h2⟩ := h x List.mem_cons_self
    rw [List.filter_cons, List.filter_cons, List.filter_cons, h1]
    cases hp : p x <;> cases hq : q x <;> rw [hp, hq] at h2 <;> simp at h2 ⊢ <;> omega
theorem cl_eq (L : List Fact) (d : Int) : ∀ n, n ≤ 11 → cl (ofB L d) n = ((inE L d).filter fun f => decide (f.Kind ≤ (n : Int))).length
  | 0, _ => by
    show 0 = _
    rw [eq_comm, List.length_eq_zero_iff, List.filter_eq_nil_iff]
    intro x hx
    have := valid_kind (effv (inE_mem.1 hx).1)
    simp only [decide_eq_true_eq]; omega
  | n + 1, hn => by
    rw [cl, cl_eq L d n (by omega)]
    have e : (lstOf (ofB L d) n).length = ((inE L d).filter fun f => decide (f.Kind = ((n + 1 : Nat) : Int))).length := by
      rw [lst_ofB L d (by omega)]
      unfold lstAt
      rw [if_pos (List.mem_singleton.2 rfl), (sortK_sts _).same.length]
      unfold inE
      rw [List.filter_filter]
      congr 1
      apply List.filter_congr
      intro x _
      rw [Bool.and_comm]
    rw [e]
    refine (fsplit fun x _ => ⟨?_, ?_⟩).symm
    · rw [Bool.eq_iff_iff]; simp only [Bool.or_eq_true, decide_eq_true_eq]; omega
    · rw [Bool.eq_false_iff]; simp only [ne_eq, Bool.and_eq_true, decide_eq_true_eq]; omega
theorem cl_le (L : List Fact) (d : Int) {n : Nat} (h : n ≤ 11) : cl (ofB L d) n ≤ L.length := by
  rw [cl_eq L d n h]
  exact Nat.le_trans (List.length_filter_le _ _) (Nat.le_trans (List.length_filter_le _ _) (factsM_len L d))
theorem kf_len (k : Int) : (kfL k).length ≤ 2 := by
  unfold kfL
  split
  · exact Nat.le_refl _
  · split
    · exact Nat.le_of_ble_eq_true rfl
    · split
      · exact Nat.le_refl _
      · split
        · exact Nat.le_refl _
        · exact Nat.le_of_ble_eq_true rfl
theorem one_of {f : Fact} : ∀ {E : List Fact}, E.Nodup → (E.filter fun x => Fact.eqb x f).length = if E.any (fun x => Fact.eqb x f) then 1 else 0
  | [], _ => rfl
  | x :: E, h => by
    rw [List.nodup_cons] at h
    have ih := one_of (f := f) h.2
    rw [List.filter_cons, List.any_cons]
    by_cases e : Fact.eqb x f = true
    · rw [if_pos e, e, List.length_cons, ih]
      have : E.any (fun x => Fact.eqb x f) = false := by
        rw [List.any_eq_false]
        intro y hy hq
        exact h.1 (by rw [eqb_eq e, ← eqb_eq hq]; exact hy)
      rw [this]; rfl
    · rw [if_neg e, ih, Bool.eq_false_iff.2 e]; rfl
theorem kc_eq (L : List Fact) (d : Int) : ∀ n, n ≤ L.length → kc L d n = ((inE L d).filter fun f => (L.take n).any fun g => Fact.eqb g f).length
  | 0, _ => by
    show 0 = _
    rw [eq_comm, List.length_eq_zero_iff, List.filter_eq_nil_iff]
    intro x _
    simp
  | n + 1, hn => by
    obtain ⟨f, hf⟩ := getElem?_of_lt (xs := L) (i := n) (by omega)
    have nd : (inE L d).Nodup := (factsM_nodup L d).filter _
    rw [kc, kc_eq L d n (by omega)]
    have ht : ∀ x, ((L.take (n + 1)).any fun g => Fact.eqb g x) = (((L.take n).any fun g => Fact.eqb g x) || Fact.eqb f x) := fun x => by
      rw [take_succ_of hf, List.any_append]; simp
    have comm : ∀ x, Fact.eqb f x = Fact.eqb x f := fun x => by rw [Bool.eq_iff_iff, eqb_iff, eqb_iff]; exact eq_comm
    have key : (if kOk L d n then 1 else 0) = ((inE L d).filter fun x => !((L.take n).any fun g => Fact.eqb g x) && Fact.eqb x f).length := by
      by_cases hin : (L.take n).any (fun g => Fact.eqb g f) = true
      · have h0 : kOk L d n = false := by
          obtain ⟨g, hg, e⟩ := List.any_eq_true.1 hin
          obtain ⟨k, hk⟩ := List.mem_iff_getElem?.1 hg
          have hkn : k < n := by
            have := (List.getElem?_eq_some_iff.1 hk).1
            rw [List.length_take] at this; omega
          rw [List.getElem?_take_of_lt hkn] at hk
          unfold kOk; rw [hf]; dsimp only
          rw [Bool.and_eq_false_iff]
          right
          rw [Bool.eq_false_iff]
          intro hb
          have := bst_iff.1 hb k (by omega) g hk
          unfold beats at this
          rw [e, decide_eq_true (by omega : (k : Int) < (n : Int))] at this
          simp at this
        rw [h0, eq_comm]
        rw [if_neg Bool.false_ne_true, List.length_eq_zero_iff, List.filter_eq_nil_iff]
        intro x _ hx
        rw [Bool.and_eq_true] at hx
        rw [eqb_eq hx.2, hin] at hx
        simp at hx
      · have hin := Bool.eq_false_iff.2 hin
        have e1 : ((inE L d).filter fun x => !((L.take n).any fun g => Fact.eqb g x) && Fact.eqb x f) = (inE L d).filter fun x => Fact.eqb x f := by
          apply List.filter_congr
          intro x _
          by_cases e : Fact.eqb x f = true
          · rw [eqb_eq e, hin, eqb_refl]; rfl
          · rw [Bool.eq_false_iff.2 e, Bool.and_false]
        rw [e1, one_of nd]
        have e2 : kOk L d n = (inE L d).any (fun x => Fact.eqb x f) := by
          rw [Bool.eq_iff_iff, List.any_eq_true]
          constructor
          · intro hk
            unfold kOk at hk
            rw [hf] at hk
            dsimp only at hk
            rw [Bool.and_eq_true] at hk
            have h1 : kSkip d f = false := by simpa using hk.1
            unfold kSkip at h1
            rw [Bool.or_eq_false_iff, Bool.or_eq_false_iff] at h1
            have a1 := of_decide_eq_false h1.1.1
            have a2 := of_decide_eq_false h1.1.2
            refine ⟨f, inE_mem.2 ⟨⟨List.mem_of_getElem? hf, a1, by omega, fun g hg hd => ?_⟩, h1.2⟩, eqb_refl f⟩
            obtain ⟨k, hk'⟩ := List.mem_iff_getElem?.1 hg
            have := bst_iff.1 hk.2 k (List.getElem?_eq_some_iff.1 hk').1 g hk'
            unfold beats at this
            rw [Bool.or_eq_false_iff, decide_eq_true hd] at this
            simpa using this.1
          · rintro ⟨x, hx, e⟩
            rw [eqb_eq e] at hx
            obtain ⟨⟨_, b2, b3, b4⟩, b5⟩ := inE_mem.1 hx
            unfold kOk
            rw [hf]
            dsimp only
            rw [Bool.and_eq_true]
            refine ⟨by unfold kSkip; rw [decide_eq_false b2, decide_eq_false (by omega : ¬ d < f.Day), b5]; rfl, bst_iff.2 fun k hk g hg => ?_⟩
            unfold beats
            rw [Bool.or_eq_false_iff]
            constructor
            · by_cases hd : g.Day ≤ d
              · rw [b4 g (List.mem_of_getElem? hg) hd, Bool.and_false]
              · rw [decide_eq_false hd, Bool.false_and]
            · by_cases hkn : (k : Int) < (n : Int)
              · rw [Bool.and_eq_false_iff]; right
                rw [Bool.eq_false_iff]
                intro e'
                have : (L.take n).any (fun g => Fact.eqb g f) = true := List.any_eq_true.2 ⟨g, List.mem_of_getElem? (i := k) (by rw [List.getElem?_take_of_lt (by omega)]; exact hg), e'⟩
                rw [hin] at this; cases this
              · rw [decide_eq_false hkn, Bool.false_and]
        rw [e2]
    rw [key]
    refine (fsplit fun x _ => ⟨?_, ?_⟩).symm
    · rw [ht, comm]
      cases (L.take n).any (fun g => Fact.eqb g x) <;> simp
    · cases (L.take n).any (fun g => Fact.eqb g x) <;> simp
theorem count_eq (L : List Fact) (d : Int) : cl (ofB L d) 11 = kc L d L.length := by
  rw [cl_eq L d 11 (Nat.le_refl _), kc_eq L d _ (Nat.le_refl _), List.take_length]
  congr 1
  apply List.filter_congr
  intro x hx
  have h1 := (inE_mem.1 hx).1
  have h2 := valid_kind (effv h1)
  rw [decide_eq_true (by omega : x.Kind ≤ ((11 : Nat) : Int)), eq_comm, List.any_eq_true]
  exact ⟨x, h1.1, eqb_refl x⟩

end Go.Wx
namespace Go.Proofs.Ytdelcaegofkknaa
open Go.Wx Go.RowKit
set_option maxHeartbeats 4000000 in
theorem BaseEffect_any (ad : Option Addr) (cp : Nat) (l : List Fact) (day : Int) (w : World) (hE1 : Els w ad 19 Fact.cells l) (hday : inI day) : Ret Try.prog 6 #[.slice ad l.length cp, vi day] w fun r w' => r = .bool true ∧ Up w w' := by
  have hW := Up.refl w
  obtain ⟨w0, rfl⟩ : ∃ w0, w0 = w := ⟨_, rfl⟩
  refine Calls_start (n := 224) (m := 9) Try.func6 rfl rfl rfl ?_
  refine CW.seq ?_
  -- region 0
  refine CW.region ?_
  refine LW.p (PEv.assign (.const _)) rfl rfl rfl ?_
  refine LW.nil ?_
  refine KW.then ?_
  refine CW.seq ?_
  -- region 1
  refine CW.region ?_
  refine LW.c (enter_call0 .nil (Try.en9)) rfl rfl rfl rfl (sane_any _) ?_
  rintro _ w1 ⟨rfl, uw1⟩
  have zw1 := uw1.size
  replace hW := hW.up uw1
  refine LW.p (PEv.assign (.tmp rfl)) rfl rfl rfl ?_
  refine LW.nil ?_
  refine KW.then ?_
  refine CW.seq ?_
  -- region 2
  refine CW.region ?_
  refine LW.p (PEv.move (.tmp rfl)) rfl rfl rfl ?_
  refine LW.c (enter_call0 (.cons (.tmp rfl) (.cons (.const _) .nil)) (Try.en10)) rfl rfl rfl rfl (few_any _ _ 40 l _ (Els.up hE1 hW) (by decide)) ?_
  rintro v25 w2 ⟨hO25, uw2⟩
  have zw2 := uw2.size
  replace hW := hW.up uw2
  obtain ⟨ad25, cp25, rfl, hEf0⟩ := hO25.sl (fun _ => rfl)
  have hEf : Els w2 ad25 19 Fact.cells (fewL 40 l) := hEf0
  clear hEf0 hO25
  refine LW.p (PEv.assign (.tmp rfl)) rfl rfl rfl ?_
  refine LW.nil ?_
  refine KW.then ?_
  refine CW.seq ?_
  -- region 3
  refine CW.region ?_
  refine LW.p (PEv.move (.tmp rfl)) rfl rfl rfl ?_
  refine LW.c (enter_call0 (.cons (.tmp rfl) (.cons (.const _) .nil)) (Try.en11)) rfl rfl rfl rfl (pick_any _ _ _ (by decide)) ?_
  rintro _ w3 ⟨rfl, uw3⟩
  have zw3 := uw3.size
  replace hW := hW.up uw3
  replace hEf := hEf.up uw3
  have hd := pick_range (c := day) (n := 10) hday (by decide)
  obtain ⟨d, ed⟩ : ∃ d, d = pickI day 10 := ⟨_, rfl⟩
  rw [← ed] at hd ⊢
  refine LW.p (PEv.assign (.tmp rfl)) rfl rfl rfl ?_
  refine LW.nil ?_
  refine KW.then ?_
  refine CW.seq ?_
  -- region 4
  refine CW.region ?_
  refine LW.p (PEv.move (.tmp rfl)) rfl rfl rfl ?_
  refine LW.p (PEv.move (.tmp rfl)) rfl rfl rfl ?_
  refine LW.c (enter_call0 (.cons (.tmp rfl) (.cons (.tmp rfl) .nil)) (Try.en13)) rfl rfl rfl rfl (Of_any _ _ (fewL 40 l) d _ hEf (by have := fewL_length 40 l; omega)) ?_
  rintro _ w4 ⟨bc, rfl, hC, uw4⟩
  have zw4 := uw4.size
  replace hW := hW.up uw4
  replace hEf := hEf.up uw4
  obtain ⟨b, eb⟩ : ∃ b, b = ofB (fewL 40 l) d := ⟨_, rfl⟩
  rw [← eb] at hC
  have hsh : short b := by rw [eb]; exact ofB_short (by have := fewL_length 40 l; omega) _
  refine LW.c (enter_call0 (.cons (.tmp rfl) .nil) (Try.en17)) rfl rfl rfl rfl (Lists_any bc b _ hC) ?_
  rintro _ w5 ⟨ads, cps, ss, rfl, hEs, hL, uw5⟩
  have zw5 := uw5.size
  replace hW := hW.up uw5
  replace hEf := hEf.up uw5
  have hf40 := fewL_length 40 l
  refine LW.p (PEv.assign (.tmp rfl)) rfl rfl rfl ?_
  refine LW.nil ?_
  refine KW.then ?_
  refine CW.seq ?_
  -- region 5
  refine CW.region ?_
  refine LW.p (PEv.assign (.const _)) rfl rfl rfl ?_
  refine LW.nil ?_
  refine KW.then ?_
  refine CW.seq ?_
  refine CW.seq ?_
  -- region 6
  refine CW.region ?_
  refine LW.p (PEv.assign (.const _)) rfl rfl rfl ?_
  refine LW.nil ?_
  refine KW.then ?_
  refine CW.block ?_
  refine CW.loopB (σ := Nat) (fun s w => (s ≤ 11) ∧ (Up w0 w) ∧ (Els w ad25 19 Fact.cells (fewL 40 l)) ∧ (Els w ads 1 eSl ss) ∧ (LstsE w ss b)) (fun s => [(9, .eq (vi (s : Int))), (8, .eq (vi ((cl b s : Nat) : Int)))]) ([(0, .eq _), (5, .eq _), (6, .eq _), (7, .eq _)]) (fun s => 11 - s) 0 ?_ ⟨rfl, rfl, rfl, rfl, rfl, rfl, trivial⟩ ?_
  · exact ⟨Nat.zero_le _, hW, hEf, hEs, hL⟩
  · rintro k w6 ⟨hk, hW, hEf, hEs, hL⟩
    refine CW.seq ?_
    refine CW.seq ?_
    have hss := hL.1
    -- region 7
    refine CW.region ?_
    refine LW.p (PEv.move (.tmp rfl)) rfl rfl rfl ?_
    refine LW.p (PEv.move (.tmp rfl)) rfl rfl rfl ?_
    refine LW.p (PEv.lenS Try.underlying39 (.tmp rfl)) rfl rfl rfl ?_
    refine LW.p (PEv.lss (.tmp rfl) (.tmp rfl)) rfl rfl rfl ?_
    refine LW.nil ?_
    refine KW.then ?_
    refine CW.cond (.tmp rfl) (fun h35 => ?_) (fun h35 => ?_)
    · first | replace h35 := of_decide_eq_true h35 | replace h35 := of_decide_eq_false h35 | skip
      refine CW.skip ?_
      refine KW.then ?_
      refine CW.seq ?_
      refine CW.block ?_
      refine CW.seq ?_
      have hk11 : k < 11 := by omega
      -- region 9
      refine CW.region ?_
      refine LW.p (PEv.assign (.const _)) rfl rfl rfl ?_
      refine LW.nil ?_
      refine KW.then ?_
      refine CW.block ?_
      refine CW.loopB (σ := Nat) (fun s w => (s ≤ (lstOf b k).length) ∧ (Up w0 w) ∧ (Els w ad25 19 Fact.cells (fewL 40 l)) ∧ (Els w ads 1 eSl ss) ∧ (LstsE w ss b)) (fun s => [(10, .eq (vi (s : Int))), (8, .eq (vi ((cl b k + s : Nat) : Int)))]) ([(0, .eq _), (5, .eq _), (6, .eq _), (7, .eq _), (9, .eq _)]) (fun s => (lstOf b k).length - s) 0 ?_ ⟨rfl, rfl, rfl, rfl, rfl, rfl, rfl, trivial⟩ ?_
      · exact ⟨Nat.zero_le _, hW, hEf, hEs, hL⟩
      · rintro i w7 ⟨hi, hW, hEf, hEs, hL⟩
        refine CW.seq ?_
        refine CW.seq ?_
        obtain ⟨⟨a1, n1, c1⟩, hs1, hn1, hx1⟩ := hL.2 k hk11
        dsimp only at hn1 hx1
        subst hn1
        obtain ⟨Bs, os_, as_, hcs⟩ := hEs k _ hs1
        have hss := hL.1
        -- region 10
        refine CW.region ?_
        refine LW.p (PEv.move (.tmp rfl)) rfl rfl rfl ?_
        refine LW.p (PEv.move (.tmp rfl)) rfl rfl rfl ?_
        refine LW.p (PEv.move (.tmp rfl)) rfl rfl rfl ?_
        refine LW.p (PEv.indexAddr' Try.underlying39 Try.sizeOf22 (.tmp rfl) (.tmp rfl) (by omega) as_) rfl rfl rfl ?_
        refine LW.p (PEv.val (v' := .slice a1 (lstOf b k).length c1) (PEv.load Try.isAgg22 (.tmp rfl) (hcs.nth (j := 0) rfl)) rfl) rfl rfl rfl ?_
        refine LW.p (PEv.lenS Try.underlying22 (.tmp rfl)) rfl rfl rfl ?_
        refine LW.p (PEv.lss (.tmp rfl) (.tmp rfl)) rfl rfl rfl ?_
        refine LW.nil ?_
        refine KW.then ?_
        refine CW.cond (.tmp rfl) (fun h44 => ?_) (fun h44 => ?_)
        · first | replace h44 := of_decide_eq_true h44 | replace h44 := of_decide_eq_false h44 | skip
          refine CW.skip ?_
          refine KW.then ?_
          refine CW.seq ?_
          refine CW.block ?_
          refine CW.seq ?_
          obtain ⟨f, hf⟩ := getElem?_of_lt (xs := lstOf b k) (i := i) (by omega)
          have hm := (lst_mem2 (l := (fewL 40 l)) (d := d) hk11).1 (by rw [← eb]; exact List.mem_of_getElem? hf)
          obtain ⟨Bx, ox, ax, hcx⟩ := hx1 i f hf
          -- region 12
          refine CW.region ?_
          refine LW.p (PEv.move (.tmp rfl)) rfl rfl rfl ?_
          refine LW.p (PEv.move (.tmp rfl)) rfl rfl rfl ?_
          refine LW.p (PEv.indexAddr' Try.underlying39 Try.sizeOf22 (.tmp rfl) (.tmp rfl) (by omega) as_) rfl rfl rfl ?_
          refine LW.p (PEv.val (v' := .slice a1 (lstOf b k).length c1) (PEv.load Try.isAgg22 (.tmp rfl) (hcs.nth (j := 0) rfl)) rfl) rfl rfl rfl ?_
          refine LW.p (PEv.move (.tmp rfl)) rfl rfl rfl ?_
          refine LW.p (PEv.indexAddr' Try.underlying22 Try.sizeOf28 (.tmp rfl) (.tmp rfl) (by omega) ax) rfl rfl rfl ?_
          refine LW.p (PEv.loadA Try.isAgg28 Try.sizeOf28 rfl (.tmp rfl) (hcx)) rfl rfl rfl ?_
          refine LW.r (REv.allocA Try.zeroValue28) rfl rfl rfl rfl ?_
          rintro _ w8 ⟨B11, rfl, MB11⟩
          refine LW.s (SEv.storeA Try.sizeOf28 rfl (.tmp rfl) (.tmp rfl) (by first | rfl | exact Fact.one _ | exact GAct.one _ | exact holdCells_one _ _ | exact hold0_one | (simp [Value.oneCell'])) MB11.blk rfl) rfl rfl rfl ?_
          intro w9 LB11
          have NB11 := MB11.set LB11
          clear LB11 MB11
          have eB11 := NB11.at_
          have zB11 := NB11.size
          replace hW := hW.up NB11.up
          replace hEf := hEf.up NB11.up
          replace hEs := hEs.up NB11.up
          replace hL := hL.up NB11.up
          have hB11 := NB11.blk
          refine LW.nil ?_
          refine KW.then ?_
          refine CW.seq ?_
          refine CW.seq ?_
          -- region 13
          refine CW.region ?_
          refine LW.p (PEv.loadA Try.isAgg28 Try.sizeOf28 rfl (.tmp rfl) (hB11.agg)) rfl rfl rfl ?_
          refine LW.c (enter_call0 (.cons (.tmp rfl) .nil) (Try.en18)) rfl rfl rfl rfl (Valid_any f _) ?_
          rintro _ w10 ⟨rfl, uw10⟩
          have zw10 := uw10.size
          replace hW := hW.up uw10
          replace hEf := hEf.up uw10
          replace hEs := hEs.up uw10
          replace hL := hL.up uw10
          replace hB11 := hB11.up uw10
          rw [effv hm.1]
          refine LW.p (PEv.not (.tmp rfl)) rfl rfl rfl ?_
          refine LW.p (PEv.move (.tmp rfl)) rfl rfl rfl ?_
          refine LW.yes rfl rfl rfl rfl rfl rfl ?_
          refine LW.p (PEv.fieldAddr (off := 0) Try.underlying28 rfl rfl Try.sizeOf3 rfl (.tmp rfl)) rfl rfl rfl ?_
          refine LW.yes rfl rfl rfl rfl rfl rfl ?_
          refine LW.p (PEv.load Try.isAgg3 (.tmp rfl) (hB11.celln rfl)) rfl rfl rfl ?_
          refine LW.yes rfl rfl rfl rfl rfl rfl ?_
          refine LW.p (PEv.move (.tmp rfl)) rfl rfl rfl ?_
          refine LW.yes rfl rfl rfl rfl rfl rfl ?_
          refine LW.p (PEv.inc (.tmp rfl) (by omega)) rfl rfl rfl ?_
          refine LW.yes rfl rfl rfl rfl rfl rfl ?_
          refine LW.p (PEv.fa (PEv.neq (.tmp rfl) (.tmp rfl)) (by simp [hm.2.2])) rfl rfl rfl ?_
          refine LW.p (PEv.pick_or (.tmp rfl) (fun hp => (by first | exact .const _ | exact .tmp rfl | exact .cond rfl (by first | assumption | (rw [hp]; rfl) | simp_all)))) rfl rfl rfl ?_
          refine LW.p (PEv.move (.tmp rfl)) rfl rfl rfl ?_
          refine LW.yes rfl rfl rfl rfl rfl rfl ?_
          refine LW.p (PEv.fieldAddr (off := 3) Try.underlying28 rfl rfl Try.sizeOf3 rfl (.tmp rfl)) rfl rfl rfl ?_
          refine LW.yes rfl rfl rfl rfl rfl rfl ?_
          refine LW.p (PEv.load Try.isAgg3 (.tmp rfl) (hB11.celln rfl)) rfl rfl rfl ?_
          refine LW.yes rfl rfl rfl rfl rfl rfl ?_
          refine LW.p (PEv.move (.tmp rfl)) rfl rfl rfl ?_
          refine LW.yes rfl rfl rfl rfl rfl rfl ?_
          refine LW.p (PEv.fa (PEv.gtr (.tmp rfl) (.tmp rfl)) (decide_eq_false (by have := hm.1.2.2.1; omega))) rfl rfl rfl ?_
          refine LW.p (PEv.pick_or (.tmp rfl) (fun hp => (by first | exact .const _ | exact .tmp rfl | exact .cond rfl (by first | assumption | (rw [hp]; rfl) | simp_all)))) rfl rfl rfl ?_
          refine LW.p (PEv.move (.tmp rfl)) rfl rfl rfl ?_
          refine LW.yes rfl rfl rfl rfl rfl rfl ?_
          refine LW.p (PEv.fieldAddr (off := 4) Try.underlying28 rfl rfl Try.sizeOf4 rfl (.tmp rfl)) rfl rfl rfl ?_
          refine LW.yes rfl rfl rfl rfl rfl rfl ?_
          refine LW.p (PEv.fa (PEv.load Try.isAgg4 (.tmp rfl) (hB11.celln rfl)) (hm.2.1)) rfl rfl rfl ?_
          refine LW.p (PEv.pick_or (.tmp rfl) (fun hp => (by first | exact .const _ | exact .tmp rfl | exact .cond rfl (by first | assumption | (rw [hp]; rfl) | simp_all)))) rfl rfl rfl ?_
          refine LW.nil ?_
          refine KW.then ?_
          refine CW.cond_false (.tmp rfl) ?_
          refine CW.skip ?_
          refine KW.then ?_
          refine CW.seq ?_
          -- region 15
          refine CW.region ?_
          refine LW.p (PEv.assign (.const _)) rfl rfl rfl ?_
          refine LW.nil ?_
          refine KW.then ?_
          refine CW.seq ?_
          refine CW.seq ?_
          -- region 16
          refine CW.region ?_
          refine LW.p (PEv.assign (.const _)) rfl rfl rfl ?_
          refine LW.nil ?_
          refine KW.then ?_
          refine CW.block ?_
          refine CW.loopB (σ := Nat × Bool) (fun s w => (s.1 ≤ (fewL 40 l).length) ∧ (s.2 = ((fewL 40 l).take s.1).any fun y => Fact.eqb y f) ∧ (Up w0 w) ∧ (Els w ad25 19 Fact.cells (fewL 40 l)) ∧ (Els w ads 1 eSl ss) ∧ (LstsE w ss b) ∧ (Blk w B11 f.cells 28)) (fun s => [(13, .eq (vi (s.1 : Int))), (12, .eq (.bool s.2))]) ([(0, .eq _), (5, .eq _), (6, .eq _), (7, .eq _), (8, .eq _), (9, .eq _), (10, .eq _), (11, .eq _)]) (fun s => (fewL 40 l).length - s.1) (0, false) ?_ ⟨rfl, rfl, rfl, rfl, rfl, rfl, rfl, rfl, rfl, rfl, trivial⟩ ?_
          · exact ⟨Nat.zero_le _, by rw [List.take_zero]; rfl, hW, hEf, hEs, hL, hB11⟩
          · rintro ⟨j, g⟩ w11 ⟨hj, hg, hW, hEf, hEs, hL, hB11⟩
            dsimp only at hj hg
            change CW _ _ _ _ _ _ _ ([(13, .eq (vi (j : Int))), (12, .eq (.bool g))] ++ _) _
            refine CW.seq ?_
            refine CW.seq ?_
            -- region 17
            refine CW.region ?_
            refine LW.p (PEv.move (.tmp rfl)) rfl rfl rfl ?_
            refine LW.p (PEv.move (.tmp rfl)) rfl rfl rfl ?_
            refine LW.p (PEv.lenS Try.underlying22 (.tmp rfl)) rfl rfl rfl ?_
            refine LW.p (PEv.lss (.tmp rfl) (.tmp rfl)) rfl rfl rfl ?_
            refine LW.nil ?_
            refine KW.then ?_
            refine CW.cond (.tmp rfl) (fun h77 => ?_) (fun h77 => ?_)
            · first | replace h77 := of_decide_eq_true h77 | replace h77 := of_decide_eq_false h77 | skip
              refine CW.skip ?_
              refine KW.then ?_
              refine CW.seq ?_
              refine CW.block ?_
              refine CW.seq ?_
              obtain ⟨y, hy⟩ := getElem?_of_lt (xs := (fewL 40 l)) (i := j) (by omega)
              obtain ⟨By, oy, ay, hcy⟩ := hEf j y hy
              -- region 19 draws its order
              refine CW.draws_then 9 (by kernel_rfl) (by kernel_rfl) (by kernel_rfl) (by kernel_rfl) (by kernel_rfl) rfl rfl ?_
              refine HW.p (PEv.move (.tmp rfl)) rfl rfl ?_
              refine HW.p (PEv.move (.tmp rfl)) rfl rfl ?_
              refine HW.g rfl rfl rfl rfl rfl rfl (fun hc => PEv.move (.tmp rfl)) ?_
              refine HW.g rfl rfl rfl rfl rfl rfl (fun hc => PEv.move (.tmp rfl)) ?_
              refine HW.g rfl rfl rfl rfl rfl rfl (fun hc => PEv.indexAddr' Try.underlying22 Try.sizeOf28 (by first | exact .tmp rfl | exact .cond rfl (by first | assumption | simp_all)) (by first | exact .tmp rfl | exact .cond rfl (by first | assumption | simp_all)) (by omega) ay) ?_
              refine HW.g rfl rfl rfl rfl rfl rfl (fun hc => PEv.loadA Try.isAgg28 Try.sizeOf28 rfl (by first | exact .tmp rfl | exact .cond rfl (by first | assumption | simp_all)) (hcy)) ?_
              refine HW.g rfl rfl rfl rfl rfl rfl (fun hc => PEv.loadA Try.isAgg28 Try.sizeOf28 rfl (.tmp rfl) (hB11.agg)) ?_
              refine HW.g rfl rfl rfl rfl rfl rfl (fun hc => PEv.eqlA Try.eqGuardType28 (Try.eqFact _ _) (by first | exact .tmp rfl | exact .cond rfl (by first | assumption | simp_all)) (by first | exact .tmp rfl | exact .cond rfl (by first | assumption | simp_all))) ?_
              refine HW.p (PEv.pick_or (.tmp rfl) (fun hp => (by first | exact .const _ | exact .tmp rfl | exact .cond rfl (by first | assumption | (rw [hp]; rfl) | simp_all)))) rfl rfl ?_
              refine HW.nil ?_
              intro w12 uw12
              have zw12 := uw12.size
              replace hW := hW.up uw12
              replace hEf := hEf.up uw12
              replace hEs := hEs.up uw12
              replace hL := hL.up uw12
              replace hB11 := hB11.up uw12
              refine LW.p (PEv.assign (.tmp rfl)) rfl rfl rfl ?_
              refine LW.nil ?_
              refine KW.then ?_
              refine CW.seq ?_
              obtain ⟨By, oy, ay, hcy⟩ := hEf j y hy
              -- region 20 draws its order
              refine CW.draws (by kernel_rfl) (by kernel_rfl) rfl rfl ?_
              refine HW.p (PEv.move (.tmp rfl)) rfl rfl ?_
              refine HW.p (PEv.move (.tmp rfl)) rfl rfl ?_
              refine HW.p (PEv.indexAddr' Try.underlying22 Try.sizeOf28 (.tmp rfl) (.tmp rfl) (by omega) ay) rfl rfl ?_
              refine HW.p (PEv.fieldAddr (off := 3) Try.underlying28 rfl rfl Try.sizeOf3 rfl (.tmp rfl)) rfl rfl ?_
              refine HW.p (PEv.load Try.isAgg3 (.tmp rfl) (hcy.nth (j := 3) rfl)) rfl rfl ?_
              refine HW.p (PEv.move (.tmp rfl)) rfl rfl ?_
              refine HW.p (PEv.leq (.tmp rfl) (.tmp rfl)) rfl rfl ?_
              refine HW.p (PEv.move (.tmp rfl)) rfl rfl ?_
              refine HW.g rfl rfl rfl rfl rfl rfl (fun hc => PEv.move (.tmp rfl)) ?_
              refine HW.g rfl rfl rfl rfl rfl rfl (fun hc => PEv.move (.tmp rfl)) ?_
              refine HW.g rfl rfl rfl rfl rfl rfl (fun hc => PEv.indexAddr' Try.underlying22 Try.sizeOf28 (by first | exact .tmp rfl | exact .cond rfl (by first | assumption | simp_all)) (by first | exact .tmp rfl | exact .cond rfl (by first | assumption | simp_all)) (by omega) ay) ?_
              refine HW.g rfl rfl rfl rfl rfl rfl (fun hc => PEv.loadA Try.isAgg28 Try.sizeOf28 rfl (by first | exact .tmp rfl | exact .cond rfl (by first | assumption | simp_all)) (hcy)) ?_
              refine HW.g rfl rfl rfl rfl rfl rfl (fun hc => PEv.loadA Try.isAgg28 Try.sizeOf28 rfl (.tmp rfl) (hB11.agg)) ?_
              refine HW.gc rfl rfl rfl rfl rfl rfl (fun hc a w _ ha => enter_call0 (.cons (by first | exact .tmp rfl | exact .cond rfl (by first | assumption | simp_all)) (.cons (by first | exact .tmp rfl | exact .cond rfl (by first | assumption | simp_all)) .nil)) (Try.en19) a ha) (fun hc w hu => Prevails_any _ _ _) ?_
              refine HW.p (PEv.pick_and (.tmp rfl) (fun hp => (by first | exact .const _ | exact .tmp rfl | exact .cond rfl (by first | assumption | (rw [hp]; rfl) | simp_all)))) rfl rfl ?_
              refine HW.nil ?_
              intro w13 uw13
              have zw13 := uw13.size
              replace hW := hW.up uw13
              replace hEf := hEf.up uw13
              replace hEs := hEs.up uw13
              replace hL := hL.up uw13
              replace hB11 := hB11.up uw13
              refine KW.then ?_
              refine CW.cond (.tmp rfl) (fun h103 => ?_) (fun h103 => ?_)
              · first | replace h103 := of_decide_eq_true h103 | replace h103 := of_decide_eq_false h103 | skip
                simp only [Bool.and_eq_true, decide_eq_true_eq] at h103
                rw [hm.1.2.2.2 y (List.mem_of_getElem? hy) h103.1] at h103
                exact absurd h103.2 (by decide)
              · first | replace h103 := of_decide_eq_true h103 | replace h103 := of_decide_eq_false h103 | skip
                refine CW.skip ?_
                refine KW.inBlock ?_
                refine KW.then ?_
                -- region 18
                refine CW.region ?_
                refine LW.p (PEv.move (.tmp rfl)) rfl rfl rfl ?_
                refine LW.p (PEv.inc (.tmp rfl) (by omega)) rfl rfl rfl ?_
                refine LW.p (PEv.assign (.tmp rfl)) rfl rfl rfl ?_
                refine LW.nil ?_
                refine KW.round ?_
                exact ⟨(j + 1, g || Fact.eqb y f), ⟨by show j + 1 ≤ _; omega, by show (g || Fact.eqb y f) = _; rw [take_succ_of hy, List.any_append, ← hg]; simp, hW, hEf, hEs, hL, hB11⟩, ⟨rfl, rfl, rfl, rfl, rfl, rfl, rfl, rfl, rfl, rfl, trivial⟩, by show (fewL 40 l).length - (j + 1) < (fewL 40 l).length - j; omega⟩
            · first | replace h77 := of_decide_eq_true h77 | replace h77 := of_decide_eq_false h77 | skip
              refine CW.exit ?_
              refine KW.then_exit ?_
              refine KW.then_exit ?_
              refine KW.block_hit ?_
              refine KW.then ?_
              refine CW.seq ?_
              refine CW.seq ?_
              have hgv : g = true := by rw [hg, show j = (fewL 40 l).length by omega, List.take_length]; exact List.any_eq_true.2 ⟨f, hm.1.1, eqb_refl f⟩
              subst hgv
              -- region 22
              refine CW.region ?_
              refine LW.p (PEv.tr (PEv.move (.tmp rfl)) (rfl)) rfl rfl rfl ?_
              refine LW.p (PEv.not (.tmp rfl)) rfl rfl rfl ?_
              refine LW.nil ?_
              refine KW.then ?_
              refine CW.cond_false (.tmp rfl) ?_
              refine CW.skip ?_
              refine KW.then ?_
              refine CW.seq ?_
              have hlk : (lstOf b k).length ≤ 100000 := hsh k
              have hcl : cl b k ≤ 40 := by rw [eb]; exact Nat.le_trans (cl_le _ _ (by omega)) hf40
              -- region 24
              refine CW.region ?_
              refine LW.p (PEv.move (.tmp rfl)) rfl rfl rfl ?_
              refine LW.p (PEv.inc (.tmp rfl) (by omega)) rfl rfl rfl ?_
              refine LW.p (PEv.assign (.tmp rfl)) rfl rfl rfl ?_
              refine LW.nil ?_
              refine KW.then ?_
              refine CW.seq ?_
              refine CW.seq ?_
              -- region 25
              refine CW.region ?_
              refine LW.p (PEv.move (.tmp rfl)) rfl rfl rfl ?_
              refine LW.p (PEv.eql (.tmp rfl) (.const _)) rfl rfl rfl ?_
              refine LW.nil ?_
              refine KW.then ?_
              refine CW.cond (.tmp rfl) (fun h109 => ?_) (fun h109 => ?_)
              · first | replace h109 := of_decide_eq_true h109 | replace h109 := of_decide_eq_false h109 | skip
                refine CW.exit ?_
                refine KW.then_exit ?_
                refine KW.block_hit ?_
                refine KW.then ?_
                -- region 11
                refine CW.region ?_
                refine LW.p (PEv.move (.tmp rfl)) rfl rfl rfl ?_
                refine LW.p (PEv.inc (.tmp rfl) (by omega)) rfl rfl rfl ?_
                refine LW.p (PEv.assign (.tmp rfl)) rfl rfl rfl ?_
                refine LW.nil ?_
                refine KW.round ?_
                exact ⟨i + 1, ⟨by omega, hW, hEf, hEs, hL⟩, ⟨rfl, rfl, rfl, rfl, rfl, rfl, rfl, trivial⟩, by first | omega | (dsimp only; omega)⟩
              · first | replace h109 := of_decide_eq_true h109 | replace h109 := of_decide_eq_false h109 | skip
                have hi0 : 0 < i := by omega
                refine CW.skip ?_
                refine KW.then ?_
                refine CW.seq ?_
                -- region 26
                refine CW.region ?_
                refine LW.p (PEv.fieldAddr (off := 0) Try.underlying28 rfl rfl Try.sizeOf3 rfl (.tmp rfl)) rfl rfl rfl ?_
                refine LW.p (PEv.load Try.isAgg3 (.tmp rfl) (hB11.celln rfl)) rfl rfl rfl ?_
                refine LW.c (enter_call0 (.cons (.tmp rfl) .nil) (Try.en20)) rfl rfl rfl rfl (KeyFields_any f.Kind _) ?_
                rintro _ w14 ⟨adk, cpk, rfl, hEk, uw14⟩
                have zw14 := uw14.size
                replace hW := hW.up uw14
                replace hEf := hEf.up uw14
                replace hEs := hEs.up uw14
                replace hL := hL.up uw14
                replace hB11 := hB11.up uw14
                refine LW.p (PEv.assign (.tmp rfl)) rfl rfl rfl ?_
                refine LW.nil ?_
                refine KW.then ?_
                refine CW.seq ?_
                obtain ⟨a, ha⟩ := getElem?_of_lt (xs := lstOf b k) (i := i - 1) (by omega)
                have hma := (lst_mem2 (l := (fewL 40 l)) (d := d) hk11).1 (by rw [← eb]; exact List.mem_of_getElem? ha)
                have hlt := lst_lt (l := (fewL 40 l)) (d := d) hk11 hi0 (by rw [← eb]; exact ha) (by rw [← eb]; exact hf)
                -- region 27
                refine CW.region ?_
                refine LW.p (PEv.assign (.const _)) rfl rfl rfl ?_
                refine LW.nil ?_
                refine KW.then ?_
                refine CW.seq ?_
                refine CW.seq ?_
                -- region 28
                refine CW.region ?_
                refine LW.p (PEv.assign (.const _)) rfl rfl rfl ?_
                refine LW.nil ?_
                refine KW.then ?_
                refine CW.block ?_
                refine CW.loopB (σ := Nat × Int) (fun s w => (s.1 ≤ (kfL f.Kind).length) ∧ (s.2 = dF a f ((kfL f.Kind).take s.1)) ∧ (Up w0 w) ∧ (Els w ad25 19 Fact.cells (fewL 40 l)) ∧ (Els w ads 1 eSl ss) ∧ (LstsE w ss b) ∧ (Blk w B11 f.cells 28) ∧ (Els w adk 1 eInt (kfL f.Kind))) (fun s => [(16, .eq (vi (s.1 : Int))), (15, .eq (vi s.2))]) ([(0, .eq _), (5, .eq _), (6, .eq _), (7, .eq _), (8, .eq _), (9, .eq _), (10, .eq _), (11, .eq _), (14, .eq _)]) (fun s => (kfL f.Kind).length - s.1) (0, 0) ?_ ⟨rfl, rfl, rfl, rfl, rfl, rfl, rfl, rfl, rfl, rfl, rfl, trivial⟩ ?_
                · exact ⟨Nat.zero_le _, rfl, hW, hEf, hEs, hL, hB11, hEk⟩
                · rintro ⟨q, o⟩ w15 ⟨hq, ho, hW, hEf, hEs, hL, hB11, hEk⟩
                  dsimp only at hq ho
                  change CW _ _ _ _ _ _ _ ([(16, .eq (vi (q : Int))), (15, .eq (vi o))] ++ _) _
                  refine CW.seq ?_
                  refine CW.seq ?_
                  -- region 29
                  refine CW.region ?_
                  refine LW.p (PEv.move (.tmp rfl)) rfl rfl rfl ?_
                  refine LW.p (PEv.move (.tmp rfl)) rfl rfl rfl ?_
                  refine LW.p (PEv.lenS Try.underlying23 (.tmp rfl)) rfl rfl rfl ?_
                  refine LW.p (PEv.lss (.tmp rfl) (.tmp rfl)) rfl rfl rfl ?_
                  refine LW.p (PEv.move (.tmp rfl)) rfl rfl rfl ?_
                  refine LW.g rfl rfl rfl rfl rfl rfl rfl (fun hc => PEv.move (.tmp rfl)) ?_
                  refine LW.g rfl rfl rfl rfl rfl rfl rfl (fun hc => PEv.eql (by first | exact .tmp rfl | exact .cond rfl (by first | assumption | simp_all)) (.const _)) ?_
                  refine LW.p (PEv.pick_and (.tmp rfl) (fun hp => (by first | exact .const _ | exact .tmp rfl | exact .cond rfl (by first | assumption | (rw [hp]; rfl) | simp_all)))) rfl rfl rfl ?_
                  refine LW.nil ?_
                  refine KW.then ?_
                  refine CW.cond (.tmp rfl) (fun h120 => ?_) (fun h120 => ?_)
                  · first | replace h120 := of_decide_eq_true h120 | replace h120 := of_decide_eq_false h120 | skip
                    have hc : q < (kfL f.Kind).length ∧ o = 0 := by simp at h120; omega
                    refine CW.skip ?_
                    refine KW.then ?_
                    refine CW.seq ?_
                    refine CW.block ?_
                    obtain ⟨⟨a1, n1, c1⟩, hs1, hn1, hx1⟩ := hL.2 k hk11
                    dsimp only at hn1 hx1
                    subst hn1
                    obtain ⟨Bs, os_, as_, hcs⟩ := hEs k _ hs1
                    have hss := hL.1
                    have hkf2 := kf_len f.Kind
                    obtain ⟨nz, hnz⟩ := getElem?_of_lt (xs := kfL f.Kind) (i := q) (by omega)
                    have hnb := kf_lt (List.mem_of_getElem? hnz)
                    obtain ⟨n, rfl⟩ : ∃ n : Nat, nz = (n : Int) := ⟨nz.toNat, by omega⟩
                    have hn := hnz
                    have hn14 : n < 14 := by omega
                    have hgf := get_in (effv hm.1) n hn14
                    have hga := get_in (effv hma.1) n hn14
                    obtain ⟨hgf1, hgf2⟩ := hgf
                    obtain ⟨hga1, hga2⟩ := hga
                    obtain ⟨Bn, on_, an, hcn⟩ := hEk q _ hn
                    obtain ⟨Ba, oa, aa, hca⟩ := hx1 (i - 1) a ha
                    -- region 31 draws its order
                    refine CW.draws (by kernel_rfl) (by kernel_rfl) rfl rfl ?_
                    refine HW.p (PEv.loadA Try.isAgg28 Try.sizeOf28 rfl (.tmp rfl) (hB11.agg)) rfl rfl ?_
                    refine HW.p (PEv.move (.tmp rfl)) rfl rfl ?_
                    refine HW.p (PEv.move (.tmp rfl)) rfl rfl ?_
                    refine HW.p (PEv.indexAddr' Try.underlying23 Try.sizeOf3 (.tmp rfl) (.tmp rfl) (by omega) an) rfl rfl ?_
                    refine HW.p (PEv.load Try.isAgg3 (.tmp rfl) (hcn.nth (j := 0) rfl)) rfl rfl ?_
                    refine HW.c (fun a w _ ha => enter_call0 (.cons (.tmp rfl) (.cons (.tmp rfl) .nil)) (Try.en21) a ha) rfl rfl (fun w hu => Get_any f n _ hn14) ?_
                    refine HW.p (PEv.move (.tmp rfl)) rfl rfl ?_
                    refine HW.p (PEv.move (.tmp rfl)) rfl rfl ?_
                    refine HW.p (PEv.indexAddr' Try.underlying39 Try.sizeOf22 (.tmp rfl) (.tmp rfl) (by omega) as_) rfl rfl ?_
                    refine HW.p (PEv.val (v' := .slice a1 (lstOf b k).length c1) (PEv.load Try.isAgg22 (.tmp rfl) (hcs.nth (j := 0) rfl)) rfl) rfl rfl ?_
                    refine HW.p (PEv.move (.tmp rfl)) rfl rfl ?_
                    refine HW.p (PEv.dec (.tmp rfl) (by omega) (by omega)) rfl rfl ?_
                    refine HW.p (PEv.indexAddr' Try.underlying22 Try.sizeOf28 (.tmp rfl) (.tmp rfl) (by omega) aa) rfl rfl ?_
                    refine HW.p (PEv.loadA Try.isAgg28 Try.sizeOf28 rfl (.tmp rfl) (hca)) rfl rfl ?_
                    refine HW.p (PEv.move (.tmp rfl)) rfl rfl ?_
                    refine HW.p (PEv.move (.tmp rfl)) rfl rfl ?_
                    refine HW.p (PEv.indexAddr' Try.underlying23 Try.sizeOf3 (.tmp rfl) (.tmp rfl) (by omega) an) rfl rfl ?_
                    refine HW.p (PEv.load Try.isAgg3 (.tmp rfl) (hcn.nth (j := 0) rfl)) rfl rfl ?_
                    refine HW.c (fun a w _ ha => enter_call0 (.cons (.tmp rfl) (.cons (.tmp rfl) .nil)) (Try.en21) a ha) rfl rfl (fun w hu => Get_any a n _ hn14) ?_
                    refine HW.p (PEv.sub (.tmp rfl) (.tmp rfl) (by omega) (by omega)) rfl rfl ?_
                    refine HW.p (PEv.assign (.tmp rfl)) rfl rfl ?_
                    refine HW.nil ?_
                    intro w16 uw16
                    have zw16 := uw16.size
                    replace hW := hW.up uw16
                    replace hEf := hEf.up uw16
                    replace hEs := hEs.up uw16
                    replace hL := hL.up uw16
                    replace hB11 := hB11.up uw16
                    replace hEk := hEk.up uw16
                    refine KW.inBlock ?_
                    refine KW.then ?_
                    -- region 30
                    refine CW.region ?_
                    refine LW.p (PEv.move (.tmp rfl)) rfl rfl rfl ?_
                    refine LW.p (PEv.inc (.tmp rfl) (by omega)) rfl rfl rfl ?_
                    refine LW.p (PEv.assign (.tmp rfl)) rfl rfl rfl ?_
                    refine LW.nil ?_
                    refine KW.round ?_
                    exact ⟨(q + 1, getN f (n : Int) - getN a (n : Int)), ⟨by show q + 1 ≤ _; omega, (dF_take hn (ho.symm.trans hc.2)).symm, hW, hEf, hEs, hL, hB11, hEk⟩, ⟨rfl, rfl, rfl, rfl, rfl, rfl, rfl, rfl, rfl, rfl, rfl, trivial⟩, by show (kfL f.Kind).length - (q + 1) < (kfL f.Kind).length - q; omega⟩
                  · first | replace h120 := of_decide_eq_true h120 | replace h120 := of_decide_eq_false h120 | skip
                    refine CW.exit ?_
                    refine KW.then_exit ?_
                    refine KW.then_exit ?_
                    refine KW.block_hit ?_
                    refine KW.then ?_
                    refine CW.seq ?_
                    have hpos : 0 < o := by
                      have hp := dF_pos hlt
                      rw [← hm.2.2] at hp
                      by_cases e : o = 0
                      · have hql : q = (kfL f.Kind).length := by simp [e] at h120; omega
                        rw [ho, hql, List.take_length]; exact hp
                      · rw [ho, dF_stop (by rw [← ho]; exact e)]; exact hp
                    -- region 32
                    refine CW.region ?_
                    refine LW.p (PEv.move (.tmp rfl)) rfl rfl rfl ?_
                    refine LW.p (PEv.fa (PEv.leq (.tmp rfl) (.const _)) (decide_eq_false (by omega))) rfl rfl rfl ?_
                    refine LW.nil ?_
                    refine KW.then ?_
                    refine CW.cond_false (.tmp rfl) ?_
                    refine CW.skip ?_
                    refine KW.inBlock ?_
                    refine KW.then ?_
                    -- region 11
                    refine CW.region ?_
                    refine LW.p (PEv.move (.tmp rfl)) rfl rfl rfl ?_
                    refine LW.p (PEv.inc (.tmp rfl) (by omega)) rfl rfl rfl ?_
                    refine LW.p (PEv.assign (.tmp rfl)) rfl rfl rfl ?_
                    refine LW.nil ?_
                    refine KW.round ?_
                    exact ⟨i + 1, ⟨by omega, hW, hEf, hEs, hL⟩, ⟨rfl, rfl, rfl, rfl, rfl, rfl, rfl, trivial⟩, by first | omega | (dsimp only; omega)⟩
        · first | replace h44 := of_decide_eq_true h44 | replace h44 := of_decide_eq_false h44 | skip
          have he : i = (lstOf b k).length := by omega
          rw [he, show cl b k + (lstOf b k).length = cl b (k + 1) from rfl]
          refine CW.exit ?_
          refine KW.then_exit ?_
          refine KW.then_exit ?_
          refine KW.block_hit ?_
          refine KW.inBlock ?_
          refine KW.then ?_
          -- region 8
          refine CW.region ?_
          refine LW.p (PEv.move (.tmp rfl)) rfl rfl rfl ?_
          refine LW.p (PEv.inc (.tmp rfl) (by omega)) rfl rfl rfl ?_
          refine LW.p (PEv.assign (.tmp rfl)) rfl rfl rfl ?_
          refine LW.nil ?_
          refine KW.round ?_
          exact ⟨k + 1, ⟨by omega, hW, hEf, hEs, hL⟩, ⟨rfl, rfl, rfl, rfl, rfl, rfl, trivial⟩, by first | omega | (dsimp only; omega)⟩
    · first | replace h35 := of_decide_eq_true h35 | replace h35 := of_decide_eq_false h35 | skip
      refine CW.exit ?_
      refine KW.then_exit ?_
      refine KW.then_exit ?_
      refine KW.block_hit ?_
      refine KW.then ?_
      refine CW.seq ?_
      -- region 34
      refine CW.region ?_
      refine LW.p (PEv.assign (.const _)) rfl rfl rfl ?_
      refine LW.nil ?_
      refine KW.then ?_
      refine CW.seq ?_
      refine CW.seq ?_
      -- region 35
      refine CW.region ?_
      refine LW.p (PEv.assign (.const _)) rfl rfl rfl ?_
      refine LW.nil ?_
      refine KW.then ?_
      refine CW.block ?_
      refine CW.loopB (σ := Nat) (fun s w => (s ≤ (fewL 40 l).length) ∧ (Up w0 w) ∧ (Els w ad25 19 Fact.cells (fewL 40 l))) (fun s => [(18, .eq (vi (s : Int))), (17, .eq (vi ((kc (fewL 40 l) d s : Nat) : Int)))]) ([(0, .eq _), (5, .eq _), (6, .eq _), (8, .eq _)]) (fun s => (fewL 40 l).length - s) 0 ?_ ⟨rfl, rfl, rfl, rfl, rfl, rfl, trivial⟩ ?_
      · exact ⟨Nat.zero_le _, hW, hEf⟩
      · rintro i w17 ⟨hi, hW, hEf⟩
        refine CW.seq ?_
        refine CW.seq ?_
        -- region 36
        refine CW.region ?_
        refine LW.p (PEv.move (.tmp rfl)) rfl rfl rfl ?_
        refine LW.p (PEv.move (.tmp rfl)) rfl rfl rfl ?_
        refine LW.p (PEv.lenS Try.underlying22 (.tmp rfl)) rfl rfl rfl ?_
        refine LW.p (PEv.lss (.tmp rfl) (.tmp rfl)) rfl rfl rfl ?_
        refine LW.nil ?_
        refine KW.then ?_
        refine CW.cond (.tmp rfl) (fun h148 => ?_) (fun h148 => ?_)
        · first | replace h148 := of_decide_eq_true h148 | replace h148 := of_decide_eq_false h148 | skip
          refine CW.skip ?_
          refine KW.then ?_
          refine CW.seq ?_
          refine CW.block ?_
          refine CW.seq ?_
          obtain ⟨f, hf⟩ := getElem?_of_lt (xs := (fewL 40 l)) (i := i) (by omega)
          obtain ⟨Bx, ox, ax, hcx⟩ := hEf i f hf
          have hkl := kc_le (fewL 40 l) d i
          -- region 38
          refine CW.region ?_
          refine LW.p (PEv.move (.tmp rfl)) rfl rfl rfl ?_
          refine LW.p (PEv.move (.tmp rfl)) rfl rfl rfl ?_
          refine LW.p (PEv.indexAddr' Try.underlying22 Try.sizeOf28 (.tmp rfl) (.tmp rfl) (by omega) ax) rfl rfl rfl ?_
          refine LW.p (PEv.loadA Try.isAgg28 Try.sizeOf28 rfl (.tmp rfl) (hcx)) rfl rfl rfl ?_
          refine LW.c (enter_call0 (.cons (.tmp rfl) .nil) (Try.en14)) rfl rfl rfl rfl (Key_any f _) ?_
          rintro _ w18 ⟨rfl, uw18⟩
          have zw18 := uw18.size
          replace hW := hW.up uw18
          replace hEf := hEf.up uw18
          refine LW.p (PEv.assign (.tmp rfl)) rfl rfl rfl ?_
          refine LW.nil ?_
          refine KW.then ?_
          refine CW.seq ?_
          refine CW.seq ?_
          obtain ⟨Bx, ox, ax, hcx⟩ := hEf i f hf
          cases hq39 : decide (keyB f = []) with
          | true =>
            have ekc : kc (fewL 40 l) d (i + 1) = kc (fewL 40 l) d i := kc_skip hf (by unfold kSkip; rw [hq39]; rfl)
            obtain ⟨Bx, ox, ax, hcx⟩ := hEf i f hf
            -- region 39
            refine CW.region ?_
            refine LW.p (PEv.move (.tmp rfl)) rfl rfl rfl ?_
            refine LW.p (PEv.tr (PEv.eqlStr (.tmp rfl) (.const _)) (key_empty (of_decide_eq_true hq39))) rfl rfl rfl ?_
            refine LW.p (PEv.move (.tmp rfl)) rfl rfl rfl ?_
            refine LW.no rfl rfl rfl rfl rfl rfl rfl rfl ?_
            refine LW.no rfl rfl rfl rfl rfl rfl rfl rfl ?_
            refine LW.no rfl rfl rfl rfl rfl rfl rfl rfl ?_
            refine LW.no rfl rfl rfl rfl rfl rfl rfl rfl ?_
            refine LW.no rfl rfl rfl rfl rfl rfl rfl rfl ?_
            refine LW.no rfl rfl rfl rfl rfl rfl rfl rfl ?_
            refine LW.no rfl rfl rfl rfl rfl rfl rfl rfl ?_
            refine LW.p (PEv.pick_or (b := false) (.tmp rfl) (fun hp => absurd (show true = false from hp) (by decide))) rfl rfl rfl ?_
            refine LW.p (PEv.move (.tmp rfl)) rfl rfl rfl ?_
            refine LW.no rfl rfl rfl rfl rfl rfl rfl rfl ?_
            refine LW.no rfl rfl rfl rfl rfl rfl rfl rfl ?_
            refine LW.no rfl rfl rfl rfl rfl rfl rfl rfl ?_
            refine LW.no rfl rfl rfl rfl rfl rfl rfl rfl ?_
            refine LW.no rfl rfl rfl rfl rfl rfl rfl rfl ?_
            refine LW.p (PEv.pick_or (b := false) (.tmp rfl) (fun hp => absurd (show true = false from hp) (by decide))) rfl rfl rfl ?_
            refine LW.nil ?_
            refine KW.then ?_
            refine CW.cond_true (.tmp rfl) ?_
            refine CW.exit ?_
            refine KW.then_exit ?_
            refine KW.block_hit ?_
            refine KW.then ?_
            -- region 37
            refine CW.region ?_
            refine LW.p (PEv.move (.tmp rfl)) rfl rfl rfl ?_
            refine LW.p (PEv.inc (.tmp rfl) (by omega)) rfl rfl rfl ?_
            refine LW.p (PEv.assign (.tmp rfl)) rfl rfl rfl ?_
            refine LW.nil ?_
            refine KW.round ?_
            exact ⟨i + 1, ⟨by omega, hW, hEf⟩, ⟨rfl, by rw [ekc]; rfl, rfl, rfl, rfl, rfl, trivial⟩, by first | omega | (dsimp only; omega)⟩
          | false =>
            obtain ⟨Bx, ox, ax, hcx⟩ := hEf i f hf
            -- region 39
            refine CW.region ?_
            refine LW.p (PEv.move (.tmp rfl)) rfl rfl rfl ?_
            refine LW.p (PEv.fa (PEv.eqlStr (.tmp rfl) (.const _)) (key_full (of_decide_eq_false hq39))) rfl rfl rfl ?_
            refine LW.p (PEv.move (.tmp rfl)) rfl rfl rfl ?_
            refine LW.yes rfl rfl rfl rfl rfl rfl ?_
            refine LW.p (PEv.move (.tmp rfl)) rfl rfl rfl ?_
            refine LW.yes rfl rfl rfl rfl rfl rfl ?_
            refine LW.p (PEv.move (.tmp rfl)) rfl rfl rfl ?_
            refine LW.yes rfl rfl rfl rfl rfl rfl ?_
            refine LW.p (PEv.indexAddr' Try.underlying22 Try.sizeOf28 (.tmp rfl) (.tmp rfl) (by omega) ax) rfl rfl rfl ?_
            refine LW.yes rfl rfl rfl rfl rfl rfl ?_
            refine LW.p (PEv.fieldAddr (off := 3) Try.underlying28 rfl rfl Try.sizeOf3 rfl (.tmp rfl)) rfl rfl rfl ?_
            refine LW.yes rfl rfl rfl rfl rfl rfl ?_
            refine LW.p (PEv.load Try.isAgg3 (.tmp rfl) (hcx.nth (j := 3) rfl)) rfl rfl rfl ?_
            refine LW.yes rfl rfl rfl rfl rfl rfl ?_
            refine LW.p (PEv.move (.tmp rfl)) rfl rfl rfl ?_
            refine LW.yes rfl rfl rfl rfl rfl rfl ?_
            refine LW.p (PEv.gtr (.tmp rfl) (.tmp rfl)) rfl rfl rfl ?_
            refine LW.p (PEv.pick_or (.tmp rfl) (fun hp => (by first | exact .const _ | exact .tmp rfl | exact .cond rfl (by first | assumption | (rw [hp]; rfl) | simp_all)))) rfl rfl rfl ?_
            refine LW.p (PEv.move (.tmp rfl)) rfl rfl rfl ?_
            refine LW.g rfl rfl rfl rfl rfl rfl rfl (fun hc => PEv.move (.tmp rfl)) ?_
            refine LW.g rfl rfl rfl rfl rfl rfl rfl (fun hc => PEv.move (.tmp rfl)) ?_
            refine LW.g rfl rfl rfl rfl rfl rfl rfl (fun hc => PEv.indexAddr' Try.underlying22 Try.sizeOf28 (by first | exact .tmp rfl | exact .cond rfl (by first | assumption | simp_all)) (by first | exact .tmp rfl | exact .cond rfl (by first | assumption | simp_all)) (by omega) ax) ?_
            refine LW.g rfl rfl rfl rfl rfl rfl rfl (fun hc => PEv.fieldAddr (off := 4) Try.underlying28 rfl rfl Try.sizeOf4 rfl (by first | exact .tmp rfl | exact .cond rfl (by first | assumption | simp_all))) ?_
            refine LW.g rfl rfl rfl rfl rfl rfl rfl (fun hc => PEv.load Try.isAgg4 (by first | exact .tmp rfl | exact .cond rfl (by first | assumption | simp_all)) (hcx.nth (j := 4) rfl)) ?_
            refine LW.p (PEv.pick_or (.tmp rfl) (fun hp => (by first | exact .const _ | exact .tmp rfl | exact .cond rfl (by first | assumption | (rw [hp]; rfl) | simp_all)))) rfl rfl rfl ?_
            refine LW.nil ?_
            refine KW.then ?_
            refine CW.cond (.tmp rfl) (fun h173 => ?_) (fun h173 => ?_)
            · first | replace h173 := of_decide_eq_true h173 | replace h173 := of_decide_eq_false h173 | skip
              have ekc : kc (fewL 40 l) d (i + 1) = kc (fewL 40 l) d i := kc_skip hf (by unfold kSkip; rw [hq39]; simpa using h173)
              refine CW.exit ?_
              refine KW.then_exit ?_
              refine KW.block_hit ?_
              refine KW.then ?_
              -- region 37
              refine CW.region ?_
              refine LW.p (PEv.move (.tmp rfl)) rfl rfl rfl ?_
              refine LW.p (PEv.inc (.tmp rfl) (by omega)) rfl rfl rfl ?_
              refine LW.p (PEv.assign (.tmp rfl)) rfl rfl rfl ?_
              refine LW.nil ?_
              refine KW.round ?_
              exact ⟨i + 1, ⟨by omega, hW, hEf⟩, ⟨rfl, by rw [ekc]; rfl, rfl, rfl, rfl, rfl, trivial⟩, by first | omega | (dsimp only; omega)⟩
            · first | replace h173 := of_decide_eq_true h173 | replace h173 := of_decide_eq_false h173 | skip
              have hsk : kSkip d f = false := by unfold kSkip; rw [hq39]; simpa using h173
              refine CW.skip ?_
              refine KW.then ?_
              refine CW.seq ?_
              -- region 40
              refine CW.region ?_
              refine LW.p (PEv.assign (.const _)) rfl rfl rfl ?_
              refine LW.nil ?_
              refine KW.then ?_
              refine CW.seq ?_
              refine CW.seq ?_
              -- region 41
              refine CW.region ?_
              refine LW.p (PEv.assign (.const _)) rfl rfl rfl ?_
              refine LW.nil ?_
              refine KW.then ?_
              refine CW.block ?_
              refine CW.loopB (σ := Nat × Bool) (fun s w => (s.1 ≤ (fewL 40 l).length) ∧ (s.2 = bst (fewL 40 l) d i f s.1) ∧ (Up w0 w) ∧ (Els w ad25 19 Fact.cells (fewL 40 l))) (fun s => [(21, .eq (vi (s.1 : Int))), (20, .eq (.bool s.2))]) ([(0, .eq _), (5, .eq _), (6, .eq _), (8, .eq _), (17, .eq _), (18, .eq _)]) (fun s => (fewL 40 l).length - s.1) (0, true) ?_ ⟨rfl, rfl, rfl, rfl, rfl, rfl, rfl, rfl, trivial⟩ ?_
              · exact ⟨Nat.zero_le _, rfl, hW, hEf⟩
              · rintro ⟨q, bb⟩ w19 ⟨hq, hbb, hW, hEf⟩
                dsimp only at hq hbb
                change CW _ _ _ _ _ _ _ ([(21, .eq (vi (q : Int))), (20, .eq (.bool bb))] ++ _) _
                refine CW.seq ?_
                refine CW.seq ?_
                -- region 42
                refine CW.region ?_
                refine LW.p (PEv.move (.tmp rfl)) rfl rfl rfl ?_
                refine LW.p (PEv.move (.tmp rfl)) rfl rfl rfl ?_
                refine LW.p (PEv.lenS Try.underlying22 (.tmp rfl)) rfl rfl rfl ?_
                refine LW.p (PEv.lss (.tmp rfl) (.tmp rfl)) rfl rfl rfl ?_
                refine LW.nil ?_
                refine KW.then ?_
                refine CW.cond (.tmp rfl) (fun h177 => ?_) (fun h177 => ?_)
                · first | replace h177 := of_decide_eq_true h177 | replace h177 := of_decide_eq_false h177 | skip
                  refine CW.skip ?_
                  refine KW.then ?_
                  refine CW.seq ?_
                  refine CW.block ?_
                  refine CW.seq ?_
                  obtain ⟨y, hy⟩ := getElem?_of_lt (xs := (fewL 40 l)) (i := q) (by omega)
                  obtain ⟨By, oy, ay, hcy⟩ := hEf q y hy
                  obtain ⟨Bx, ox, ax, hcx⟩ := hEf i f hf
                  -- region 44 draws its order
                  refine CW.draws (by kernel_rfl) (by kernel_rfl) rfl rfl ?_
                  refine HW.p (PEv.move (.tmp rfl)) rfl rfl ?_
                  refine HW.p (PEv.move (.tmp rfl)) rfl rfl ?_
                  refine HW.p (PEv.indexAddr' Try.underlying22 Try.sizeOf28 (.tmp rfl) (.tmp rfl) (by omega) ay) rfl rfl ?_
                  refine HW.p (PEv.fieldAddr (off := 3) Try.underlying28 rfl rfl Try.sizeOf3 rfl (.tmp rfl)) rfl rfl ?_
                  refine HW.p (PEv.load Try.isAgg3 (.tmp rfl) (hcy.nth (j := 3) rfl)) rfl rfl ?_
                  refine HW.p (PEv.move (.tmp rfl)) rfl rfl ?_
                  refine HW.p (PEv.leq (.tmp rfl) (.tmp rfl)) rfl rfl ?_
                  refine HW.p (PEv.move (.tmp rfl)) rfl rfl ?_
                  refine HW.g rfl rfl rfl rfl rfl rfl (fun hc => PEv.move (.tmp rfl)) ?_
                  refine HW.g rfl rfl rfl rfl rfl rfl (fun hc => PEv.move (.tmp rfl)) ?_
                  refine HW.g rfl rfl rfl rfl rfl rfl (fun hc => PEv.indexAddr' Try.underlying22 Try.sizeOf28 (by first | exact .tmp rfl | exact .cond rfl (by first | assumption | simp_all)) (by first | exact .tmp rfl | exact .cond rfl (by first | assumption | simp_all)) (by omega) ay) ?_
                  refine HW.g rfl rfl rfl rfl rfl rfl (fun hc => PEv.loadA Try.isAgg28 Try.sizeOf28 rfl (by first | exact .tmp rfl | exact .cond rfl (by first | assumption | simp_all)) (hcy)) ?_
                  refine HW.g rfl rfl rfl rfl rfl rfl (fun hc => PEv.move (.tmp rfl)) ?_
                  refine HW.g rfl rfl rfl rfl rfl rfl (fun hc => PEv.move (.tmp rfl)) ?_
                  refine HW.g rfl rfl rfl rfl rfl rfl (fun hc => PEv.indexAddr' Try.underlying22 Try.sizeOf28 (by first | exact .tmp rfl | exact .cond rfl (by first | assumption | simp_all)) (by first | exact .tmp rfl | exact .cond rfl (by first | assumption | simp_all)) (by omega) ax) ?_
                  refine HW.g rfl rfl rfl rfl rfl rfl (fun hc => PEv.loadA Try.isAgg28 Try.sizeOf28 rfl (by first | exact .tmp rfl | exact .cond rfl (by first | assumption | simp_all)) (hcx)) ?_
                  refine HW.gc rfl rfl rfl rfl rfl rfl (fun hc a w _ ha => enter_call0 (.cons (by first | exact .tmp rfl | exact .cond rfl (by first | assumption | simp_all)) (.cons (by first | exact .tmp rfl | exact .cond rfl (by first | assumption | simp_all)) .nil)) (Try.en19) a ha) (fun hc w hu => Prevails_any _ _ _) ?_
                  refine HW.p (PEv.pick_and (.tmp rfl) (fun hp => (by first | exact .const _ | exact .tmp rfl | exact .cond rfl (by first | assumption | (rw [hp]; rfl) | simp_all)))) rfl rfl ?_
                  refine HW.p (PEv.assign (.tmp rfl)) rfl rfl ?_
                  refine HW.nil ?_
                  intro w20 uw20
                  have zw20 := uw20.size
                  replace hW := hW.up uw20
                  replace hEf := hEf.up uw20
                  refine KW.then ?_
                  refine CW.seq ?_
                  obtain ⟨By, oy, ay, hcy⟩ := hEf q y hy
                  obtain ⟨Bx, ox, ax, hcx⟩ := hEf i f hf
                  -- region 45 draws its order
                  refine CW.draws (by kernel_rfl) (by kernel_rfl) rfl rfl ?_
                  refine HW.p (PEv.move (.tmp rfl)) rfl rfl ?_
                  refine HW.p (PEv.move (.tmp rfl)) rfl rfl ?_
                  refine HW.g rfl rfl rfl rfl rfl rfl (fun hc => PEv.move (.tmp rfl)) ?_
                  refine HW.g rfl rfl rfl rfl rfl rfl (fun hc => PEv.move (.tmp rfl)) ?_
                  refine HW.g rfl rfl rfl rfl rfl rfl (fun hc => PEv.lss (by first | exact .tmp rfl | exact .cond rfl (by first | assumption | simp_all)) (by first | exact .tmp rfl | exact .cond rfl (by first | assumption | simp_all))) ?_
                  refine HW.g rfl rfl rfl rfl rfl rfl (fun hc => PEv.move (by first | exact .tmp rfl | exact .cond rfl (by first | assumption | simp_all))) ?_
                  refine HW.gg rfl rfl rfl rfl rfl rfl (fun hc => PEv.move (.tmp rfl)) ?_
                  refine HW.gg rfl rfl rfl rfl rfl rfl (fun hc => PEv.move (.tmp rfl)) ?_
                  refine HW.gg rfl rfl rfl rfl rfl rfl (fun hc => PEv.indexAddr' Try.underlying22 Try.sizeOf28 (by first | exact .tmp rfl | exact .cond rfl (by first | assumption | simp_all)) (by first | exact .tmp rfl | exact .cond rfl (by first | assumption | simp_all)) (by omega) ay) ?_
                  refine HW.gg rfl rfl rfl rfl rfl rfl (fun hc => PEv.loadA Try.isAgg28 Try.sizeOf28 rfl (by first | exact .tmp rfl | exact .cond rfl (by first | assumption | simp_all)) (hcy)) ?_
                  refine HW.gg rfl rfl rfl rfl rfl rfl (fun hc => PEv.move (.tmp rfl)) ?_
                  refine HW.gg rfl rfl rfl rfl rfl rfl (fun hc => PEv.move (.tmp rfl)) ?_
                  refine HW.gg rfl rfl rfl rfl rfl rfl (fun hc => PEv.indexAddr' Try.underlying22 Try.sizeOf28 (by first | exact .tmp rfl | exact .cond rfl (by first | assumption | simp_all)) (by first | exact .tmp rfl | exact .cond rfl (by first | assumption | simp_all)) (by omega) ax) ?_
                  refine HW.gg rfl rfl rfl rfl rfl rfl (fun hc => PEv.loadA Try.isAgg28 Try.sizeOf28 rfl (by first | exact .tmp rfl | exact .cond rfl (by first | assumption | simp_all)) (hcx)) ?_
                  refine HW.gg rfl rfl rfl rfl rfl rfl (fun hc => PEv.eqlA Try.eqGuardType28 (Try.eqFact _ _) (by first | exact .tmp rfl | exact .cond rfl (by first | assumption | simp_all)) (by first | exact .tmp rfl | exact .cond rfl (by first | assumption | simp_all))) ?_
                  refine HW.g rfl rfl rfl rfl rfl rfl (fun hc => PEv.pick_and (by first | exact .tmp rfl | exact .cond rfl (by first | assumption | simp_all)) (fun hp => (by first | exact .const _ | exact .tmp rfl | exact .cond rfl (by first | assumption | (rw [hp]; rfl) | simp_all)))) ?_
                  refine HW.p (PEv.pick_or (.tmp rfl) (fun hp => (by first | exact .const _ | exact .tmp rfl | exact .cond rfl (by first | assumption | (rw [hp]; rfl) | simp_all)))) rfl rfl ?_
                  refine HW.nil ?_
                  intro w21 uw21
                  have zw21 := uw21.size
                  replace hW := hW.up uw21
                  replace hEf := hEf.up uw21
                  refine KW.then ?_
                  refine CW.cond (.tmp rfl) (fun h214 => ?_) (fun h214 => ?_)
                  · first | replace h214 := of_decide_eq_true h214 | replace h214 := of_decide_eq_false h214 | skip
                    have hbt : beats d i f q y = true := by unfold beats; simpa using h214
                    -- region 46
                    refine CW.region ?_
                    refine LW.p (PEv.assign (.const _)) rfl rfl rfl ?_
                    refine LW.nil ?_
                    refine KW.inBlock ?_
                    refine KW.then ?_
                    -- region 43
                    refine CW.region ?_
                    refine LW.p (PEv.move (.tmp rfl)) rfl rfl rfl ?_
                    refine LW.p (PEv.inc (.tmp rfl) (by omega)) rfl rfl rfl ?_
                    refine LW.p (PEv.assign (.tmp rfl)) rfl rfl rfl ?_
                    refine LW.nil ?_
                    refine KW.round ?_
                    first | exact ⟨(q + 1, false), ⟨by show q + 1 ≤ _; omega, (bst_yes hy hbt).symm, hW, hEf⟩, ⟨rfl, rfl, rfl, rfl, rfl, rfl, rfl, rfl, trivial⟩, by show (fewL 40 l).length - (q + 1) < (fewL 40 l).length - q; omega⟩ | exact ⟨(q + 1, bb), ⟨by show q + 1 ≤ _; omega, by rw [bst_no hy hbt]; exact hbb, hW, hEf⟩, ⟨rfl, rfl, rfl, rfl, rfl, rfl, rfl, rfl, trivial⟩, by show (fewL 40 l).length - (q + 1) < (fewL 40 l).length - q; omega⟩
                  · first | replace h214 := of_decide_eq_true h214 | replace h214 := of_decide_eq_false h214 | skip
                    have hbt : beats d i f q y = false := by unfold beats; simpa using h214
                    refine CW.skip ?_
                    refine KW.inBlock ?_
                    refine KW.then ?_
                    -- region 43
                    refine CW.region ?_
                    refine LW.p (PEv.move (.tmp rfl)) rfl rfl rfl ?_
                    refine LW.p (PEv.inc (.tmp rfl) (by omega)) rfl rfl rfl ?_
                    refine LW.p (PEv.assign (.tmp rfl)) rfl rfl rfl ?_
                    refine LW.nil ?_
                    refine KW.round ?_
                    first | exact ⟨(q + 1, false), ⟨by show q + 1 ≤ _; omega, (bst_yes hy hbt).symm, hW, hEf⟩, ⟨rfl, rfl, rfl, rfl, rfl, rfl, rfl, rfl, trivial⟩, by show (fewL 40 l).length - (q + 1) < (fewL 40 l).length - q; omega⟩ | exact ⟨(q + 1, bb), ⟨by show q + 1 ≤ _; omega, by rw [bst_no hy hbt]; exact hbb, hW, hEf⟩, ⟨rfl, rfl, rfl, rfl, rfl, rfl, rfl, rfl, trivial⟩, by show (fewL 40 l).length - (q + 1) < (fewL 40 l).length - q; omega⟩
                · first | replace h177 := of_decide_eq_true h177 | replace h177 := of_decide_eq_false h177 | skip
                  refine CW.exit ?_
                  refine KW.then_exit ?_
                  refine KW.then_exit ?_
                  refine KW.block_hit ?_
                  refine KW.then ?_
                  refine CW.seq ?_
                  -- region 47
                  refine CW.region ?_
                  refine LW.p (PEv.move (.tmp rfl)) rfl rfl rfl ?_
                  refine LW.nil ?_
                  refine KW.then ?_
                  refine CW.cond (.tmp rfl) (fun h215 => ?_) (fun h215 => ?_)
                  · first | replace h215 := of_decide_eq_true h215 | replace h215 := of_decide_eq_false h215 | skip
                    have ekc : kc (fewL 40 l) d (i + 1) = kc (fewL 40 l) d i + 1 := by rw [kc_count hf hsk, if_pos (by rw [show (fewL 40 l).length = q by omega, ← hbb]; exact h215)]
                    -- region 48
                    refine CW.region ?_
                    refine LW.p (PEv.move (.tmp rfl)) rfl rfl rfl ?_
                    refine LW.p (PEv.inc (.tmp rfl) (by omega)) rfl rfl rfl ?_
                    refine LW.p (PEv.assign (.tmp rfl)) rfl rfl rfl ?_
                    refine LW.nil ?_
                    refine KW.inBlock ?_
                    refine KW.then ?_
                    -- region 37
                    refine CW.region ?_
                    refine LW.p (PEv.move (.tmp rfl)) rfl rfl rfl ?_
                    refine LW.p (PEv.inc (.tmp rfl) (by omega)) rfl rfl rfl ?_
                    refine LW.p (PEv.assign (.tmp rfl)) rfl rfl rfl ?_
                    refine LW.nil ?_
                    refine KW.round ?_
                    exact ⟨i + 1, ⟨by omega, hW, hEf⟩, ⟨rfl, by rw [ekc]; rfl, rfl, rfl, rfl, rfl, trivial⟩, by first | omega | (dsimp only; omega)⟩
                  · first | replace h215 := of_decide_eq_true h215 | replace h215 := of_decide_eq_false h215 | skip
                    have ekc : kc (fewL 40 l) d (i + 1) = kc (fewL 40 l) d i := by rw [kc_count hf hsk, if_neg (by rw [show (fewL 40 l).length = q by omega, ← hbb]; simpa using h215)]; rfl
                    refine CW.skip ?_
                    refine KW.inBlock ?_
                    refine KW.then ?_
                    -- region 37
                    refine CW.region ?_
                    refine LW.p (PEv.move (.tmp rfl)) rfl rfl rfl ?_
                    refine LW.p (PEv.inc (.tmp rfl) (by omega)) rfl rfl rfl ?_
                    refine LW.p (PEv.assign (.tmp rfl)) rfl rfl rfl ?_
                    refine LW.nil ?_
                    refine KW.round ?_
                    exact ⟨i + 1, ⟨by omega, hW, hEf⟩, ⟨rfl, by rw [ekc]; rfl, rfl, rfl, rfl, rfl, trivial⟩, by first | omega | (dsimp only; omega)⟩
        · first | replace h148 := of_decide_eq_true h148 | replace h148 := of_decide_eq_false h148 | skip
          refine CW.exit ?_
          refine KW.then_exit ?_
          refine KW.then_exit ?_
          refine KW.block_hit ?_
          refine KW.then ?_
          refine CW.seq ?_
          have hcnt : cl b k = kc (fewL 40 l) d i := by rw [show k = 11 by omega, show i = (fewL 40 l).length by omega, eb]; exact count_eq _ _
          -- region 49
          refine CW.region ?_
          refine LW.p (PEv.move (.tmp rfl)) rfl rfl rfl ?_
          refine LW.p (PEv.move (.tmp rfl)) rfl rfl rfl ?_
          refine LW.yes rfl rfl rfl rfl rfl rfl ?_
          refine LW.p (PEv.move (.tmp rfl)) rfl rfl rfl ?_
          refine LW.yes rfl rfl rfl rfl rfl rfl ?_
          refine LW.p (PEv.move (.tmp rfl)) rfl rfl rfl ?_
          refine LW.yes rfl rfl rfl rfl rfl rfl ?_
          refine LW.p (PEv.tr (PEv.eql (.tmp rfl) (.tmp rfl)) (by rw [hcnt]; simp)) rfl rfl rfl ?_
          refine LW.p (PEv.pick_and (.tmp rfl) (fun hp => (by first | exact .const _ | exact .tmp rfl | exact .cond rfl (by first | assumption | (rw [hp]; rfl) | simp_all)))) rfl rfl rfl ?_
          refine LW.p (PEv.assign (.tmp rfl)) rfl rfl rfl ?_
          refine LW.nil ?_
          refine KW.then ?_
          refine CW.ret ?_
          refine KW.ret1 rfl rfl ⟨_, rfl, ?_⟩
          exact ⟨rfl, hW⟩

end Go.Proofs.Ytdelcaegofkknaa
