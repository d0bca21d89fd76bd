import Derived.Test.YtgffaeachbbjoaaDoorKR18
import Derived.Lib.Bytealg
section
namespace Go.Wx
open Go.RowKit
def PhU (q : Ph) : Prop := ∀ v w w', q.holds v w → Up w w' → q.holds v w'
theorem PhU.eq (v : Value) : PhU (.eq v) := fun _ _ _ h _ => h
theorem PhU.pred {p : Value → World → Prop} (h : ∀ v w w', p v w → Up w w' → p v w') : PhU (.pred p) := h
def allU : List Ph → Prop
  | [] => True
  | q :: r => PhU q ∧ allU r
theorem allU.at : ∀ {l : List Ph}, allU l → ∀ i, PhU (l.getD i (.eq undef))
  | [], _, _ => by simpa using PhU.eq undef
  | _ :: _, h, 0 => by simpa using h.1
  | _ :: _, h, i + 1 => by simpa using allU.at h.2 i
section
variable {R : Option Nat} {m : Nat} {P : Program} {n : Nat} {ds : List Deferred} {Q : Exit → Go.Act → World → Prop} {l : Env} {w : World} {ops : Array Oper}
theorem CW.free {id : Nat} {opsL : List Oper} (k : Nat) (phs : List Ph) (keep : List Nat) (hm : P.follows .mixedOrders = true) (hl : noPred l = true)
    (hA : aheadOK opsL.toArray = true) (hC : (Nat.beq k opsL.toArray.size || closOK opsL.toArray k) = true) (hF : farOK opsL.toArray k = true) (hks : Nat.ble k opsL.toArray.size = true) (hD : dstOK' n opsL.toArray 0 k = true) (hTl : tailOK opsL.toArray k = true)
    (hfree : freeOK l (opsL.take k) = true) (hph : allU phs)
    (hop : ∀ W, Up w.drew W → allL (fun i o => o.guard = none ∧ TU P n ds (knp opsL.toArray (fun i => phs.getD i (.eq undef)) 0 o ++ l) W o (phs.getD i (.eq undef))) 0 (opsL.take k))
    (hend : ∀ W (g : Nat → Value), Up w.drew W → (∀ i o d, i < k → opsL[i]? = some o → o.dst = some d → (phs.getD i (.eq undef)).holds (g d) W) → LW R m P n ds opsL.toArray Q (opsL.drop k) (keep.map (fun d => (d, .eq (g d))) ++ l) W) :
    CW R m P n ds (.region id opsL.toArray true) Q l w := by
  have hks' : k ≤ opsL.length := by have := Nat.le_of_ble_eq_true hks; simp at this; omega
  have sub : ∀ j o, j < k → opsL.toArray[j]? = some o → (opsL.take k)[j]? = some o := fun j o hjk ho => by
    rw [List.getElem?_take_of_lt hjk]; simpa using ho
  have hbd : ∀ i ph, lk l i = some ph → ∀ (j : Nat) (o : Oper), 0 ≤ j → j < k → opsL.toArray[j]? = some o → o.dst ≠ some i := fun i ph hi j o _ hjk ho => freeOK_at hfree hi (List.mem_of_getElem? (sub j o hjk ho))
  refine CW.draws_up hm hl fun fuel listed a hf hu ha => ?_
  refine AWF.gen (k := k) (fun i => phs.getD i (.eq undef)) Up (fun _ _ _ => True) (f0 := fun t => a.tmps.getD t undef) Up.refl (fun _ _ _ => Up.trans) (fun i v w w' h u => (hph.at i) v w w' h u) hA hC hF hks (by simp) hD hl hbd ?_ trivial ?_ fuel listed a hf hu ha (fun _ => rfl)
  · intro i o _ hi hio L f W hU hDn hLi hed _ a ha hsl
    have h3 := (hop W hU).at (sub i o hi hio)
    rw [Nat.zero_add] at h3
    obtain ⟨hg, h3⟩ := h3
    rw [if_pos (by simp [Region.wanted, hg])]
    have done : ∀ v W', Up W W' ∧ (phs.getD i (.eq undef)).holds v W' → Up W W' ∧ (∀ d, o.dst = some d → (phs.getD i (.eq undef)).holds v W') ∧ True := fun v W' h => ⟨h.1, fun _ _ => h.2, trivial⟩
    rcases h3 a ha with ⟨v, W', hr, hp⟩ | ⟨fn, args, w1, hr, hc⟩
    · exact .inl (.inl ⟨v, W', hr, done v W' hp⟩)
    · exact .inl (.inr ⟨fn, args, w1, hr, hc.mono done⟩)
  · intro f W hUp _ fuel' listed' a' hf' hu' ha' hsl'
    have key : ∀ i o d, i < k → opsL[i]? = some o → o.dst = some d → (phs.getD i (.eq undef)).holds (f d) W := by
      intro i o d hik ho hd
      have ho' : opsL.toArray[i]? = some o := by simpa using ho
      have hmem : (d, phs.getD i (.eq undef)) ∈ allP opsL.toArray (fun i => phs.getD i (.eq undef)) 0 k := by
        unfold allP
        rw [List.mem_filterMap]
        exact ⟨i, List.mem_range.2 hik, by rw [if_pos (by simp), ho']; simp [hd]⟩
      obtain ⟨q', hq⟩ := lk_of_mem hmem
      obtain ⟨j, p, _, hjk, hp, hpd, e⟩ := allP_at hq
      have : j = i := by
        by_cases ee : j = i
        · exact ee
        · exact absurd hpd ((dstOK'_at hD (Nat.zero_le _) hik ho' hd).2 j p (Nat.zero_le _) hjk ee hp)
      subst this
      have := ha'.val d q' (lk_left hq)
      rw [hsl', e] at this
      exact this
    refine tail_order hTl hA (opsL.toArray.size - k) k fuel' listed' a' W rfl (by simp; omega) (Nat.le_refl _) hf' hu' ?_
    refine hend W f hUp key a' ⟨ha'.defers, ha'.size, fun t q ht => ?_⟩
    rcases lk_append ht with h | h
    · obtain ⟨d, _, he⟩ := List.mem_map.1 (lk_mem h)
      cases he
      exact hsl' _
    · refine ha'.val t q ?_
      rw [lk_right]
      · exact h
      · cases hq : lk (allP opsL.toArray (fun i => phs.getD i (.eq undef)) 0 k) t with
        | none => rfl
        | some q' =>
          obtain ⟨j, p, _, hjk, hp, hpd, _⟩ := allP_at hq
          exact absurd hpd (hbd t q h j p (Nat.zero_le _) hjk hp)
end
end Go.Wx
end
section
namespace Go.Wx
abbrev K2 := Int × Int
def ltK (a b : K2) : Bool := decide (a.1 < b.1) || (decide (a.1 = b.1) && decide (a.2 < b.2))
theorem ltK_iff {a b : K2} : ltK a b = true ↔ a.1 < b.1 ∨ (a.1 = b.1 ∧ a.2 < b.2) := by simp [ltK]
theorem ltK_not {a b : K2} : ltK a b = false ↔ ¬ (a.1 < b.1 ∨ (a.1 = b.1 ∧ a.2 < b.2)) := by rw [← ltK_iff]; simp
theorem ltK_irrefl (a : K2) : ltK a a = false := by rw [ltK_not]; omega
theorem leK_trans {a b c : K2} (h : ltK b a = false) (k : ltK c b = false) : ltK c a = false := by rw [ltK_not] at *; omega
theorem leK_of_lt {a b : K2} (h : ltK a b = true) : ltK b a = false := by rw [ltK_iff] at h; rw [ltK_not]; omega
theorem lt_le_K {a b c : K2} (h : ltK a b = true) (k : ltK c b = false) : ltK a c = true := by rw [ltK_iff] at *; rw [ltK_not] at k; omega
theorem le_lt_K {a b c : K2} (h : ltK b a = false) (k : ltK b c = true) : ltK a c = true := by rw [ltK_iff] at *; rw [ltK_not] at h; omega
theorem eqK_of {a b : K2} (h : ltK a b = false) (k : ltK b a = false) : a = b := by rw [ltK_not] at *; exact Prod.ext (by omega) (by omega)
theorem ltK_ne {a b : K2} (h : ltK a b = true) : a ≠ b := fun e => by rw [e, ltK_irrefl] at h; cases h
section
variable {α : Type} (key : α → K2)
def srt (l : List α) : Prop := l.Pairwise fun x y => ltK (key y) (key x) = false
def sameF (l s : List α) : Prop := ∀ k, s.filter (fun x => key x == k) = l.filter (fun x => key x == k)
structure StS (l s : List α) : Prop where
  ord : srt key s
  same : sameF key l s
end
section
variable {α : Type} {key : α → K2}
theorem sameF.refl (l : List α) : sameF key l l := fun _ => rfl
theorem sameF.trans {a b c : List α} (h : sameF key a b) (k : sameF key b c) : sameF key a c := fun x => (k x).trans (h x)
theorem sameF.app {a b c d : List α} (h : sameF key a b) (k : sameF key c d) : sameF key (a ++ c) (b ++ d) := fun x => by rw [List.filter_append, List.filter_append, h x, k x]
theorem sameF.mem {a b : List α} (h : sameF key a b) (x : α) : x ∈ b ↔ x ∈ a := by
  have := h (key x)
  have e : ∀ l : List α, x ∈ l.filter (fun y => key y == key x) ↔ x ∈ l := fun l => by rw [List.mem_filter]; simp
  rw [← e b, ← e a, this]
theorem sameF.swap {U V : List α} (h : ∀ u ∈ U, ∀ v ∈ V, key u ≠ key v) : sameF key (U ++ V) (V ++ U) := fun k => by
  rw [List.filter_append, List.filter_append]
  by_cases e : U.filter (fun x => key x == k) = []
  · rw [e]; simp
  · have e2 : V.filter (fun x => key x == k) = [] := by
      rw [List.filter_eq_nil_iff]
      intro v hv hk
      apply e
      rw [List.filter_eq_nil_iff]
      intro u hu hk2
      exact h u hu v hv ((eq_of_beq hk2).trans (eq_of_beq hk).symm)
    rw [e2]; simp
theorem sameF.perm : ∀ {a b : List α}, sameF key a b → b.Perm a
  | [], b, h => by
    have : b = [] := by
      cases b with
      | nil => rfl
      | cons x b => exact absurd ((h.mem x).1 List.mem_cons_self) (by simp)
    rw [this]
  | x :: a, b, h => by
    have hx : x ∈ b := (h.mem x).2 List.mem_cons_self
    -- the first of b with the key of x is x itself
    have hf := h (key x)
    rw [List.filter_cons, if_pos (by simp)] at hf
    obtain ⟨p, q, e, hp⟩ : ∃ p q, b = p ++ x :: q ∧ ∀ y ∈ p, key y ≠ key x := by
      clear hx
      induction b with
      | nil => simp at hf
      | cons y b ih =>
        by_cases hy : key y = key x
        · rw [List.filter_cons, if_pos (by simp [hy])] at hf
          injection hf with h1 h2
          subst h1
          exact ⟨[], b, rfl, by simp⟩
        · rw [List.filter_cons, if_neg (by simp [hy])] at hf
          have : ∃ p q, b = p ++ x :: q ∧ ∀ y ∈ p, key y ≠ key x := by
            clear ih h
            induction b with
            | nil => simp at hf
            | cons z b ih =>
              by_cases hz : key z = key x
              · rw [List.filter_cons, if_pos (by simp [hz])] at hf
                injection hf with h1 h2
                subst h1
                exact ⟨[], b, rfl, by simp⟩
              · rw [List.filter_cons, if_neg (by simp [hz])] at hf
                obtain ⟨p, q, e, hp⟩ := ih hf
                exact ⟨z :: p, q, by rw [e]; rfl, fun w hw => by
                  rcases List.mem_cons.1 hw with rfl | hw
                  · exact hz
                  · exact hp w hw⟩
          obtain ⟨p, q, e, hp⟩ := this
          exact ⟨y :: p, q, by rw [e]; rfl, fun w hw => by
            rcases List.mem_cons.1 hw with rfl | hw
            · exact hy
            · exact hp w hw⟩
    subst e
    have h2 : sameF key a (p ++ q) := fun k => by
      have := h k
      by_cases hk : key x = k
      · subst hk
        have ep : p.filter (fun y => key y == key x) = [] := by rw [List.filter_eq_nil_iff]; intro y hy e; exact hp y hy (eq_of_beq e)
        simp only [List.filter_append, List.filter_cons, beq_self_eq_true, if_true, ep, List.nil_append, List.cons.injEq, true_and] at this ⊢
        exact this
      · have hk' : (key x == k) = false := by simpa using hk
        simpa only [List.filter_append, List.filter_cons, hk', Bool.false_eq_true, if_false] using this
    exact List.perm_middle.trans ((sameF.perm h2).cons x)
theorem sameF.length {a b : List α} (h : sameF key a b) : b.length = a.length := h.perm.length_eq
theorem StS.unique : ∀ {l s t : List α}, StS key l s → StS key l t → s = t
  | l, [], [], _, _ => rfl
  | l, [], y :: t, h, k => by have := h.same.length.trans k.same.length.symm; simp at this
  | l, x :: s, [], h, k => by have := h.same.length.trans k.same.length.symm; simp at this
  | l, x :: s, y :: t, h, k => by
    have hx := (List.pairwise_cons.1 h.ord)
    have hy := (List.pairwise_cons.1 k.ord)
    have mx : x ∈ y :: t := (k.same.mem x).2 ((h.same.mem x).1 List.mem_cons_self)
    have my : y ∈ x :: s := (h.same.mem y).2 ((k.same.mem y).1 List.mem_cons_self)
    have a1 : ltK (key x) (key y) = false := by
      rcases List.mem_cons.1 mx with e | e
      · rw [e]; exact ltK_irrefl _
      · exact hy.1 x e
    have a2 : ltK (key y) (key x) = false := by
      rcases List.mem_cons.1 my with e | e
      · rw [e]; exact ltK_irrefl _
      · exact hx.1 y e
    have ek := eqK_of a1 a2
    have hf := (h.same (key x)).trans (k.same (key x)).symm
    rw [List.filter_cons, if_pos (by simp), List.filter_cons, if_pos (by simp [ek])] at hf
    injection hf with h1 h2
    subst h1
    have hst : sameF key t s := fun q => by
      have := (h.same q).trans (k.same q).symm
      simp only [List.filter_cons] at this
      split at this
      · injection this
      · exact this
    rw [StS.unique (l := t) ⟨hx.2, hst⟩ ⟨hy.2, sameF.refl t⟩]
theorem StS.refl {l : List α} (h : srt key l) : StS key l l := ⟨h, sameF.refl l⟩
theorem StS.put {A : List α} {x : α} {j : Nat} (hA : srt key A) (hj : ∀ y ∈ A.drop j, ltK (key x) (key y) = true) (hl : ∀ y ∈ A.take j, ltK (key x) (key y) = false) : StS key (A ++ [x]) (A.take j ++ x :: A.drop j) := by
  have h := List.pairwise_append.1 (show (A.take j ++ A.drop j).Pairwise fun x y => ltK (key y) (key x) = false by rw [List.take_append_drop]; exact hA)
  refine ⟨List.pairwise_append.2 ⟨h.1, List.pairwise_cons.2 ⟨fun y hy => leK_of_lt (hj y hy), h.2.1⟩, fun a ha b hb => ?_⟩, ?_⟩
  · rcases List.mem_cons.1 hb with rfl | hb
    · exact hl a ha
    · exact h.2.2 a ha b hb
  · have := (sameF.refl (key := key) (A.take j)).app (sameF.swap (key := key) (U := A.drop j) (V := [x]) (fun u hu v hv => by
      simp at hv; subst hv
      exact fun e => ltK_ne (hj u hu) e.symm))
    rw [← List.append_assoc, List.take_append_drop] at this
    simpa using this
theorem StS.putL {A : List α} {x : α} {j : Nat} (hA : srt key A) (hj : ∀ y ∈ A.take j, ltK (key y) (key x) = true) (hl : ∀ y ∈ A.drop j, ltK (key y) (key x) = false) : StS key (x :: A) (A.take j ++ x :: A.drop j) := by
  have h := List.pairwise_append.1 (show (A.take j ++ A.drop j).Pairwise fun x y => ltK (key y) (key x) = false by rw [List.take_append_drop]; exact hA)
  refine ⟨List.pairwise_append.2 ⟨h.1, List.pairwise_cons.2 ⟨hl, h.2.1⟩, fun a ha b hb => ?_⟩, ?_⟩
  · rcases List.mem_cons.1 hb with rfl | hb
    · exact leK_of_lt (hj a ha)
    · exact h.2.2 a ha b hb
  · have := (sameF.swap (key := key) (U := [x]) (V := A.take j) (fun u hu v hv => by
      simp at hu; subst hu
      exact fun e => ltK_ne (hj v hv) e.symm)).app (sameF.refl (key := key) (A.drop j))
    rw [List.append_assoc, List.append_assoc, List.take_append_drop] at this
    simpa using this
theorem StS.halves {L1 U V R2 X Y : List α} (hL : srt key (L1 ++ U)) (hR : srt key (V ++ R2)) (h1 : ∀ x ∈ L1, ∀ y ∈ R2, ltK (key y) (key x) = false) (h2 : ∀ v ∈ V, ∀ u ∈ U, ltK (key v) (key u) = true)
    (hX : StS key (L1 ++ V) X) (hY : StS key (U ++ R2) Y) : StS key (L1 ++ U ++ (V ++ R2)) (X ++ Y) := by
  refine ⟨List.pairwise_append.2 ⟨hX.ord, hY.ord, fun x hx y hy => ?_⟩, ?_⟩
  · have hx := (hX.same.mem x).1 hx
    have hy := (hY.same.mem y).1 hy
    have a := (List.pairwise_append.1 hL).2.2
    have b := (List.pairwise_append.1 hR).2.2
    rcases List.mem_append.1 hx with hx | hx <;> rcases List.mem_append.1 hy with hy | hy
    · exact a x hx y hy
    · exact h1 x hx y hy
    · exact leK_of_lt (h2 x hx y hy)
    · exact b x hx y hy
  · have s1 : sameF key (U ++ V) (V ++ U) := sameF.swap fun u hu v hv e => ltK_ne (h2 v hv u hu) e.symm
    have s2 := ((sameF.refl (key := key) L1).app s1).app (sameF.refl (key := key) R2)
    have s3 := hX.same.app hY.same
    intro k
    have a := s3 k
    have b := s2 k
    simp only [List.filter_append, List.append_assoc] at a b ⊢
    rw [a, b]
end
section
variable {α : Type}
def seg (xs : List α) (a b : Nat) : List α := (xs.take b).drop a
theorem seg_length {xs : List α} {a b : Nat} (hb : b ≤ xs.length) : (seg xs a b).length = b - a := by simp [seg]; omega
theorem seg_get {xs : List α} {a b i : Nat} (h : a + i < b) : (seg xs a b)[i]? = xs[a + i]? := by simp [seg, List.getElem?_drop, h]
theorem seg_split {xs : List α} {a m b : Nat} (h1 : a ≤ m) (h2 : m ≤ b) (hb : b ≤ xs.length) : seg xs a b = seg xs a m ++ seg xs m b := by
  unfold seg
  have : xs.take b = xs.take m ++ (xs.take b).drop m := by
    conv => lhs; rw [← List.take_append_drop m (xs.take b)]
    rw [List.take_take, Nat.min_eq_left h2]
  rw [this, List.drop_append]
  have e : a - (xs.take m).length = 0 := by simp; omega
  rw [e, List.drop_zero, ← this]
theorem seg_all {xs : List α} : seg xs 0 xs.length = xs := by simp [seg]
theorem seg_nil {xs : List α} {a b : Nat} (h : b ≤ a) : seg xs a b = [] := by
  unfold seg
  rw [List.drop_eq_nil_iff]
  simp; omega
theorem seg_cut {xs : List α} {a b : Nat} (h1 : a ≤ b) (hb : b ≤ xs.length) : xs = xs.take a ++ seg xs a b ++ xs.drop b := by
  have h := seg_split (xs := xs) (a := 0) (m := a) (b := b) (Nat.zero_le _) h1 hb
  have e1 : seg xs 0 a = xs.take a := by simp [seg]
  have e2 : seg xs 0 b = xs.take b := by simp [seg]
  rw [e1, e2] at h
  rw [← h, List.take_append_drop]
def rep (xs : List α) (a b : Nat) (ys : List α) : List α := xs.take a ++ ys ++ xs.drop b
theorem rep_length {xs ys : List α} {a b : Nat} (h1 : a ≤ b) (hb : b ≤ xs.length) (hy : ys.length = b - a) : (rep xs a b ys).length = xs.length := by simp [rep]; omega
theorem rep_same {xs : List α} {a b : Nat} (h1 : a ≤ b) (hb : b ≤ xs.length) : rep xs a b (seg xs a b) = xs := (seg_cut h1 hb).symm
theorem rep_get {xs ys : List α} {a b : Nat} (h1 : a ≤ b) (hb : b ≤ xs.length) (hy : ys.length = b - a) (i : Nat) : (rep xs a b ys)[i]? = if i < a then xs[i]? else if i < b then ys[i - a]? else xs[i]? := by
  unfold rep
  by_cases h : i < a
  · rw [if_pos h, List.append_assoc, List.getElem?_append_left (by simp; omega), List.getElem?_take, if_pos h]
  · rw [if_neg h]
    by_cases h2 : i < b
    · rw [if_pos h2, List.getElem?_append_left (by simp; omega), List.getElem?_append_right (by simp; omega)]
      congr 1; simp; omega
    · rw [if_neg h2, List.getElem?_append_right (by simp; omega), List.getElem?_drop]
      congr 1; simp; omega
theorem seg_rep {xs ys : List α} {a b : Nat} (h1 : a ≤ b) (hb : b ≤ xs.length) (hy : ys.length = b - a) : seg (rep xs a b ys) a b = ys := by
  apply List.ext_getElem?
  intro i
  by_cases h : a + i < b
  · rw [seg_get h, rep_get h1 hb hy, if_neg (by omega), if_pos h]; congr 1; omega
  · rw [List.getElem?_eq_none (by rw [seg_length (by rw [rep_length h1 hb hy]; exact hb)]; omega), List.getElem?_eq_none (by omega)]
theorem seg_rep_off {xs ys : List α} {a b c d : Nat} (h1 : a ≤ b) (hb : b ≤ xs.length) (hy : ys.length = b - a) (h : d ≤ a ∨ b ≤ c) : seg (rep xs a b ys) c d = seg xs c d := by
  apply List.ext_getElem?
  intro i
  unfold seg
  rw [List.getElem?_drop, List.getElem?_drop, List.getElem?_take, List.getElem?_take]
  split
  · rw [rep_get h1 hb hy]
    split
    · rfl
    · split
      · omega
      · rfl
  · rfl
theorem rep_app {xs ys zs : List α} {a m b : Nat} (h1 : a ≤ m) (h2 : m ≤ b) (hb : b ≤ xs.length) (hy : ys.length = m - a) (hz : zs.length = b - m) : rep (rep xs a m ys) m b zs = rep xs a b (ys ++ zs) := by
  apply List.ext_getElem?
  intro i
  rw [rep_get h2 (by rw [rep_length h1 (by omega) hy]; exact hb) hz, rep_get h1 (by omega) hy, rep_get (by omega) hb (by simp; omega)]
  by_cases c1 : i < a
  · rw [if_pos (by omega), if_pos c1, if_pos c1]
  · by_cases c2 : i < m
    · rw [if_pos c2, if_neg c1, if_pos c2, if_neg c1, if_pos (by omega), List.getElem?_append_left (by omega)]
    · rw [if_neg c2, if_neg c1, if_neg c2]
      by_cases c3 : i < b
      · rw [if_pos c3, if_neg c1, if_pos c3, List.getElem?_append_right (by omega)]; congr 1; omega
      · rw [if_neg c3, if_neg c1, if_neg c3]
variable {key : α → K2}
theorem sameF.rep {xs ys : List α} {a b : Nat} (h1 : a ≤ b) (hb : b ≤ xs.length) (h : sameF key (seg xs a b) ys) : sameF key xs (Wx.rep xs a b ys) := by
  have h2 := ((sameF.refl (key := key) (xs.take a)).app h).app (sameF.refl (key := key) (xs.drop b))
  rw [← seg_cut h1 hb] at h2
  exact h2
end
end Go.Wx
end
section
namespace Go.Wx
open Go.RowKit
theorem OwnS.at {α : Type} {enc : α → Array Value} {b k : Nat} {e : TypeId} {w : World} {g m cp : Nat} {xs : List α} (h : OwnS w b e k enc (.slice (some ⟨g, 0, none⟩) m cp) xs) (hk : ∀ x, (enc x).size = k) {i : Nat} {x : α} (hx : xs[i]? = some x) : AggAt w g (0 + i * k) (enc x) := by
  obtain ⟨ad, c, e', hE⟩ := h.sl hk
  obtain ⟨B, o, h1, h2⟩ := hE i x hx
  cases e'
  cases h1
  exact h2
theorem OwnS.len {α : Type} {enc : α → Array Value} {b k : Nat} {e : TypeId} {w : World} {ad : Option Addr} {m cp : Nat} {xs : List α} (h : OwnS w b e k enc (.slice ad m cp) xs) : xs.length = m := by
  obtain ⟨_, ⟨e', h1⟩ | ⟨g, cap, cur, e', _⟩⟩ := h
  · cases e'; exact h1
  · cases e'; rfl
theorem flat_set {α : Type} (f : α → List Value) (k : Nat) (hf : ∀ x, (f x).length = k) : ∀ (xs : List α) (i : Nat) (y : α), i < xs.length → (xs.set i y).flatMap f = (xs.flatMap f).take (i * k) ++ f y ++ (xs.flatMap f).drop (i * k + k)
  | [], _, _, h => by simp at h
  | x :: xs, 0, y, _ => by
    rw [List.set_cons_zero, List.flatMap_cons, List.flatMap_cons, Nat.zero_mul, List.take_zero, List.nil_append, Nat.zero_add, List.drop_left' (hf x)]
  | x :: xs, i + 1, y, h => by
    rw [List.set_cons_succ, List.flatMap_cons, List.flatMap_cons, flat_set f k hf xs i y (by simpa using h)]
    have e1 : (i + 1) * k = (f x).length + i * k := by rw [hf, Nat.add_mul, Nat.one_mul, Nat.add_comm]
    have e2 : (i + 1) * k + k = (f x).length + (i * k + k) := by rw [e1, Nat.add_assoc]
    rw [e1, Nat.add_assoc, List.take_length_add_append, List.drop_length_add_append]
    simp [List.append_assoc]
section
variable {P : Program} {n : Nat} {ds : List Deferred} {l : Env} {w : World} {ty : TypeId} {ps : String} {af : Array Edge} {g : Option (Nat × Bool)}
theorem SEv.storeOwn {α : Type} {enc : α → Array Value} {k b : Nat} {e T : TypeId} {x y : Operand} {B m cp i : Nat} {xs : List α} {z : α} (hs : ∀ w, (sizeOf T).run P w = .ok k w) (hk : ∀ x, (enc x).size = k) (h1 : ∀ x, (enc x).all (·.oneCell') = true) (hx : Val l x (.pointer (some ⟨B, 0 + i * k, none⟩))) (hy : Val l y (.agg (enc z))) (ho : OwnS w b e k enc (.slice (some ⟨B, 0, none⟩) m cp) xs) (hi : i < m) :
    SEv P n ds l w ⟨none, .store T x y, ty, ps, af, g⟩ (fun w' => OwnS w' b e k enc (.slice (some ⟨B, 0, none⟩) m cp) (xs.set i z) ∧ Fr (· = B) w w' ∧ w'.heap.size = w.heap.size) := fun a ha => by
  have hkl : ∀ x, (enc x).toList.length = k := fun x => by rw [Array.length_toList, hk]
  have hfl := flat_length (fun x => (enc x).toList) k hkl xs
  obtain ⟨hl, ⟨e', _⟩ | ⟨g', cap, cur, e', hb, hg, hcap, hcm, hcs, htk⟩⟩ := ho
  · cases e'
  · cases e'
    have hik : i * k + k ≤ xs.length * k := by
      have : (i + 1) * k ≤ xs.length * k := Nat.mul_le_mul_right k hi
      rw [Nat.add_mul, Nat.one_mul] at this
      exact this
    have hmk : xs.length * k ≤ cp * k := Nat.mul_le_mul_right k (by omega)
    obtain ⟨w', hr, hset⟩ := SEv.storePart (P := P) (n := n) (ds := ds) (l := l) (w := w) (ty := ty) (ps := ps) (af := af) (g := g) hs (hk z) hx hy (h1 z) (show Blk w B cur e from hg) (by rw [hk, hcs]; omega) a ha
    refine ⟨w', hr, ⟨by rw [List.length_set, flat_length _ k hkl, List.length_set], .inr ⟨B, cp, _, by rw [List.length_set], hb, hset.blk, by rw [List.length_set]; omega, hcm, ?_, ?_⟩⟩, hset.sto.fr, hset.size⟩
    · have hz := hkl z
      simp only [setFrom, List.size_toArray, List.length_append, List.length_take, List.length_drop, Array.length_toList]
      rw [Array.length_toList] at hz
      omega
    · have hz := hkl z
      rw [List.length_set, flat_set _ k hkl xs i z (by omega)]
      simp only [setFrom]
      rw [hz, Nat.zero_add, List.take_append, List.take_append]
      have hcl : cur.toList.length = cp * k := by rw [Array.length_toList]; exact hcs
      have t1 : (cur.toList.take (i * k)).take (xs.length * k) = cur.toList.take (i * k) := by rw [List.take_take, Nat.min_eq_right (by omega)]
      have t2 : (cur.toList.take (i * k)).length = i * k := by rw [List.length_take]; omega
      have t3 : ((enc z).toList).take (xs.length * k - i * k) = (enc z).toList := List.take_of_length_le (by omega)
      have t4 : (cur.toList.take (i * k) ++ (enc z).toList).length = i * k + k := by rw [List.length_append, t2, hz]
      rw [t1, t2, t3, t4]
      have s1 : (xs.flatMap fun x => (enc x).toList).take (i * k) = cur.toList.take (i * k) := by rw [← htk, List.take_take, Nat.min_eq_left (by omega)]
      have s2 : (xs.flatMap fun x => (enc x).toList).drop (i * k + k) = (cur.toList.drop (i * k + k)).take (xs.length * k - (i * k + k)) := by rw [← htk, List.drop_take]
      rw [s1, s2]
theorem SEv.storeOwnA {α : Type} {enc : α → Array Value} {k : Nat} {e T : TypeId} {x y : Operand} {B m cp i : Nat} {xs : List α} {z : α} (hs : ∀ w, (sizeOf T).run P w = .ok k w) (hk : ∀ x, (enc x).size = k) (h1 : ∀ x, (enc x).all (·.oneCell') = true) (hx : Val l x (.pointer (some ⟨B, 0 + i * k, none⟩))) (hy : Val l y (.agg (enc z))) (ho : OwnS w 0 e k enc (.slice (some ⟨B, 0, none⟩) m cp) xs) (hi : i < m) :
    SEv P n ds l w ⟨none, .store T x y, ty, ps, af, g⟩ (fun w' => Stp (aOwn e k enc (.slice (some ⟨B, 0, none⟩) m cp) xs) (aOwn e k enc (.slice (some ⟨B, 0, none⟩) m cp) (xs.set i z)) w w') := fun a ha =>
  let ⟨w', hr, h2, h3, _⟩ := SEv.storeOwn (ty := ty) (ps := ps) (af := af) (g := g) hs hk h1 hx hy ho hi a ha
  ⟨w', hr, ⟨h3.mono (fun i (e : i = B) => by rw [e]; rfl), h2, fun _ h => .inl h⟩⟩
end
section
variable {P : Program} {n : Nat} {ds : List Deferred} {l : Env} {w : World} {d : Option Tmp} {ty : TypeId} {ps : String} {af : Array Edge} {g : Option (Nat × Bool)}
theorem PEv.subN {T T' : TypeId} {x y : Operand} {i j : Nat} (hx : Val l x (.int .i64 (i : Int))) (hy : Val l y (.int .i64 (j : Int))) (h : j ≤ i) (h2 : i < 9223372036854775807) : PEv P n ds l w ⟨d, .binOp .sub T x y T', ty, ps, af, g⟩ (.int .i64 ((i - j : Nat) : Int)) := by
  have := PEv.sub (P := P) (n := n) (ds := ds) (l := l) (w := w) (d := d) (ty := ty) (ps := ps) (af := af) (g := g) (T := T) (T' := T') hx hy (by omega) (by omega)
  rw [Int.ofNat_sub h]; exact this
theorem PEv.indexArr {T e k : Nat} {x ix : Operand} {B o size : Nat} {j : Nat} (hT : P.underlying T = some (.array k e)) (hs : ∀ w, (sizeOf e).run P w = .ok size w) (hx : Val l x (.pointer (some ⟨B, o, none⟩))) (hi : Val l ix (.int .i64 (j : Int))) (hj : j < k) :
    PEv P n ds l w ⟨d, .indexAddr T x ix, ty, ps, af, g⟩ (.pointer (some ⟨B, o + j * size, none⟩)) := fun a w' ha _ => by
  refine run_v ?_
  rw [ha.ev hx, ha.ev hi]
  have h0 : (0 : Int) ≤ (j : Int) ∧ (j : Int) < (k : Int) := ⟨by omega, by omega⟩
  simp [Instr.indexAt, asIntOf, run_underlying hT, Sem.run_bind, Instr.sureAddr, hs, add_none, hj]
theorem PEv.dec {T T' : TypeId} {x : Operand} {i : Nat} (hx : Val l x (.int .i64 (i : Int))) (h : 1 ≤ i) (h2 : i < 9223372036854775807) : PEv P n ds l w ⟨d, .binOp .sub T x (.const (.int .i64 1)) T', ty, ps, af, g⟩ (.int .i64 ((i - 1 : Nat) : Int)) := by
  have := PEv.sub (P := P) (n := n) (ds := ds) (l := l) (w := w) (d := d) (ty := ty) (ps := ps) (af := af) (g := g) (T := T) (T' := T') hx (.const (.int .i64 1)) (by omega) (by omega)
  rw [Int.ofNat_sub h]; exact this
end
theorem SEv.mono {P : Program} {n : Nat} {ds : List Deferred} {l : Env} {w : World} {o : Oper} {Post Post' : World → Prop} (h : SEv P n ds l w o Post) (k : ∀ w', Post w' → Post' w') : SEv P n ds l w o Post' := fun a ha => let ⟨w', h1, h2⟩ := h a ha; ⟨w', h1, k w' h2⟩
def earlyOK (ops : Array Oper) (i s : Nat) : Bool := match ops[s]? with
  | none => false
  | some o => o.after.any fun e => Region.binds .any e && Nat.beq e.on i
theorem earlyOK_at {ops : Array Oper} {i s : Nat} (h : earlyOK ops i s = true) : ∃ o, ops[s]? = some o ∧ ∃ e ∈ o.after, Region.binds .any e = true ∧ e.on = i := by
  unfold earlyOK at h
  cases ho : ops[s]? with
  | none => rw [ho] at h; cases h
  | some o =>
    rw [ho] at h
    obtain ⟨q, hq, h2⟩ := Array.any_eq_true.1 h
    simp only [Bool.and_eq_true] at h2
    exact ⟨o, rfl, _, Array.getElem_mem hq, h2.1, Nat.eq_of_beq_eq_true h2.2⟩
section
variable {R : Option Nat} {m : Nat} {P : Program} {n : Nat} {ds : List Deferred} {Q : Exit → Go.Act → World → Prop} {l : Env} {w : World} {ops : Array Oper}
theorem CW.stores2 {id : Nat} {opsL : List Oper} (s1 s2 : Nat) (vs : List Value) (A0 A1 A2 : World → Prop) (hm : P.follows .mixedOrders = true) (hl : noPred l = true)
    (hA : aheadOK opsL.toArray = true) (hF : farOK opsL.toArray opsL.toArray.size = true) (hD : dstOK' n opsL.toArray 0 opsL.toArray.size = true) (hs : earlyOK opsL.toArray s1 s2 = true) (hns : Nat.beq s1 s2 = false)
    (hfree : freeOK l opsL = true) (h0 : A0 w.drew)
    (hop : allL (fun i o => (i = s1 ∨ i = s2) ∨ (o.guard = none ∧ ((earlyOK opsL.toArray i s1 = true ∧ ∀ W, A0 W → PEv P n ds (knp opsL.toArray (fun i => .eq (vs.getD i undef)) 0 o ++ l) W o (vs.getD i undef)) ∨ ∀ W, PEv P n ds (knp opsL.toArray (fun i => .eq (vs.getD i undef)) 0 o ++ l) W o (vs.getD i undef)))) 0 opsL)
    (o1 o2 : Oper) (ho1 : opsL[s1]? = some o1) (ho2 : opsL[s2]? = some o2) (hg1 : o1.guard = none ∧ o1.dst = none) (hg2 : o2.guard = none ∧ o2.dst = none)
    (hs1 : ∀ W, A0 W → SEv P n ds (knp opsL.toArray (fun i => .eq (vs.getD i undef)) 0 o1 ++ l) W o1 A1) (hs2 : ∀ W, A1 W → SEv P n ds (knp opsL.toArray (fun i => .eq (vs.getD i undef)) 0 o2 ++ l) W o2 A2)
    (hend : ∀ W, A2 W → KW n ds (Q .normal) l W) : CW R m P n ds (.region id opsL.toArray true) Q l w := by
  have hsz : opsL.toArray.size = opsL.length := by simp
  have hbd : ∀ i ph, lk l i = some ph → ∀ (j : Nat) (o : Oper), 0 ≤ j → j < opsL.toArray.size → opsL.toArray[j]? = some o → o.dst ≠ some i := fun i ph hi j o _ hjk ho => freeOK_at hfree hi (List.mem_of_getElem? (by simpa using ho))
  obtain ⟨p2, hp2, e2, he2, hb2, hon2⟩ := earlyOK_at hs
  have ho1' : opsL.toArray[s1]? = some o1 := by simpa using ho1
  have ho2' : opsL.toArray[s2]? = some o2 := by simpa using ho2
  have : p2 = o2 := by rw [ho2'] at hp2; cases hp2; rfl
  subst this
  have hl1 : s1 < opsL.toArray.size := (Array.getElem?_eq_some_iff.1 ho1').1
  have hl2 : s2 < opsL.toArray.size := (Array.getElem?_eq_some_iff.1 ho2').1
  have hne : s1 ≠ s2 := fun e => by subst e; simp at hns
  refine CW.draws_up hm hl fun fuel listed a hf hu ha => ?_
  refine AWF.gen (s := 0) (k := opsL.toArray.size) (fun i => .eq (vs.getD i undef)) (fun _ _ => True) (fun L _ W => if L s2 = true then A2 W else if L s1 = true then A1 W else A0 W) (f0 := fun t => a.tmps.getD t undef) (fun _ => trivial) (fun _ _ _ _ _ => trivial) (fun _ _ _ _ h _ => h) hA (by simp) hF (by simp) (by simp) hD hl hbd ?_ ?_ ?_ fuel listed a hf hu ha (fun _ => rfl)
  · intro i o _ hi hio L f W _ hDn hLi hed hInv a ha hsl
    have hio' : opsL[i]? = some o := by simpa using hio
    by_cases e1 : i = s1
    · subst e1
      rw [ho1'] at hio; cases hio
      rw [if_pos (by simp [Region.wanted, hg1.1])]
      have n2 : L s2 = false := by
        cases h : L s2 with
        | false => rfl
        | true => have := hDn s2 _ ho2' h e2 he2 hb2; rw [hon2, hLi] at this; cases this
      rw [n2, hLi] at hInv
      obtain ⟨W', hr, hp⟩ := hs1 W hInv a ha
      refine .inr ⟨W', hr, trivial, (fun d hd => by rw [hg1.2] at hd; cases hd), ?_⟩
      have t1 : setL L i s2 = false := by simp [setL, Ne.symm hne, n2]
      have t2 : setL L i i = true := by simp [setL]
      rw [t1, t2]
      exact hp
    · by_cases e3 : i = s2
      · subst e3
        rw [ho2'] at hio; cases hio
        rw [if_pos (by simp [Region.wanted, hg2.1])]
        have y1 : L s1 = true := by have := hed e2 he2 hb2; rwa [hon2] at this
        rw [hLi, y1] at hInv
        obtain ⟨W', hr, hp⟩ := hs2 W hInv a ha
        refine .inr ⟨W', hr, trivial, (fun d hd => by rw [hg2.2] at hd; cases hd), ?_⟩
        have t2 : setL L i i = true := by simp [setL]
        rw [t2]
        exact hp
      · have h3 := hop.at hio'
        rw [Nat.zero_add] at h3
        rcases h3 with (h | h) | ⟨hg, h3⟩
        · exact absurd h e1
        · exact absurd h e3
        · rw [if_pos (by simp [Region.wanted, hg])]
          have q1 : setL L i s1 = L s1 := by simp [setL, Ne.symm e1]
          have q2 : setL L i s2 = L s2 := by simp [setL, Ne.symm e3]
          have hr : (execOp a.eval o).run P W = .ok (.value (vs.getD i undef)) W := by
            rcases h3 with ⟨hE, h3⟩ | h3
            · obtain ⟨p, hp, e, he, hb, hon⟩ := earlyOK_at hE
              have n1 : L s1 = false := by
                cases h : L s1 with
                | false => rfl
                | true => have := hDn s1 p hp h e he hb; rw [hon, hLi] at this; cases this
              have n2 : L s2 = false := by
                cases h : L s2 with
                | false => rfl
                | true => have := hDn s2 _ ho2' h e2 he2 hb2; rw [hon2, n1] at this; cases this
              rw [n1, n2] at hInv
              exact h3 W hInv a W ha (Up.refl W)
            · exact h3 W a W ha (Up.refl W)
          refine .inl (.inl ⟨_, W, hr, trivial, fun _ _ => rfl, ?_⟩)
          rw [q1, q2]
          exact hInv
  · simpa using h0
  · intro f W _ hInv fuel' listed' a' hf' hu' ha' hsl'
    have hInv : A2 W := by
      dsimp only at hInv
      rw [if_pos (decide_eq_true hl2)] at hInv
      exact hInv
    have hall : ∀ j, j < opsL.toArray.size → listed'.getD j false = true := fun j hj => by rw [hu'.2 j hj]; simpa using hj
    have hrd : Region.ready .any opsL.toArray listed' = [] := by
      rw [List.eq_nil_iff_forall_not_mem]
      intro i hi
      obtain ⟨o, hio, hbi, _⟩ := (ready_iff hu'.1).1 hi
      have := hall i (Array.getElem?_eq_some_iff.1 hio).1
      rw [hbi] at this; cases this
    have hq : Q .normal a' W := hend W hInv a' ⟨ha'.defers, ha'.size, fun t q ht => by
      refine ha'.val t q ?_
      rw [lk_right]
      · exact ht
      · cases hq : lk (allP opsL.toArray (fun i => .eq (vs.getD i undef)) 0 opsL.toArray.size) t with
        | none => rfl
        | some q' =>
          obtain ⟨j, p, _, hjk, hp, hpd, _⟩ := allP_at hq
          exact absurd hpd (hbd t q ht j p (Nat.zero_le _) hjk hp)⟩
    cases fuel' with
    | zero => exact ⟨hrd, hq⟩
    | succ fuel' => exact ⟨fun _ => hq, fun i hi => by rw [hrd] at hi; cases hi⟩
end
end Go.Wx
end
section
namespace Go.Wx
open Go.RowKit
section
variable {R : Option Nat} {m : Nat} {P : Program} {n : Nat} {ds : List Deferred} {Q : Exit → Go.Act → World → Prop} {l : Env} {w : World} {ops : Array Oper}
theorem AWF.boxU {k ia is isv sa sv : Nat} {T : TypeId} {z : Array Value} {base : Env} (ph : Nat → Ph) {f0 : Nat → Value} (hz : ∀ w, (zeroValue T).run P w = .ok (.agg z) w) (hs : ∀ w, (sizeOf T).run P w = .ok z.size w)
    (hph : ∀ i v w w', (ph i).holds v w → KeepT T w w' → (ph i).holds v w') (hA : aheadOK ops = true) (hC : (Nat.beq k ops.size || closOK ops k) = true) (hF : farOK ops k = true) (hks : Nat.ble k ops.size = true)
    (hD : dstOK' n ops 0 k = true) (hbp : noPred base = true) (hbd : ∀ i ph, lk base i = some ph → ∀ (j : Nat) (o : Oper), 0 ≤ j → j < k → ops[j]? = some o → o.dst ≠ some i)
    (hlit : litOK ops ia [(is, 0, sv)] = true) (hik : is < k) (hiak : ia < k) (hne : ia ≠ is)
    (hia : ∃ ty ps af, ops[ia]? = some ⟨some sa, .alloc T, ty, ps, af, none⟩) (his : ∃ ty ps af, ops[is]? = some ⟨none, .store T (.tmp sa) (.tmp sv), ty, ps, af, none⟩)
    (hlk : ∀ o, ops[is]? = some o → lk (knp ops ph 0 o ++ base) sv = some (ph isv)) (hsv : ∀ v W, (ph isv).holds v W → ∃ cs, v = .agg cs ∧ cs.size = z.size ∧ cs.all (·.oneCell') = true)
    (hpa : ∀ B W, (ph ia).holds (.pointer (some ⟨B, 0, none⟩)) W)
    (hop : ∀ i o, i < k → i ≠ ia → i ≠ is → ops[i]? = some o → o.guard = none ∧ ∀ W, Up w W → ∀ a, Ag n ds (knp ops ph 0 o ++ base) a W → OpY P o a W (fun v W' => Up W W' ∧ (ph i).holds v W'))
    (hend : ∀ f W B, Up w W → f sa = .pointer (some ⟨B, 0, none⟩) → w.heap.size ≤ B → Blk W B (f sv).cells T → AWF R m P n ds ops Q k (allP ops ph 0 k ++ base) f W) : AWF R m P n ds ops Q 0 base f0 w := by
  obtain ⟨os, hos, hods, ⟨e, he, hbe, hon⟩, ⟨e', he', hbe', pv, hpv, hpvd⟩⟩ := litOK_at hlit List.mem_cons_self
  refine AWF.gen ph (KeepT T) (BInv ia is sa sv T z w) (KeepT.refl T) (fun _ _ _ => KeepT.trans) hph hA hC hF hks (by simp) hD hbp hbd ?_ ⟨Up.refl w, fun h => by simp at h, fun h => by simp at h⟩ ?_
  · intro i o _ hi hio L f W hRel hDn hLi hed hInv
    obtain ⟨hUp, hsa, hInv⟩ := hInv
    by_cases e0 : i = ia
    · subst e0
      obtain ⟨ty, ps, af, hia⟩ := hia
      rw [hio] at hia; cases hia
      intro a ha hsl
      rw [if_pos (by simp [Region.wanted])]
      obtain ⟨v, W', hr, B, rfl, N⟩ := REv.allocA (P := P) (n := n) (ds := ds) (l := knp ops ph 0 _ ++ base) (w := W) (d := some sa) (ty := ty) (ps := ps) (af := af) (g := none) hz a ha
      have hLs : L is = false := by
        cases h : L is with
        | false => rfl
        | true => rw [hsa h] at hLi; cases hLi
      refine .inl (.inl ⟨_, W', hr, N.up.keepT, fun _ _ => hpa B W', hUp.trans N.up, fun _ => by simp [setL], fun _ => ⟨B, by simp [setS], by rw [N.at_]; exact hUp.size, ?_⟩⟩)
      have : setL L i is = false := by simp [setL, Ne.symm hne, hLs]
      rw [this]
      exact N.blk
    · by_cases e1 : i = is
      · subst e1
        have hLa : L ia = true := by rw [hos] at hio; cases hio; rw [← hon]; exact hed e he hbe
        obtain ⟨ty, ps, af, his⟩ := his
        rw [hio] at his; cases his
        intro a ha hsl
        rw [if_pos (by simp [Region.wanted])]
        obtain ⟨B, h1, hB, hblk⟩ := hInv hLa
        rw [hLi] at hblk
        obtain ⟨cs, hcs, hcz, hc1⟩ := hsv _ W (ha.val sv _ (hlk _ hio))
        have hfs : f sv = .agg cs := by rw [← hsl]; exact hcs
        have hag : Ag n ds [(sv, .eq (.agg cs)), (sa, .eq (.pointer (some ⟨B, 0, none⟩)))] a W := by
          refine ⟨ha.defers, ha.size, fun t q ht => ?_⟩
          by_cases e1 : t = sv
          · subst e1; rw [lk_cons_eq] at ht; cases ht; exact hcs
          · rw [lk_cons_ne e1] at ht
            by_cases e2 : t = sa
            · subst e2; rw [lk_cons_eq] at ht; cases ht; exact (hsl _).trans h1
            · rw [lk_cons_ne e2] at ht; cases ht
        have hsn : sa ≠ sv := fun e' => by rw [e', hfs] at h1; cases h1
        obtain ⟨W', hr, hset⟩ := SEv.storeA (P := P) (n := n) (ds := ds) (w := W) (l := [(sv, .eq (.agg cs)), (sa, .eq (.pointer (some ⟨B, 0, none⟩)))]) (x := .tmp sa) (y := .tmp sv) (ty := ty) (ps := ps) (af := af) (g := none) hs hcz (.tmp (by rw [lk_cons_ne hsn, lk_cons_eq])) (.tmp lk_cons_eq) hc1 hblk (by simp) a hag
        refine .inr ⟨W', hr, hset.sto.keepT (by rw [hset.size]; exact Nat.le_refl _) hblk, (fun d hd => by cases hd), hUp.sto hset.sto hB, fun _ => by simp [setL, hLa], fun _ => ⟨B, h1, hB, ?_⟩⟩
        have h2 : setL L i i = true := by simp [setL]
        rw [h2, if_pos rfl]
        show Blk W' B (f sv).cells T
        rw [hfs]
        exact hset.blk
      · obtain ⟨hg, hop⟩ := hop i o hi e0 e1 hio
        intro a ha hsl
        rw [if_pos (by simp [Region.wanted, hg])]
        have done : ∀ v W', Up W W' ∧ (ph i).holds v W' → KeepT T W W' ∧ (∀ d, o.dst = some d → (ph i).holds v W') ∧ BInv ia is sa sv T z w (setL L i) (setS f o.dst v) W' := by
          rintro v W' ⟨hu, hv⟩
          have ela : setL L i ia = L ia := by simp [setL, Ne.symm e0]
          have els : setL L i is = L is := by simp [setL, Ne.symm e1]
          refine ⟨hu.keepT, fun _ _ => hv, hUp.trans hu, fun h => by rw [ela]; rw [els] at h; exact hsa h, fun hm => ?_⟩
          rw [ela] at hm
          obtain ⟨B, h1, hB, hblk⟩ := hInv hm
          have hn1 : o.dst ≠ some sa := by
            obtain ⟨ty, ps, af, hia⟩ := hia
            intro ed
            exact (dstOK'_at hD (Nat.zero_le _) hi hio ed).2 ia _ (Nat.zero_le _) hiak (Ne.symm e0) hia rfl
          refine ⟨B, by simpa [setS, hn1] using h1, hB, ?_⟩
          rw [els]
          cases hLs : L is with
          | false => rw [hLs] at hblk; exact hblk.up hu
          | true =>
            rw [hLs] at hblk
            have hn2 : o.dst ≠ some sv := by
              intro ed
              have h2 := hDn _ _ hos hLs e' he' hbe'
              have h3 := aheadOK_at hA hos e' he' hbe'
              by_cases ee : e'.on = i
              · rw [ee, hLi] at h2; cases h2
              · exact (dstOK'_at hD (Nat.zero_le _) hi hio ed).2 e'.on pv (Nat.zero_le _) (by have : e'.on < is := h3; omega) ee hpv hpvd
            have h4 : setS f o.dst v sv = f sv := by simp [setS, hn2]
            rw [h4]
            exact hblk.up hu
        rcases hop W hUp a ha with ⟨v, W', hr, hp⟩ | ⟨fn, args, w1, hr, hc⟩
        · exact .inl (.inl ⟨v, W', hr, done v W' hp⟩)
        · exact .inl (.inr ⟨fn, args, w1, hr, hc.mono done⟩)
  · intro f W hRel hInv
    obtain ⟨hUp, _, hInv⟩ := hInv
    obtain ⟨B, h1, hB, h2⟩ := hInv (by simpa using hiak)
    rw [if_pos (by simpa using hik)] at h2
    exact hend f W B hUp h1 hB h2
theorem CW.boxU {id : Nat} {opsL : List Oper} (k ia is isv sa sv : Nat) (z : Array Value) (phs : List Ph) (keep : List Nat) {T : TypeId} (hz : ∀ w, (zeroValue T).run P w = .ok (.agg z) w) (hs : ∀ w, (sizeOf T).run P w = .ok z.size w) (hm : P.follows .mixedOrders = true) (hl : noPred l = true)
    (hA : aheadOK opsL.toArray = true) (hC : (Nat.beq k opsL.toArray.size || closOK opsL.toArray k) = true) (hF : farOK opsL.toArray k = true) (hks : Nat.ble k opsL.toArray.size = true) (hD : dstOK' n opsL.toArray 0 k = true) (hlit : litOK opsL.toArray ia [(is, 0, sv)] = true) (hTl : tailOK opsL.toArray k = true)
    (hfree : freeOK l (opsL.take k) = true) (hidx : (Nat.ble (is + 1) k && (Nat.ble (ia + 1) k && !Nat.beq ia is)) = true)
    (hia : ∃ ty ps af, opsL[ia]? = some ⟨some sa, .alloc T, ty, ps, af, none⟩) (os : Oper) (hos : opsL[is]? = some os) (his : ∃ ty ps af, os = ⟨none, .store T (.tmp sa) (.tmp sv), ty, ps, af, none⟩) (hph : allT T phs)
    (hlk : lk (knp opsL.toArray (fun i => phs.getD i (.eq undef)) 0 os ++ l) sv = some (phs.getD isv (.eq undef))) (hsv : ∀ v W, (phs.getD isv (.eq undef)).holds v W → ∃ cs, v = .agg cs ∧ cs.size = z.size ∧ cs.all (·.oneCell') = true)
    (hpa : ∀ B W, (phs.getD ia (.eq undef)).holds (.pointer (some ⟨B, 0, none⟩)) W)
    (hop : ∀ W, Up w.drew W → allL (fun i o => (i = ia ∨ i = is) ∨ (o.guard = none ∧ TU P n ds (knp opsL.toArray (fun i => phs.getD i (.eq undef)) 0 o ++ l) W o (phs.getD i (.eq undef)))) 0 (opsL.take k))
    (hend : ∀ W B (g : Nat → Value), Up w.drew W → w.drew.heap.size ≤ B → Blk W B (g sv).cells T → (∀ i o d, i < k → opsL[i]? = some o → o.dst = some d → (phs.getD i (.eq undef)).holds (g d) W) → LW R m P n ds opsL.toArray Q (opsL.drop k) ((sa, .eq (.pointer (some ⟨B, 0, none⟩))) :: (keep.map (fun d => (d, .eq (g d))) ++ l)) W) :
    CW R m P n ds (.region id opsL.toArray true) Q l w := by
  simp only [Bool.and_eq_true] at hidx
  obtain ⟨hik, hiak, hne⟩ := hidx
  have hik : is < k := Nat.le_of_ble_eq_true hik
  have hiak : ia < k := Nat.le_of_ble_eq_true hiak
  have hne : ia ≠ is := fun e => by subst e; simp at hne
  have hks' : k ≤ opsL.length := by have := Nat.le_of_ble_eq_true hks; simp at this; omega
  have sub : ∀ j o, j < k → opsL.toArray[j]? = some o → (opsL.take k)[j]? = some o := fun j o hjk ho => by
    rw [List.getElem?_take_of_lt hjk]; simpa using ho
  have hbd : ∀ i ph, lk l i = some ph → ∀ (j : Nat) (o : Oper), 0 ≤ j → j < k → opsL.toArray[j]? = some o → o.dst ≠ some i := fun i ph hi j o _ hjk ho => freeOK_at hfree hi (List.mem_of_getElem? (sub j o hjk ho))
  refine CW.draws_up hm hl fun fuel listed a hf hu ha => ?_
  refine AWF.boxU (k := k) (ia := ia) (is := is) (isv := isv) (sa := sa) (sv := sv) (T := T) (z := z) (fun i => phs.getD i (.eq undef)) (f0 := fun t => a.tmps.getD t undef) hz hs (fun i v w w' h u => (hph.at i) v w w' h u) hA hC hF hks hD hl hbd hlit hik hiak hne (by simpa using hia) ?_ ?_ hsv hpa ?_ ?_ fuel listed a hf hu ha (fun _ => rfl)
  · obtain ⟨ty, ps, af, e⟩ := his
    exact ⟨ty, ps, af, by rw [← e]; simpa using hos⟩
  · intro o ho
    have : opsL[is]? = some o := by simpa using ho
    rw [hos] at this; cases this
    exact hlk
  · intro i o hi h1 h2 ho
    have h0 := (hop w.drew (Up.refl _)).at (sub i o hi ho)
    rw [Nat.zero_add] at h0
    rcases h0 with (e | e) | ⟨hg, _⟩
    · exact absurd e h1
    · exact absurd e h2
    · refine ⟨hg, fun W hW a ha => ?_⟩
      have h3 := (hop W hW).at (sub i o hi ho)
      rw [Nat.zero_add] at h3
      rcases h3 with (e | e) | ⟨_, h⟩
      · exact absurd e h1
      · exact absurd e h2
      · exact h a ha
  · intro f W B hUp hfa hB hblk fuel' listed' a' hf' hu' ha' hsl'
    have key : ∀ i o d, i < k → opsL[i]? = some o → o.dst = some d → (phs.getD i (.eq undef)).holds (f d) W := by
      intro i o d hik ho hd
      have ho' : opsL.toArray[i]? = some o := by simpa using ho
      have hmem : (d, phs.getD i (.eq undef)) ∈ allP opsL.toArray (fun i => phs.getD i (.eq undef)) 0 k := by
        unfold allP
        rw [List.mem_filterMap]
        exact ⟨i, List.mem_range.2 hik, by rw [if_pos (by simp), ho']; simp [hd]⟩
      obtain ⟨q', hq⟩ := lk_of_mem hmem
      obtain ⟨j, p, _, hjk, hp, hpd, e⟩ := allP_at hq
      have : j = i := by
        by_cases ee : j = i
        · exact ee
        · exact absurd hpd ((dstOK'_at hD (Nat.zero_le _) hik ho' hd).2 j p (Nat.zero_le _) hjk ee hp)
      subst this
      have := ha'.val d q' (lk_left hq)
      rw [hsl', e] at this
      exact this
    refine tail_order hTl hA (opsL.toArray.size - k) k fuel' listed' a' W rfl (by simp; omega) (Nat.le_refl _) hf' hu' ?_
    refine hend W B f hUp hB hblk key a' ⟨ha'.defers, ha'.size, fun t q ht => ?_⟩
    by_cases e : t = sa
    · subst e; rw [lk_cons_eq] at ht; cases ht
      exact (hsl' _).trans hfa
    · rw [lk_cons_ne e] at ht
      rcases lk_append ht with h | h
      · obtain ⟨d, _, he⟩ := List.mem_map.1 (lk_mem h)
        cases he
        exact hsl' _
      · refine ha'.val t q ?_
        rw [lk_right]
        · exact h
        · cases hq : lk (allP opsL.toArray (fun i => phs.getD i (.eq undef)) 0 k) t with
          | none => rfl
          | some q' =>
            obtain ⟨j, p, _, hjk, hp, hpd, _⟩ := allP_at hq
            exact absurd hpd (hbd t q h j p (Nat.zero_le _) hjk hp)
end
end Go.Wx
end
section
namespace Go.Wx
open Go.RowKit
section
variable {P : Program} {n : Nat} {ds : List Deferred} {l : Env} {w : World} {d : Option Tmp} {ty : TypeId} {ps : String} {af : Array Edge} {g : Option (Nat × Bool)}
theorem PEv.sliceFrom {T e : TypeId} {x lo : Operand} {ad : Option Addr} {k m cap j : Nat} (hT : P.underlying T = some (.slice e)) (hs : ∀ w, (sizeOf e).run P w = .ok k w) (hx : Val l x (.slice ad m cap)) (hl : Val l lo (.int .i64 (j : Int))) (hj : j ≤ m) :
    PEv P n ds l w ⟨d, .slice T x (some lo) none none, ty, ps, af, g⟩ (.slice (if cap = j then ad else ad.map (·.add (j * k))) (m - j) (cap - j)) := fun a w' ha _ => by
  refine run_v ?_
  rw [ha.ev hx]
  simp only [Option.map_none, Option.map_some, ha.ev hl]
  simp [Instr.sliceAt, Instr.slice, Instr.sliceBounds, Instr.sliceBound, asIntOf, run_underlying hT, Result.andThen, hs, hj]
theorem Els.take {α : Type} {enc : α → Array Value} {ad : Option Addr} {k j : Nat} {xs : List α} (h : Els w ad k enc xs) : Els w ad k enc (xs.take j) := fun i x hx => by
  rw [List.getElem?_take] at hx
  split at hx
  · exact h i x hx
  · cases hx
end
end Go.Wx
end
section
namespace Go.Wx
open Go.RowKit
theorem OwnS.adr {α : Type} {enc : α → Array Value} {b k n cp : Nat} {e : TypeId} {w : World} {ad : Option Addr} {xs : List α} (h : OwnS w b e k enc (.slice ad n cp) xs) (hne : 0 < xs.length) : ∃ g, ad = some ⟨g, 0, none⟩ := by
  obtain ⟨_, ⟨e1, e2⟩ | ⟨g, cap, cur, e1, _⟩⟩ := h
  · omega
  · cases e1; exact ⟨g, rfl⟩
end Go.Wx
end
section
namespace Go.Wx
open Go.RowKit
theorem BaseC.setResets {w : World} {bc : Array Go.Value} {b : Base} {v : Value} {xs : List Fact} (h : BaseC w bc b) (hv : Sl w v 19 Fact.cells xs) : BaseC w (bc.setIfInBounds 8 v) { b with Resets := xs } := by
  obtain ⟨v0, v1, v2, v3, v4, v5, v6, v7, v8, v9, v10, e, h0, h1, h2, h3, h4, h5, h6, h7, h8, h9, h10⟩ := h
  subst e
  exact ⟨v0, v1, v2, v3, v4, v5, v6, v7, v, v9, v10, rfl, h0, h1, h2, h3, h4, h5, h6, h7, hv, h9, h10⟩
theorem BaseC.no {w : World} {bc : Array Go.Value} {b : Base} (h : BaseC w bc b) (i : Nat) (n : Int) : bc[i]? ≠ some (vi n) := by
  obtain ⟨v0, v1, v2, v3, v4, v5, v6, v7, v8, v9, v10, e, h0, h1, h2, h3, h4, h5, h6, h7, h8, h9, h10⟩ := h
  obtain ⟨a0, c0, rfl, _⟩ := h0
  obtain ⟨a1, c1, rfl, _⟩ := h1
  obtain ⟨a2, c2, rfl, _⟩ := h2
  obtain ⟨a3, c3, rfl, _⟩ := h3
  obtain ⟨a4, c4, rfl, _⟩ := h4
  obtain ⟨a5, c5, rfl, _⟩ := h5
  obtain ⟨a6, c6, rfl, _⟩ := h6
  obtain ⟨a7, c7, rfl, _⟩ := h7
  obtain ⟨a8, c8, rfl, _⟩ := h8
  obtain ⟨a9, c9, rfl, _⟩ := h9
  obtain ⟨a10, c10, rfl, _⟩ := h10
  subst e
  match i with
  | 0 | 1 | 2 | 3 | 4 | 5 | 6 | 7 | 8 | 9 | 10 => intro h; cases h
  | k + 11 => intro h; rw [Array.getElem?_eq_none (by simp)] at h; cases h
theorem OwnS.rebase {α : Type} {enc : α → Array Value} {b e k : Nat} {w : World} {v : Value} {xs : List α} (h : OwnS w 0 e k enc v xs) (hb : ∀ i, (aOwn e k enc v xs).foot i → b ≤ i) : OwnS w b e k enc v xs := by
  obtain ⟨h1, h2⟩ := h
  refine ⟨h1, ?_⟩
  rcases h2 with h2 | ⟨g, cap, cur, e, _, rest⟩
  · exact .inl h2
  · exact .inr ⟨g, cap, cur, e, hb g (by rw [e]; rfl), rest⟩
end Go.Wx
end
section
namespace Go.Wx
end Go.Wx
namespace Go.Proofs.YtgffaeachbbjoaaDoor
open Go.Wx Go.RowKit
end Go.Proofs.YtgffaeachbbjoaaDoor
namespace Go.Wx
end Go.Wx
namespace Go.Proofs.YtgffaeachbbjoaaDoor
open Go.Wx Go.RowKit
end Go.Proofs.YtgffaeachbbjoaaDoor
namespace Go.Proofs
open Go.Wx Go.RowKit
end Go.Proofs
namespace Go.Wx
def fact0 (k v d : Int) (g : Bool) : Fact := ⟨k, 0, v, d, g, 0, 0, 0, 0, 0, 0, 0, 0, 0, 0, 0, 0, 0, ByteArray.empty⟩
end Go.Wx
namespace Go.Proofs.YtgffaeachbbjoaaDoor
open Go.Wx Go.RowKit
end Go.Proofs.YtgffaeachbbjoaaDoor
namespace Go.Wx
end Go.Wx
namespace Go.Proofs.YtgffaeachbbjoaaDoor
open Go.Wx Go.RowKit
end Go.Proofs.YtgffaeachbbjoaaDoor
end
section
namespace Go.Wx
theorem PEv.val {P : Program} {n : Nat} {ds : List Deferred} {l : Env} {w : World} {o : Oper} {v v' : Go.Value} (h : PEv P n ds l w o v) (e : v = v') : PEv P n ds l w o v' := e ▸ h
end Go.Wx
namespace Go.Proofs.YtgffaeachbbjoaaDoor
open Go.Wx Go.RowKit
end Go.Proofs.YtgffaeachbbjoaaDoor
namespace Go.Wx
end Go.Wx
namespace Go.Proofs.YtgffaeachbbjoaaDoor
open Go.Wx Go.RowKit
end Go.Proofs.YtgffaeachbbjoaaDoor
namespace Go.Wx
end Go.Wx
namespace Go.Proofs.YtgffaeachbbjoaaDoor
open Go.Wx Go.RowKit
end Go.Proofs.YtgffaeachbbjoaaDoor
namespace Go.Proofs.YtgffaeachbbjoaaDoor
open Go.Wx Go.RowKit
end Go.Proofs.YtgffaeachbbjoaaDoor
namespace Go.Wx
end Go.Wx
namespace Go.Proofs.YtgffaeachbbjoaaDoor
open Go.Wx Go.RowKit
end Go.Proofs.YtgffaeachbbjoaaDoor
namespace Go.Wx
end Go.Wx
namespace Go.Proofs.YtgffaeachbbjoaaDoor
open Go.Wx Go.RowKit
end Go.Proofs.YtgffaeachbbjoaaDoor
namespace Go.Wx
end Go.Wx
namespace Go.Proofs.YtgffaeachbbjoaaDoor
open Go.Wx Go.RowKit
end Go.Proofs.YtgffaeachbbjoaaDoor
end
section
namespace Go.Wx
open Go.RowKit
theorem dst_of {d d' : Nat} {p q : Op} {t t' : TypeId} {s s' : String} {a a' : Array Edge} {g g' : Option (Nat × Bool)} (h : some (⟨some d, p, t, s, a, g⟩ : Oper) = some ⟨some d', q, t', s', a', g'⟩) : d = d' := by
  injection h with h
  injection h with h
  injection h
theorem sv_of {d d' : Option Nat} {x x' : Operand} {y y' : Nat} {T T' t t' : TypeId} {s s' : String} {a a' : Array Edge} {g g' : Option (Nat × Bool)} (h : some (⟨d, .store T x (.tmp y), t, s, a, g⟩ : Oper) = some ⟨d', .store T' x' (.tmp y'), t', s', a', g'⟩) : y = y' := by
  injection h with h
  injection h with _ h
  injection h with _ _ h
  injection h
structure Bv where
  ia : Nat
  is : Nat
  isv : Nat
  sa : Nat
  sv : Nat
def ptrAt (v : Value) (B : Nat) : Prop := v = .pointer (some ⟨B, 0, none⟩)
section
variable {R : Option Nat} {m : Nat} {P : Program} {n : Nat} {ds : List Deferred} {Q : Exit → Go.Act → World → Prop} {l : Env} {w : World} {ops : Array Oper}
def VInv (bs : List Bv) (T : TypeId) (z : Array Value) (w0 : World) (L : Nat → Bool) (f : Nat → Value) (W : World) : Prop :=
  Up w0 W ∧ (∀ b ∈ bs, (L b.is = true → L b.ia = true) ∧ (L b.ia = true → ∃ B, ptrAt (f b.sa) B ∧ w0.heap.size ≤ B ∧ Blk W B (if L b.is = true then (f b.sv).cells else z) T)) ∧
    bs.Pairwise fun b c => L b.ia = true → L c.ia = true → ∀ B, ptrAt (f b.sa) B → ¬ ptrAt (f c.sa) B
def varsOK (bs : List Bv) : Bool := bs.all fun b => bs.all fun c => (!Nat.beq b.ia c.is) && ((Nat.beq b.ia c.ia && Nat.beq b.is c.is) || (!Nat.beq b.ia c.ia && !Nat.beq b.is c.is && !Nat.beq b.sa c.sa))
theorem varsOK_at {bs : List Bv} (h : varsOK bs = true) {b c : Bv} (hb : b ∈ bs) (hc : c ∈ bs) : b.ia ≠ c.is ∧ ((b.ia = c.ia ∧ b.is = c.is) ∨ (b.ia ≠ c.ia ∧ b.is ≠ c.is ∧ b.sa ≠ c.sa)) := by
  have h1 := List.all_eq_true.1 (List.all_eq_true.1 h b hb) c hc
  simp only [Bool.and_eq_true, Bool.or_eq_true, Bool.not_eq_true'] at h1
  refine ⟨fun e => ?_, ?_⟩
  · have := h1.1; rw [e] at this; simp at this
  · rcases h1.2 with ⟨a, b⟩ | ⟨⟨a, b⟩, c⟩
    · exact .inl ⟨Nat.eq_of_beq_eq_true a, Nat.eq_of_beq_eq_true b⟩
    · exact .inr ⟨fun e => by rw [e] at a; simp at a, fun e => by rw [e] at b; simp at b, fun e => by rw [e] at c; simp at c⟩
theorem AWF.vars {k : Nat} {bs : List Bv} {T : TypeId} {z : Array Value} {base : Env} (ph : Nat → Ph) {f0 : Nat → Value} (hz : ∀ w, (zeroValue T).run P w = .ok (.agg z) w) (hs : ∀ w, (sizeOf T).run P w = .ok z.size w)
    (hph : ∀ i v w w', (ph i).holds v w → KeepT T w w' → (ph i).holds v w') (hA : aheadOK ops = true) (hC : (Nat.beq k ops.size || closOK ops k) = true) (hF : farOK ops k = true) (hks : Nat.ble k ops.size = true)
    (hD : dstOK' n ops 0 k = true) (hbp : noPred base = true) (hbd : ∀ i ph, lk base i = some ph → ∀ (j : Nat) (o : Oper), 0 ≤ j → j < k → ops[j]? = some o → o.dst ≠ some i) (hv : varsOK bs = true) (hnd : bs.Pairwise fun b c => b.ia ≠ c.ia)
    (hlit : ∀ b ∈ bs, litOK ops b.ia [(b.is, 0, b.sv)] = true) (hk : ∀ b ∈ bs, b.is < k ∧ b.ia < k)
    (hia : ∀ b ∈ bs, ∃ ty ps af, ops[b.ia]? = some ⟨some b.sa, .alloc T, ty, ps, af, none⟩) (his : ∀ b ∈ bs, ∃ ty ps af, ops[b.is]? = some ⟨none, .store T (.tmp b.sa) (.tmp b.sv), ty, ps, af, none⟩)
    (hlk : ∀ b ∈ bs, ∀ o, ops[b.is]? = some o → lk (knp ops ph 0 o ++ base) b.sv = some (ph b.isv)) (hsv : ∀ b ∈ bs, ∀ v W, (ph b.isv).holds v W → ∃ cs, v = .agg cs ∧ cs.size = z.size ∧ cs.all (·.oneCell') = true)
    (hpa : ∀ b ∈ bs, ∀ B W, (ph b.ia).holds (.pointer (some ⟨B, 0, none⟩)) W)
    (hop : ∀ i o, i < k → (∀ b ∈ bs, i ≠ b.ia ∧ i ≠ b.is) → ops[i]? = some o → o.guard = none ∧ ∀ W, KeepT T w W → ∀ a, Ag n ds (knp ops ph 0 o ++ base) a W → OpY P o a W (fun v W' => Up W W' ∧ (ph i).holds v W'))
    (hend : ∀ f W, Up w W → (∀ b ∈ bs, ∃ B, ptrAt (f b.sa) B ∧ w.heap.size ≤ B ∧ Blk W B (f b.sv).cells T) → (bs.Pairwise fun b c => ∀ B, ptrAt (f b.sa) B → ¬ ptrAt (f c.sa) B) → AWF R m P n ds ops Q k (allP ops ph 0 k ++ base) f W) : AWF R m P n ds ops Q 0 base f0 w := by
  have ptr1 : ∀ {v : Value} {B B' : Nat}, ptrAt v B → ptrAt v B' → B = B' := fun h1 h2 => by unfold ptrAt at h1 h2; rw [h1] at h2; cases h2; rfl
  refine AWF.gen ph (KeepT T) (VInv bs T z w) (KeepT.refl T) (fun _ _ _ => KeepT.trans) hph hA hC hF hks (by simp) hD hbp hbd ?_ ⟨Up.refl w, fun b hb => ⟨fun h => by simp at h, fun h => by simp at h⟩, List.pairwise_iff_forall_sublist.2 fun _ h => by simp at h⟩ ?_
  · intro i o _ hi hio L f W hRel hDn hLi hed hInv
    obtain ⟨hUp, hB, hP⟩ := hInv
    -- slots of addresses are written by their allocs alone
    have saOf : ∀ c ∈ bs, c.ia ≠ i → o.dst ≠ some c.sa := fun c hc hne ed => by
      obtain ⟨ty, ps, af, h⟩ := hia c hc
      exact (dstOK'_at hD (Nat.zero_le _) hi hio ed).2 c.ia _ (Nat.zero_le _) (hk c hc).2 hne h rfl
    have svOf : ∀ c ∈ bs, L c.is = true → o.dst ≠ some c.sv := fun c hc hLs ed => by
      obtain ⟨os, hos, hods, ⟨e, he, hbe, hon⟩, ⟨e', he', hbe', pv, hpv, hpvd⟩⟩ := litOK_at (hlit c hc) List.mem_cons_self
      have h2 := hDn _ _ hos hLs e' he' hbe'
      have h3 := aheadOK_at hA hos e' he' hbe'
      have h4 := (hk c hc).1
      by_cases ee : e'.on = i
      · rw [ee, hLi] at h2; cases h2
      · exact (dstOK'_at hD (Nat.zero_le _) hi hio ed).2 e'.on pv (Nat.zero_le _) (by have h3' : e'.on < c.is := h3; omega) ee hpv hpvd
    by_cases e0 : ∃ b ∈ bs, i = b.ia
    · obtain ⟨b, hb, rfl⟩ := e0
      obtain ⟨ty, ps, af, hia0⟩ := hia b hb
      rw [hio] at hia0; cases hia0
      intro a ha hsl
      rw [if_pos (by simp [Region.wanted])]
      obtain ⟨v, W', hr, B, rfl, N⟩ := REv.allocA (P := P) (n := n) (ds := ds) (l := knp ops ph 0 _ ++ base) (w := W) (d := some b.sa) (ty := ty) (ps := ps) (af := af) (g := none) hz a ha
      have hLs : L b.is = false := by
        cases h : L b.is with
        | false => rfl
        | true => rw [(hB b hb).1 h] at hLi; cases hLi
      have ne : ∀ c ∈ bs, c.is ≠ b.ia := fun c hc => Ne.symm (varsOK_at hv hb hc).1
      have old : ∀ c ∈ bs, c.ia ≠ b.ia → setL L b.ia c.ia = L c.ia ∧ setS f (some b.sa) (.pointer (some ⟨B, 0, none⟩)) c.sa = f c.sa := fun c hc hne => by
        have h1 : b.sa ≠ c.sa := by
          rcases (varsOK_at hv hb hc).2 with ⟨h, _⟩ | ⟨_, _, h⟩
          · exact absurd h.symm hne
          · exact h
        exact ⟨by simp [setL, hne], by simp [setS, h1]⟩
      refine .inl (.inl ⟨_, W', hr, N.up.keepT, fun _ _ => hpa b hb B W', hUp.trans N.up, fun c hc => ?_, ?_⟩)
      · have ns : setL L b.ia c.is = L c.is := by simp [setL, ne c hc]
        by_cases hcb : c.ia = b.ia
        · have hsa : c.sa = b.sa := by
            obtain ⟨_, _, _, h⟩ := hia c hc
            rw [hcb, hio] at h; exact (dst_of h).symm
          have his' : c.is = b.is := by
            rcases (varsOK_at hv hc hb).2 with ⟨_, h⟩ | ⟨h, _⟩
            · exact h
            · exact absurd hcb h
          refine ⟨fun _ => by rw [hcb]; simp [setL], fun _ => ⟨B, by rw [hsa]; simp [ptrAt, setS], by rw [N.at_]; exact hUp.size, ?_⟩⟩
          rw [ns, his', hLs]
          exact N.blk
        · obtain ⟨o1, o2⟩ := old c hc hcb
          refine ⟨fun h => by rw [o1]; rw [ns] at h; exact (hB c hc).1 h, fun h => ?_⟩
          rw [o1] at h
          obtain ⟨B', h1, h2, h3⟩ := (hB c hc).2 h
          refine ⟨B', by rw [o2]; exact h1, h2, ?_⟩
          rw [ns]
          cases hLc : L c.is with
          | false => rw [hLc] at h3; exact h3.up N.up
          | true =>
            rw [hLc] at h3
            have h4 : setS f (some b.sa) (.pointer (some ⟨B, 0, none⟩)) c.sv = f c.sv := by
              have h5 := svOf c hc hLc
              have h6 : b.sa ≠ c.sv := fun e => h5 (by rw [e])
              simp [setS, h6]
            rw [h4]
            exact h3.up N.up
      · refine List.Pairwise.imp_of_mem ?_ (hnd.and hP)
        rintro c c' hc hc' ⟨hne, hp⟩ h1 h2 X hx hx'
        by_cases ec : c.ia = b.ia
        · have ec' : c'.ia ≠ b.ia := fun e => hne (ec.trans e.symm)
          obtain ⟨q1, q2⟩ := old c' hc' ec'
          rw [q1] at h2; rw [q2] at hx'
          obtain ⟨B', h3, _, h5⟩ := (hB c' hc').2 h2
          have hsa : c.sa = b.sa := by
            obtain ⟨_, _, _, h⟩ := hia c hc
            rw [ec, hio] at h; exact (dst_of h).symm
          have hxB : X = B := ptr1 hx (by rw [hsa]; simp [ptrAt, setS])
          have := ptr1 hx' h3
          have h6 := h5.lt
          rw [N.at_] at hxB
          omega
        · obtain ⟨q1, q2⟩ := old c hc ec
          rw [q1] at h1; rw [q2] at hx
          by_cases ec' : c'.ia = b.ia
          · obtain ⟨B', h3, _, h5⟩ := (hB c hc).2 h1
            have hsa : c'.sa = b.sa := by
              obtain ⟨_, _, _, h⟩ := hia c' hc'
              rw [ec', hio] at h; exact (dst_of h).symm
            have hxB : X = B := ptr1 hx' (by rw [hsa]; simp [ptrAt, setS])
            have := ptr1 hx h3
            have h6 := h5.lt
            rw [N.at_] at hxB
            omega
          · obtain ⟨q1', q2'⟩ := old c' hc' ec'
            rw [q1'] at h2; rw [q2'] at hx'
            exact hp h1 h2 X hx hx'
    · have e0' : ∀ b ∈ bs, b.ia ≠ i := fun b hb e => e0 ⟨b, hb, e.symm⟩
      by_cases e1 : ∃ b ∈ bs, i = b.is
      · obtain ⟨b, hb, rfl⟩ := e1
        obtain ⟨os, hos, hods, ⟨e, he, hbe, hon⟩, _⟩ := litOK_at (hlit b hb) List.mem_cons_self
        have hLa : L b.ia = true := by rw [hos] at hio; cases hio; rw [← hon]; exact hed e he hbe
        obtain ⟨ty, ps, af, his0⟩ := his b hb
        rw [hio] at his0; cases his0
        intro a ha hsl
        rw [if_pos (by simp [Region.wanted])]
        obtain ⟨B, h1, hBs, hblk⟩ := (hB b hb).2 hLa
        rw [hLi] at hblk
        obtain ⟨cs, hcs, hcz, hc1⟩ := hsv b hb _ W (ha.val b.sv _ (hlk b hb _ hio))
        have hfs : f b.sv = .agg cs := by rw [← hsl]; exact hcs
        have hsn : b.sa ≠ b.sv := fun e' => by unfold ptrAt at h1; rw [e', hfs] at h1; cases h1
        have hag : Ag n ds [(b.sv, .eq (.agg cs)), (b.sa, .eq (.pointer (some ⟨B, 0, none⟩)))] a W := by
          refine ⟨ha.defers, ha.size, fun t q ht => ?_⟩
          by_cases e1 : t = b.sv
          · subst e1; rw [lk_cons_eq] at ht; cases ht; exact hcs
          · rw [lk_cons_ne e1] at ht
            by_cases e2 : t = b.sa
            · subst e2; rw [lk_cons_eq] at ht; cases ht; exact (hsl _).trans h1
            · rw [lk_cons_ne e2] at ht; cases ht
        obtain ⟨W', hr, hset⟩ := SEv.storeA (P := P) (n := n) (ds := ds) (w := W) (l := [(b.sv, .eq (.agg cs)), (b.sa, .eq (.pointer (some ⟨B, 0, none⟩)))]) (x := .tmp b.sa) (y := .tmp b.sv) (ty := ty) (ps := ps) (af := af) (g := none) hs hcz (.tmp (by rw [lk_cons_ne hsn, lk_cons_eq])) (.tmp lk_cons_eq) hc1 hblk (by simp) a hag
        have na : ∀ c ∈ bs, setL L b.is c.ia = L c.ia := fun c hc => by
          have := (varsOK_at hv hc hb).1
          simp [setL, this]
        refine .inr ⟨W', hr, hset.sto.keepT (by rw [hset.size]; exact Nat.le_refl _) hblk, (fun d hd => by cases hd), hUp.sto hset.sto hBs, fun c hc => ?_, ?_⟩
        · by_cases hcb : c.is = b.is
          · have hca : c.ia = b.ia ∧ c.sa = b.sa := by
              rcases (varsOK_at hv hc hb).2 with ⟨h, _⟩ | ⟨_, h, _⟩
              · refine ⟨h, ?_⟩
                obtain ⟨_, _, _, h1⟩ := hia c hc
                obtain ⟨_, _, _, h2⟩ := hia b hb
                rw [h, h2] at h1; exact (dst_of h1).symm
              · exact absurd hcb h
            have hcv : c.sv = b.sv := by
              obtain ⟨_, _, _, h1⟩ := his c hc
              rw [hcb, hio] at h1; exact (sv_of h1).symm
            refine ⟨fun _ => by rw [na c hc, hca.1]; exact hLa, fun _ => ⟨B, by rw [hca.2]; exact h1, hBs, ?_⟩⟩
            have h2 : setL L b.is c.is = true := by simp [setL, hcb]
            rw [h2, if_pos rfl, hcv]
            show Blk W' B (f b.sv).cells T
            rw [hfs]
            exact hset.blk
          · have ns : setL L b.is c.is = L c.is := by simp [setL, hcb]
            refine ⟨fun h => by rw [na c hc]; rw [ns] at h; exact (hB c hc).1 h, fun h => ?_⟩
            rw [na c hc] at h
            obtain ⟨B', h3, h4, h5⟩ := (hB c hc).2 h
            have hne : B' ≠ B := by
              have hcne : c ≠ b := fun e => hcb (by rw [e])
              intro e
              subst e
              rcases List.mem_iff_getElem.1 hc with ⟨ic, hic, ec⟩
              rcases List.mem_iff_getElem.1 hb with ⟨ib, hib, eb⟩
              rcases Nat.lt_trichotomy ic ib with q | q | q
              · have := List.pairwise_iff_getElem.1 hP ic ib hic hib q
                rw [ec, eb] at this
                exact this h hLa B' h3 h1
              · subst q; exact hcne (ec.symm.trans eb)
              · have := List.pairwise_iff_getElem.1 hP ib ic hib hic q
                rw [ec, eb] at this
                exact this hLa h B' h1 h3
            refine ⟨B', h3, h4, ?_⟩
            rw [ns]
            exact h5.sto hset.sto hne
        · refine List.Pairwise.imp_of_mem ?_ hP
          intro c c' hc hc' hp h1 h2 X hx hx'
          rw [na c hc] at h1
          rw [na c' hc'] at h2
          exact hp h1 h2 X hx hx'
      · have e1' : ∀ b ∈ bs, b.is ≠ i := fun b hb e => e1 ⟨b, hb, e.symm⟩
        obtain ⟨hg, hop⟩ := hop i o hi (fun b hb => ⟨Ne.symm (e0' b hb), Ne.symm (e1' b hb)⟩) hio
        intro a ha hsl
        rw [if_pos (by simp [Region.wanted, hg])]
        have done : ∀ v W', Up W W' ∧ (ph i).holds v W' → KeepT T W W' ∧ (∀ d, o.dst = some d → (ph i).holds v W') ∧ VInv bs T z w (setL L i) (setS f o.dst v) W' := by
          rintro v W' ⟨hu, hv'⟩
          have ela : ∀ c ∈ bs, setL L i c.ia = L c.ia := fun c hc => by simp [setL, e0' c hc]
          have els : ∀ c ∈ bs, setL L i c.is = L c.is := fun c hc => by simp [setL, e1' c hc]
          have esa : ∀ c ∈ bs, setS f o.dst v c.sa = f c.sa := fun c hc => by simp [setS, saOf c hc (e0' c hc)]
          refine ⟨hu.keepT, fun _ _ => hv', hUp.trans hu, fun c hc => ⟨fun h => by rw [ela c hc]; rw [els c hc] at h; exact (hB c hc).1 h, fun h => ?_⟩, ?_⟩
          · rw [ela c hc] at h
            obtain ⟨B, h1, h2, h3⟩ := (hB c hc).2 h
            refine ⟨B, by rw [esa c hc]; exact h1, h2, ?_⟩
            rw [els c hc]
            cases hLc : L c.is with
            | false => rw [hLc] at h3; exact h3.up hu
            | true =>
              rw [hLc] at h3
              have h4 : setS f o.dst v c.sv = f c.sv := by simp [setS, svOf c hc hLc]
              rw [h4]
              exact h3.up hu
          · refine List.Pairwise.imp_of_mem ?_ hP
            intro c c' hc hc' hp h1 h2 X hx hx'
            rw [ela c hc] at h1; rw [ela c' hc'] at h2
            rw [esa c hc] at hx; rw [esa c' hc'] at hx'
            exact hp h1 h2 X hx hx'
        rcases hop W hRel a ha with ⟨v, W', hr, hp⟩ | ⟨fn, args, w1, hr, hc⟩
        · exact .inl (.inl ⟨v, W', hr, done v W' hp⟩)
        · exact .inl (.inr ⟨fn, args, w1, hr, hc.mono done⟩)
  · intro f W hRel hInv
    obtain ⟨hUp, hB, hP⟩ := hInv
    refine hend f W hUp (fun b hb => ?_) ?_
    · obtain ⟨B, h1, h2, h3⟩ := (hB b hb).2 (by simpa using (hk b hb).2)
      rw [if_pos (by simpa using (hk b hb).1)] at h3
      exact ⟨B, h1, h2, h3⟩
    · refine List.Pairwise.imp_of_mem ?_ hP
      intro c c' hc hc' hp X hx hx'
      exact hp (by simpa using (hk c hc).2) (by simpa using (hk c' hc').2) X hx hx'
theorem CW.vars {id : Nat} {opsL : List Oper} (k : Nat) (bs : List Bv) (z : Array Value) (phs : List Ph) (keep : List Nat) {T : TypeId} (hz : ∀ w, (zeroValue T).run P w = .ok (.agg z) w) (hs : ∀ w, (sizeOf T).run P w = .ok z.size w) (hm : P.follows .mixedOrders = true) (hl : noPred l = true)
    (hA : aheadOK opsL.toArray = true) (hC : (Nat.beq k opsL.toArray.size || closOK opsL.toArray k) = true) (hF : farOK opsL.toArray k = true) (hks : Nat.ble k opsL.toArray.size = true) (hD : dstOK' n opsL.toArray 0 k = true) (hTl : tailOK opsL.toArray k = true)
    (hfree : freeOK l (opsL.take k) = true) (hv : varsOK bs = true) (hnd : (bs.map (·.ia)).Nodup) (hlit : (bs.all fun b => litOK opsL.toArray b.ia [(b.is, 0, b.sv)]) = true) (hk : (bs.all fun b => Nat.ble (b.is + 1) k && Nat.ble (b.ia + 1) k) = true)
    (hia : ∀ b ∈ bs, ∃ ty ps af, opsL[b.ia]? = some ⟨some b.sa, .alloc T, ty, ps, af, none⟩) (his : ∀ b ∈ bs, ∃ ty ps af, opsL[b.is]? = some ⟨none, .store T (.tmp b.sa) (.tmp b.sv), ty, ps, af, none⟩) (hph : allT T phs)
    (hlk : ∀ b ∈ bs, ∀ o, opsL[b.is]? = some o → lk (knp opsL.toArray (fun i => phs.getD i (.eq undef)) 0 o ++ l) b.sv = some (phs.getD b.isv (.eq undef))) (hsv : ∀ b ∈ bs, ∀ v W, (phs.getD b.isv (.eq undef)).holds v W → ∃ cs, v = .agg cs ∧ cs.size = z.size ∧ cs.all (·.oneCell') = true)
    (hpa : ∀ b ∈ bs, ∀ B W, (phs.getD b.ia (.eq undef)).holds (.pointer (some ⟨B, 0, none⟩)) W)
    (hop : ∀ W, KeepT T w.drew W → allL (fun i o => (∃ b ∈ bs, i = b.ia ∨ i = b.is) ∨ (o.guard = none ∧ TU P n ds (knp opsL.toArray (fun i => phs.getD i (.eq undef)) 0 o ++ l) W o (phs.getD i (.eq undef)))) 0 (opsL.take k))
    (hend : ∀ W (g : Nat → Value), Up w.drew W → (∀ b ∈ bs, ∃ B, ptrAt (g b.sa) B ∧ w.drew.heap.size ≤ B ∧ Blk W B (g b.sv).cells T) → (bs.Pairwise fun b c => ∀ B, ptrAt (g b.sa) B → ¬ ptrAt (g c.sa) B) → (∀ i o d, i < k → opsL[i]? = some o → o.dst = some d → (phs.getD i (.eq undef)).holds (g d) W) → LW R m P n ds opsL.toArray Q (opsL.drop k) (keep.map (fun d => (d, .eq (g d))) ++ l) W) :
    CW R m P n ds (.region id opsL.toArray true) Q l w := by
  have hks' : k ≤ opsL.length := by have := Nat.le_of_ble_eq_true hks; simp at this; omega
  have sub : ∀ j o, j < k → opsL.toArray[j]? = some o → (opsL.take k)[j]? = some o := fun j o hjk ho => by
    rw [List.getElem?_take_of_lt hjk]; simpa using ho
  have hbd : ∀ i ph, lk l i = some ph → ∀ (j : Nat) (o : Oper), 0 ≤ j → j < k → opsL.toArray[j]? = some o → o.dst ≠ some i := fun i ph hi j o _ hjk ho => freeOK_at hfree hi (List.mem_of_getElem? (sub j o hjk ho))
  have toL : ∀ (i : Nat) (o : Oper), opsL.toArray[i]? = some o → opsL[i]? = some o := fun i o h => by simpa using h
  refine CW.draws_up hm hl fun fuel listed a hf hu ha => ?_
  refine AWF.vars (k := k) (bs := bs) (T := T) (z := z) (fun i => phs.getD i (.eq undef)) (f0 := fun t => a.tmps.getD t undef) hz hs (fun i v w w' h u => (hph.at i) v w w' h u) hA hC hF hks hD hl hbd hv (List.pairwise_map.1 hnd) (fun b hb => List.all_eq_true.1 hlit b hb) ?_ ?_ ?_ (fun b hb o ho => hlk b hb o (toL _ _ ho)) hsv hpa ?_ ?_ fuel listed a hf hu ha (fun _ => rfl)
  · intro b hb
    have := List.all_eq_true.1 hk b hb
    simp only [Bool.and_eq_true] at this
    exact ⟨Nat.le_of_ble_eq_true this.1, Nat.le_of_ble_eq_true this.2⟩
  · intro b hb
    obtain ⟨ty, ps, af, h⟩ := hia b hb
    exact ⟨ty, ps, af, by simpa using h⟩
  · intro b hb
    obtain ⟨ty, ps, af, h⟩ := his b hb
    exact ⟨ty, ps, af, by simpa using h⟩
  · intro i o hi hn ho
    have h0 := (hop w.drew (KeepT.refl T _)).at (sub i o hi ho)
    rw [Nat.zero_add] at h0
    rcases h0 with ⟨b, hb, e | e⟩ | ⟨hg, _⟩
    · exact absurd e (hn b hb).1
    · exact absurd e (hn b hb).2
    · refine ⟨hg, fun W hW a ha => ?_⟩
      have h3 := (hop W hW).at (sub i o hi ho)
      rw [Nat.zero_add] at h3
      rcases h3 with ⟨b, hb, e | e⟩ | ⟨_, h⟩
      · exact absurd e (hn b hb).1
      · exact absurd e (hn b hb).2
      · exact h a ha
  · intro f W hUp hblk hpw fuel' listed' a' hf' hu' ha' hsl'
    have key : ∀ i o d, i < k → opsL[i]? = some o → o.dst = some d → (phs.getD i (.eq undef)).holds (f d) W := by
      intro i o d hik ho hd
      have ho' : opsL.toArray[i]? = some o := by simpa using ho
      have hmem : (d, phs.getD i (.eq undef)) ∈ allP opsL.toArray (fun i => phs.getD i (.eq undef)) 0 k := by
        unfold allP
        rw [List.mem_filterMap]
        exact ⟨i, List.mem_range.2 hik, by rw [if_pos (by simp), ho']; simp [hd]⟩
      obtain ⟨q', hq⟩ := lk_of_mem hmem
      obtain ⟨j, p, _, hjk, hp, hpd, e⟩ := allP_at hq
      have : j = i := by
        by_cases ee : j = i
        · exact ee
        · exact absurd hpd ((dstOK'_at hD (Nat.zero_le _) hik ho' hd).2 j p (Nat.zero_le _) hjk ee hp)
      subst this
      have := ha'.val d q' (lk_left hq)
      rw [hsl', e] at this
      exact this
    refine tail_order hTl hA (opsL.toArray.size - k) k fuel' listed' a' W rfl (by simp; omega) (Nat.le_refl _) hf' hu' ?_
    refine hend W f hUp hblk hpw key a' ⟨ha'.defers, ha'.size, fun t q ht => ?_⟩
    rcases lk_append ht with h | h
    · obtain ⟨d, _, he⟩ := List.mem_map.1 (lk_mem h)
      cases he
      exact hsl' _
    · refine ha'.val t q ?_
      rw [lk_right]
      · exact h
      · cases hq : lk (allP opsL.toArray (fun i => phs.getD i (.eq undef)) 0 k) t with
        | none => rfl
        | some q' =>
          obtain ⟨j, p, _, hjk, hp, hpd, _⟩ := allP_at hq
          exact absurd hpd (hbd t q h j p (Nat.zero_le _) hjk hp)
end
end Go.Wx
end
section
namespace Go.Wx
section
variable {α : Type}
def swp (xs : List α) (i j : Nat) : List α := match xs[i]?, xs[j]? with
  | some x, some y => (xs.set i y).set j x
  | _, _ => xs
theorem swp_length (xs : List α) (i j : Nat) : (swp xs i j).length = xs.length := by
  unfold swp
  split <;> simp
theorem swp_of {xs : List α} {i j : Nat} {x y : α} (hi : xs[i]? = some x) (hj : xs[j]? = some y) : swp xs i j = (xs.set i y).set j x := by
  unfold swp; rw [hi, hj]
theorem swp_get {xs : List α} {i j : Nat} (hi : i < xs.length) (hj : j < xs.length) (q : Nat) : (swp xs i j)[q]? = if q = j then xs[i]? else if q = i then xs[j]? else xs[q]? := by
  rw [swp_of (List.getElem?_eq_getElem hi) (List.getElem?_eq_getElem hj), List.getElem?_set]
  by_cases h1 : j = q
  · subst h1
    rw [if_pos rfl, if_pos (by simpa using hj), if_pos rfl, List.getElem?_eq_getElem hi]
  · rw [if_neg h1, if_neg (Ne.symm h1), List.getElem?_set]
    by_cases h2 : i = q
    · subst h2
      rw [if_pos rfl, if_pos hi, if_pos rfl, List.getElem?_eq_getElem hj]
    · rw [if_neg h2, if_neg (Ne.symm h2)]
def swR (xs : List α) (a b : Nat) : Nat → List α
  | 0 => xs
  | n + 1 => swp (swR xs a b n) (a + n) (b + n)
theorem swR_length (xs : List α) (a b : Nat) : ∀ n, (swR xs a b n).length = xs.length
  | 0 => rfl
  | n + 1 => by rw [swR, swp_length, swR_length xs a b n]
theorem swR_get {xs : List α} {a b : Nat} : ∀ {n : Nat}, a + n ≤ b → b + n ≤ xs.length → ∀ q, (swR xs a b n)[q]? = if a ≤ q ∧ q < a + n then xs[q - a + b]? else if b ≤ q ∧ q < b + n then xs[q - b + a]? else xs[q]?
  | 0, _, _, q => by rw [swR, if_neg (by omega), if_neg (by omega)]
  | n + 1, h1, h2, q => by
    rw [swR, swp_get (by rw [swR_length]; omega) (by rw [swR_length]; omega)]
    rw [swR_get (n := n) (by omega) (by omega) (a + n), swR_get (n := n) (by omega) (by omega) (b + n), swR_get (n := n) (by omega) (by omega) q]
    by_cases c1 : q = b + n
    · rw [if_pos c1, if_neg (by omega), if_neg (by omega), if_neg (by omega), if_pos (by omega)]
      congr 1; omega
    · rw [if_neg c1]
      by_cases c2 : q = a + n
      · rw [if_pos c2, if_neg (by omega), if_neg (by omega), if_pos (by omega)]
        congr 1; omega
      · rw [if_neg c2]
        by_cases c3 : a ≤ q ∧ q < a + n
        · rw [if_pos c3, if_pos (by omega)]
        · have e1 : ¬ (a ≤ q ∧ q < a + (n + 1)) := by omega
          rw [if_neg c3, if_neg e1]
          by_cases c4 : b ≤ q ∧ q < b + n
          · rw [if_pos c4, if_pos (by omega)]
          · have e2 : ¬ (b ≤ q ∧ q < b + (n + 1)) := by omega
            rw [if_neg c4, if_neg e2]
def rot (xs : List α) (a m b : Nat) : List α := rep xs a b (seg xs m b ++ seg xs a m)
theorem rot_len {xs : List α} {a m b : Nat} (h1 : a ≤ m) (h2 : m ≤ b) (hb : b ≤ xs.length) : (seg xs m b ++ seg xs a m).length = b - a := by
  rw [List.length_append, seg_length hb, seg_length (by omega)]; omega
theorem rot_length {xs : List α} {a m b : Nat} (h1 : a ≤ m) (h2 : m ≤ b) (hb : b ≤ xs.length) : (rot xs a m b).length = xs.length := rep_length (by omega) hb (rot_len h1 h2 hb)
theorem rot_get {xs : List α} {a m b : Nat} (h1 : a ≤ m) (h2 : m ≤ b) (hb : b ≤ xs.length) (q : Nat) : (rot xs a m b)[q]? = if q < a then xs[q]? else if q < a + (b - m) then xs[q - a + m]? else if q < b then xs[q - (b - m)]? else xs[q]? := by
  unfold rot
  rw [rep_get (by omega) hb (rot_len h1 h2 hb)]
  by_cases c1 : q < a
  · rw [if_pos c1, if_pos c1]
  · rw [if_neg c1, if_neg c1]
    by_cases c2 : q < a + (b - m)
    · rw [if_pos (by omega), if_pos c2, List.getElem?_append_left (by rw [seg_length hb]; omega), seg_get (by omega)]
      congr 1; omega
    · rw [if_neg c2]
      by_cases c3 : q < b
      · rw [if_pos c3, if_pos c3, List.getElem?_append_right (by rw [seg_length hb]; omega), seg_length hb, seg_get (by omega)]
        congr 1; omega
      · rw [if_neg c3, if_neg c3]
theorem rot_big {xs : List α} {m i j : Nat} (hi : i ≤ m) (hij : j < i) (hj : 0 < j) (hb : m + j ≤ xs.length) : rot (swR xs (m - i) m j) (m - (i - j)) m (m + j) = rot xs (m - i) m (m + j) := by
  apply List.ext_getElem?
  intro q
  have hl := swR_length xs (m - i) m j
  rw [rot_get (by omega) (by omega) (by rw [hl]; exact hb), rot_get (by omega) (by omega) hb]
  have g : ∀ q, (swR xs (m - i) m j)[q]? = _ := fun q => swR_get (by omega) hb q
  rw [g, g, g]
  by_cases c1 : q < m - i
  · rw [if_pos (by omega), if_neg (by omega), if_neg (by omega), if_pos c1]
  · by_cases c2 : q < m - i + j
    · rw [if_pos (by omega), if_pos (by omega), if_neg c1, if_pos (by omega)]
    · by_cases c3 : q < m - (i - j) + j
      · rw [if_neg (by omega), if_pos (by omega), if_neg (by omega), if_pos (by omega), if_neg c1, if_neg (by omega), if_pos (by omega)]
        congr 1; omega
      · by_cases c4 : q < m + j
        · rw [if_neg (by omega), if_neg (by omega), if_pos c4, if_neg (by omega), if_neg (by omega), if_neg c1, if_neg (by omega), if_pos c4]
        · rw [if_neg (by omega), if_neg (by omega), if_neg c4, if_neg (by omega), if_neg (by omega), if_neg c1, if_neg (by omega), if_neg c4]
theorem rot_small {xs : List α} {m i j : Nat} (hi : i ≤ m) (hij : i < j) (h0 : 0 < i) (hb : m + j ≤ xs.length) : rot (swR xs (m - i) (m + j - i) i) (m - i) m (m + (j - i)) = rot xs (m - i) m (m + j) := by
  apply List.ext_getElem?
  intro q
  have hl := swR_length xs (m - i) (m + j - i) i
  rw [rot_get (by omega) (by omega) (by rw [hl]; omega), rot_get (by omega) (by omega) hb]
  have g : ∀ q, (swR xs (m - i) (m + j - i) i)[q]? = _ := fun q => swR_get (by omega) (by omega) q
  rw [g, g, g]
  by_cases c1 : q < m - i
  · rw [if_pos c1, if_neg (by omega), if_neg (by omega), if_pos c1]
  · by_cases c2 : q < m - i + (j - i)
    · rw [if_neg c1, if_pos (by omega), if_neg (by omega), if_neg (by omega), if_neg c1, if_pos (by omega)]
    · by_cases c3 : q < m + (j - i)
      · rw [if_neg c1, if_neg (by omega), if_pos c3, if_pos (by omega), if_neg c1, if_pos (by omega)]
        congr 1; omega
      · by_cases c4 : q < m + j
        · rw [if_neg c1, if_neg (by omega), if_neg c3, if_neg (by omega), if_pos (by omega), if_neg c1, if_neg (by omega), if_pos c4]
          congr 1; omega
        · rw [if_neg c1, if_neg (by omega), if_neg c3, if_neg (by omega), if_neg (by omega), if_neg c1, if_neg (by omega), if_neg c4]
theorem rot_half {xs : List α} {m i : Nat} (hi : i ≤ m) (hb : m + i ≤ xs.length) : swR xs (m - i) m i = rot xs (m - i) m (m + i) := by
  apply List.ext_getElem?
  intro q
  rw [rot_get (by omega) (by omega) hb, swR_get (by omega) hb]
  by_cases c1 : q < m - i
  · rw [if_neg (by omega), if_neg (by omega), if_pos c1]
  · by_cases c2 : q < m
    · rw [if_pos (by omega), if_neg c1, if_pos (by omega)]
    · by_cases c3 : q < m + i
      · rw [if_neg (by omega), if_pos (by omega), if_neg c1, if_neg (by omega), if_pos c3]
        congr 1; omega
      · rw [if_neg (by omega), if_neg (by omega), if_neg c1, if_neg (by omega), if_neg c3]
theorem rot_left {xs : List α} {m b : Nat} (h : m ≤ b) (hb : b ≤ xs.length) : rot xs m m b = xs := by
  rw [rot, seg_nil (a := m) (b := m) (Nat.le_refl _), List.append_nil, rep_same h hb]
theorem rot_right {xs : List α} {a m : Nat} (h : a ≤ m) (hb : m ≤ xs.length) : rot xs a m m = xs := by
  rw [rot, seg_nil (a := m) (b := m) (Nat.le_refl _), List.nil_append, rep_same h hb]
def insAt (A : List α) (x : α) (p : Nat) : List α := A.take p ++ x :: A.drop p
theorem insAt_length (A : List α) (x : α) (p : Nat) : (insAt A x p).length = A.length + 1 := by simp [insAt]; omega
theorem insAt_self {A : List α} {x : α} {p : Nat} (h : p ≤ A.length) : (insAt A x p)[p]? = some x := by
  rw [insAt, List.getElem?_append_right (by simp; omega)]
  have : p - (A.take p).length = 0 := by simp; omega
  rw [this]; rfl
theorem insAt_before {A : List α} {x : α} {p q : Nat} (h : p ≤ A.length) (hq : q < p) : (insAt A x p)[q]? = A[q]? := by
  rw [insAt, List.getElem?_append_left (by simp; omega), List.getElem?_take, if_pos hq]
theorem insAt_behind {A : List α} {x : α} {p q : Nat} (h : p ≤ A.length) (hq : p < q) : (insAt A x p)[q]? = A[q - 1]? := by
  rw [insAt, List.getElem?_append_right (by simp; omega)]
  have e : q - (A.take p).length = (q - p - 1) + 1 := by simp; omega
  rw [e, List.getElem?_cons_succ, List.getElem?_drop]
  congr 1; omega
theorem insAt_swap {A : List α} {x : α} {p : Nat} (h : p < A.length) : swp (insAt A x p) p (p + 1) = insAt A x (p + 1) := by
  have hl := insAt_length A x p
  apply List.ext_getElem?
  intro q
  rw [swp_get (by omega) (by omega)]
  by_cases c1 : q = p + 1
  · rw [if_pos c1, c1, insAt_self (by omega), insAt_self (by omega)]
  · rw [if_neg c1]
    by_cases c2 : q = p
    · rw [if_pos c2, c2, insAt_behind (by omega) (by omega), insAt_before (by omega) (by omega)]; simp
    · rw [if_neg c2]
      by_cases c3 : q < p
      · rw [insAt_before (by omega) c3, insAt_before (by omega) (by omega)]
      · rw [insAt_behind (by omega) (by omega), insAt_behind (by omega) (by omega)]
theorem swp_comm {xs : List α} {i j : Nat} (hi : i < xs.length) (hj : j < xs.length) (hne : i ≠ j) : swp xs i j = swp xs j i := by
  apply List.ext_getElem?
  intro q
  rw [swp_get hi hj, swp_get hj hi]
  by_cases c1 : q = j
  · rw [if_pos c1, if_neg (by omega), if_pos c1]
  · rw [if_neg c1]
    by_cases c2 : q = i
    · rw [if_pos c2, if_pos c2]
    · rw [if_neg c2, if_neg c2, if_neg c1]
theorem swp_rep {xs ys : List α} {a b i j : Nat} (h1 : a ≤ b) (hb : b ≤ xs.length) (hy : ys.length = b - a) (hi : i < ys.length) (hj : j < ys.length) : swp (rep xs a b ys) (a + i) (a + j) = rep xs a b (swp ys i j) := by
  have hl := rep_length h1 hb hy
  have hi' : a + i < (rep xs a b ys).length := by omega
  have hj' : a + j < (rep xs a b ys).length := by omega
  have e1 : (rep xs a b ys)[a + i]? = ys[i]? := by rw [rep_get h1 hb hy, if_neg (by omega), if_pos (by omega)]; congr 1; omega
  have e2 : (rep xs a b ys)[a + j]? = ys[j]? := by rw [rep_get h1 hb hy, if_neg (by omega), if_pos (by omega)]; congr 1; omega
  apply List.ext_getElem?
  intro q
  rw [swp_get hi' hj' q, e1, e2, rep_get h1 hb hy q, rep_get h1 hb (by rw [swp_length]; exact hy) q, swp_get hi hj]
  by_cases c0 : q < a
  · rw [if_neg (by omega), if_neg (by omega), if_pos c0, if_pos c0]
  · rw [if_neg c0, if_neg c0]
    by_cases c1 : q = a + j
    · have d1 : q - a = j := by omega
      rw [if_pos c1, if_pos (show q < b by omega), if_pos d1]
    · have d1 : ¬ q - a = j := by omega
      rw [if_neg c1, if_neg d1]
      by_cases c2 : q = a + i
      · have d2 : q - a = i := by omega
        rw [if_pos c2, if_pos (show q < b by omega), if_pos d2]
      · have d2 : ¬ q - a = i := by omega
        rw [if_neg c2, if_neg d2]
theorem insAt_end (A : List α) (x : α) : insAt A x A.length = A ++ [x] := by simp [insAt]
theorem insAt_start (A : List α) (x : α) : insAt A x 0 = x :: A := by simp [insAt]
theorem swp_swp {xs : List α} {i j : Nat} (hi : i < xs.length) (hj : j < xs.length) : swp (swp xs i j) i j = xs := by
  have hl := swp_length xs i j
  apply List.ext_getElem?
  intro q
  rw [swp_get (xs := swp xs i j) (by omega) (by omega) q, swp_get hi hj i, swp_get hi hj j, swp_get hi hj q]
  by_cases c1 : q = j
  · rw [if_pos c1, c1]
    by_cases c2 : i = j
    · rw [if_pos c2, c2]
    · rw [if_neg c2, if_pos rfl]
  · rw [if_neg c1, if_neg c1]
    by_cases c2 : q = i
    · rw [if_pos c2, if_pos rfl, c2]
    · rw [if_neg c2, if_neg c2]
end
theorem rep_snoc {α : Type} {xs zs : List α} {a i : Nat} {x : α} (h1 : a ≤ i) (hx : xs[i]? = some x) (hz : zs.length = i - a) : rep xs a (i + 1) (zs ++ [x]) = rep xs a i zs := by
  obtain ⟨hi, e⟩ := List.getElem?_eq_some_iff.1 hx
  have hl := rep_length (ys := zs) h1 (by omega : i ≤ xs.length) hz
  rw [← rep_app (m := i) h1 (by omega) (by omega) hz (by simp)]
  have e2 : [x] = seg (rep xs a i zs) i (i + 1) := by
    rw [seg_rep_off h1 (by omega) hz (.inr (Nat.le_refl _))]
    apply List.ext_getElem?
    intro q
    by_cases h : i + q < i + 1
    · have : q = 0 := by omega
      subst this
      rw [seg_get h, Nat.add_zero, hx]; rfl
    · rw [List.getElem?_eq_none (by simp; omega), List.getElem?_eq_none (by rw [seg_length (by omega)]; omega)]
  rw [e2, rep_same (by omega) (by omega)]
theorem seg_snoc {α : Type} {xs : List α} {a i : Nat} {x : α} (h1 : a ≤ i) (hx : xs[i]? = some x) : seg xs a (i + 1) = seg xs a i ++ [x] := by
  obtain ⟨hi, e⟩ := List.getElem?_eq_some_iff.1 hx
  rw [seg_split h1 (by omega) (by omega)]
  congr 1
  apply List.ext_getElem?
  intro q
  by_cases h : i + q < i + 1
  · have : q = 0 := by omega
    subst this
    rw [seg_get h, Nat.add_zero, hx]; rfl
  · rw [List.getElem?_eq_none (by rw [seg_length (by omega)]; omega), List.getElem?_eq_none (by simp; omega)]
theorem ins_x {α : Type} {xs zs : List α} {a b p : Nat} {x : α} (h1 : a ≤ b) (hb : b ≤ xs.length) (hz : zs.length + 1 = b - a) (hp : p ≤ zs.length) : (rep xs a b (insAt zs x p))[a + p]? = some x := by
  rw [rep_get h1 hb (by rw [insAt_length]; exact hz), if_neg (by omega), if_pos (by omega)]
  have : a + p - a = p := by omega
  rw [this, insAt_self hp]
theorem ins_before {α : Type} {xs zs : List α} {a b p q : Nat} {x : α} (h1 : a ≤ b) (hb : b ≤ xs.length) (hz : zs.length + 1 = b - a) (hp : p ≤ zs.length) (hq : q < p) : (rep xs a b (insAt zs x p))[a + q]? = zs[q]? := by
  rw [rep_get h1 hb (by rw [insAt_length]; exact hz), if_neg (by omega), if_pos (by omega)]
  have : a + q - a = q := by omega
  rw [this, insAt_before hp hq]
theorem ins_behind {α : Type} {xs zs : List α} {a b p q : Nat} {x : α} (h1 : a ≤ b) (hb : b ≤ xs.length) (hz : zs.length + 1 = b - a) (hq : p < q) (hqz : q ≤ zs.length) : (rep xs a b (insAt zs x p))[a + q]? = zs[q - 1]? := by
  rw [rep_get h1 hb (by rw [insAt_length]; exact hz), if_neg (by omega), if_pos (by omega)]
  have : a + q - a = q := by omega
  rw [this, insAt_behind (by omega) hq]
theorem ins_down {α : Type} {xs zs : List α} {a b p : Nat} {x y : α} (h1 : a ≤ b) (hb : b ≤ xs.length) (hz : zs.length + 1 = b - a) (hp : p < zs.length) (hy : zs[p]? = some y) : ((rep xs a b (insAt zs x (p + 1))).set (a + (p + 1)) y).set (a + p) x = rep xs a b (insAt zs x p) := by
  have hl := insAt_length zs x (p + 1)
  rw [← swp_of (ins_x (p := p + 1) h1 hb hz (by omega)) ((ins_before (p := p + 1) h1 hb hz (by omega) (show p < p + 1 by omega)).trans hy), swp_rep h1 hb (by rw [hl]; exact hz) (by omega) (by omega), swp_comm (by omega) (by omega) (by omega), ← insAt_swap hp, swp_swp (by rw [insAt_length]; omega) (by rw [insAt_length]; omega)]
theorem ins_up {α : Type} {xs zs : List α} {a b p : Nat} {x y : α} (h1 : a ≤ b) (hb : b ≤ xs.length) (hz : zs.length + 1 = b - a) (hp : p < zs.length) (hy : zs[p]? = some y) : ((rep xs a b (insAt zs x p)).set (a + p) y).set (a + (p + 1)) x = rep xs a b (insAt zs x (p + 1)) := by
  have hl := insAt_length zs x p
  rw [← swp_of (ins_x h1 hb hz (by omega)) ((ins_behind (q := p + 1) h1 hb hz (show p < p + 1 by omega) (by omega)).trans hy), swp_rep h1 hb (by rw [hl]; exact hz) (by omega) (by omega), insAt_swap hp]
theorem StS.snoc {α : Type} {key : α → K2} {L zs : List α} {x : α} {p : Nat} (h : StS key L zs) (hp : p ≤ zs.length) (hgt : ∀ y ∈ zs.drop p, ltK (key x) (key y) = true) (hle : p = 0 ∨ ∃ y, zs[p - 1]? = some y ∧ ltK (key x) (key y) = false) : StS key (L ++ [x]) (insAt zs x p) := by
  have h1 : StS key (zs ++ [x]) (insAt zs x p) := StS.put h.ord hgt (fun y hy => by
    rcases hle with rfl | ⟨z, hz, hzl⟩
    · simp at hy
    · obtain ⟨q, hq, rfl⟩ := List.mem_iff_getElem.1 hy
      rw [List.getElem_take]
      have hq' : q < p := by simp at hq; omega
      obtain ⟨hz1, rfl⟩ := List.getElem?_eq_some_iff.1 hz
      rcases Nat.lt_or_ge q (p - 1) with h3 | h3
      · exact leK_trans (List.pairwise_iff_getElem.1 h.ord q (p - 1) (by omega) hz1 h3) hzl
      · have : q = p - 1 := by omega
        subst this
        exact hzl)
  exact ⟨h1.ord, (h.same.app (sameF.refl [x])).trans h1.same⟩
theorem srt_one {α : Type} {key : α → K2} {l : List α} (h : l.length ≤ 1) : srt key l := by
  match l, h with
  | [], _ => exact List.Pairwise.nil
  | [x], _ => exact List.pairwise_singleton _ _
  | _ :: _ :: _, h => simp at h
theorem drop_pred {α : Type} {zs : List α} {p : Nat} {y : α} {P : α → Prop} (hp : 1 ≤ p) (hy : zs[p - 1]? = some y) (h : ∀ z ∈ zs.drop p, P z) (hP : P y) : ∀ z ∈ zs.drop (p - 1), P z := by
  obtain ⟨h1, rfl⟩ := List.getElem?_eq_some_iff.1 hy
  rw [List.drop_eq_getElem_cons h1, show p - 1 + 1 = p by omega]
  intro z hz
  rcases List.mem_cons.1 hz with rfl | hz
  · exact hP
  · exact h z hz
end Go.Wx
end
section
namespace Go.Wx
section
variable {α : Type} {key : α → K2}
theorem srt_sub {xs : List α} {a b c d : Nat} (h : srt key (seg xs a b)) (h1 : a ≤ c) (h2 : d ≤ b) : srt key (seg xs c d) := by
  have e : (xs.take d).drop c = ((xs.take d).drop a).drop (c - a) := by rw [List.drop_drop]; congr 1; omega
  have p : xs.take d = (xs.take b).take d := by rw [List.take_take, Nat.min_eq_left h2]
  have q : ((xs.take d).drop a).Sublist ((xs.take b).drop a) := by
    rw [p, List.drop_take]
    exact List.take_sublist _ _
  have r : (seg xs c d).Sublist (seg xs a b) := by
    unfold seg
    rw [e]
    exact (List.drop_sublist _ _).trans q
  exact List.Pairwise.sublist r h
theorem srt_get {xs : List α} {a b p q : Nat} {u v : α} (h : srt key (seg xs a b)) (h1 : a ≤ p) (h2 : p ≤ q) (h3 : q < b) (hu : xs[p]? = some u) (hv : xs[q]? = some v) : ltK (key v) (key u) = false := by
  rcases Nat.lt_or_ge p q with hl | hl
  · have e1 : (seg xs a b)[p - a]? = some u := by rw [seg_get (by omega)]; rw [show a + (p - a) = p by omega]; exact hu
    have e2 : (seg xs a b)[q - a]? = some v := by rw [seg_get (by omega)]; rw [show a + (q - a) = q by omega]; exact hv
    obtain ⟨i1, rfl⟩ := List.getElem?_eq_some_iff.1 e1
    obtain ⟨i2, rfl⟩ := List.getElem?_eq_some_iff.1 e2
    exact List.pairwise_iff_getElem.1 h _ _ i1 i2 (by omega)
  · have : p = q := by omega
    subst this
    rw [hu] at hv; cases hv
    exact ltK_irrefl _
theorem mem_seg {xs : List α} {a b : Nat} {x : α} (hb : b ≤ xs.length) (h : x ∈ seg xs a b) : ∃ q, a ≤ q ∧ q < b ∧ xs[q]? = some x := by
  obtain ⟨i, e⟩ := List.mem_iff_getElem?.1 h
  have hi := (List.getElem?_eq_some_iff.1 e).1
  rw [seg_length hb] at hi
  rw [seg_get (by omega)] at e
  exact ⟨a + i, by omega, by omega, e⟩
theorem sym_h1 {xs : List α} {a mm b s e : Nat} (hA : srt key (seg xs a mm)) (hB : srt key (seg xs mm b)) (h2 : s ≤ mm) (h3 : mm ≤ e) (hb : b ≤ xs.length)
    (h : s ≤ a ∨ b ≤ e ∨ ∃ u v, xs[e]? = some u ∧ xs[s - 1]? = some v ∧ ltK (key u) (key v) = false) : ∀ x ∈ seg xs a s, ∀ y ∈ seg xs e b, ltK (key y) (key x) = false := by
  intro x hx y hy
  rcases h with h | h | ⟨u, v, hu, hv, hl⟩
  · rw [seg_nil h] at hx; simp at hx
  · rw [seg_nil h] at hy; simp at hy
  · obtain ⟨p, p1, p2, hp⟩ := mem_seg (by have := (List.getElem?_eq_some_iff.1 hv).1; omega) hx
    obtain ⟨q, q1, q2, hq⟩ := mem_seg hb hy
    have a1 := srt_get hA p1 (show p ≤ s - 1 by omega) (by omega) hp hv
    have a2 := srt_get hB (show mm ≤ e by omega) q1 q2 hu hq
    exact leK_trans (leK_trans a1 hl) a2
theorem sym_h2 {xs : List α} {a mm b s e : Nat} (hA : srt key (seg xs a mm)) (hB : srt key (seg xs mm b)) (h1 : a ≤ s) (h4 : e ≤ b) (hb : b ≤ xs.length) (hmb : mm ≤ b)
    (h : mm ≤ s ∨ e ≤ mm ∨ ∃ u v, xs[e - 1]? = some u ∧ xs[s]? = some v ∧ ltK (key u) (key v) = true) : ∀ v ∈ seg xs mm e, ∀ u ∈ seg xs s mm, ltK (key v) (key u) = true := by
  intro x hx y hy
  rcases h with h | h | ⟨u, v, hu, hv, hl⟩
  · rw [seg_nil h] at hy; simp at hy
  · rw [seg_nil h] at hx; simp at hx
  · obtain ⟨p, p1, p2, hp⟩ := mem_seg (by omega) hx
    obtain ⟨q, q1, q2, hq⟩ := mem_seg (by omega) hy
    have a1 := srt_get hB p1 (show p ≤ e - 1 by omega) (by omega) hp hu
    have a2 := srt_get hA h1 q1 q2 hv hq
    exact lt_le_K (le_lt_K a1 hl) a2
theorem rot_seg1 {xs : List α} {s mm e : Nat} (h1 : s ≤ mm) (h2 : mm ≤ e) (hb : e ≤ xs.length) : seg (rot xs s mm e) s (s + (e - mm)) = seg xs mm e := by
  have hl := rot_length h1 h2 hb
  apply List.ext_getElem?
  intro i
  by_cases h : i < e - mm
  · rw [seg_get (by omega), seg_get (by omega), rot_get h1 h2 hb, if_neg (by omega), if_pos (by omega)]
    congr 1; omega
  · rw [List.getElem?_eq_none (by rw [seg_length (by omega)]; omega), List.getElem?_eq_none (by rw [seg_length hb]; omega)]
theorem rot_seg2 {xs : List α} {s mm e : Nat} (h1 : s ≤ mm) (h2 : mm ≤ e) (hb : e ≤ xs.length) : seg (rot xs s mm e) (s + (e - mm)) e = seg xs s mm := by
  have hl := rot_length h1 h2 hb
  apply List.ext_getElem?
  intro i
  by_cases h : i < mm - s
  · rw [seg_get (by omega), seg_get (by omega), rot_get h1 h2 hb, if_neg (by omega), if_neg (by omega), if_pos (by omega)]
    congr 1; omega
  · rw [List.getElem?_eq_none (by rw [seg_length (by omega)]; omega), List.getElem?_eq_none (by rw [seg_length (by omega)]; omega)]
theorem rot_off {xs : List α} {s mm e c d : Nat} (h1 : s ≤ mm) (h2 : mm ≤ e) (hb : e ≤ xs.length) (h : d ≤ s ∨ e ≤ c) : seg (rot xs s mm e) c d = seg xs c d := seg_rep_off (by omega) hb (rot_len h1 h2 hb) h
theorem rep_rot {xs zs : List α} {a b s mm e : Nat} (h0 : a ≤ s) (h1 : s ≤ mm) (h2 : mm ≤ e) (h3 : e ≤ b) (hb : b ≤ xs.length) (hz : zs.length = b - a) : rep (rot xs s mm e) a b zs = rep xs a b zs := by
  have hl := rot_length h1 h2 (by omega : e ≤ xs.length)
  apply List.ext_getElem?
  intro q
  rw [rep_get (by omega) (by omega) hz, rep_get (by omega) hb hz, rot_get h1 h2 (by omega)]
  by_cases c1 : q < a
  · rw [if_pos c1, if_pos c1, if_pos (by omega)]
  · rw [if_neg c1, if_neg c1]
    by_cases c2 : q < b
    · rw [if_pos c2, if_pos c2]
    · rw [if_neg c2, if_neg c2, if_neg (by omega), if_neg (by omega), if_neg (by omega)]
theorem sym_left {xs : List α} {a s mm e mid : Nat} (h0 : a ≤ s) (h1 : s ≤ mm) (h2 : mm ≤ e) (hb : e ≤ xs.length) (hm : mid = s + (e - mm)) : seg (rot xs s mm e) a mid = seg xs a s ++ seg xs mm e := by
  subst hm
  rw [seg_split (m := s) h0 (by omega) (by rw [rot_length h1 h2 hb]; omega), rot_off h1 h2 hb (.inl (Nat.le_refl _)), rot_seg1 h1 h2 hb]
theorem sym_right {xs : List α} {s mm e b mid : Nat} (h1 : s ≤ mm) (h2 : mm ≤ e) (h3 : e ≤ b) (hb : b ≤ xs.length) (hm : mid = s + (e - mm)) : seg (rot xs s mm e) mid b = seg xs s mm ++ seg xs e b := by
  subst hm
  rw [seg_split (m := e) (by omega) h3 (by rw [rot_length h1 h2 (by omega)]; omega), rot_off h1 h2 (by omega) (.inr (Nat.le_refl _)), rot_seg2 h1 h2 (by omega)]
theorem sym_done {xs X Y : List α} {a mm b s e mid : Nat} (h0 : a ≤ s) (h1 : s ≤ mm) (h2 : mm ≤ e) (h3 : e ≤ b) (hb : b ≤ xs.length) (hm : mid = s + (e - mm)) (hA : srt key (seg xs a mm)) (hB : srt key (seg xs mm b))
    (k1 : ∀ x ∈ seg xs a s, ∀ y ∈ seg xs e b, ltK (key y) (key x) = false) (k2 : ∀ v ∈ seg xs mm e, ∀ u ∈ seg xs s mm, ltK (key v) (key u) = true)
    (hX : StS key (seg (rot xs s mm e) a mid) X) (hY : StS key (seg (rep (rot xs s mm e) a mid X) mid b) Y) : StS key (seg xs a b) (X ++ Y) ∧ rep (rep (rot xs s mm e) a mid X) mid b Y = rep xs a b (X ++ Y) := by
  have hl := rot_length h1 h2 (by omega : e ≤ xs.length)
  have hXl : X.length = mid - a := by rw [hX.same.length, seg_length (by omega)]
  rw [seg_rep_off (by omega) (by omega) hXl (.inr (Nat.le_refl _))] at hY
  have hYl : Y.length = b - mid := by rw [hY.same.length, seg_length (by omega)]
  rw [sym_left h0 h1 h2 (by omega) hm] at hX
  rw [sym_right h1 h2 h3 hb hm] at hY
  have eA : seg xs a s ++ seg xs s mm = seg xs a mm := (seg_split h0 h1 (by omega)).symm
  have eB : seg xs mm e ++ seg xs e b = seg xs mm b := (seg_split h2 h3 hb).symm
  refine ⟨?_, ?_⟩
  · have := StS.halves (by rw [eA]; exact hA) (by rw [eB]; exact hB) k1 k2 hX hY
    rw [eA, eB, ← seg_split (by omega) (by omega) hb] at this
    exact this
  · rw [rep_app (by omega) (by omega) (by omega) hXl hYl, rep_rot h0 h1 h2 h3 hb (by rw [List.length_append]; omega)]
theorem sym_one {xs : List α} {a b i : Nat} {x : α} (hb : b ≤ xs.length) (hx : xs[a]? = some x) (hab : a + 1 ≤ i) (hib : i ≤ b) (hB : srt key (seg xs (a + 1) b)) (hL : ∀ q y, a + 1 ≤ q → q < i → xs[q]? = some y → ltK (key y) (key x) = true) (hR : ∀ q y, i ≤ q → q < b → xs[q]? = some y → ltK (key y) (key x) = false) :
    StS key (seg xs a b) (insAt (seg xs (a + 1) b) x (i - (a + 1))) := by
  have e : seg xs a b = x :: seg xs (a + 1) b := by
    rw [seg_split (m := a + 1) (by omega) (by omega) hb, seg_snoc (Nat.le_refl a) hx, seg_nil (Nat.le_refl a)]; rfl
  have t : (seg xs (a + 1) b).take (i - (a + 1)) = seg xs (a + 1) i := by
    unfold seg
    rw [List.take_drop, List.take_take, show a + 1 + (i - (a + 1)) = i by omega, Nat.min_eq_left hib]
  have d : (seg xs (a + 1) b).drop (i - (a + 1)) = seg xs i b := by
    unfold seg
    rw [List.drop_drop, show a + 1 + (i - (a + 1)) = i by omega]
  rw [e]
  refine StS.putL hB (fun y hy => ?_) (fun y hy => ?_)
  · rw [t] at hy
    obtain ⟨q, q1, q2, hq⟩ := mem_seg (by omega) hy
    exact hL q y q1 q2 hq
  · rw [d] at hy
    obtain ⟨q, q1, q2, hq⟩ := mem_seg hb hy
    exact hR q y q1 q2 hq
theorem sym_last {xs : List α} {a m i : Nat} {x : α} (hx : xs[m]? = some x) (h1 : a ≤ i) (h2 : i ≤ m) (hA : srt key (seg xs a m)) (hL : ∀ q y, a ≤ q → q < i → xs[q]? = some y → ltK (key x) (key y) = false) (hR : ∀ q y, i ≤ q → q < m → xs[q]? = some y → ltK (key x) (key y) = true) :
    StS key (seg xs a (m + 1)) (insAt (seg xs a m) x (i - a)) := by
  have hm := (List.getElem?_eq_some_iff.1 hx).1
  have t : (seg xs a m).take (i - a) = seg xs a i := by
    unfold seg
    rw [List.take_drop, List.take_take, show a + (i - a) = i by omega, Nat.min_eq_left h2]
  have d : (seg xs a m).drop (i - a) = seg xs i m := by
    unfold seg
    rw [List.drop_drop, show a + (i - a) = i by omega]
  rw [seg_snoc (by omega) hx]
  refine StS.put hA (fun y hy => ?_) (fun y hy => ?_)
  · rw [d] at hy
    obtain ⟨q, q1, q2, hq⟩ := mem_seg (by omega) hy
    exact hR q y q1 q2 hq
  · rw [t] at hy
    obtain ⟨q, q1, q2, hq⟩ := mem_seg (by omega) hy
    exact hL q y q1 q2 hq
theorem rot_triv {xs : List α} {s mm e : Nat} (h : ¬ (s < mm ∧ mm < e)) (h1 : s ≤ mm) (h2 : mm ≤ e) (hb : e ≤ xs.length) : rot xs s mm e = xs := by
  rcases Nat.lt_or_ge s mm with h3 | h3
  · have : e = mm := by omega
    subst this
    exact rot_right h1 hb
  · have : s = mm := by omega
    subst this
    exact rot_left h2 hb
theorem sym_skipL {xs : List α} {a mm b s e mid : Nat} (hA : srt key (seg xs a mm)) (hB : srt key (seg xs mm b)) (h0 : a ≤ s) (h1 : s ≤ mm) (h2 : mm ≤ e) (h3 : e ≤ b) (hb : b ≤ xs.length) (hm : mid = s + (e - mm)) (h : ¬ (a < s ∧ s < mid)) : srt key (seg (rot xs s mm e) a mid) := by
  rw [sym_left h0 h1 h2 (by omega) hm]
  rcases Nat.lt_or_ge a s with h4 | h4
  · rw [seg_nil (show e ≤ mm by omega), List.append_nil]
    exact srt_sub hA (Nat.le_refl _) h1
  · rw [seg_nil h4, List.nil_append]
    exact srt_sub hB (Nat.le_refl _) h3
theorem sym_skipR {xs X : List α} {a mm b s e mid : Nat} (hA : srt key (seg xs a mm)) (hB : srt key (seg xs mm b)) (h0 : a ≤ s) (h1 : s ≤ mm) (h2 : mm ≤ e) (h3 : e ≤ b) (hb : b ≤ xs.length) (hm : mid = s + (e - mm)) (hX : X.length = mid - a) (h : ¬ (mid < e ∧ e < b)) : srt key (seg (rep (rot xs s mm e) a mid X) mid b) := by
  have hl := rot_length h1 h2 (by omega : e ≤ xs.length)
  rw [seg_rep_off (by omega) (by omega) hX (.inr (Nat.le_refl _)), sym_right h1 h2 h3 hb hm]
  rcases Nat.lt_or_ge mid e with h4 | h4
  · rw [seg_nil (show b ≤ e by omega), List.append_nil]
    exact srt_sub hA h0 (Nat.le_refl _)
  · rw [seg_nil (show mm ≤ s by omega), List.nil_append]
    exact srt_sub hB h2 (Nat.le_refl _)
theorem sym_ih1 {xs : List α} {a mm b s e mid : Nat} (hA : srt key (seg xs a mm)) (hB : srt key (seg xs mm b)) (h1 : s ≤ mm) (h2 : mm ≤ e) (h3 : e ≤ b) (hb : b ≤ xs.length) (hm : mid = s + (e - mm)) : srt key (seg (rot xs s mm e) a s) ∧ srt key (seg (rot xs s mm e) s mid) := by
  subst hm
  rw [rot_off h1 h2 (by omega) (.inl (Nat.le_refl _)), rot_seg1 h1 h2 (by omega)]
  exact ⟨srt_sub hA (Nat.le_refl _) h1, srt_sub hB (Nat.le_refl _) h3⟩
theorem sym_ih2 {xs X : List α} {a mm b s e mid : Nat} (hA : srt key (seg xs a mm)) (hB : srt key (seg xs mm b)) (h0 : a ≤ s) (h1 : s ≤ mm) (h2 : mm ≤ e) (h3 : e ≤ b) (hb : b ≤ xs.length) (hm : mid = s + (e - mm)) (hX : X.length = mid - a) : srt key (seg (rep (rot xs s mm e) a mid X) mid e) ∧ srt key (seg (rep (rot xs s mm e) a mid X) e b) := by
  have hl := rot_length h1 h2 (by omega : e ≤ xs.length)
  rw [seg_rep_off (by omega) (by omega) hX (.inr (Nat.le_refl _)), seg_rep_off (by omega) (by omega) hX (.inr (by omega)), rot_off h1 h2 (by omega) (.inr (Nat.le_refl _))]
  subst hm
  rw [rot_seg2 h1 h2 (by omega)]
  exact ⟨srt_sub hA h0 (Nat.le_refl _), srt_sub hB h2 (Nat.le_refl _)⟩
end
end Go.Wx
end
section
namespace Go.Wx
section
variable {α : Type} {key : α → K2}
def Bks (key : α → K2) (ys : List α) (B : Nat) : Prop := ∀ i, srt key (seg ys (B * i) (min (B * i + B) ys.length))
def Ins (key : α → K2) (ys : List α) (B a : Nat) : Prop := (∃ q, a = B * q) ∧ ∀ i, B * (i + 1) ≤ a → srt key (seg ys (B * i) (B * i + B))
def Mrg (key : α → K2) (ys : List α) (B a : Nat) : Prop := Ins key ys (2 * B) a ∧ ∀ i, a ≤ B * i → srt key (seg ys (B * i) (min (B * i + B) ys.length))
theorem Ins.zero (ys : List α) (B : Nat) (hB : 0 < B) : Ins key ys B 0 := ⟨⟨0, rfl⟩, fun i h => by
  rw [Nat.mul_add, Nat.mul_one] at h
  omega⟩
theorem Ins.step {ys zs : List α} {B a : Nat} (hB : 0 < B) (h : Ins key ys B a) (hb : a + B ≤ ys.length) (hz : StS key (seg ys a (a + B)) zs) : Ins key (rep ys a (a + B) zs) B (a + B) := by
  obtain ⟨⟨q, rfl⟩, hs⟩ := h
  have hzl : zs.length = B * q + B - B * q := by rw [hz.same.length, seg_length hb]
  refine ⟨⟨q + 1, by rw [Nat.mul_add, Nat.mul_one]⟩, fun i hi => ?_⟩
  have hle : i ≤ q := by
    have : B * (i + 1) ≤ B * (q + 1) := by rw [Nat.mul_add B q 1, Nat.mul_one]; exact hi
    have := Nat.le_of_mul_le_mul_left this hB
    omega
  rcases Nat.lt_or_ge i q with h | h
  · have h1 : B * (i + 1) ≤ B * q := Nat.mul_le_mul_left B h
    rw [seg_rep_off (by omega) hb hzl (.inl (by rw [Nat.mul_add, Nat.mul_one] at h1; exact h1))]
    exact hs i h1
  · have : i = q := by omega
    subst this
    rw [seg_rep (by omega) hb hzl]
    exact hz.ord
theorem Ins.last {ys zs : List α} {B a : Nat} (h : Ins key ys B a) (ha : a ≤ ys.length) (hb : ys.length < a + B) (hz : StS key (seg ys a ys.length) zs) : Bks key (rep ys a ys.length zs) B := by
  obtain ⟨⟨q, rfl⟩, hs⟩ := h
  have hzl : zs.length = ys.length - B * q := by rw [hz.same.length, seg_length (Nat.le_refl _)]
  have hl := rep_length ha (Nat.le_refl _) hzl
  intro i
  rw [hl]
  rcases Nat.lt_trichotomy i q with h | h | h
  · have h1 : B * (i + 1) ≤ B * q := Nat.mul_le_mul_left B h
    have h2 : B * i + B ≤ B * q := by rw [Nat.mul_add, Nat.mul_one] at h1; exact h1
    rw [Nat.min_eq_left (by omega), seg_rep_off ha (Nat.le_refl _) hzl (.inl h2)]
    exact hs i h1
  · subst h
    rw [Nat.min_eq_right (by omega), seg_rep ha (Nat.le_refl _) hzl]
    exact hz.ord
  · have h1 : B * (q + 1) ≤ B * i := Nat.mul_le_mul_left B h
    rw [Nat.mul_add, Nat.mul_one] at h1
    rw [seg_nil (by omega)]
    exact List.Pairwise.nil
theorem Mrg.start {ys : List α} {B : Nat} (hB : 0 < B) (h : Bks key ys B) : Mrg key ys B 0 := ⟨Ins.zero ys (2 * B) (by omega), fun i _ => h i⟩
theorem Mrg.pre {ys : List α} {B a : Nat} (h : Mrg key ys B a) (hb : 2 * B + a ≤ ys.length) : srt key (seg ys a (a + B)) ∧ srt key (seg ys (a + B) (2 * B + a)) := by
  obtain ⟨⟨⟨q, hq⟩, _⟩, hs⟩ := h
  have e1 : a = B * (2 * q) := by rw [hq, Nat.mul_comm 2 B, Nat.mul_assoc]
  have e2 : a + B = B * (2 * q + 1) := by rw [Nat.mul_add, Nat.mul_one, ← e1]
  have h1 := hs (2 * q) (by omega)
  have h2 := hs (2 * q + 1) (by omega)
  rw [← e1, Nat.min_eq_left (by omega)] at h1
  rw [← e2, Nat.min_eq_left (by omega), show a + B + B = 2 * B + a by omega] at h2
  exact ⟨h1, h2⟩
theorem Mrg.step {ys zs : List α} {B a : Nat} (hB : 0 < B) (h : Mrg key ys B a) (hb : 2 * B + a ≤ ys.length) (hz : StS key (seg ys a (2 * B + a)) zs) : Mrg key (rep ys a (2 * B + a) zs) B (2 * B + a) := by
  have e : 2 * B + a = a + 2 * B := by omega
  rw [e] at hb hz ⊢
  have hzl : zs.length = a + 2 * B - a := by rw [hz.same.length, seg_length hb]
  refine ⟨h.1.step (by omega) hb hz, fun i hi => ?_⟩
  rw [rep_length (by omega) hb hzl, seg_rep_off (by omega) hb hzl (.inr hi)]
  exact h.2 i (by omega)
theorem Mrg.pre2 {ys : List α} {B a : Nat} (h : Mrg key ys B a) (h1 : a + B < ys.length) (hb : ys.length < 2 * B + a) : srt key (seg ys a (a + B)) ∧ srt key (seg ys (a + B) ys.length) := by
  obtain ⟨⟨⟨q, hq⟩, _⟩, hs⟩ := h
  have e1 : a = B * (2 * q) := by rw [hq, Nat.mul_comm 2 B, Nat.mul_assoc]
  have e2 : a + B = B * (2 * q + 1) := by rw [Nat.mul_add, Nat.mul_one, ← e1]
  have k1 := hs (2 * q) (by omega)
  have k2 := hs (2 * q + 1) (by omega)
  rw [← e1, Nat.min_eq_left (by omega)] at k1
  rw [← e2, Nat.min_eq_right (by omega)] at k2
  exact ⟨k1, k2⟩
theorem Mrg.last {ys zs : List α} {B a : Nat} (h : Mrg key ys B a) (ha : a ≤ ys.length) (hb : ys.length < 2 * B + a) (hz : StS key (seg ys a ys.length) zs) : Bks key (rep ys a ys.length zs) (2 * B) := h.1.last ha (by omega) hz
theorem Mrg.done {ys : List α} {B a : Nat} (h : Mrg key ys B a) (ha : a ≤ ys.length) (hb : ys.length < 2 * B + a) (h1 : ¬ a + B < ys.length) : Bks key ys (2 * B) := by
  have hs : srt key (seg ys a ys.length) := by
    obtain ⟨⟨⟨q, hq⟩, _⟩, hs⟩ := h
    have e1 : a = B * (2 * q) := by rw [hq, Nat.mul_comm 2 B, Nat.mul_assoc]
    have k1 := hs (2 * q) (by omega)
    rw [← e1, Nat.min_eq_right (by omega)] at k1
    exact k1
  have := h.last ha hb (StS.refl hs)
  rwa [rep_same ha (Nat.le_refl _)] at this
theorem Bks.all {xs ys : List α} {B : Nat} (h : Bks key ys B) (hB : ys.length ≤ B) (hs : sameF key xs ys) : StS key xs ys := by
  have := h 0
  rw [Nat.mul_zero, Nat.zero_add, Nat.min_eq_right hB, seg_all] at this
  exact ⟨this, hs⟩
theorem sameF.step {xs ys zs : List α} {a b : Nat} (h : sameF key xs ys) (h1 : a ≤ b) (hb : b ≤ ys.length) (hz : StS key (seg ys a b) zs) : sameF key xs (Wx.rep ys a b zs) := h.trans (sameF.rep h1 hb hz.same)
def insK (key : α → K2) (x : α) : List α → List α
  | [] => [x]
  | y :: l => if ltK (key x) (key y) = true then x :: y :: l else y :: insK key x l
def sortK (key : α → K2) (l : List α) : List α := l.foldl (fun acc x => insK key x acc) []
theorem insK_put (x : α) : ∀ (l : List α), srt key l → ∃ p, insK key x l = insAt l x p ∧ p ≤ l.length ∧ (∀ y ∈ l.drop p, ltK (key x) (key y) = true) ∧ (p = 0 ∨ ∃ y, l[p - 1]? = some y ∧ ltK (key x) (key y) = false)
  | [], _ => ⟨0, rfl, Nat.le_refl _, by simp, .inl rfl⟩
  | y :: l, h => by
    unfold insK
    split
    · rename_i hlt
      refine ⟨0, by simp [insAt], Nat.zero_le _, fun z hz => ?_, .inl rfl⟩
      rcases List.mem_cons.1 (by simpa using hz : z ∈ y :: l) with rfl | hz
      · exact hlt
      · exact lt_le_K hlt ((List.pairwise_cons.1 h).1 z hz)
    · rename_i hlt
      obtain ⟨p, e, hp, h1, h2⟩ := insK_put x l (List.pairwise_cons.1 h).2
      refine ⟨p + 1, by rw [e]; rfl, by simpa using hp, by simpa using h1, .inr ?_⟩
      rcases h2 with rfl | ⟨z, hz, hl⟩
      · exact ⟨y, rfl, by simpa using hlt⟩
      · refine ⟨z, ?_, hl⟩
        have : 0 < p := by
          rcases Nat.eq_zero_or_pos p with rfl | h
          · rw [Nat.zero_sub] at hz
            cases l with
            | nil => simp at hz
            | cons w l =>
              exfalso
              simp at hz; subst hz
              have := h1 w (by simp)
              rw [hl] at this; cases this
          · exact h
        rw [show p + 1 - 1 = (p - 1) + 1 by omega, List.getElem?_cons_succ]
        exact hz
theorem sortK_sts (l : List α) : StS key l (sortK key l) := by
  suffices h : ∀ (r done acc : List α), StS key done acc → StS key (done ++ r) (r.foldl (fun acc x => insK key x acc) acc) by
    have := h l [] [] ⟨List.Pairwise.nil, fun _ => rfl⟩
    simpa [sortK] using this
  intro r
  induction r with
  | nil => intro done acc h; simpa using h
  | cons x r ih =>
    intro done acc h
    obtain ⟨p, e, hp, h1, h2⟩ := insK_put (key := key) x acc h.ord
    have := ih (done ++ [x]) (insK key x acc) (by rw [e]; exact h.snoc hp h1 h2)
    simpa using this
theorem StS.eq {l s : List α} (h : StS key l s) : s = sortK key l := h.unique (sortK_sts l)
end
end Go.Wx
end
