/-
  Stable sorting, in plain lists: what a stable sort says, that it says one list alone, and the plain steps of an insertion sort in blocks with merges in place. Nothing of any program stands here.
-/
import Derived.Test.YthfjagphcekcbaaGreatWx
namespace Go.Wx

/-- elements are ordered by two numbers -/
abbrev K2 := Int × Int
def ltK (a b : K2) : Bool := decide (a.1 < b.1) || (decide (a.1 = b.1) && decide (a.2 < b.2))
theorem ltK_iff {a b : K2} : ltK a b = true ↔ a.1 < b.1 ∨ (a.1 = b.1 ∧ a.2 < b.2) := by simp [ltK]
theorem ltK_not {a b : K2} : ltK a b = false ↔ ¬ (a.1 < b.1 ∨ (a.1 = b.1 ∧ a.2 < b.2)) := by rw [← ltK_iff]; simp
theorem ltK_irrefl (a : K2) : ltK a a = false := by rw [ltK_not]; omega
theorem leK_trans {a b c : K2} (h : ltK b a = false) (k : ltK c b = false) : ltK c a = false := by rw [ltK_not] at *; omega
theorem leK_of_lt {a b : K2} (h : ltK a b = true) : ltK b a = false := by rw [ltK_iff] at h; rw [ltK_not]; omega
theorem lt_le_K {a b c : K2} (h : ltK a b = true) (k : ltK c b = false) : ltK a c = true := by rw [ltK_iff] at *; rw [ltK_not] at k; omega
theorem le_lt_K {a b c : K2} (h : ltK b a = false) (k : ltK b c = true) : ltK a c = true := by rw [ltK_iff] at *; rw [ltK_not] at h; omega
theorem eqK_of {a b : K2} (h : ltK a b = false) (k : ltK b a = false) : a = b := by rw [ltK_not] at *; exact Prod.ext (by omega) (by omega)
theorem ltK_ne {a b : K2} (h : ltK a b = true) : a ≠ b := fun e => by rw [e, ltK_irrefl] at h; cases h

section
variable {α : Type} (key : α → K2)
def srt (l : List α) : Prop := l.Pairwise fun x y => ltK (key y) (key x) = false
def sameF (l s : List α) : Prop := ∀ k, s.filter (fun x => key x == k) = l.filter (fun x => key x == k)
/-- s is l, sorted; equal ones in their order -/
structure StS (l s : List α) : Prop where
  ord : srt key s
  same : sameF key l s
end
section
variable {α : Type} {key : α → K2}
theorem sameF.refl (l : List α) : sameF key l l := fun _ => rfl
theorem sameF.trans {a b c : List α} (h : sameF key a b) (k : sameF key b c) : sameF key a c := fun x => (k x).trans (h x)
theorem sameF.app {a b c d : List α} (h : sameF key a b) (k : sameF key c d) : sameF key (a ++ c) (b ++ d) := fun x => by rw [List.filter_append, List.filter_append, h x, k x]
theorem sameF.mem {a b : List α} (h : sameF key a b) (x : α) : x ∈ b ↔ x ∈ a := by
  have := h (key x)
  have e : ∀ l : List α, x ∈ l.filter (fun y => key y == key x) ↔ x ∈ l := fun l => by rw [List.mem_filter]; simp
  rw [← e b, ← e a, this]
theorem sameF.swap {U V : List α} (h : ∀ u ∈ U, ∀ v ∈ V, key u ≠ key v) : sameF key (U ++ V) (V ++ U) := fun k => by
  rw [List.filter_append, List.filter_append]
  by_cases e : U.filter (fun x => key x == k) = []
  · rw [e]; simp
  · have e2 : V.filter (fun x => key x == k) = [] := by
      rw [List.filter_eq_nil_iff]
      intro v hv hk
      apply e
      rw [List.filter_eq_nil_iff]
      intro u hu hk2
      exact h u hu v hv ((eq_of_beq hk2).trans (eq_of_beq hk).symm)
    rw [e2]; simp
theorem sameF.perm : ∀ {a b : List α}, sameF key a b → b.Perm a
  | [], b, h => by
    have : b = [] := by
      cases b with
      | nil => rfl
      | cons x b => exact absurd ((h.mem x).1 List.mem_cons_self) (by simp)
    rw [this]
  | x :: a, b, h => by
    have hx : x ∈ b := (h.mem x).2 List.mem_cons_self
    -- the first of b with the key of x is x itself
    have hf := h (key x)
    rw [List.filter_cons, if_pos (by simp)] at hf
    obtain ⟨p, q, e, hp⟩ : ∃ p q, b = p ++ x :: q ∧ ∀ y ∈ p, key y ≠ key x := by
      clear hx
      induction b with
      | nil => simp at hf
      | cons y b ih =>
        by_cases hy : key y = key x
        · rw [List.filter_cons, if_pos (by simp [hy])] at hf
          injection hf with h1 h2
          subst h1
          exact ⟨[], b, rfl, by simp⟩
        · rw [List.filter_cons, if_neg (by simp [hy])] at hf
          have : ∃ p q, b = p ++ x :: q ∧ ∀ y ∈ p, key y ≠ key x := by
            clear ih h
            induction b with
            | nil => simp at hf
            | cons z b ih =>
              by_cases hz : key z = key x
              · rw [List.filter_cons, if_pos (by simp [hz])] at hf
                injection hf with h1 h2
                subst h1
                exact ⟨[], b, rfl, by simp⟩
              · rw [List.filter_cons, if_neg (by simp [hz])] at hf
                obtain ⟨p, q, e, hp⟩ := ih hf
                exact ⟨z :: p, q, by rw [e]; rfl, fun w hw => by
                  rcases List.mem_cons.1 hw with rfl | hw
                  · exact hz
                  · exact hp w hw⟩
          obtain ⟨p, q, e, hp⟩ := this
          exact ⟨y :: p, q, by rw [e]; rfl, fun w hw => by
            rcases List.mem_cons.1 hw with rfl | hw
            · exact hy
            · exact hp w hw⟩
    subst e
    have h2 : sameF key a (p ++ q) := fun k => by
      have := h k
      by_cases hk : key x = k
      · subst hk
        have ep : p.filter (fun y => key y == key x) = [] := by rw [List.filter_eq_nil_iff]; intro y hy e; exact hp y hy (eq_of_beq e)
        simp only [List.filter_append, List.filter_cons, beq_self_eq_true, if_true, ep, List.nil_append, List.cons.injEq, true_and] at this ⊢
        exact this
      · have hk' : (key x == k) = false := by simpa using hk
        simpa only [List.filter_append, List.filter_cons, hk', Bool.false_eq_true, if_false] using this
    exact List.perm_middle.trans ((sameF.perm h2).cons x)
theorem sameF.length {a b : List α} (h : sameF key a b) : b.length = a.length := h.perm.length_eq
theorem StS.unique : ∀ {l s t : List α}, StS key l s → StS key l t → s = t
  | l, [], [], _, _ => rfl
  | l, [], y :: t, h, k => by have := h.same.length.trans k.same.length.symm; simp at this
  | l, x :: s, [], h, k => by have := h.same.length.trans k.same.length.symm; simp at this
  | l, x :: s, y :: t, h, k => by
    have hx := (List.pairwise_cons.1 h.ord)
    have hy := (List.pairwise_cons.1 k.ord)
    have mx : x ∈ y :: t := (k.same.mem x).2 ((h.same.mem x).1 List.mem_cons_self)
    have my : y ∈ x :: s := (h.same.mem y).2 ((k.same.mem y).1 List.mem_cons_self)
    have a1 : ltK (key x) (key y) = false := by
      rcases List.mem_cons.1 mx with e | e
      · rw [e]; exact ltK_irrefl _
      · exact hy.1 x e
    have a2 : ltK (key y) (key x) = false := by
      rcases List.mem_cons.1 my with e | e
      · rw [e]; exact ltK_irrefl _
      · exact hx.1 y e
    have ek := eqK_of a1 a2
    have hf := (h.same (key x)).trans (k.same (key x)).symm
    rw [List.filter_cons, if_pos (by simp), List.filter_cons, if_pos (by simp [ek])] at hf
    injection hf with h1 h2
    subst h1
    have hst : sameF key t s := fun q => by
      have := (h.same q).trans (k.same q).symm
      simp only [List.filter_cons] at this
      split at this
      · injection this
      · exact this
    rw [StS.unique (l := t) ⟨hx.2, hst⟩ ⟨hy.2, sameF.refl t⟩]
theorem StS.refl {l : List α} (h : srt key l) : StS key l l := ⟨h, sameF.refl l⟩
theorem srt.take {l : List α} (h : srt key l) (n : Nat) : srt key (l.take n) := h.sublist (List.take_sublist _ _)
theorem srt.drop {l : List α} (h : srt key l) (n : Nat) : srt key (l.drop n) := h.sublist (List.drop_sublist _ _)
/-- one more is put at its place among sorted ones: behind its equals -/
theorem StS.put {A : List α} {x : α} {j : Nat} (hA : srt key A) (hj : ∀ y ∈ A.drop j, ltK (key x) (key y) = true) (hl : ∀ y ∈ A.take j, ltK (key x) (key y) = false) : StS key (A ++ [x]) (A.take j ++ x :: A.drop j) := by
  have h := List.pairwise_append.1 (show (A.take j ++ A.drop j).Pairwise fun x y => ltK (key y) (key x) = false by rw [List.take_append_drop]; exact hA)
  refine ⟨List.pairwise_append.2 ⟨h.1, List.pairwise_cons.2 ⟨fun y hy => leK_of_lt (hj y hy), h.2.1⟩, fun a ha b hb => ?_⟩, ?_⟩
  · rcases List.mem_cons.1 hb with rfl | hb
    · exact hl a ha
    · exact h.2.2 a ha b hb
  · have := (sameF.refl (key := key) (A.take j)).app (sameF.swap (key := key) (U := A.drop j) (V := [x]) (fun u hu v hv => by
      simp at hv; subst hv
      exact fun e => ltK_ne (hj u hu) e.symm))
    rw [← List.append_assoc, List.take_append_drop] at this
    simpa using this
/-- one is put at its place among sorted ones that stand behind it: ahead of its equals -/
theorem StS.putL {A : List α} {x : α} {j : Nat} (hA : srt key A) (hj : ∀ y ∈ A.take j, ltK (key y) (key x) = true) (hl : ∀ y ∈ A.drop j, ltK (key y) (key x) = false) : StS key (x :: A) (A.take j ++ x :: A.drop j) := by
  have h := List.pairwise_append.1 (show (A.take j ++ A.drop j).Pairwise fun x y => ltK (key y) (key x) = false by rw [List.take_append_drop]; exact hA)
  refine ⟨List.pairwise_append.2 ⟨h.1, List.pairwise_cons.2 ⟨hl, h.2.1⟩, fun a ha b hb => ?_⟩, ?_⟩
  · rcases List.mem_cons.1 hb with rfl | hb
    · exact leK_of_lt (hj a ha)
    · exact h.2.2 a ha b hb
  · have := (sameF.swap (key := key) (U := [x]) (V := A.take j) (fun u hu v hv => by
      simp at hu; subst hu
      exact fun e => ltK_ne (hj v hv) e.symm)).app (sameF.refl (key := key) (A.drop j))
    rw [List.append_assoc, List.append_assoc, List.take_append_drop] at this
    simpa using this
/-- the merge in place: L1 U and V R2 are sorted, V goes ahead of U, and both halves are merged -/
theorem StS.halves {L1 U V R2 X Y : List α} (hL : srt key (L1 ++ U)) (hR : srt key (V ++ R2)) (h1 : ∀ x ∈ L1, ∀ y ∈ R2, ltK (key y) (key x) = false) (h2 : ∀ v ∈ V, ∀ u ∈ U, ltK (key v) (key u) = true)
    (hX : StS key (L1 ++ V) X) (hY : StS key (U ++ R2) Y) : StS key (L1 ++ U ++ (V ++ R2)) (X ++ Y) := by
  refine ⟨List.pairwise_append.2 ⟨hX.ord, hY.ord, fun x hx y hy => ?_⟩, ?_⟩
  · have hx := (hX.same.mem x).1 hx
    have hy := (hY.same.mem y).1 hy
    have a := (List.pairwise_append.1 hL).2.2
    have b := (List.pairwise_append.1 hR).2.2
    rcases List.mem_append.1 hx with hx | hx <;> rcases List.mem_append.1 hy with hy | hy
    · exact a x hx y hy
    · exact h1 x hx y hy
    · exact leK_of_lt (h2 x hx y hy)
    · exact b x hx y hy
  · have s1 : sameF key (U ++ V) (V ++ U) := sameF.swap fun u hu v hv e => ltK_ne (h2 v hv u hu) e.symm
    have s2 := ((sameF.refl (key := key) L1).app s1).app (sameF.refl (key := key) R2)
    have s3 := hX.same.app hY.same
    intro k
    have a := s3 k
    have b := s2 k
    simp only [List.filter_append, List.append_assoc] at a b ⊢
    rw [a, b]
theorem srt_between {A B : List α} (hA : srt key A) (hB : srt key B) {i : Nat} {x y : α} (hx : A[i]? = some x) (hi : i + 1 = A.length) (hy : B[0]? = some y) (h : ltK (key y) (key x) = false) : ∀ a ∈ A, ∀ b ∈ B, ltK (key b) (key a) = false := by
  intro a ha b hb
  obtain ⟨j, hj, rfl⟩ := List.mem_iff_getElem.1 ha
  obtain ⟨q, hq, rfl⟩ := List.mem_iff_getElem.1 hb
  obtain ⟨hi', rfl⟩ := List.getElem?_eq_some_iff.1 hx
  obtain ⟨h0, rfl⟩ := List.getElem?_eq_some_iff.1 hy
  have e1 : ltK (key A[i]) (key A[j]) = false := by
    rcases Nat.lt_or_ge j i with h | h
    · exact List.pairwise_iff_getElem.1 hA j i hj hi' h
    · have : j = i := by omega
      subst this; exact ltK_irrefl _
  have e2 : ltK (key B[q]) (key B[0]) = false := by
    rcases Nat.lt_or_ge 0 q with h | h
    · exact List.pairwise_iff_getElem.1 hB 0 q h0 hq h
    · have : q = 0 := by omega
      subst this; exact ltK_irrefl _
  exact leK_trans (leK_trans e1 h) e2
theorem srt_before {V U : List α} (hV : srt key V) (hU : srt key U) {i : Nat} {x y : α} (hx : V[i]? = some x) (hi : i + 1 = V.length) (hy : U[0]? = some y) (h : ltK (key x) (key y) = true) : ∀ v ∈ V, ∀ u ∈ U, ltK (key v) (key u) = true := by
  intro a ha b hb
  obtain ⟨j, hj, rfl⟩ := List.mem_iff_getElem.1 ha
  obtain ⟨q, hq, rfl⟩ := List.mem_iff_getElem.1 hb
  obtain ⟨hi', rfl⟩ := List.getElem?_eq_some_iff.1 hx
  obtain ⟨h0, rfl⟩ := List.getElem?_eq_some_iff.1 hy
  have e1 : ltK (key V[i]) (key V[j]) = false := by
    rcases Nat.lt_or_ge j i with h | h
    · exact List.pairwise_iff_getElem.1 hV j i hj hi' h
    · have : j = i := by omega
      subst this; exact ltK_irrefl _
  have e2 : ltK (key U[q]) (key U[0]) = false := by
    rcases Nat.lt_or_ge 0 q with h | h
    · exact List.pairwise_iff_getElem.1 hU 0 q h0 hq h
    · have : q = 0 := by omega
      subst this; exact ltK_irrefl _
  exact lt_le_K (le_lt_K e1 h) e2
end

/-! ### segments -/
section
variable {α : Type}
def seg (xs : List α) (a b : Nat) : List α := (xs.take b).drop a
theorem seg_length {xs : List α} {a b : Nat} (hb : b ≤ xs.length) : (seg xs a b).length = b - a := by simp [seg]; omega
theorem seg_get {xs : List α} {a b i : Nat} (h : a + i < b) : (seg xs a b)[i]? = xs[a + i]? := by simp [seg, List.getElem?_drop, h]
theorem seg_split {xs : List α} {a m b : Nat} (h1 : a ≤ m) (h2 : m ≤ b) (hb : b ≤ xs.length) : seg xs a b = seg xs a m ++ seg xs m b := by
  unfold seg
  have : xs.take b = xs.take m ++ (xs.take b).drop m := by
    conv => lhs; rw [← List.take_append_drop m (xs.take b)]
    rw [List.take_take, Nat.min_eq_left h2]
  rw [this, List.drop_append]
  have e : a - (xs.take m).length = 0 := by simp; omega
  rw [e, List.drop_zero, ← this]
theorem seg_all {xs : List α} : seg xs 0 xs.length = xs := by simp [seg]
theorem seg_nil {xs : List α} {a b : Nat} (h : b ≤ a) : seg xs a b = [] := by
  unfold seg
  rw [List.drop_eq_nil_iff]
  simp; omega
theorem seg_cut {xs : List α} {a b : Nat} (h1 : a ≤ b) (hb : b ≤ xs.length) : xs = xs.take a ++ seg xs a b ++ xs.drop b := by
  have h := seg_split (xs := xs) (a := 0) (m := a) (b := b) (Nat.zero_le _) h1 hb
  have e1 : seg xs 0 a = xs.take a := by simp [seg]
  have e2 : seg xs 0 b = xs.take b := by simp [seg]
  rw [e1, e2] at h
  rw [← h, List.take_append_drop]
/-- another segment in the place of one -/
def rep (xs : List α) (a b : Nat) (ys : List α) : List α := xs.take a ++ ys ++ xs.drop b
theorem rep_length {xs ys : List α} {a b : Nat} (h1 : a ≤ b) (hb : b ≤ xs.length) (hy : ys.length = b - a) : (rep xs a b ys).length = xs.length := by simp [rep]; omega
theorem rep_same {xs : List α} {a b : Nat} (h1 : a ≤ b) (hb : b ≤ xs.length) : rep xs a b (seg xs a b) = xs := (seg_cut h1 hb).symm
theorem rep_get {xs ys : List α} {a b : Nat} (h1 : a ≤ b) (hb : b ≤ xs.length) (hy : ys.length = b - a) (i : Nat) : (rep xs a b ys)[i]? = if i < a then xs[i]? else if i < b then ys[i - a]? else xs[i]? := by
  unfold rep
  by_cases h : i < a
  · rw [if_pos h, List.append_assoc, List.getElem?_append_left (by simp; omega), List.getElem?_take, if_pos h]
  · rw [if_neg h]
    by_cases h2 : i < b
    · rw [if_pos h2, List.getElem?_append_left (by simp; omega), List.getElem?_append_right (by simp; omega)]
      congr 1; simp; omega
    · rw [if_neg h2, List.getElem?_append_right (by simp; omega), List.getElem?_drop]
      congr 1; simp; omega
theorem seg_rep {xs ys : List α} {a b : Nat} (h1 : a ≤ b) (hb : b ≤ xs.length) (hy : ys.length = b - a) : seg (rep xs a b ys) a b = ys := by
  apply List.ext_getElem?
  intro i
  by_cases h : a + i < b
  · rw [seg_get h, rep_get h1 hb hy, if_neg (by omega), if_pos h]; congr 1; omega
  · rw [List.getElem?_eq_none (by rw [seg_length (by rw [rep_length h1 hb hy]; exact hb)]; omega), List.getElem?_eq_none (by omega)]
theorem seg_rep_off {xs ys : List α} {a b c d : Nat} (h1 : a ≤ b) (hb : b ≤ xs.length) (hy : ys.length = b - a) (h : d ≤ a ∨ b ≤ c) : seg (rep xs a b ys) c d = seg xs c d := by
  apply List.ext_getElem?
  intro i
  unfold seg
  rw [List.getElem?_drop, List.getElem?_drop, List.getElem?_take, List.getElem?_take]
  split
  · rw [rep_get h1 hb hy]
    split
    · rfl
    · split
      · omega
      · rfl
  · rfl
theorem rep_app {xs ys zs : List α} {a m b : Nat} (h1 : a ≤ m) (h2 : m ≤ b) (hb : b ≤ xs.length) (hy : ys.length = m - a) (hz : zs.length = b - m) : rep (rep xs a m ys) m b zs = rep xs a b (ys ++ zs) := by
  apply List.ext_getElem?
  intro i
  rw [rep_get h2 (by rw [rep_length h1 (by omega) hy]; exact hb) hz, rep_get h1 (by omega) hy, rep_get (by omega) hb (by simp; omega)]
  by_cases c1 : i < a
  · rw [if_pos (by omega), if_pos c1, if_pos c1]
  · by_cases c2 : i < m
    · rw [if_pos c2, if_neg c1, if_pos c2, if_neg c1, if_pos (by omega), List.getElem?_append_left (by omega)]
    · rw [if_neg c2, if_neg c1, if_neg c2]
      by_cases c3 : i < b
      · rw [if_pos c3, if_neg c1, if_pos c3, List.getElem?_append_right (by omega)]; congr 1; omega
      · rw [if_neg c3, if_neg c1, if_neg c3]
theorem rep_rep {xs ys zs : List α} {a b : Nat} (h1 : a ≤ b) (hb : b ≤ xs.length) (hy : ys.length = b - a) (hz : zs.length = b - a) : rep (rep xs a b ys) a b zs = rep xs a b zs := by
  apply List.ext_getElem?
  intro i
  rw [rep_get h1 (by rw [rep_length h1 hb hy]; exact hb) hz, rep_get h1 hb hy, rep_get h1 hb hz]
  split
  · rfl
  · split <;> rfl
variable {key : α → K2}
theorem sameF.rep {xs ys : List α} {a b : Nat} (h1 : a ≤ b) (hb : b ≤ xs.length) (h : sameF key (seg xs a b) ys) : sameF key xs (Wx.rep xs a b ys) := by
  have h2 := ((sameF.refl (key := key) (xs.take a)).app h).app (sameF.refl (key := key) (xs.drop b))
  rw [← seg_cut h1 hb] at h2
  exact h2
end
end Go.Wx
