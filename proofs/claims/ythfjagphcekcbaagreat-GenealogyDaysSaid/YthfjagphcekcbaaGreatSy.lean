/-
  The merge in place, in plain lists: what its parts are, what its searches say, how they are put together. Nothing of any program stands here.
-/
import Derived.Test.YthfjagphcekcbaaGreatSq
namespace Go.Wx
section
variable {α : Type} {key : α → K2}
theorem srt_sub {xs : List α} {a b c d : Nat} (h : srt key (seg xs a b)) (h1 : a ≤ c) (h2 : d ≤ b) : srt key (seg xs c d) := by
  have e : (xs.take d).drop c = ((xs.take d).drop a).drop (c - a) := by rw [List.drop_drop]; congr 1; omega
  have p : xs.take d = (xs.take b).take d := by rw [List.take_take, Nat.min_eq_left h2]
  have q : ((xs.take d).drop a).Sublist ((xs.take b).drop a) := by
    rw [p, List.drop_take]
    exact List.take_sublist _ _
  have r : (seg xs c d).Sublist (seg xs a b) := by
    unfold seg
    rw [e]
    exact (List.drop_sublist _ _).trans q
  exact List.Pairwise.sublist r h
theorem srt_get {xs : List α} {a b p q : Nat} {u v : α} (h : srt key (seg xs a b)) (h1 : a ≤ p) (h2 : p ≤ q) (h3 : q < b) (hu : xs[p]? = some u) (hv : xs[q]? = some v) : ltK (key v) (key u) = false := by
  rcases Nat.lt_or_ge p q with hl | hl
  · have e1 : (seg xs a b)[p - a]? = some u := by rw [seg_get (by omega)]; rw [show a + (p - a) = p by omega]; exact hu
    have e2 : (seg xs a b)[q - a]? = some v := by rw [seg_get (by omega)]; rw [show a + (q - a) = q by omega]; exact hv
    obtain ⟨i1, rfl⟩ := List.getElem?_eq_some_iff.1 e1
    obtain ⟨i2, rfl⟩ := List.getElem?_eq_some_iff.1 e2
    exact List.pairwise_iff_getElem.1 h _ _ i1 i2 (by omega)
  · have : p = q := by omega
    subst this
    rw [hu] at hv; cases hv
    exact ltK_irrefl _
theorem mem_seg {xs : List α} {a b : Nat} {x : α} (hb : b ≤ xs.length) (h : x ∈ seg xs a b) : ∃ q, a ≤ q ∧ q < b ∧ xs[q]? = some x := by
  obtain ⟨i, e⟩ := List.mem_iff_getElem?.1 h
  have hi := (List.getElem?_eq_some_iff.1 e).1
  rw [seg_length hb] at hi
  rw [seg_get (by omega)] at e
  exact ⟨a + i, by omega, by omega, e⟩
theorem sym_h1 {xs : List α} {a mm b s e : Nat} (hA : srt key (seg xs a mm)) (hB : srt key (seg xs mm b)) (h2 : s ≤ mm) (h3 : mm ≤ e) (hb : b ≤ xs.length)
    (h : s ≤ a ∨ b ≤ e ∨ ∃ u v, xs[e]? = some u ∧ xs[s - 1]? = some v ∧ ltK (key u) (key v) = false) : ∀ x ∈ seg xs a s, ∀ y ∈ seg xs e b, ltK (key y) (key x) = false := by
  intro x hx y hy
  rcases h with h | h | ⟨u, v, hu, hv, hl⟩
  · rw [seg_nil h] at hx; simp at hx
  · rw [seg_nil h] at hy; simp at hy
  · obtain ⟨p, p1, p2, hp⟩ := mem_seg (by have := (List.getElem?_eq_some_iff.1 hv).1; omega) hx
    obtain ⟨q, q1, q2, hq⟩ := mem_seg hb hy
    have a1 := srt_get hA p1 (show p ≤ s - 1 by omega) (by omega) hp hv
    have a2 := srt_get hB (show mm ≤ e by omega) q1 q2 hu hq
    exact leK_trans (leK_trans a1 hl) a2
theorem sym_h2 {xs : List α} {a mm b s e : Nat} (hA : srt key (seg xs a mm)) (hB : srt key (seg xs mm b)) (h1 : a ≤ s) (h4 : e ≤ b) (hb : b ≤ xs.length) (hmb : mm ≤ b)
    (h : mm ≤ s ∨ e ≤ mm ∨ ∃ u v, xs[e - 1]? = some u ∧ xs[s]? = some v ∧ ltK (key u) (key v) = true) : ∀ v ∈ seg xs mm e, ∀ u ∈ seg xs s mm, ltK (key v) (key u) = true := by
  intro x hx y hy
  rcases h with h | h | ⟨u, v, hu, hv, hl⟩
  · rw [seg_nil h] at hy; simp at hy
  · rw [seg_nil h] at hx; simp at hx
  · obtain ⟨p, p1, p2, hp⟩ := mem_seg (by omega) hx
    obtain ⟨q, q1, q2, hq⟩ := mem_seg (by omega) hy
    have a1 := srt_get hB p1 (show p ≤ e - 1 by omega) (by omega) hp hu
    have a2 := srt_get hA h1 q1 q2 hv hq
    exact lt_le_K (le_lt_K a1 hl) a2
theorem rot_seg1 {xs : List α} {s mm e : Nat} (h1 : s ≤ mm) (h2 : mm ≤ e) (hb : e ≤ xs.length) : seg (rot xs s mm e) s (s + (e - mm)) = seg xs mm e := by
  have hl := rot_length h1 h2 hb
  apply List.ext_getElem?
  intro i
  by_cases h : i < e - mm
  · rw [seg_get (by omega), seg_get (by omega), rot_get h1 h2 hb, if_neg (by omega), if_pos (by omega)]
    congr 1; omega
  · rw [List.getElem?_eq_none (by rw [seg_length (by omega)]; omega), List.getElem?_eq_none (by rw [seg_length hb]; omega)]
theorem rot_seg2 {xs : List α} {s mm e : Nat} (h1 : s ≤ mm) (h2 : mm ≤ e) (hb : e ≤ xs.length) : seg (rot xs s mm e) (s + (e - mm)) e = seg xs s mm := by
  have hl := rot_length h1 h2 hb
  apply List.ext_getElem?
  intro i
  by_cases h : i < mm - s
  · rw [seg_get (by omega), seg_get (by omega), rot_get h1 h2 hb, if_neg (by omega), if_neg (by omega), if_pos (by omega)]
    congr 1; omega
  · rw [List.getElem?_eq_none (by rw [seg_length (by omega)]; omega), List.getElem?_eq_none (by rw [seg_length (by omega)]; omega)]
theorem rot_off {xs : List α} {s mm e c d : Nat} (h1 : s ≤ mm) (h2 : mm ≤ e) (hb : e ≤ xs.length) (h : d ≤ s ∨ e ≤ c) : seg (rot xs s mm e) c d = seg xs c d := seg_rep_off (by omega) hb (rot_len h1 h2 hb) h
theorem rep_rot {xs zs : List α} {a b s mm e : Nat} (h0 : a ≤ s) (h1 : s ≤ mm) (h2 : mm ≤ e) (h3 : e ≤ b) (hb : b ≤ xs.length) (hz : zs.length = b - a) : rep (rot xs s mm e) a b zs = rep xs a b zs := by
  have hl := rot_length h1 h2 (by omega : e ≤ xs.length)
  apply List.ext_getElem?
  intro q
  rw [rep_get (by omega) (by omega) hz, rep_get (by omega) hb hz, rot_get h1 h2 (by omega)]
  by_cases c1 : q < a
  · rw [if_pos c1, if_pos c1, if_pos (by omega)]
  · rw [if_neg c1, if_neg c1]
    by_cases c2 : q < b
    · rw [if_pos c2, if_pos c2]
    · rw [if_neg c2, if_neg c2, if_neg (by omega), if_neg (by omega), if_neg (by omega)]
theorem sym_left {xs : List α} {a s mm e mid : Nat} (h0 : a ≤ s) (h1 : s ≤ mm) (h2 : mm ≤ e) (hb : e ≤ xs.length) (hm : mid = s + (e - mm)) : seg (rot xs s mm e) a mid = seg xs a s ++ seg xs mm e := by
  subst hm
  rw [seg_split (m := s) h0 (by omega) (by rw [rot_length h1 h2 hb]; omega), rot_off h1 h2 hb (.inl (Nat.le_refl _)), rot_seg1 h1 h2 hb]
theorem sym_right {xs : List α} {s mm e b mid : Nat} (h1 : s ≤ mm) (h2 : mm ≤ e) (h3 : e ≤ b) (hb : b ≤ xs.length) (hm : mid = s + (e - mm)) : seg (rot xs s mm e) mid b = seg xs s mm ++ seg xs e b := by
  subst hm
  rw [seg_split (m := e) (by omega) h3 (by rw [rot_length h1 h2 (by omega)]; omega), rot_off h1 h2 (by omega) (.inr (Nat.le_refl _)), rot_seg2 h1 h2 (by omega)]
theorem sym_done {xs X Y : List α} {a mm b s e mid : Nat} (h0 : a ≤ s) (h1 : s ≤ mm) (h2 : mm ≤ e) (h3 : e ≤ b) (hb : b ≤ xs.length) (hm : mid = s + (e - mm)) (hA : srt key (seg xs a mm)) (hB : srt key (seg xs mm b))
    (k1 : ∀ x ∈ seg xs a s, ∀ y ∈ seg xs e b, ltK (key y) (key x) = false) (k2 : ∀ v ∈ seg xs mm e, ∀ u ∈ seg xs s mm, ltK (key v) (key u) = true)
    (hX : StS key (seg (rot xs s mm e) a mid) X) (hY : StS key (seg (rep (rot xs s mm e) a mid X) mid b) Y) : StS key (seg xs a b) (X ++ Y) ∧ rep (rep (rot xs s mm e) a mid X) mid b Y = rep xs a b (X ++ Y) := by
  have hl := rot_length h1 h2 (by omega : e ≤ xs.length)
  have hXl : X.length = mid - a := by rw [hX.same.length, seg_length (by omega)]
  rw [seg_rep_off (by omega) (by omega) hXl (.inr (Nat.le_refl _))] at hY
  have hYl : Y.length = b - mid := by rw [hY.same.length, seg_length (by omega)]
  rw [sym_left h0 h1 h2 (by omega) hm] at hX
  rw [sym_right h1 h2 h3 hb hm] at hY
  have eA : seg xs a s ++ seg xs s mm = seg xs a mm := (seg_split h0 h1 (by omega)).symm
  have eB : seg xs mm e ++ seg xs e b = seg xs mm b := (seg_split h2 h3 hb).symm
  refine ⟨?_, ?_⟩
  · have := StS.halves (by rw [eA]; exact hA) (by rw [eB]; exact hB) k1 k2 hX hY
    rw [eA, eB, ← seg_split (by omega) (by omega) hb] at this
    exact this
  · rw [rep_app (by omega) (by omega) (by omega) hXl hYl, rep_rot h0 h1 h2 h3 hb (by rw [List.length_append]; omega)]
/-- one ahead of sorted ones: its place is found -/
theorem sym_one {xs : List α} {a b i : Nat} {x : α} (hb : b ≤ xs.length) (hx : xs[a]? = some x) (hab : a + 1 ≤ i) (hib : i ≤ b) (hB : srt key (seg xs (a + 1) b)) (hL : ∀ q y, a + 1 ≤ q → q < i → xs[q]? = some y → ltK (key y) (key x) = true) (hR : ∀ q y, i ≤ q → q < b → xs[q]? = some y → ltK (key y) (key x) = false) :
    StS key (seg xs a b) (insAt (seg xs (a + 1) b) x (i - (a + 1))) := by
  have e : seg xs a b = x :: seg xs (a + 1) b := by
    rw [seg_split (m := a + 1) (by omega) (by omega) hb, seg_snoc (Nat.le_refl a) hx, seg_nil (Nat.le_refl a)]; rfl
  have t : (seg xs (a + 1) b).take (i - (a + 1)) = seg xs (a + 1) i := by
    unfold seg
    rw [List.take_drop, List.take_take, show a + 1 + (i - (a + 1)) = i by omega, Nat.min_eq_left hib]
  have d : (seg xs (a + 1) b).drop (i - (a + 1)) = seg xs i b := by
    unfold seg
    rw [List.drop_drop, show a + 1 + (i - (a + 1)) = i by omega]
  rw [e]
  refine StS.putL hB (fun y hy => ?_) (fun y hy => ?_)
  · rw [t] at hy
    obtain ⟨q, q1, q2, hq⟩ := mem_seg (by omega) hy
    exact hL q y q1 q2 hq
  · rw [d] at hy
    obtain ⟨q, q1, q2, hq⟩ := mem_seg hb hy
    exact hR q y q1 q2 hq
/-- one behind sorted ones -/
theorem sym_last {xs : List α} {a m i : Nat} {x : α} (hx : xs[m]? = some x) (h1 : a ≤ i) (h2 : i ≤ m) (hA : srt key (seg xs a m)) (hL : ∀ q y, a ≤ q → q < i → xs[q]? = some y → ltK (key x) (key y) = false) (hR : ∀ q y, i ≤ q → q < m → xs[q]? = some y → ltK (key x) (key y) = true) :
    StS key (seg xs a (m + 1)) (insAt (seg xs a m) x (i - a)) := by
  have hm := (List.getElem?_eq_some_iff.1 hx).1
  have t : (seg xs a m).take (i - a) = seg xs a i := by
    unfold seg
    rw [List.take_drop, List.take_take, show a + (i - a) = i by omega, Nat.min_eq_left h2]
  have d : (seg xs a m).drop (i - a) = seg xs i m := by
    unfold seg
    rw [List.drop_drop, show a + (i - a) = i by omega]
  rw [seg_snoc (by omega) hx]
  refine StS.put hA (fun y hy => ?_) (fun y hy => ?_)
  · rw [d] at hy
    obtain ⟨q, q1, q2, hq⟩ := mem_seg (by omega) hy
    exact hR q y q1 q2 hq
  · rw [t] at hy
    obtain ⟨q, q1, q2, hq⟩ := mem_seg (by omega) hy
    exact hL q y q1 q2 hq
theorem rot_triv {xs : List α} {s mm e : Nat} (h : ¬ (s < mm ∧ mm < e)) (h1 : s ≤ mm) (h2 : mm ≤ e) (hb : e ≤ xs.length) : rot xs s mm e = xs := by
  rcases Nat.lt_or_ge s mm with h3 | h3
  · have : e = mm := by omega
    subst this
    exact rot_right h1 hb
  · have : s = mm := by omega
    subst this
    exact rot_left h2 hb
theorem sym_skipL {xs : List α} {a mm b s e mid : Nat} (hA : srt key (seg xs a mm)) (hB : srt key (seg xs mm b)) (h0 : a ≤ s) (h1 : s ≤ mm) (h2 : mm ≤ e) (h3 : e ≤ b) (hb : b ≤ xs.length) (hm : mid = s + (e - mm)) (h : ¬ (a < s ∧ s < mid)) : srt key (seg (rot xs s mm e) a mid) := by
  rw [sym_left h0 h1 h2 (by omega) hm]
  rcases Nat.lt_or_ge a s with h4 | h4
  · rw [seg_nil (show e ≤ mm by omega), List.append_nil]
    exact srt_sub hA (Nat.le_refl _) h1
  · rw [seg_nil h4, List.nil_append]
    exact srt_sub hB (Nat.le_refl _) h3
theorem sym_skipR {xs X : List α} {a mm b s e mid : Nat} (hA : srt key (seg xs a mm)) (hB : srt key (seg xs mm b)) (h0 : a ≤ s) (h1 : s ≤ mm) (h2 : mm ≤ e) (h3 : e ≤ b) (hb : b ≤ xs.length) (hm : mid = s + (e - mm)) (hX : X.length = mid - a) (h : ¬ (mid < e ∧ e < b)) : srt key (seg (rep (rot xs s mm e) a mid X) mid b) := by
  have hl := rot_length h1 h2 (by omega : e ≤ xs.length)
  rw [seg_rep_off (by omega) (by omega) hX (.inr (Nat.le_refl _)), sym_right h1 h2 h3 hb hm]
  rcases Nat.lt_or_ge mid e with h4 | h4
  · rw [seg_nil (show b ≤ e by omega), List.append_nil]
    exact srt_sub hA h0 (Nat.le_refl _)
  · rw [seg_nil (show mm ≤ s by omega), List.nil_append]
    exact srt_sub hB h2 (Nat.le_refl _)
theorem sym_ih1 {xs : List α} {a mm b s e mid : Nat} (hA : srt key (seg xs a mm)) (hB : srt key (seg xs mm b)) (h1 : s ≤ mm) (h2 : mm ≤ e) (h3 : e ≤ b) (hb : b ≤ xs.length) (hm : mid = s + (e - mm)) : srt key (seg (rot xs s mm e) a s) ∧ srt key (seg (rot xs s mm e) s mid) := by
  subst hm
  rw [rot_off h1 h2 (by omega) (.inl (Nat.le_refl _)), rot_seg1 h1 h2 (by omega)]
  exact ⟨srt_sub hA (Nat.le_refl _) h1, srt_sub hB (Nat.le_refl _) h3⟩
theorem sym_ih2 {xs X : List α} {a mm b s e mid : Nat} (hA : srt key (seg xs a mm)) (hB : srt key (seg xs mm b)) (h0 : a ≤ s) (h1 : s ≤ mm) (h2 : mm ≤ e) (h3 : e ≤ b) (hb : b ≤ xs.length) (hm : mid = s + (e - mm)) (hX : X.length = mid - a) : srt key (seg (rep (rot xs s mm e) a mid X) mid e) ∧ srt key (seg (rep (rot xs s mm e) a mid X) e b) := by
  have hl := rot_length h1 h2 (by omega : e ≤ xs.length)
  rw [seg_rep_off (by omega) (by omega) hX (.inr (Nat.le_refl _)), seg_rep_off (by omega) (by omega) hX (.inr (by omega)), rot_off h1 h2 (by omega) (.inr (Nat.le_refl _))]
  subst hm
  rw [rot_seg2 h1 h2 (by omega)]
  exact ⟨srt_sub hA h0 (Nat.le_refl _), srt_sub hB h2 (Nat.le_refl _)⟩
end
end Go.Wx
