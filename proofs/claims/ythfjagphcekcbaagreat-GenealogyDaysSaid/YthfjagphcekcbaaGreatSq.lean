/-
  The steps of sorting in place, in plain lists: swaps, rotations, an element on its way to its place. Nothing of any program stands here.
-/
import Derived.Test.YthfjagphcekcbaaGreatSo
namespace Go.Wx
section
variable {α : Type}
/-! ### swaps -/
def swp (xs : List α) (i j : Nat) : List α := match xs[i]?, xs[j]? with
  | some x, some y => (xs.set i y).set j x
  | _, _ => xs
theorem swp_length (xs : List α) (i j : Nat) : (swp xs i j).length = xs.length := by
  unfold swp
  split <;> simp
theorem swp_of {xs : List α} {i j : Nat} {x y : α} (hi : xs[i]? = some x) (hj : xs[j]? = some y) : swp xs i j = (xs.set i y).set j x := by
  unfold swp; rw [hi, hj]
theorem swp_get {xs : List α} {i j : Nat} (hi : i < xs.length) (hj : j < xs.length) (q : Nat) : (swp xs i j)[q]? = if q = j then xs[i]? else if q = i then xs[j]? else xs[q]? := by
  rw [swp_of (List.getElem?_eq_getElem hi) (List.getElem?_eq_getElem hj), List.getElem?_set]
  by_cases h1 : j = q
  · subst h1
    rw [if_pos rfl, if_pos (by simpa using hj), if_pos rfl, List.getElem?_eq_getElem hi]
  · rw [if_neg h1, if_neg (Ne.symm h1), List.getElem?_set]
    by_cases h2 : i = q
    · subst h2
      rw [if_pos rfl, if_pos hi, if_pos rfl, List.getElem?_eq_getElem hj]
    · rw [if_neg h2, if_neg (Ne.symm h2)]
def swR (xs : List α) (a b : Nat) : Nat → List α
  | 0 => xs
  | n + 1 => swp (swR xs a b n) (a + n) (b + n)
theorem swR_length (xs : List α) (a b : Nat) : ∀ n, (swR xs a b n).length = xs.length
  | 0 => rfl
  | n + 1 => by rw [swR, swp_length, swR_length xs a b n]
theorem swR_get {xs : List α} {a b : Nat} : ∀ {n : Nat}, a + n ≤ b → b + n ≤ xs.length → ∀ q, (swR xs a b n)[q]? = if a ≤ q ∧ q < a + n then xs[q - a + b]? else if b ≤ q ∧ q < b + n then xs[q - b + a]? else xs[q]?
  | 0, _, _, q => by rw [swR, if_neg (by omega), if_neg (by omega)]
  | n + 1, h1, h2, q => by
    rw [swR, swp_get (by rw [swR_length]; omega) (by rw [swR_length]; omega)]
    rw [swR_get (n := n) (by omega) (by omega) (a + n), swR_get (n := n) (by omega) (by omega) (b + n), swR_get (n := n) (by omega) (by omega) q]
    by_cases c1 : q = b + n
    · rw [if_pos c1, if_neg (by omega), if_neg (by omega), if_neg (by omega), if_pos (by omega)]
      congr 1; omega
    · rw [if_neg c1]
      by_cases c2 : q = a + n
      · rw [if_pos c2, if_neg (by omega), if_neg (by omega), if_pos (by omega)]
        congr 1; omega
      · rw [if_neg c2]
        by_cases c3 : a ≤ q ∧ q < a + n
        · rw [if_pos c3, if_pos (by omega)]
        · have e1 : ¬ (a ≤ q ∧ q < a + (n + 1)) := by omega
          rw [if_neg c3, if_neg e1]
          by_cases c4 : b ≤ q ∧ q < b + n
          · rw [if_pos c4, if_pos (by omega)]
          · have e2 : ¬ (b ≤ q ∧ q < b + (n + 1)) := by omega
            rw [if_neg c4, if_neg e2]
/-! ### rotations -/
/-- the parts from a to m and from m to b change places -/
def rot (xs : List α) (a m b : Nat) : List α := rep xs a b (seg xs m b ++ seg xs a m)
theorem rot_len {xs : List α} {a m b : Nat} (h1 : a ≤ m) (h2 : m ≤ b) (hb : b ≤ xs.length) : (seg xs m b ++ seg xs a m).length = b - a := by
  rw [List.length_append, seg_length hb, seg_length (by omega)]; omega
theorem rot_length {xs : List α} {a m b : Nat} (h1 : a ≤ m) (h2 : m ≤ b) (hb : b ≤ xs.length) : (rot xs a m b).length = xs.length := rep_length (by omega) hb (rot_len h1 h2 hb)
theorem rot_get {xs : List α} {a m b : Nat} (h1 : a ≤ m) (h2 : m ≤ b) (hb : b ≤ xs.length) (q : Nat) : (rot xs a m b)[q]? = if q < a then xs[q]? else if q < a + (b - m) then xs[q - a + m]? else if q < b then xs[q - (b - m)]? else xs[q]? := by
  unfold rot
  rw [rep_get (by omega) hb (rot_len h1 h2 hb)]
  by_cases c1 : q < a
  · rw [if_pos c1, if_pos c1]
  · rw [if_neg c1, if_neg c1]
    by_cases c2 : q < a + (b - m)
    · rw [if_pos (by omega), if_pos c2, List.getElem?_append_left (by rw [seg_length hb]; omega), seg_get (by omega)]
      congr 1; omega
    · rw [if_neg c2]
      by_cases c3 : q < b
      · rw [if_pos c3, if_pos c3, List.getElem?_append_right (by rw [seg_length hb]; omega), seg_length hb, seg_get (by omega)]
        congr 1; omega
      · rw [if_neg c3, if_neg c3]
theorem rot_big {xs : List α} {m i j : Nat} (hi : i ≤ m) (hij : j < i) (hj : 0 < j) (hb : m + j ≤ xs.length) : rot (swR xs (m - i) m j) (m - (i - j)) m (m + j) = rot xs (m - i) m (m + j) := by
  apply List.ext_getElem?
  intro q
  have hl := swR_length xs (m - i) m j
  rw [rot_get (by omega) (by omega) (by rw [hl]; exact hb), rot_get (by omega) (by omega) hb]
  have g : ∀ q, (swR xs (m - i) m j)[q]? = _ := fun q => swR_get (by omega) hb q
  rw [g, g, g]
  by_cases c1 : q < m - i
  · rw [if_pos (by omega), if_neg (by omega), if_neg (by omega), if_pos c1]
  · by_cases c2 : q < m - i + j
    · rw [if_pos (by omega), if_pos (by omega), if_neg c1, if_pos (by omega)]
    · by_cases c3 : q < m - (i - j) + j
      · rw [if_neg (by omega), if_pos (by omega), if_neg (by omega), if_pos (by omega), if_neg c1, if_neg (by omega), if_pos (by omega)]
        congr 1; omega
      · by_cases c4 : q < m + j
        · rw [if_neg (by omega), if_neg (by omega), if_pos c4, if_neg (by omega), if_neg (by omega), if_neg c1, if_neg (by omega), if_pos c4]
        · rw [if_neg (by omega), if_neg (by omega), if_neg c4, if_neg (by omega), if_neg (by omega), if_neg c1, if_neg (by omega), if_neg c4]
theorem rot_small {xs : List α} {m i j : Nat} (hi : i ≤ m) (hij : i < j) (h0 : 0 < i) (hb : m + j ≤ xs.length) : rot (swR xs (m - i) (m + j - i) i) (m - i) m (m + (j - i)) = rot xs (m - i) m (m + j) := by
  apply List.ext_getElem?
  intro q
  have hl := swR_length xs (m - i) (m + j - i) i
  rw [rot_get (by omega) (by omega) (by rw [hl]; omega), rot_get (by omega) (by omega) hb]
  have g : ∀ q, (swR xs (m - i) (m + j - i) i)[q]? = _ := fun q => swR_get (by omega) (by omega) q
  rw [g, g, g]
  by_cases c1 : q < m - i
  · rw [if_pos c1, if_neg (by omega), if_neg (by omega), if_pos c1]
  · by_cases c2 : q < m - i + (j - i)
    · rw [if_neg c1, if_pos (by omega), if_neg (by omega), if_neg (by omega), if_neg c1, if_pos (by omega)]
    · by_cases c3 : q < m + (j - i)
      · rw [if_neg c1, if_neg (by omega), if_pos c3, if_pos (by omega), if_neg c1, if_pos (by omega)]
        congr 1; omega
      · by_cases c4 : q < m + j
        · rw [if_neg c1, if_neg (by omega), if_neg c3, if_neg (by omega), if_pos (by omega), if_neg c1, if_neg (by omega), if_pos c4]
          congr 1; omega
        · rw [if_neg c1, if_neg (by omega), if_neg c3, if_neg (by omega), if_neg (by omega), if_neg c1, if_neg (by omega), if_neg c4]
theorem rot_half {xs : List α} {m i : Nat} (hi : i ≤ m) (hb : m + i ≤ xs.length) : swR xs (m - i) m i = rot xs (m - i) m (m + i) := by
  apply List.ext_getElem?
  intro q
  rw [rot_get (by omega) (by omega) hb, swR_get (by omega) hb]
  by_cases c1 : q < m - i
  · rw [if_neg (by omega), if_neg (by omega), if_pos c1]
  · by_cases c2 : q < m
    · rw [if_pos (by omega), if_neg c1, if_pos (by omega)]
    · by_cases c3 : q < m + i
      · rw [if_neg (by omega), if_pos (by omega), if_neg c1, if_neg (by omega), if_pos c3]
        congr 1; omega
      · rw [if_neg (by omega), if_neg (by omega), if_neg c1, if_neg (by omega), if_neg c3]
theorem rot_left {xs : List α} {m b : Nat} (h : m ≤ b) (hb : b ≤ xs.length) : rot xs m m b = xs := by
  rw [rot, seg_nil (a := m) (b := m) (Nat.le_refl _), List.append_nil, rep_same h hb]
theorem rot_right {xs : List α} {a m : Nat} (h : a ≤ m) (hb : m ≤ xs.length) : rot xs a m m = xs := by
  rw [rot, seg_nil (a := m) (b := m) (Nat.le_refl _), List.nil_append, rep_same h hb]
/-! ### one element among others -/
def insAt (A : List α) (x : α) (p : Nat) : List α := A.take p ++ x :: A.drop p
theorem insAt_length (A : List α) (x : α) (p : Nat) : (insAt A x p).length = A.length + 1 := by simp [insAt]; omega
theorem insAt_self {A : List α} {x : α} {p : Nat} (h : p ≤ A.length) : (insAt A x p)[p]? = some x := by
  rw [insAt, List.getElem?_append_right (by simp; omega)]
  have : p - (A.take p).length = 0 := by simp; omega
  rw [this]; rfl
theorem insAt_before {A : List α} {x : α} {p q : Nat} (h : p ≤ A.length) (hq : q < p) : (insAt A x p)[q]? = A[q]? := by
  rw [insAt, List.getElem?_append_left (by simp; omega), List.getElem?_take, if_pos hq]
theorem insAt_behind {A : List α} {x : α} {p q : Nat} (h : p ≤ A.length) (hq : p < q) : (insAt A x p)[q]? = A[q - 1]? := by
  rw [insAt, List.getElem?_append_right (by simp; omega)]
  have e : q - (A.take p).length = (q - p - 1) + 1 := by simp; omega
  rw [e, List.getElem?_cons_succ, List.getElem?_drop]
  congr 1; omega
theorem insAt_swap {A : List α} {x : α} {p : Nat} (h : p < A.length) : swp (insAt A x p) p (p + 1) = insAt A x (p + 1) := by
  have hl := insAt_length A x p
  apply List.ext_getElem?
  intro q
  rw [swp_get (by omega) (by omega)]
  by_cases c1 : q = p + 1
  · rw [if_pos c1, c1, insAt_self (by omega), insAt_self (by omega)]
  · rw [if_neg c1]
    by_cases c2 : q = p
    · rw [if_pos c2, c2, insAt_behind (by omega) (by omega), insAt_before (by omega) (by omega)]; simp
    · rw [if_neg c2]
      by_cases c3 : q < p
      · rw [insAt_before (by omega) c3, insAt_before (by omega) (by omega)]
      · rw [insAt_behind (by omega) (by omega), insAt_behind (by omega) (by omega)]
theorem swp_comm {xs : List α} {i j : Nat} (hi : i < xs.length) (hj : j < xs.length) (hne : i ≠ j) : swp xs i j = swp xs j i := by
  apply List.ext_getElem?
  intro q
  rw [swp_get hi hj, swp_get hj hi]
  by_cases c1 : q = j
  · rw [if_pos c1, if_neg (by omega), if_pos c1]
  · rw [if_neg c1]
    by_cases c2 : q = i
    · rw [if_pos c2, if_pos c2]
    · rw [if_neg c2, if_neg c2, if_neg c1]
theorem swp_rep {xs ys : List α} {a b i j : Nat} (h1 : a ≤ b) (hb : b ≤ xs.length) (hy : ys.length = b - a) (hi : i < ys.length) (hj : j < ys.length) : swp (rep xs a b ys) (a + i) (a + j) = rep xs a b (swp ys i j) := by
  have hl := rep_length h1 hb hy
  have hi' : a + i < (rep xs a b ys).length := by omega
  have hj' : a + j < (rep xs a b ys).length := by omega
  have e1 : (rep xs a b ys)[a + i]? = ys[i]? := by rw [rep_get h1 hb hy, if_neg (by omega), if_pos (by omega)]; congr 1; omega
  have e2 : (rep xs a b ys)[a + j]? = ys[j]? := by rw [rep_get h1 hb hy, if_neg (by omega), if_pos (by omega)]; congr 1; omega
  apply List.ext_getElem?
  intro q
  rw [swp_get hi' hj' q, e1, e2, rep_get h1 hb hy q, rep_get h1 hb (by rw [swp_length]; exact hy) q, swp_get hi hj]
  by_cases c0 : q < a
  · rw [if_neg (by omega), if_neg (by omega), if_pos c0, if_pos c0]
  · rw [if_neg c0, if_neg c0]
    by_cases c1 : q = a + j
    · have d1 : q - a = j := by omega
      rw [if_pos c1, if_pos (show q < b by omega), if_pos d1]
    · have d1 : ¬ q - a = j := by omega
      rw [if_neg c1, if_neg d1]
      by_cases c2 : q = a + i
      · have d2 : q - a = i := by omega
        rw [if_pos c2, if_pos (show q < b by omega), if_pos d2]
      · have d2 : ¬ q - a = i := by omega
        rw [if_neg c2, if_neg d2]
theorem insAt_end (A : List α) (x : α) : insAt A x A.length = A ++ [x] := by simp [insAt]
theorem insAt_start (A : List α) (x : α) : insAt A x 0 = x :: A := by simp [insAt]
theorem swp_swp {xs : List α} {i j : Nat} (hi : i < xs.length) (hj : j < xs.length) : swp (swp xs i j) i j = xs := by
  have hl := swp_length xs i j
  apply List.ext_getElem?
  intro q
  rw [swp_get (xs := swp xs i j) (by omega) (by omega) q, swp_get hi hj i, swp_get hi hj j, swp_get hi hj q]
  by_cases c1 : q = j
  · rw [if_pos c1, c1]
    by_cases c2 : i = j
    · rw [if_pos c2, c2]
    · rw [if_neg c2, if_pos rfl]
  · rw [if_neg c1, if_neg c1]
    by_cases c2 : q = i
    · rw [if_pos c2, if_pos rfl, c2]
    · rw [if_neg c2, if_neg c2]
end
theorem rep_snoc {α : Type} {xs zs : List α} {a i : Nat} {x : α} (h1 : a ≤ i) (hx : xs[i]? = some x) (hz : zs.length = i - a) : rep xs a (i + 1) (zs ++ [x]) = rep xs a i zs := by
  obtain ⟨hi, e⟩ := List.getElem?_eq_some_iff.1 hx
  have hl := rep_length (ys := zs) h1 (by omega : i ≤ xs.length) hz
  rw [← rep_app (m := i) h1 (by omega) (by omega) hz (by simp)]
  have e2 : [x] = seg (rep xs a i zs) i (i + 1) := by
    rw [seg_rep_off h1 (by omega) hz (.inr (Nat.le_refl _))]
    apply List.ext_getElem?
    intro q
    by_cases h : i + q < i + 1
    · have : q = 0 := by omega
      subst this
      rw [seg_get h, Nat.add_zero, hx]; rfl
    · rw [List.getElem?_eq_none (by simp; omega), List.getElem?_eq_none (by rw [seg_length (by omega)]; omega)]
  rw [e2, rep_same (by omega) (by omega)]
theorem seg_snoc {α : Type} {xs : List α} {a i : Nat} {x : α} (h1 : a ≤ i) (hx : xs[i]? = some x) : seg xs a (i + 1) = seg xs a i ++ [x] := by
  obtain ⟨hi, e⟩ := List.getElem?_eq_some_iff.1 hx
  rw [seg_split h1 (by omega) (by omega)]
  congr 1
  apply List.ext_getElem?
  intro q
  by_cases h : i + q < i + 1
  · have : q = 0 := by omega
    subst this
    rw [seg_get h, Nat.add_zero, hx]; rfl
  · rw [List.getElem?_eq_none (by rw [seg_length (by omega)]; omega), List.getElem?_eq_none (by simp; omega)]
theorem ins_x {α : Type} {xs zs : List α} {a b p : Nat} {x : α} (h1 : a ≤ b) (hb : b ≤ xs.length) (hz : zs.length + 1 = b - a) (hp : p ≤ zs.length) : (rep xs a b (insAt zs x p))[a + p]? = some x := by
  rw [rep_get h1 hb (by rw [insAt_length]; exact hz), if_neg (by omega), if_pos (by omega)]
  have : a + p - a = p := by omega
  rw [this, insAt_self hp]
theorem ins_before {α : Type} {xs zs : List α} {a b p q : Nat} {x : α} (h1 : a ≤ b) (hb : b ≤ xs.length) (hz : zs.length + 1 = b - a) (hp : p ≤ zs.length) (hq : q < p) : (rep xs a b (insAt zs x p))[a + q]? = zs[q]? := by
  rw [rep_get h1 hb (by rw [insAt_length]; exact hz), if_neg (by omega), if_pos (by omega)]
  have : a + q - a = q := by omega
  rw [this, insAt_before hp hq]
theorem ins_behind {α : Type} {xs zs : List α} {a b p q : Nat} {x : α} (h1 : a ≤ b) (hb : b ≤ xs.length) (hz : zs.length + 1 = b - a) (hq : p < q) (hqz : q ≤ zs.length) : (rep xs a b (insAt zs x p))[a + q]? = zs[q - 1]? := by
  rw [rep_get h1 hb (by rw [insAt_length]; exact hz), if_neg (by omega), if_pos (by omega)]
  have : a + q - a = q := by omega
  rw [this, insAt_behind (by omega) hq]
/-- x goes one place to the front -/
theorem ins_down {α : Type} {xs zs : List α} {a b p : Nat} {x y : α} (h1 : a ≤ b) (hb : b ≤ xs.length) (hz : zs.length + 1 = b - a) (hp : p < zs.length) (hy : zs[p]? = some y) : ((rep xs a b (insAt zs x (p + 1))).set (a + (p + 1)) y).set (a + p) x = rep xs a b (insAt zs x p) := by
  have hl := insAt_length zs x (p + 1)
  rw [← swp_of (ins_x (p := p + 1) h1 hb hz (by omega)) ((ins_before (p := p + 1) h1 hb hz (by omega) (show p < p + 1 by omega)).trans hy), swp_rep h1 hb (by rw [hl]; exact hz) (by omega) (by omega), swp_comm (by omega) (by omega) (by omega), ← insAt_swap hp, swp_swp (by rw [insAt_length]; omega) (by rw [insAt_length]; omega)]
/-- x goes one place to the end -/
theorem ins_up {α : Type} {xs zs : List α} {a b p : Nat} {x y : α} (h1 : a ≤ b) (hb : b ≤ xs.length) (hz : zs.length + 1 = b - a) (hp : p < zs.length) (hy : zs[p]? = some y) : ((rep xs a b (insAt zs x p)).set (a + p) y).set (a + (p + 1)) x = rep xs a b (insAt zs x (p + 1)) := by
  have hl := insAt_length zs x p
  rw [← swp_of (ins_x h1 hb hz (by omega)) ((ins_behind (q := p + 1) h1 hb hz (show p < p + 1 by omega) (by omega)).trans hy), swp_rep h1 hb (by rw [hl]; exact hz) (by omega) (by omega), insAt_swap hp]
theorem StS.snoc {α : Type} {key : α → K2} {L zs : List α} {x : α} {p : Nat} (h : StS key L zs) (hp : p ≤ zs.length) (hgt : ∀ y ∈ zs.drop p, ltK (key x) (key y) = true) (hle : p = 0 ∨ ∃ y, zs[p - 1]? = some y ∧ ltK (key x) (key y) = false) : StS key (L ++ [x]) (insAt zs x p) := by
  have h1 : StS key (zs ++ [x]) (insAt zs x p) := StS.put h.ord hgt (fun y hy => by
    rcases hle with rfl | ⟨z, hz, hzl⟩
    · simp at hy
    · obtain ⟨q, hq, rfl⟩ := List.mem_iff_getElem.1 hy
      rw [List.getElem_take]
      have hq' : q < p := by simp at hq; omega
      obtain ⟨hz1, rfl⟩ := List.getElem?_eq_some_iff.1 hz
      rcases Nat.lt_or_ge q (p - 1) with h3 | h3
      · exact leK_trans (List.pairwise_iff_getElem.1 h.ord q (p - 1) (by omega) hz1 h3) hzl
      · have : q = p - 1 := by omega
        subst this
        exact hzl)
  exact ⟨h1.ord, (h.same.app (sameF.refl [x])).trans h1.same⟩
theorem srt_one {α : Type} {key : α → K2} {l : List α} (h : l.length ≤ 1) : srt key l := by
  match l, h with
  | [], _ => exact List.Pairwise.nil
  | [x], _ => exact List.pairwise_singleton _ _
  | _ :: _ :: _, h => simp at h
theorem drop_pred {α : Type} {zs : List α} {p : Nat} {y : α} {P : α → Prop} (hp : 1 ≤ p) (hy : zs[p - 1]? = some y) (h : ∀ z ∈ zs.drop p, P z) (hP : P y) : ∀ z ∈ zs.drop (p - 1), P z := by
  obtain ⟨h1, rfl⟩ := List.getElem?_eq_some_iff.1 hy
  rw [List.drop_eq_getElem_cons h1, show p - 1 + 1 = p by omega]
  intro z hz
  rcases List.mem_cons.1 hz with rfl | hz
  · exact hP
  · exact h z hz
end Go.Wx
