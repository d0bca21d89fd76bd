/-
  Blocks that are sorted and merged, in plain lists. Nothing of any program stands here.
-/
import Derived.Test.YthfjagphcekcbaaGreatSy
namespace Go.Wx
section
variable {α : Type} {key : α → K2}
def Bks (key : α → K2) (ys : List α) (B : Nat) : Prop := ∀ i, srt key (seg ys (B * i) (min (B * i + B) ys.length))
/-- the blocks of B below a are sorted -/
def Ins (key : α → K2) (ys : List α) (B a : Nat) : Prop := (∃ q, a = B * q) ∧ ∀ i, B * (i + 1) ≤ a → srt key (seg ys (B * i) (B * i + B))
def Mrg (key : α → K2) (ys : List α) (B a : Nat) : Prop := Ins key ys (2 * B) a ∧ ∀ i, a ≤ B * i → srt key (seg ys (B * i) (min (B * i + B) ys.length))
theorem Ins.zero (ys : List α) (B : Nat) (hB : 0 < B) : Ins key ys B 0 := ⟨⟨0, rfl⟩, fun i h => by
  rw [Nat.mul_add, Nat.mul_one] at h
  omega⟩
theorem Ins.step {ys zs : List α} {B a : Nat} (hB : 0 < B) (h : Ins key ys B a) (hb : a + B ≤ ys.length) (hz : StS key (seg ys a (a + B)) zs) : Ins key (rep ys a (a + B) zs) B (a + B) := by
  obtain ⟨⟨q, rfl⟩, hs⟩ := h
  have hzl : zs.length = B * q + B - B * q := by rw [hz.same.length, seg_length hb]
  refine ⟨⟨q + 1, by rw [Nat.mul_add, Nat.mul_one]⟩, fun i hi => ?_⟩
  have hle : i ≤ q := by
    have : B * (i + 1) ≤ B * (q + 1) := by rw [Nat.mul_add B q 1, Nat.mul_one]; exact hi
    have := Nat.le_of_mul_le_mul_left this hB
    omega
  rcases Nat.lt_or_ge i q with h | h
  · have h1 : B * (i + 1) ≤ B * q := Nat.mul_le_mul_left B h
    rw [seg_rep_off (by omega) hb hzl (.inl (by rw [Nat.mul_add, Nat.mul_one] at h1; exact h1))]
    exact hs i h1
  · have : i = q := by omega
    subst this
    rw [seg_rep (by omega) hb hzl]
    exact hz.ord
theorem Ins.last {ys zs : List α} {B a : Nat} (h : Ins key ys B a) (ha : a ≤ ys.length) (hb : ys.length < a + B) (hz : StS key (seg ys a ys.length) zs) : Bks key (rep ys a ys.length zs) B := by
  obtain ⟨⟨q, rfl⟩, hs⟩ := h
  have hzl : zs.length = ys.length - B * q := by rw [hz.same.length, seg_length (Nat.le_refl _)]
  have hl := rep_length ha (Nat.le_refl _) hzl
  intro i
  rw [hl]
  rcases Nat.lt_trichotomy i q with h | h | h
  · have h1 : B * (i + 1) ≤ B * q := Nat.mul_le_mul_left B h
    have h2 : B * i + B ≤ B * q := by rw [Nat.mul_add, Nat.mul_one] at h1; exact h1
    rw [Nat.min_eq_left (by omega), seg_rep_off ha (Nat.le_refl _) hzl (.inl h2)]
    exact hs i h1
  · subst h
    rw [Nat.min_eq_right (by omega), seg_rep ha (Nat.le_refl _) hzl]
    exact hz.ord
  · have h1 : B * (q + 1) ≤ B * i := Nat.mul_le_mul_left B h
    rw [Nat.mul_add, Nat.mul_one] at h1
    rw [seg_nil (by omega)]
    exact List.Pairwise.nil
theorem Mrg.start {ys : List α} {B : Nat} (hB : 0 < B) (h : Bks key ys B) : Mrg key ys B 0 := ⟨Ins.zero ys (2 * B) (by omega), fun i _ => h i⟩
theorem Mrg.pre {ys : List α} {B a : Nat} (h : Mrg key ys B a) (hb : 2 * B + a ≤ ys.length) : srt key (seg ys a (a + B)) ∧ srt key (seg ys (a + B) (2 * B + a)) := by
  obtain ⟨⟨⟨q, hq⟩, _⟩, hs⟩ := h
  have e1 : a = B * (2 * q) := by rw [hq, Nat.mul_comm 2 B, Nat.mul_assoc]
  have e2 : a + B = B * (2 * q + 1) := by rw [Nat.mul_add, Nat.mul_one, ← e1]
  have h1 := hs (2 * q) (by omega)
  have h2 := hs (2 * q + 1) (by omega)
  rw [← e1, Nat.min_eq_left (by omega)] at h1
  rw [← e2, Nat.min_eq_left (by omega), show a + B + B = 2 * B + a by omega] at h2
  exact ⟨h1, h2⟩
theorem Mrg.step {ys zs : List α} {B a : Nat} (hB : 0 < B) (h : Mrg key ys B a) (hb : 2 * B + a ≤ ys.length) (hz : StS key (seg ys a (2 * B + a)) zs) : Mrg key (rep ys a (2 * B + a) zs) B (2 * B + a) := by
  have e : 2 * B + a = a + 2 * B := by omega
  rw [e] at hb hz ⊢
  have hzl : zs.length = a + 2 * B - a := by rw [hz.same.length, seg_length hb]
  refine ⟨h.1.step (by omega) hb hz, fun i hi => ?_⟩
  rw [rep_length (by omega) hb hzl, seg_rep_off (by omega) hb hzl (.inr hi)]
  exact h.2 i (by omega)
theorem Mrg.pre2 {ys : List α} {B a : Nat} (h : Mrg key ys B a) (h1 : a + B < ys.length) (hb : ys.length < 2 * B + a) : srt key (seg ys a (a + B)) ∧ srt key (seg ys (a + B) ys.length) := by
  obtain ⟨⟨⟨q, hq⟩, _⟩, hs⟩ := h
  have e1 : a = B * (2 * q) := by rw [hq, Nat.mul_comm 2 B, Nat.mul_assoc]
  have e2 : a + B = B * (2 * q + 1) := by rw [Nat.mul_add, Nat.mul_one, ← e1]
  have k1 := hs (2 * q) (by omega)
  have k2 := hs (2 * q + 1) (by omega)
  rw [← e1, Nat.min_eq_left (by omega)] at k1
  rw [← e2, Nat.min_eq_right (by omega)] at k2
  exact ⟨k1, k2⟩
theorem Mrg.last {ys zs : List α} {B a : Nat} (h : Mrg key ys B a) (ha : a ≤ ys.length) (hb : ys.length < 2 * B + a) (hz : StS key (seg ys a ys.length) zs) : Bks key (rep ys a ys.length zs) (2 * B) := h.1.last ha (by omega) hz
theorem Mrg.done {ys : List α} {B a : Nat} (h : Mrg key ys B a) (ha : a ≤ ys.length) (hb : ys.length < 2 * B + a) (h1 : ¬ a + B < ys.length) : Bks key ys (2 * B) := by
  have hs : srt key (seg ys a ys.length) := by
    obtain ⟨⟨⟨q, hq⟩, _⟩, hs⟩ := h
    have e1 : a = B * (2 * q) := by rw [hq, Nat.mul_comm 2 B, Nat.mul_assoc]
    have k1 := hs (2 * q) (by omega)
    rw [← e1, Nat.min_eq_right (by omega)] at k1
    exact k1
  have := h.last ha hb (StS.refl hs)
  rwa [rep_same ha (Nat.le_refl _)] at this
theorem Bks.all {xs ys : List α} {B : Nat} (h : Bks key ys B) (hB : ys.length ≤ B) (hs : sameF key xs ys) : StS key xs ys := by
  have := h 0
  rw [Nat.mul_zero, Nat.zero_add, Nat.min_eq_right hB, seg_all] at this
  exact ⟨this, hs⟩
theorem sameF.step {xs ys zs : List α} {a b : Nat} (h : sameF key xs ys) (h1 : a ≤ b) (hb : b ≤ ys.length) (hz : StS key (seg ys a b) zs) : sameF key xs (Wx.rep ys a b zs) := h.trans (sameF.rep h1 hb hz.same)

/-! ### the sorted list as a function -/
def insK (key : α → K2) (x : α) : List α → List α
  | [] => [x]
  | y :: l => if ltK (key x) (key y) = true then x :: y :: l else y :: insK key x l
def sortK (key : α → K2) (l : List α) : List α := l.foldl (fun acc x => insK key x acc) []
theorem insK_put (x : α) : ∀ (l : List α), srt key l → ∃ p, insK key x l = insAt l x p ∧ p ≤ l.length ∧ (∀ y ∈ l.drop p, ltK (key x) (key y) = true) ∧ (p = 0 ∨ ∃ y, l[p - 1]? = some y ∧ ltK (key x) (key y) = false)
  | [], _ => ⟨0, rfl, Nat.le_refl _, by simp, .inl rfl⟩
  | y :: l, h => by
    unfold insK
    split
    · rename_i hlt
      refine ⟨0, by simp [insAt], Nat.zero_le _, fun z hz => ?_, .inl rfl⟩
      rcases List.mem_cons.1 (by simpa using hz : z ∈ y :: l) with rfl | hz
      · exact hlt
      · exact lt_le_K hlt ((List.pairwise_cons.1 h).1 z hz)
    · rename_i hlt
      obtain ⟨p, e, hp, h1, h2⟩ := insK_put x l (List.pairwise_cons.1 h).2
      refine ⟨p + 1, by rw [e]; rfl, by simpa using hp, by simpa using h1, .inr ?_⟩
      rcases h2 with rfl | ⟨z, hz, hl⟩
      · exact ⟨y, rfl, by simpa using hlt⟩
      · refine ⟨z, ?_, hl⟩
        have : 0 < p := by
          rcases Nat.eq_zero_or_pos p with rfl | h
          · rw [Nat.zero_sub] at hz
            cases l with
            | nil => simp at hz
            | cons w l =>
              exfalso
              simp at hz; subst hz
              have := h1 w (by simp)
              rw [hl] at this; cases this
          · exact h
        rw [show p + 1 - 1 = (p - 1) + 1 by omega, List.getElem?_cons_succ]
        exact hz
theorem sortK_sts (l : List α) : StS key l (sortK key l) := by
  suffices h : ∀ (r done acc : List α), StS key done acc → StS key (done ++ r) (r.foldl (fun acc x => insK key x acc) acc) by
    have := h l [] [] ⟨List.Pairwise.nil, fun _ => rfl⟩
    simpa [sortK] using this
  intro r
  induction r with
  | nil => intro done acc h; simpa using h
  | cons x r ih =>
    intro done acc h
    obtain ⟨p, e, hp, h1, h2⟩ := insK_put (key := key) x acc h.ord
    have := ih (done ++ [x]) (insK key x acc) (by rw [e]; exact h.snoc hp h1 h2)
    simpa using this
theorem StS.eq {l s : List α} (h : StS key l s) : s = sortK key l := h.unique (sortK_sts l)
end
end Go.Wx
