import Derived.Test.YtdelcaegofkknaaBa34
namespace Go.Wx

/-! ### what the reference's Of gathers (for seat .Z: BaseMatchesReference) -/
def qL (L : List Fact) (d : Int) : Nat → List Fact
  | 0 => []
  | i + 1 => qL L d i ++ (match L[i]? with | some f => if kOk L d i then [f] else [] | none => [])
theorem kOk_iff {L : List Fact} {d : Int} {i : Nat} {f : Fact} (hf : L[i]? = some f) : kOk L d i = true ↔ (f ∈ inE L d ∧ ∀ k, k < i → L[k]? ≠ some f) := by
  have hi := (List.getElem?_eq_some_iff.1 hf).1
  unfold kOk
  rw [hf]
  dsimp only
  rw [Bool.and_eq_true, Bool.not_eq_true', bst_iff]
  unfold kSkip
  rw [Bool.or_eq_false_iff, Bool.or_eq_false_iff, decide_eq_false_iff_not, decide_eq_false_iff_not, inE_mem]
  constructor
  · rintro ⟨⟨⟨a, b⟩, c⟩, h⟩
    refine ⟨⟨⟨List.mem_of_getElem? hf, a, by omega, fun g hg hd => ?_⟩, c⟩, fun k hk hkf => ?_⟩
    · obtain ⟨k, hk⟩ := List.mem_iff_getElem?.1 hg
      have := h k (List.getElem?_eq_some_iff.1 hk).1 g hk
      unfold beats at this
      rw [Bool.or_eq_false_iff, decide_eq_true hd, Bool.true_and] at this
      exact this.1
    · have := h k (by omega) f hkf
      unfold beats at this
      rw [Bool.or_eq_false_iff, decide_eq_true (by omega : (k : Int) < (i : Int)), eqb_refl] at this
      exact absurd this.2 (by decide)
  · rintro ⟨⟨⟨_, a, b, h⟩, c⟩, h2⟩
    refine ⟨⟨⟨a, by omega⟩, c⟩, fun k hk g hg => ?_⟩
    unfold beats
    rw [Bool.or_eq_false_iff]
    constructor
    · by_cases hd : g.Day ≤ d
      · rw [h g (List.mem_of_getElem? hg) hd, Bool.and_false]
      · rw [decide_eq_false hd, Bool.false_and]
    · by_cases hki : (k : Int) < (i : Int)
      · rw [Bool.and_eq_false_iff]; right
        rw [Bool.eq_false_iff]
        intro e
        exact h2 k (by omega) (by rw [hg, eqb_eq e])
      · rw [decide_eq_false hki, Bool.false_and]
theorem q_mem {L : List Fact} {d : Int} {x : Fact} : ∀ n, n ≤ L.length → (x ∈ qL L d n ↔ x ∈ inE L d ∧ ∃ k, k < n ∧ L[k]? = some x)
  | 0, _ => ⟨fun h => (by cases h), fun ⟨_, k, hk, _⟩ => (by omega)⟩
  | n + 1, hn => by
    obtain ⟨f, hf⟩ := getElem?_of_lt (xs := L) (i := n) (by omega)
    rw [qL, List.mem_append, q_mem n (by omega), hf]
    dsimp only
    constructor
    · rintro (⟨h1, k, hk, h2⟩ | h)
      · exact ⟨h1, k, by omega, h2⟩
      · split at h
        · rename_i hk
          cases List.mem_singleton.1 h
          exact ⟨((kOk_iff hf).1 hk).1, n, by omega, hf⟩
        · cases h
    · rintro ⟨h1, k, hk, h2⟩
      by_cases hkn : ∃ k', k' < n ∧ L[k']? = some x
      · exact .inl ⟨h1, hkn⟩
      · have e : k = n := by
          by_cases e : k = n
          · exact e
          · exact absurd ⟨k, by omega, h2⟩ hkn
        subst e
        rw [hf] at h2
        cases h2
        right
        rw [if_pos ((kOk_iff hf).2 ⟨h1, fun k' hk' hx => hkn ⟨k', hk', hx⟩⟩)]
        simp
theorem q_nodup (L : List Fact) (d : Int) : ∀ n, n ≤ L.length → (qL L d n).Nodup
  | 0, _ => List.nodup_nil
  | n + 1, hn => by
    obtain ⟨f, hf⟩ := getElem?_of_lt (xs := L) (i := n) (by omega)
    rw [qL, hf]
    dsimp only
    split
    · rename_i hk
      rw [List.nodup_append]
      refine ⟨q_nodup L d n (by omega), by simp, fun a ha c hc => ?_⟩
      cases List.mem_singleton.1 hc
      intro e
      subst e
      obtain ⟨_, k, hkn, hx⟩ := (q_mem n (by omega)).1 ha
      exact ((kOk_iff hf).1 hk).2 k hkn hx
    · rw [List.append_nil]; exact q_nodup L d n (by omega)
/-- sorted by its key fields, a kind's gathered facts are the base's list -/
theorem ref_lst (L : List Fact) (d : Int) {j : Nat} (hj : j < 11) : sortK (ordK ((j + 1 : Nat) : Int)) ((qL L d L.length).filter fun f => decide (f.Kind = ((j + 1 : Nat) : Int))) = lstOf (ofB L d) j := by
  rw [lst_ofB L d hj]
  unfold lstAt
  rw [if_pos (List.mem_singleton.2 rfl)]
  have e : (factsM (bestL L d)).filter (fun f => !f.Gone && decide (f.Kind = ((j + 1 : Nat) : Int))) = (inE L d).filter (fun f => decide (f.Kind = ((j + 1 : Nat) : Int))) := by
    unfold inE
    rw [List.filter_filter]
    apply List.filter_congr
    intro x _
    rw [Bool.and_comm]
  rw [e]
  have hp : (qL L d L.length).Perm (inE L d) := perm_of_mem (q_nodup L d _ (Nat.le_refl _)) ((factsM_nodup L d).filter _) fun x => by
    rw [q_mem _ (Nat.le_refl _)]
    refine ⟨fun h => h.1, fun h => ⟨h, ?_⟩⟩
    obtain ⟨k, hk⟩ := List.mem_iff_getElem?.1 (inE_mem.1 h).1.1
    exact ⟨k, (List.getElem?_eq_some_iff.1 hk).1, hk⟩
  refine sortK_perm (hp.filter _) fun x hx y hy h => ?_
  rw [List.mem_filter] at hx hy
  have ex := (inE_mem.1 (hp.subset hx.1)).1
  have ey := (inE_mem.1 (hp.subset hy.1)).1
  exact effk ex ey (key_of_ord (effv ex) (effv ey) (of_decide_eq_true hx.2) (of_decide_eq_true hy.2) h)

end Go.Wx
namespace Go.Proofs.Ytdelcaegofkknaa
open Go.Wx Go.RowKit
theorem tr35 : True := trivial
end Go.Proofs.Ytdelcaegofkknaa
