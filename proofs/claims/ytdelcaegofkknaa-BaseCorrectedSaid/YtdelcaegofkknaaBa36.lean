import Derived.Test.YtdelcaegofkknaaBa35
namespace Go.Wx

/-! ### a fact with the greatest version of its key (BaseCorrected) -/
theorem corr_skip {L : List Fact} {f : Fact} {d : Int} (h : keyB f = [] ∨ d < f.Day) : ofB (L ++ [f]) d = ofB L d := by
  unfold ofB
  rw [show bestL (L ++ [f]) d = bestL L d from by unfold bestL; rw [List.foldl_append]; exact best_skip h]
theorem corr_eff {L : List Fact} {f : Fact} {d : Int} (hk : keyB f ≠ []) (hd : f.Day ≤ d) (hv : ∀ g ∈ L, g.Version < f.Version) (x : Fact) : eff (L ++ [f]) d x ↔ if keyB x = keyB f then x = f else eff L d x := by
  have vf := keyB_valid hk
  have nof : ∀ g ∈ L, prevB g f = false := fun g hg => by
    rw [Bool.eq_false_iff]
    intro e
    have := (prev_iff.1 e).2.2.2
    have := hv g hg
    omega
  by_cases e : keyB x = keyB f
  · rw [if_pos e]
    constructor
    · rintro ⟨h1, h2, h3, h4⟩
      rcases List.mem_append.1 h1 with h1 | h1
      · have := h4 f (List.mem_append_right _ (List.mem_singleton.2 rfl)) hd
        rw [prev_iff.2 ⟨vf, keyB_valid h2, e.symm, .inl (hv x h1)⟩] at this
        cases this
      · exact List.mem_singleton.1 h1
    · rintro rfl
      refine ⟨List.mem_append_right _ (List.mem_singleton.2 rfl), hk, hd, fun g hg _ => ?_⟩
      rcases List.mem_append.1 hg with hg | hg
      · exact nof g hg
      · cases List.mem_singleton.1 hg; exact prev_irrefl _
  · rw [if_neg e]
    have nox : prevB f x = false := by
      rw [Bool.eq_false_iff]
      intro h
      exact e (prev_iff.1 h).2.2.1.symm
    constructor
    · rintro ⟨h1, h2, h3, h4⟩
      rcases List.mem_append.1 h1 with h1 | h1
      · exact ⟨h1, h2, h3, fun g hg => h4 g (List.mem_append_left _ hg)⟩
      · cases List.mem_singleton.1 h1; exact absurd rfl e
    · rintro ⟨h1, h2, h3, h4⟩
      refine ⟨List.mem_append_left _ h1, h2, h3, fun g hg hgd => ?_⟩
      rcases List.mem_append.1 hg with hg | hg
      · exact h4 g hg hgd
      · cases List.mem_singleton.1 hg; exact nox
theorem sorted_eq {α : Type} {key : α → K2} {A B : List α} (hA : srt key A) (hB : srt key B) (hp : A.Perm B) (hd : ∀ x ∈ A, ∀ y ∈ A, key x = key y → x = y) : A = B := by
  rw [(StS.refl hA).eq, (StS.refl hB).eq]
  exact sortK_perm hp hd
theorem lst_srt (l : List Fact) (d : Int) {j : Nat} (hj : j < 11) : srt (ordK ((j + 1 : Nat) : Int)) (lstOf (ofB l d) j) := by
  rw [lst_ofB l d hj]; unfold lstAt; rw [if_pos (List.mem_singleton.2 rfl)]; exact (sortK_sts _).ord
def offKey (c : List UInt8) (x : Fact) : Bool := !(keyB x == c)
theorem offKey_iff {c : List UInt8} {x : Fact} : offKey c x = true ↔ keyB x ≠ c := by unfold offKey; simp
theorem corr_lst {L : List Fact} {f : Fact} {d : Int} (hk : keyB f ≠ []) (hd : f.Day ≤ d) (hv : ∀ g ∈ L, g.Version < f.Version) {j : Nat} (hj : j < 11) : (lstOf (ofB (L ++ [f]) d) j).filter (offKey (keyB f)) = (lstOf (ofB L d) j).filter (offKey (keyB f)) := by
  refine sorted_eq ((lst_srt _ d hj).sublist List.filter_sublist) ((lst_srt _ d hj).sublist List.filter_sublist) (perm_of_mem ((lst_nodup _ d hj).filter _) ((lst_nodup _ d hj).filter _) fun x => ?_) fun x hx y hy e => ?_
  · rw [List.mem_filter, List.mem_filter, lst_mem2 hj, lst_mem2 hj, offKey_iff]
    constructor
    · rintro ⟨⟨h1, h2⟩, h3⟩
      rw [corr_eff hk hd hv, if_neg h3] at h1
      exact ⟨⟨h1, h2⟩, h3⟩
    · rintro ⟨⟨h1, h2⟩, h3⟩
      exact ⟨⟨(corr_eff hk hd hv x).2 (by rw [if_neg h3]; exact h1), h2⟩, h3⟩
  · have hx := (lst_mem2 hj).1 (List.mem_filter.1 hx).1
    have hy := (lst_mem2 hj).1 (List.mem_filter.1 hy).1
    exact effk hx.1 hy.1 (key_of_ord (effv hx.1) (effv hy.1) hx.2.2 hy.2.2 e)
/-- all but that key is as it was -/
theorem corr_rest {L : List Fact} {f : Fact} {d : Int} (hk : keyB f ≠ []) (hd : f.Day ≤ d) (hv : ∀ g ∈ L, g.Version < f.Version) : ∀ n, n ≤ 11 → (allN (ofB (L ++ [f]) d) n).filter (offKey (keyB f)) = (allN (ofB L d) n).filter (offKey (keyB f))
  | 0, _ => rfl
  | n + 1, hn => by
    rw [allN, allN, List.filter_append, List.filter_append, corr_rest hk hd hv n (by omega), corr_lst hk hd hv (by omega)]
theorem all_mem {b : Base} {x : Fact} : ∀ {n : Nat}, x ∈ allN b n ↔ ∃ j, j < n ∧ x ∈ lstOf b j
  | 0 => ⟨fun h => (by cases h), fun ⟨j, hj, _⟩ => (by omega)⟩
  | n + 1 => by
    rw [allN, List.mem_append, all_mem]
    constructor
    · rintro (⟨j, hj, h⟩ | h)
      · exact ⟨j, by omega, h⟩
      · exact ⟨n, by omega, h⟩
    · rintro ⟨j, hj, h⟩
      by_cases e : j = n
      · subst e; exact .inr h
      · exact .inl ⟨j, by omega, h⟩
/-- of that key there is the fact alone, or none if it is withdrawn -/
theorem corr_key {L : List Fact} {f : Fact} {d : Int} (hk : keyB f ≠ []) (hd : f.Day ≤ d) (hv : ∀ g ∈ L, g.Version < f.Version) (x : Fact) (hx : keyB x = keyB f) : x ∈ allN (ofB (L ++ [f]) d) 11 ↔ x = f ∧ f.Gone = false := by
  rw [all_mem]
  constructor
  · rintro ⟨j, hj, h⟩
    obtain ⟨h1, h2, _⟩ := (lst_mem2 hj).1 h
    rw [corr_eff hk hd hv, if_pos hx] at h1
    exact ⟨h1, h1 ▸ h2⟩
  · rintro ⟨rfl, hg⟩
    have kf := valid_kind (keyB_valid hk)
    exact ⟨(x.Kind - 1).toNat, by omega, (lst_mem2 (by omega)).2 ⟨(corr_eff hk hd hv x).2 (by rw [if_pos rfl]), hg, by omega⟩⟩
theorem all_nodup (l : List Fact) (d : Int) : ∀ n, n ≤ 11 → (allN (ofB l d) n).Nodup
  | 0, _ => List.nodup_nil
  | n + 1, hn => by
    rw [allN, List.nodup_append]
    refine ⟨all_nodup l d n (by omega), lst_nodup l d (by omega), fun a ha c hc e => ?_⟩
    subst e
    obtain ⟨j, hj, h⟩ := all_mem.1 ha
    have h1 := ((lst_mem2 (by omega)).1 h).2.2
    have h2 := ((lst_mem2 (by omega)).1 hc).2.2
    omega

end Go.Wx
namespace Go.Proofs.Ytdelcaegofkknaa
open Go.Wx Go.RowKit
theorem tr36 : True := trivial
end Go.Proofs.Ytdelcaegofkknaa
