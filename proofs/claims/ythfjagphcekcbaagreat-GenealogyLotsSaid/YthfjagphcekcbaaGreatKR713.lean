import Derived.Test.YthfjagphcekcbaaGreatKR712
import Derived.ChangeKeysEq
section
namespace Go.Wx
open Go.RowKit in
def zeroF : Fact := fact0 0 0 0 false
end Go.Wx
namespace Go.Proofs.YthfjagphcekcbaaGreat
open Go.Wx Go.RowKit
end Go.Proofs.YthfjagphcekcbaaGreat
namespace Go.Wx
end Go.Wx
namespace Go.Proofs.YthfjagphcekcbaaGreat
open Go.Wx Go.RowKit
end Go.Proofs.YthfjagphcekcbaaGreat
namespace Go.Wx
theorem fp_yes {p : Fact → Bool} {l : List Fact} {k : Nat} {x : Fact} (h : l[k]? = some x) (hx : p x = true) : (l.take (k + 1)).filter p = (l.take k).filter p ++ [x] := by
  rw [take_succ_of h, List.filter_append, List.filter_cons, if_pos hx]; rfl
theorem fp_no {p : Fact → Bool} {l : List Fact} {k : Nat} {x : Fact} (h : l[k]? = some x) (hx : p x = false) : (l.take (k + 1)).filter p = (l.take k).filter p := by
  rw [take_succ_of h, List.filter_append, List.filter_cons, if_neg (by rw [hx]; exact Bool.false_ne_true)]; simp
theorem filt_len (p : Fact → Bool) (l : List Fact) (k : Nat) : ((l.take k).filter p).length ≤ k := Nat.le_trans (List.length_filter_le _ _) (by rw [List.length_take]; omega)
def pickI (c n : Int) : Int := (if c < 0 then IntKind.i64.wrap (-(IntKind.i64.wrap (c + 1))) else c).tmod n
end Go.Wx
namespace Go.Proofs.YthfjagphcekcbaaGreat
open Go.Wx Go.RowKit
end Go.Proofs.YthfjagphcekcbaaGreat
namespace Go.Wx
def lstOf (b : Base) (j : Nat) : List Fact := [b.Processes, b.Measures, b.Swaps, b.Lots, b.Flows, b.Qualified, b.Holds, b.Releases, b.Resets, b.Targets, b.Gaps].getD j []
theorem eleven_cases {j : Nat} (h : j < 11) : j = 0 ∨ j = 1 ∨ j = 2 ∨ j = 3 ∨ j = 4 ∨ j = 5 ∨ j = 6 ∨ j = 7 ∨ j = 8 ∨ j = 9 ∨ j = 10 := by omega
def short (b : Base) : Prop := ∀ j, (lstOf b j).length ≤ 100000
end Go.Wx
namespace Go.Proofs.YthfjagphcekcbaaGreat
open Go.Wx Go.RowKit
end Go.Proofs.YthfjagphcekcbaaGreat
namespace Go.Wx
theorem factsM_len (l : List Fact) (d : Int) : (factsM (bestL l d)).length ≤ l.length := by unfold factsM; rw [List.length_map]; exact (best_ok d l).2
theorem lst_ofB (l : List Fact) (d : Int) {j : Nat} (hj : j < 11) : lstOf (ofB l d) j = lstAt [((j + 1 : Nat) : Int)] (factsM (bestL l d)) j := by
  rcases eleven_cases hj with rfl | rfl | rfl | rfl | rfl | rfl | rfl | rfl | rfl | rfl | rfl <;> rfl
theorem lstOf_big (b : Base) {j : Nat} (hj : ¬ j < 11) : lstOf b j = [] := by
  unfold lstOf
  rw [List.getD_eq_getElem?_getD, List.getElem?_eq_none (by simp; omega)]; rfl
theorem ofB_short {l : List Fact} (h : l.length ≤ 100000) (d : Int) : short (ofB l d) := fun j => by
  by_cases hj : j < 11
  · rw [lst_ofB l d hj]
    exact Nat.le_trans (lst_len _ _ _) (Nat.le_trans (factsM_len l d) h)
  · rw [lstOf_big _ hj]; simp
end Go.Wx
namespace Go.Proofs.YthfjagphcekcbaaGreat
open Go.Wx Go.RowKit
end Go.Proofs.YthfjagphcekcbaaGreat
end
