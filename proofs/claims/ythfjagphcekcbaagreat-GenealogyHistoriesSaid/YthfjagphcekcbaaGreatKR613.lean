import Derived.Test.YthfjagphcekcbaaGreatKR612
import Derived.ChangeKeysEq
section
namespace Go.Wx
open Go.RowKit in
def zeroF : Fact := fact0 0 0 0 false
end Go.Wx
namespace Go.Proofs.YthfjagphcekcbaaGreat
open Go.Wx Go.RowKit
end Go.Proofs.YthfjagphcekcbaaGreat
namespace Go.Wx
end Go.Wx
namespace Go.Proofs.YthfjagphcekcbaaGreat
open Go.Wx Go.RowKit
end Go.Proofs.YthfjagphcekcbaaGreat
namespace Go.Wx
theorem fp_yes {p : Fact → Bool} {l : List Fact} {k : Nat} {x : Fact} (h : l[k]? = some x) (hx : p x = true) : (l.take (k + 1)).filter p = (l.take k).filter p ++ [x] := by
  rw [take_succ_of h, List.filter_append, List.filter_cons, if_pos hx]; rfl
theorem fp_no {p : Fact → Bool} {l : List Fact} {k : Nat} {x : Fact} (h : l[k]? = some x) (hx : p x = false) : (l.take (k + 1)).filter p = (l.take k).filter p := by
  rw [take_succ_of h, List.filter_append, List.filter_cons, if_neg (by rw [hx]; exact Bool.false_ne_true)]; simp
theorem filt_len (p : Fact → Bool) (l : List Fact) (k : Nat) : ((l.take k).filter p).length ≤ k := Nat.le_trans (List.length_filter_le _ _) (by rw [List.length_take]; omega)
def pickI (c n : Int) : Int := (if c < 0 then IntKind.i64.wrap (-(IntKind.i64.wrap (c + 1))) else c).tmod n
end Go.Wx
namespace Go.Proofs.YthfjagphcekcbaaGreat
open Go.Wx Go.RowKit
end Go.Proofs.YthfjagphcekcbaaGreat
namespace Go.Wx
def lstOf (b : Base) (j : Nat) : List Fact := [b.Processes, b.Measures, b.Swaps, b.Lots, b.Flows, b.Qualified, b.Holds, b.Releases, b.Resets, b.Targets, b.Gaps].getD j []
theorem eleven_cases {j : Nat} (h : j < 11) : j = 0 ∨ j = 1 ∨ j = 2 ∨ j = 3 ∨ j = 4 ∨ j = 5 ∨ j = 6 ∨ j = 7 ∨ j = 8 ∨ j = 9 ∨ j = 10 := by omega
def short (b : Base) : Prop := ∀ j, (lstOf b j).length ≤ 100000
end Go.Wx
namespace Go.Proofs.YthfjagphcekcbaaGreat
open Go.Wx Go.RowKit
end Go.Proofs.YthfjagphcekcbaaGreat
namespace Go.Wx
theorem factsM_len (l : List Fact) (d : Int) : (factsM (bestL l d)).length ≤ l.length := by unfold factsM; rw [List.length_map]; exact (best_ok d l).2
theorem lst_ofB (l : List Fact) (d : Int) {j : Nat} (hj : j < 11) : lstOf (ofB l d) j = lstAt [((j + 1 : Nat) : Int)] (factsM (bestL l d)) j := by
  rcases eleven_cases hj with rfl | rfl | rfl | rfl | rfl | rfl | rfl | rfl | rfl | rfl | rfl <;> rfl
theorem lstOf_big (b : Base) {j : Nat} (hj : ¬ j < 11) : lstOf b j = [] := by
  unfold lstOf
  rw [List.getD_eq_getElem?_getD, List.getElem?_eq_none (by simp; omega)]; rfl
theorem ofB_short {l : List Fact} (h : l.length ≤ 100000) (d : Int) : short (ofB l d) := fun j => by
  by_cases hj : j < 11
  · rw [lst_ofB l d hj]
    exact Nat.le_trans (lst_len _ _ _) (Nat.le_trans (factsM_len l d) h)
  · rw [lstOf_big _ hj]; simp
end Go.Wx
namespace Go.Proofs.YthfjagphcekcbaaGreat
open Go.Wx Go.RowKit
end Go.Proofs.YthfjagphcekcbaaGreat
end
section
namespace Go.Wx
open Go.RowKit
theorem flat_setF {α : Type} (f : α → List Value) (k j : Nat) (v : Value) (hf : ∀ x, (f x).length = k) (hj : j < k) : ∀ (xs : List α) (i : Nat) (x0 z : α), xs[i]? = some x0 → f z = (f x0).set j v → (xs.set i z).flatMap f = (xs.flatMap f).set (i * k + j) v
  | [], _, _, _, h, _ => by simp at h
  | x :: xs, 0, x0, z, h, hz => by
    have e : x = x0 := by simpa using h
    subst e
    rw [List.set_cons_zero, List.flatMap_cons, List.flatMap_cons, hz, List.set_append_left _ _ (by rw [hf]; omega)]
    congr 2; omega
  | x :: xs, i + 1, x0, z, h, hz => by
    rw [List.set_cons_succ, List.flatMap_cons, List.flatMap_cons, flat_setF f k j v hf hj xs i x0 z (by simpa using h) hz]
    have e1 : (i + 1) * k = k + i * k := by rw [Nat.add_mul, Nat.one_mul, Nat.add_comm]
    rw [List.set_append_right _ _ (by rw [hf, e1]; omega), hf, e1]
    congr 2; omega
section
variable {P : Program} {n : Nat} {ds : List Deferred} {l : Env} {w : World} {ty : TypeId} {ps : String} {af : Array Edge} {g : Option (Nat × Bool)}
theorem SEv.storeOwnF {α : Type} {enc : α → Array Value} {k : Nat} {e T : TypeId} {x y : Operand} {B m cp i j : Nat} {xs : List α} {x0 z : α} {v : Value} (hs : ∀ w, (sizeOf T).run P w = .ok 1 w) (hk : ∀ x, (enc x).size = k) (h1 : v.oneCell' = true) (hx : Val l x (.pointer (some ⟨B, 0 + i * k + j, none⟩))) (hy : Val l y v) (ho : OwnS w 0 e k enc (.slice (some ⟨B, 0, none⟩) m cp) xs) (hx0 : xs[i]? = some x0) (hj : j < k) (hz : (enc z).toList = (enc x0).toList.set j v) :
    SEv P n ds l w ⟨none, .store T x y, ty, ps, af, g⟩ (fun w' => Stp (aOwn e k enc (.slice (some ⟨B, 0, none⟩) m cp) xs) (aOwn e k enc (.slice (some ⟨B, 0, none⟩) m cp) (xs.set i z)) w w') := fun a ha => by
  have hi := (List.getElem?_eq_some_iff.1 hx0).1
  have hkl : ∀ x, (enc x).toList.length = k := fun x => by rw [Array.length_toList, hk]
  obtain ⟨hl, ⟨e', _⟩ | ⟨g', cap, cur, e', hb, hg, hcap, hcm, hcs, htk⟩⟩ := ho
  · cases e'
  · cases e'
    have hik : i * k + k ≤ xs.length * k := by
      have : (i + 1) * k ≤ xs.length * k := Nat.mul_le_mul_right k hi
      rw [Nat.add_mul, Nat.one_mul] at this
      exact this
    have hmk : xs.length * k ≤ cp * k := Nat.mul_le_mul_right k (by omega)
    obtain ⟨w', hr, hset⟩ := SEv.store (P := P) (n := n) (ds := ds) (l := l) (w := w) (ty := ty) (ps := ps) (af := af) (g := g) hs hx hy h1 (show Blk w B cur e from hg) (by rw [hcs]; omega) a ha
    refine ⟨w', hr, hset.sto.fr.mono (fun i (e : i = B) => by rw [e]; rfl), ⟨by rw [List.length_set, flat_length _ k hkl, List.length_set], .inr ⟨B, cp, _, by rw [List.length_set], hb, hset.blk, by rw [List.length_set]; omega, hcm, ?_, ?_⟩⟩, fun _ h => .inl h⟩
    · rw [Array.size_setIfInBounds]; exact hcs
    · rw [List.length_set, flat_setF (fun x => (enc x).toList) k j v hkl hj xs i x0 z hx0 hz, ← htk, Array.toList_setIfInBounds, List.take_set, Nat.zero_add]
end
end Go.Wx
end
