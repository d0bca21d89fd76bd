import Derived.Test.YthfjagphcekcbaaGreatKR812
import Derived.ChangeKeysEq
section
namespace Go.Wx
open Go.RowKit in
def zeroF : Fact := fact0 0 0 0 false
end Go.Wx
namespace Go.Proofs.YthfjagphcekcbaaGreat
open Go.Wx Go.RowKit
end Go.Proofs.YthfjagphcekcbaaGreat
namespace Go.Wx
end Go.Wx
namespace Go.Proofs.YthfjagphcekcbaaGreat
open Go.Wx Go.RowKit
end Go.Proofs.YthfjagphcekcbaaGreat
namespace Go.Wx
def eqFs : List Fact → List Fact → Bool
  | [], [] => true
  | x :: xs, y :: ys => Fact.eqb x y && eqFs xs ys
  | _, _ => false
theorem eqFs_len : ∀ {l m : List Fact}, l.length ≠ m.length → eqFs l m = false
  | [], [], h => absurd rfl h
  | [], _ :: _, _ => rfl
  | _ :: _, [], _ => rfl
  | x :: xs, y :: ys, h => by rw [eqFs, eqFs_len (fun e => h (by simp [e])), Bool.and_false]
theorem eqFs_step {l m : List Fact} {k : Nat} {x y : Fact} (hx : l[k]? = some x) (hy : m[k]? = some y) : eqFs (l.drop k) (m.drop k) = (Fact.eqb x y && eqFs (l.drop (k + 1)) (m.drop (k + 1))) := by
  have h1 := (List.getElem?_eq_some_iff.1 hx)
  have h2 := (List.getElem?_eq_some_iff.1 hy)
  rw [List.drop_eq_getElem_cons h1.1, List.drop_eq_getElem_cons h2.1, h1.2, h2.2]; rfl
theorem eqFs_end {l m : List Fact} {k : Nat} (h1 : l.length ≤ k) (h2 : m.length ≤ k) : eqFs (l.drop k) (m.drop k) = true := by
  rw [List.drop_eq_nil_of_le h1, List.drop_eq_nil_of_le h2]; rfl
theorem fp_yes {p : Fact → Bool} {l : List Fact} {k : Nat} {x : Fact} (h : l[k]? = some x) (hx : p x = true) : (l.take (k + 1)).filter p = (l.take k).filter p ++ [x] := by
  rw [take_succ_of h, List.filter_append, List.filter_cons, if_pos hx]; rfl
theorem fp_no {p : Fact → Bool} {l : List Fact} {k : Nat} {x : Fact} (h : l[k]? = some x) (hx : p x = false) : (l.take (k + 1)).filter p = (l.take k).filter p := by
  rw [take_succ_of h, List.filter_append, List.filter_cons, if_neg (by rw [hx]; exact Bool.false_ne_true)]; simp
theorem filt_len (p : Fact → Bool) (l : List Fact) (k : Nat) : ((l.take k).filter p).length ≤ k := Nat.le_trans (List.length_filter_le _ _) (by rw [List.length_take]; omega)
def pickI (c n : Int) : Int := (if c < 0 then IntKind.i64.wrap (-(IntKind.i64.wrap (c + 1))) else c).tmod n
end Go.Wx
namespace Go.Proofs.YthfjagphcekcbaaGreat
open Go.Wx Go.RowKit
end Go.Proofs.YthfjagphcekcbaaGreat
namespace Go.Wx
def lstOf (b : Base) (j : Nat) : List Fact := [b.Processes, b.Measures, b.Swaps, b.Lots, b.Flows, b.Qualified, b.Holds, b.Releases, b.Resets, b.Targets, b.Gaps].getD j []
theorem eleven_cases {j : Nat} (h : j < 11) : j = 0 ∨ j = 1 ∨ j = 2 ∨ j = 3 ∨ j = 4 ∨ j = 5 ∨ j = 6 ∨ j = 7 ∨ j = 8 ∨ j = 9 ∨ j = 10 := by omega
def short (b : Base) : Prop := ∀ j, (lstOf b j).length ≤ 100000
end Go.Wx
namespace Go.Proofs.YthfjagphcekcbaaGreat
open Go.Wx Go.RowKit
end Go.Proofs.YthfjagphcekcbaaGreat
namespace Go.Wx
theorem factsM_len (l : List Fact) (d : Int) : (factsM (bestL l d)).length ≤ l.length := by unfold factsM; rw [List.length_map]; exact (best_ok d l).2
theorem lst_ofB (l : List Fact) (d : Int) {j : Nat} (hj : j < 11) : lstOf (ofB l d) j = lstAt [((j + 1 : Nat) : Int)] (factsM (bestL l d)) j := by
  rcases eleven_cases hj with rfl | rfl | rfl | rfl | rfl | rfl | rfl | rfl | rfl | rfl | rfl <;> rfl
theorem lstOf_big (b : Base) {j : Nat} (hj : ¬ j < 11) : lstOf b j = [] := by
  unfold lstOf
  rw [List.getD_eq_getElem?_getD, List.getElem?_eq_none (by simp; omega)]; rfl
theorem ofB_short {l : List Fact} (h : l.length ≤ 100000) (d : Int) : short (ofB l d) := fun j => by
  by_cases hj : j < 11
  · rw [lst_ofB l d hj]
    exact Nat.le_trans (lst_len _ _ _) (Nat.le_trans (factsM_len l d) h)
  · rw [lstOf_big _ hj]; simp
end Go.Wx
namespace Go.Proofs.YthfjagphcekcbaaGreat
open Go.Wx Go.RowKit
end Go.Proofs.YthfjagphcekcbaaGreat
end
section
namespace Go.Wx
open Go.RowKit
section
variable {P : Program} {n : Nat} {ds : List Deferred} {l : Env} {w : World} {d : Option Tmp} {ty : TypeId} {ps : String} {af : Array Edge} {g : Option (Nat × Bool)}
theorem PEv.sliceFrom {T e : TypeId} {x lo : Operand} {ad : Option Addr} {k m cap j : Nat} (hT : P.underlying T = some (.slice e)) (hs : ∀ w, (sizeOf e).run P w = .ok k w) (hx : Val l x (.slice ad m cap)) (hl : Val l lo (.int .i64 (j : Int))) (hj : j ≤ m) :
    PEv P n ds l w ⟨d, .slice T x (some lo) none none, ty, ps, af, g⟩ (.slice (if cap = j then ad else ad.map (·.add (j * k))) (m - j) (cap - j)) := fun a w' ha _ => by
  refine run_v ?_
  rw [ha.ev hx]
  simp only [Option.map_none, Option.map_some, ha.ev hl]
  simp [Instr.sliceAt, Instr.slice, Instr.sliceBounds, Instr.sliceBound, asIntOf, run_underlying hT, Result.andThen, hs, hj]
theorem Els.drop {α : Type} {enc : α → Array Value} {ad : Option Addr} {k cap j : Nat} {xs : List α} (h : Els w ad k enc xs) (hc : xs.length ≤ cap) : Sl w (.slice (if cap = j then ad else ad.map (·.add (j * k))) (xs.length - j) (cap - j)) k enc (xs.drop j) := by
  refine ⟨_, _, by rw [List.length_drop], fun i x hx => ?_⟩
  rw [List.getElem?_drop] at hx
  have hlt := (List.getElem?_eq_some_iff.1 hx).1
  obtain ⟨B, o, rfl, hc2⟩ := h _ x hx
  rw [if_neg (by omega)]
  refine ⟨B, o + j * k, by rw [Option.map_some, add_none], ?_⟩
  rw [Nat.add_mul, ← Nat.add_assoc] at hc2
  exact hc2
theorem Els.take {α : Type} {enc : α → Array Value} {ad : Option Addr} {k j : Nat} {xs : List α} (h : Els w ad k enc xs) : Els w ad k enc (xs.take j) := fun i x hx => by
  rw [List.getElem?_take] at hx
  split at hx
  · exact h i x hx
  · cases hx
end
theorem own_cap {α : Type} {enc : α → Array Value} {b k n cp : Nat} {e : TypeId} {w : World} {ad : Option Addr} {xs : List α} (h : OwnS w b e k enc (.slice ad n cp) xs) : xs.length ≤ cp := by
  obtain ⟨_, ⟨e1, e2⟩ | ⟨g, cap, cur, e1, _, _, hc, _⟩⟩ := h
  · cases e1; omega
  · cases e1; exact hc
end Go.Wx
end
section
namespace Go.Wx
open Go.RowKit
theorem Sep.addn {α : Type} {S0 : Nat → Prop} {w0 w : World} {As : List Asr} {e k : Nat} {enc : α → Array Value} (h : Sep S0 w0 w As) (ho : OwnS w 0 e k enc (.slice none 0 0) ([] : List α)) : Sep S0 w0 w (As ++ [aOwn e k enc (.slice none 0 0) ([] : List α)]) := h.add (Up.refl _) ho (fun i h => by cases h)
theorem OwnS.elB {α : Type} {enc : α → Array Value} {b k n cp : Nat} {e : TypeId} {w : World} {ad : Option Addr} {xs : List α} (h : OwnS w b e k enc (.slice ad n cp) xs) (hk : ∀ x, (enc x).size = k) : Els w ad k enc xs := by
  obtain ⟨ad', c, e1, hE⟩ := h.sl hk
  cases e1
  exact hE
end Go.Wx
end
