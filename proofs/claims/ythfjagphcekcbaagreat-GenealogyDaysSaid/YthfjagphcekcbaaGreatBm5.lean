import Derived.Test.YthfjagphcekcbaaGreatBm4
import Derived.Test.YthfjagphcekcbaaGreatAr
import Derived.ChangeKeysEq
-- Ba22
namespace Go.Wx

open Go.RowKit in
theorem KW.retAT {P : Program} {n : Nat} {l : Env} {w : World} {fn : Func} {RR : Ending → World → Prop} {t u : Tmp} {T : TypeId} {B k : Nat} {cs : Array Go.Value} {x : Go.Value} (hr : fn.results = #[.cell t T, .tmp u]) (hv : lk l t = some (.eq (.pointer (some ⟨B, 0, none⟩)))) (hu : lk l u = some (.eq x)) (hT : ∀ w, (isAgg T).run P w = .ok true w) (hs : ∀ w, (sizeOf T).run P w = .ok k w) (hk : cs.size = k)
    (hc : AggAt w B 0 cs) (hR : RR (.returned (.tuple #[.agg cs, x])) w) : KW n [] (bodyPost P fn RR .ret) l w := fun a ha =>
  ⟨ha.defers, .tuple #[.agg cs, x], by
    have h1 : a.tmps.getD t undef = .pointer (some ⟨B, 0, none⟩) := ha.val _ _ hv
    have h2 : a.tmps.getD u undef = x := ha.val _ _ hu
    rw [Array.getD_eq_getD_getElem?] at h1 h2
    simp [results, hr, h1, h2, asAddr, run_loadVarA hT hs hk hc], hR⟩
def zeroF : Fact := fact0 0 0 0 false
def tgStep (r t : Int) (s : Fact × Bool) (x : Fact) : Fact × Bool := if decide (x.Recipe = r) && decide (x.Time ≤ t) && (!s.2 || decide (s.1.Time < x.Time)) then (x, true) else s
def tgF (r t : Int) (l : List Fact) : Fact × Bool := l.foldl (tgStep r t) (zeroF, false)
theorem tgF_take {r t : Int} {l : List Fact} {k : Nat} {x : Fact} (h : l[k]? = some x) : tgF r t (l.take (k + 1)) = tgStep r t (tgF r t (l.take k)) x := by
  rw [take_succ_of h, tgF, List.foldl_append]; rfl
theorem tg_yes {r t : Int} {s : Fact × Bool} {x : Fact} (h : (decide (x.Recipe = r) && decide (x.Time ≤ t) && (!s.2 || decide (s.1.Time < x.Time))) = true) : tgStep r t s x = (x, true) := if_pos h
theorem tg_no {r t : Int} {s : Fact × Bool} {x : Fact} (h : (decide (x.Recipe = r) && decide (x.Time ≤ t) && (!s.2 || decide (s.1.Time < x.Time))) = false) : tgStep r t s x = s := if_neg (by rw [h]; exact Bool.false_ne_true)
theorem take_none {p : Fact → Bool} {l : List Fact} {k : Nat} {x : Fact} (h : l[k]? = some x) (hk : ∀ y ∈ l.take k, p y = false) (hx : p x = false) : ∀ y ∈ l.take (k + 1), p y = false := fun y hy => by
  rw [take_succ_of h] at hy
  rcases List.mem_append.1 hy with hy | hy
  · exact hk y hy
  · cases List.mem_singleton.1 hy; exact hx
theorem find_at {p : Fact → Bool} {l : List Fact} {k : Nat} {x : Fact} (h : l[k]? = some x) (hk : ∀ y ∈ l.take k, p y = false) (hx : p x = true) : l.find? p = some x := by
  have hlt := (List.getElem?_eq_some_iff.1 h).1
  have e : l = l.take k ++ x :: l.drop (k + 1) := by
    have h1 : l.drop k = x :: l.drop (k + 1) := by
      rw [List.drop_eq_getElem_cons hlt, (List.getElem?_eq_some_iff.1 h).2]
    rw [← h1, List.take_append_drop]
  rw [e, List.find?_append, List.find?_eq_none.2 (fun y hy => by rw [hk y hy]; exact Bool.false_ne_true), List.find?_cons, hx]
  rfl
theorem find_no {p : Fact → Bool} {l : List Fact} (h : ∀ y ∈ l, p y = false) : l.find? p = none := List.find?_eq_none.2 (fun y hy => by rw [h y hy]; exact Bool.false_ne_true)
/-- an index that IndexFunc gives -/
def IdxP (p : Fact → Bool) (l : List Fact) (i : Int) : Prop := (∃ k x, i = ((k : Nat) : Int) ∧ l[k]? = some x ∧ p x = true ∧ ∀ y ∈ l.take k, p y = false) ∨ (i = -1 ∧ ∀ y ∈ l, p y = false)

end Go.Wx
namespace Go.Proofs.YthfjagphcekcbaaGreat
open Go.Wx Go.RowKit
theorem trBa22 : True := trivial
end Go.Proofs.YthfjagphcekcbaaGreat

-- Ba23
namespace Go.Wx

def qualB (a c r v t : Int) (f : Fact) : Bool := (f.Tool == a && (f.Chamber == c && (f.Recipe == r && (f.Revision == v && true)))) && decide (f.Time ≤ t) && decide (t ≤ f.Until)
def procB (b : Base) (id : Int) : Option Fact := b.Processes.find? fun f => decide (f.ID = id)
def measB (b : Base) (id : Int) : Option Fact := b.Measures.find? fun f => decide (f.ID = id)
def qualifiedB (b : Base) (a c r v t : Int) : Bool := (b.Qualified.find? (qualB a c r v t)).isSome

end Go.Wx
namespace Go.Proofs.YthfjagphcekcbaaGreat
open Go.Wx Go.RowKit
theorem Tryz.itStep {xs ys : Array Go.Value} {i : Nat} {is : List Nat} {x y : Int} {r : Bool} {w : World} (hx : xs[i]? = some (vi x)) (hy : ys[i]? = some (vi y)) (h : (Op.eqItems 9999 3 1 xs ys is).run Tryz.prog w = .ok r w) : (Op.eqItems 9999 3 1 xs ys (i :: is)).run Tryz.prog w = .ok ((x == y) && r) w := by
  have px : (part 3 xs (i * 1)).run Tryz.prog w = .ok (vi x) w := by simp [part, isAgg, run_underlying Tryz.underlying3, hx]
  have py : (part 3 ys (i * 1)).run Tryz.prog w = .ok (vi y) w := by simp [part, isAgg, run_underlying Tryz.underlying3, hy]
  have pe : (Op.equalIn 9999 3 (vi x) (vi y)).run Tryz.prog w = .ok (x == y) w := run_equalIn_int w 9998 _ _ _ _ _ Tryz.underlying3
  simp only [Op.eqItems, Sem.run_bind, px, py, pe, Result.andThen_ok]
  cases hb : (x == y) <;> simp [h]
end Go.Proofs.YthfjagphcekcbaaGreat

-- Ba24
namespace Go.Wx

def eqFs : List Fact → List Fact → Bool
  | [], [] => true
  | x :: xs, y :: ys => Fact.eqb x y && eqFs xs ys
  | _, _ => false
theorem eqFs_len : ∀ {l m : List Fact}, l.length ≠ m.length → eqFs l m = false
  | [], [], h => absurd rfl h
  | [], _ :: _, _ => rfl
  | _ :: _, [], _ => rfl
  | x :: xs, y :: ys, h => by rw [eqFs, eqFs_len (fun e => h (by simp [e])), Bool.and_false]
theorem eqFs_step {l m : List Fact} {k : Nat} {x y : Fact} (hx : l[k]? = some x) (hy : m[k]? = some y) : eqFs (l.drop k) (m.drop k) = (Fact.eqb x y && eqFs (l.drop (k + 1)) (m.drop (k + 1))) := by
  have h1 := (List.getElem?_eq_some_iff.1 hx)
  have h2 := (List.getElem?_eq_some_iff.1 hy)
  rw [List.drop_eq_getElem_cons h1.1, List.drop_eq_getElem_cons h2.1, h1.2, h2.2]; rfl
theorem eqFs_end {l m : List Fact} {k : Nat} (h1 : l.length ≤ k) (h2 : m.length ≤ k) : eqFs (l.drop k) (m.drop k) = true := by
  rw [List.drop_eq_nil_of_le h1, List.drop_eq_nil_of_le h2]; rfl
def runK (f : Fact) : K2 := (f.Time, f.ID)
def runP (t c : Int) (f : Fact) : Bool := decide (f.Tool = t) && decide (f.Chamber = c)
def runsB (b : Base) (t c : Int) : List Fact := sortK runK (b.Processes.filter (runP t c))
theorem fp_yes {p : Fact → Bool} {l : List Fact} {k : Nat} {x : Fact} (h : l[k]? = some x) (hx : p x = true) : (l.take (k + 1)).filter p = (l.take k).filter p ++ [x] := by
  rw [take_succ_of h, List.filter_append, List.filter_cons, if_pos hx]; rfl
theorem fp_no {p : Fact → Bool} {l : List Fact} {k : Nat} {x : Fact} (h : l[k]? = some x) (hx : p x = false) : (l.take (k + 1)).filter p = (l.take k).filter p := by
  rw [take_succ_of h, List.filter_append, List.filter_cons, if_neg (by rw [hx]; exact Bool.false_ne_true)]; simp
theorem filt_len (p : Fact → Bool) (l : List Fact) (k : Nat) : ((l.take k).filter p).length ≤ k := Nat.le_trans (List.length_filter_le _ _) (by rw [List.length_take]; omega)
def pickI (c n : Int) : Int := (if c < 0 then IntKind.i64.wrap (-(IntKind.i64.wrap (c + 1))) else c).tmod n
def cutF (f : Fact) : Fact := { f with Text := f.Text.extract 0 (if (100 : Int) < f.Text.size then (100 : Int) else f.Text.size).toNat }
def fewL (n : Nat) (l : List Fact) : List Fact := (l.take n).map cutF
theorem cut_snoc {l : List Fact} {k : Nat} {x : Fact} (h : l[k]? = some x) : (l.take (k + 1)).map cutF = (l.take k).map cutF ++ [cutF x] := by rw [take_succ_of h]; simp
theorem few_end {l : List Fact} {k n : Nat} (hk : k ≤ l.length) (h40 : k ≤ n) (h : (decide (k < l.length) && decide (k < n)) = false) : (l.take k).map cutF = fewL n l := by
  unfold fewL
  congr 1
  by_cases h1 : k < l.length
  · have : k = n := by simp [h1] at h; omega
    rw [this]
  · rw [show k = l.length by omega, List.take_length, List.take_of_length_le (by omega)]
theorem fewL_length (n : Nat) (l : List Fact) : (fewL n l).length ≤ n := by unfold fewL; rw [List.length_map, List.length_take]; omega
def tgt (t v e d : Int) (g : Bool) : Fact := { zeroF with Kind := 10, Recipe := 3, Time := t, Value := v, Version := e, Day := d, Gone := g }

end Go.Wx
namespace Go.Proofs.YthfjagphcekcbaaGreat
open Go.Wx Go.RowKit
theorem trBa24 : True := trivial
end Go.Proofs.YthfjagphcekcbaaGreat

-- Ba25
namespace Go.Wx

def lstOf (b : Base) (j : Nat) : List Fact := [b.Processes, b.Measures, b.Swaps, b.Lots, b.Flows, b.Qualified, b.Holds, b.Releases, b.Resets, b.Targets, b.Gaps].getD j []
theorem eleven_cases {j : Nat} (h : j < 11) : j = 0 ∨ j = 1 ∨ j = 2 ∨ j = 3 ∨ j = 4 ∨ j = 5 ∨ j = 6 ∨ j = 7 ∨ j = 8 ∨ j = 9 ∨ j = 10 := by omega
theorem BaseC.at_ {w : World} {bc : Array Go.Value} {b : Base} (h : BaseC w bc b) {j : Nat} (hj : j < 11) : ∃ v, bc[j]? = some v ∧ Sl w v 19 Fact.cells (lstOf b j) := by
  obtain ⟨v0, v1, v2, v3, v4, v5, v6, v7, v8, v9, v10, e, h0, h1, h2, h3, h4, h5, h6, h7, h8, h9, h10⟩ := h
  subst e
  rcases eleven_cases hj with rfl | rfl | rfl | rfl | rfl | rfl | rfl | rfl | rfl | rfl | rfl
  · exact ⟨v0, rfl, h0⟩
  · exact ⟨v1, rfl, h1⟩
  · exact ⟨v2, rfl, h2⟩
  · exact ⟨v3, rfl, h3⟩
  · exact ⟨v4, rfl, h4⟩
  · exact ⟨v5, rfl, h5⟩
  · exact ⟨v6, rfl, h6⟩
  · exact ⟨v7, rfl, h7⟩
  · exact ⟨v8, rfl, h8⟩
  · exact ⟨v9, rfl, h9⟩
  · exact ⟨v10, rfl, h10⟩
def sameB (b c : Base) : Bool := (List.range 11).all fun j => eqFs (lstOf b j) (lstOf c j)
theorem sameB_no {b c : Base} {j : Nat} (hj : j < 11) (h : eqFs (lstOf b j) (lstOf c j) = false) : sameB b c = false := by
  unfold sameB
  rw [List.all_eq_false]
  exact ⟨j, List.mem_range.2 hj, by rw [h]; exact Bool.false_ne_true⟩
theorem sameB_yes {b c : Base} (h : ∀ j, j < 11 → eqFs (lstOf b j) (lstOf c j) = true) : sameB b c = true := by
  unfold sameB
  rw [List.all_eq_true]
  exact fun j hj => h j (List.mem_range.1 hj)
def short (b : Base) : Prop := ∀ j, (lstOf b j).length ≤ 100000
abbrev Sl3 := Option Addr × Nat × Nat
def eSl (s : Sl3) : Array Go.Value := #[.slice s.1 s.2.1 s.2.2]
def LstsE (w : World) (ss : List Sl3) (b : Base) : Prop := ss.length = 11 ∧ ∀ j, j < 11 → ∃ s, ss[j]? = some s ∧ s.2.1 = (lstOf b j).length ∧ Els w s.1 19 Fact.cells (lstOf b j)
theorem LstsE.up {w w' : World} {ss : List Sl3} {b : Base} (h : LstsE w ss b) (u : Up w w') : LstsE w' ss b := ⟨h.1, fun j hj => let ⟨s, h1, h2, h3⟩ := h.2 j hj; ⟨s, h1, h2, Els.up h3 u⟩⟩

end Go.Wx
namespace Go.Proofs.YthfjagphcekcbaaGreat
open Go.Wx Go.RowKit
theorem trBa25 : True := trivial
end Go.Proofs.YthfjagphcekcbaaGreat

-- Ba26
namespace Go.Wx

theorem factsM_len (l : List Fact) (d : Int) : (factsM (bestL l d)).length ≤ l.length := by unfold factsM; rw [List.length_map]; exact (best_ok d l).2
theorem lst_ofB (l : List Fact) (d : Int) {j : Nat} (hj : j < 11) : lstOf (ofB l d) j = lstAt [((j + 1 : Nat) : Int)] (factsM (bestL l d)) j := by
  rcases eleven_cases hj with rfl | rfl | rfl | rfl | rfl | rfl | rfl | rfl | rfl | rfl | rfl <;> rfl
theorem lstOf_big (b : Base) {j : Nat} (hj : ¬ j < 11) : lstOf b j = [] := by
  unfold lstOf
  rw [List.getD_eq_getElem?_getD, List.getElem?_eq_none (by simp; omega)]; rfl
theorem ofB_short {l : List Fact} (h : l.length ≤ 100000) (d : Int) : short (ofB l d) := fun j => by
  by_cases hj : j < 11
  · rw [lst_ofB l d hj]
    exact Nat.le_trans (lst_len _ _ _) (Nat.le_trans (factsM_len l d) h)
  · rw [lstOf_big _ hj]; simp
theorem short.targets {b : Base} (h : short b) : b.Targets.length ≤ 100000 := h 9
def l4 : List Fact := [tgt 10 5 3 6 true, tgt 30 9 1 2 false, tgt 10 7 2 4 false, tgt 10 5 1 2 false]
def lotF (w t : Int) : Fact := { zeroF with Kind := 4, Version := 1, Wafer := w, Lot := 1, Product := 1, Time := t }
def l3 : List Fact := [lotF 4 8, lotF 4 2, lotF 3 5]
def prF (i u t : Int) : Fact := { zeroF with ID := i, Tool := u, Time := t }
def l5 : List Fact := [prF 2 5 9, prF 1 5 9, prF 3 5 4, prF 4 0 0]
def baseP : Base := ⟨l5, [], [], [], [], [], [], [], [], [], []⟩
def quF : Fact := { zeroF with Tool := 1, Chamber := 2, Recipe := 3, Revision := 4, Time := 5, Until := 6 }
def baseQ : Base := ⟨[], [], [], [], [], [quF], [], [], [], [], []⟩
theorem s1 : (ofB l4 1).Targets = [] := by kernel_rfl
theorem s3 : (ofB l4 3).Targets = [tgt 10 5 1 2 false, tgt 30 9 1 2 false] := by kernel_rfl
theorem s4 : (ofB l4 4).Targets = [tgt 10 7 2 4 false, tgt 30 9 1 2 false] := by kernel_rfl
theorem s6 : (ofB l4 6).Targets = [tgt 30 9 1 2 false] := by kernel_rfl
theorem s0 : (ofB l3 0).Lots = [lotF 3 5, lotF 4 2, lotF 4 8] := by kernel_rfl
theorem e1 : sameB (ofB l4 3) (ofB l4 3) = true := by kernel_rfl
theorem e2 : sameB (ofB l4 3) (ofB l4 4) = false := by kernel_rfl
theorem t1 : tgF 3 29 (ofB l4 4).Targets = (tgt 10 7 2 4 false, true) := by kernel_rfl
theorem t2 : tgF 3 30 (ofB l4 4).Targets = (tgt 30 9 1 2 false, true) := by kernel_rfl
theorem t3 : tgF 3 9 (ofB l4 4).Targets = (zeroF, false) := by kernel_rfl
theorem run1 : runsB baseP 5 0 = [prF 3 5 4, prF 1 5 9, prF 2 5 9] := by kernel_rfl
theorem pp1 : procB baseP 1 = some (prF 1 5 9) := by kernel_rfl
theorem mm1 : measB baseP 1 = none := by kernel_rfl
theorem qq1 : qualifiedB baseQ 1 2 3 4 6 = true := by kernel_rfl

end Go.Wx
namespace Go.Proofs.YthfjagphcekcbaaGreat
open Go.Wx Go.RowKit
theorem trBa26 : True := trivial
end Go.Proofs.YthfjagphcekcbaaGreat
