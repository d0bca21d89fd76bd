/-
  The data of package api as Lean has them, how they lie in cells, slices that read as lists. Nothing of any program stands here.
-/
import Derived.Test.YthfjagphcekcbaaGreatWd
namespace Go.Wx
open Go.RowKit

structure Fact where
  Kind : Int
  ID : Int
  Version : Int
  Day : Int
  Gone : Bool
  Time : Int
  Until : Int
  Wafer : Int
  Other : Int
  Lot : Int
  Product : Int
  Tool : Int
  Chamber : Int
  Step : Int
  Recipe : Int
  Revision : Int
  Value : Int
  Parties : Int
  Text : ByteArray

abbrev vi (n : Int) : Value := .int .i64 n
def Fact.cells (f : Fact) : Array Go.Value := #[vi f.Kind, vi f.ID, vi f.Version, vi f.Day, .bool f.Gone, vi f.Time, vi f.Until, vi f.Wafer, vi f.Other, vi f.Lot, vi f.Product, vi f.Tool, vi f.Chamber, vi f.Step, vi f.Recipe, vi f.Revision, vi f.Value, vi f.Parties, .string f.Text]
def Fact.zero : Fact := ⟨0, 0, 0, 0, false, 0, 0, 0, 0, 0, 0, 0, 0, 0, 0, 0, 0, 0, ByteArray.empty⟩

def Fact.eqb (f g : Fact) : Bool := f.Kind == g.Kind && (f.ID == g.ID && (f.Version == g.Version && (f.Day == g.Day && (f.Gone == g.Gone && (f.Time == g.Time && (f.Until == g.Until && (f.Wafer == g.Wafer && (f.Other == g.Other && (f.Lot == g.Lot && (f.Product == g.Product && (f.Tool == g.Tool && (f.Chamber == g.Chamber && (f.Step == g.Step && (f.Recipe == g.Recipe && (f.Revision == g.Revision && (f.Value == g.Value && (f.Parties == g.Parties && (f.Text.toList == g.Text.toList))))))))))))))))))
structure GAct where
  Wafer : Int
  Step : Int
  Tool : Int
  Chamber : Int
  Recipe : Int
  Revision : Int
  Time : Int
def GAct.cells (a : GAct) : Array Go.Value := #[vi a.Wafer, vi a.Step, vi a.Tool, vi a.Chamber, vi a.Recipe, vi a.Revision, vi a.Time]

def inI (x : Int) : Prop := -9223372036854775808 ≤ x ∧ x ≤ 9223372036854775807
structure FOk (f : Fact) : Prop where
  Kind : inI f.Kind
  ID : inI f.ID
  Version : inI f.Version
  Day : inI f.Day
  Time : inI f.Time
  Until : inI f.Until
  Wafer : inI f.Wafer
  Other : inI f.Other
  Lot : inI f.Lot
  Product : inI f.Product
  Tool : inI f.Tool
  Chamber : inI f.Chamber
  Step : inI f.Step
  Recipe : inI f.Recipe
  Revision : inI f.Revision
  Value : inI f.Value
  Parties : inI f.Parties
  Text : f.Text.size ≤ 9223372036854775807
structure AOk (a : GAct) : Prop where
  Wafer : inI a.Wafer
  Step : inI a.Step
  Tool : inI a.Tool
  Chamber : inI a.Chamber
  Recipe : inI a.Recipe
  Revision : inI a.Revision
  Time : inI a.Time

/-- the slice v reads as xs; an element is 'enc x', k cells -/
def Sl {α : Type} (w : World) (v : Value) (k : Nat) (enc : α → Array Value) (xs : List α) : Prop :=
  ∃ ad c, v = .slice ad xs.length c ∧ ∀ i x, xs[i]? = some x → ∃ B o, ad = some ⟨B, o, none⟩ ∧ AggAt w B (o + i * k) (enc x)
theorem Sl.up {α : Type} {w w' : World} {v : Value} {k : Nat} {enc : α → Array Value} {xs : List α} (h : Sl w v k enc xs) (u : Up w w') : Sl w' v k enc xs := by
  obtain ⟨ad, c, hv, he⟩ := h
  exact ⟨ad, c, hv, fun i x hx => let ⟨B, o, h1, h2⟩ := he i x hx; ⟨B, o, h1, h2.up u⟩⟩
/-- what is known of the elements, ad being the slice's address -/
def Els {α : Type} (w : World) (ad : Option Addr) (k : Nat) (enc : α → Array Value) (xs : List α) : Prop :=
  ∀ i x, xs[i]? = some x → ∃ B o, ad = some ⟨B, o, none⟩ ∧ AggAt w B (o + i * k) (enc x)
theorem Els.up {α : Type} {w w' : World} {ad : Option Addr} {k : Nat} {enc : α → Array Value} {xs : List α} (h : Els w ad k enc xs) (u : Up w w') : Els w' ad k enc xs := fun i x hx => let ⟨B, o, h1, h2⟩ := h i x hx; ⟨B, o, h1, h2.up u⟩
theorem Els.sto {α : Type} {w w' : World} {B B' o : Nat} {k : Nat} {enc : α → Array Value} {xs : List α} (h : Els w (some ⟨B', o, none⟩) k enc xs) (u : Sto B w w') (hne : B' ≠ B) : Els w' (some ⟨B', o, none⟩) k enc xs := fun i x hx => by
  obtain ⟨B1, o1, h1, h2⟩ := h i x hx
  cases h1
  exact ⟨B', o, rfl, h2.sto u hne⟩
theorem Sl.nil {α : Type} (w : World) (k : Nat) (enc : α → Array Value) : Sl w (.slice none 0 0) k enc [] := ⟨none, 0, rfl, fun i x h => by simp at h⟩
theorem Sl.of_els {α : Type} {w : World} {ad : Option Addr} {c k : Nat} {enc : α → Array Value} {xs : List α} (h : Els w ad k enc xs) : Sl w (.slice ad xs.length c) k enc xs := ⟨ad, c, rfl, h⟩
theorem els_of_block {α : Type} {w : World} {B k : Nat} {T : TypeId} {enc : α → Array Value} {xs : List α} {cs : Array Value} (h : Blk w B cs T) (he : ∀ i x, xs[i]? = some x → ∀ j v, (enc x)[j]? = some v → cs[i * k + j]? = some v) : Els w (some ⟨B, 0, none⟩) k enc xs := fun i x hx =>
  ⟨B, 0, rfl, fun j v hv => h.cell (by rw [Nat.zero_add]; exact he i x hx j v hv)⟩

section
variable {P : Program} {n : Nat} {ds : List Deferred} {l : Env} {w : World} {d : Option Tmp} {ty : TypeId} {ps : String} {af : Array Edge} {g : Option (Nat × Bool)}
theorem PEv.indexAddr' {T e : TypeId} {x ix : Operand} {ad : Option Addr} {B o k c size j : Nat} (hT : P.underlying T = some (.slice e)) (hs : ∀ w, (sizeOf e).run P w = .ok size w) (hx : Val l x (.slice ad k c)) (hi : Val l ix (.int .i64 (j : Int))) (hj : j < k) (had : ad = some ⟨B, o, none⟩) :
    PEv P n ds l w ⟨d, .indexAddr T x ix, ty, ps, af, g⟩ (.pointer (some ⟨B, o + j * size, none⟩)) := by
  subst had; exact PEv.indexAddr hT hs hx hi hj
theorem PEv.nilCheck' {x : Operand} {p : Option Addr} {ad : Addr} (hx : Val l x (.pointer p)) (hp : p = some ad) : PEv P n ds l w ⟨d, .nilCheck x, ty, ps, af, g⟩ (.pointer (some ad)) := by subst hp; exact PEv.nilCheck hx
end
theorem Fact.one (f : Fact) : f.cells.all (·.oneCell') = true := by simp [Fact.cells, Value.oneCell']
theorem GAct.one (a : GAct) : a.cells.all (·.oneCell') = true := by simp [GAct.cells, Value.oneCell']
def holdCells (f : Fact) (p : Addr) : Array Go.Value := #[vi f.Kind, vi f.ID, vi f.Version, vi f.Day, .bool f.Gone, vi f.Time, vi f.Until, vi f.Wafer, vi f.Other, vi f.Lot, vi f.Product, vi f.Tool, vi f.Chamber, vi f.Step, vi f.Recipe, vi f.Revision, vi f.Value, vi f.Parties, .string f.Text, .pointer (some p)]
theorem holdCells_one (f : Fact) (p : Addr) : (holdCells f p).all (·.oneCell') = true := by simp [holdCells, Value.oneCell']
def hold0 : Array Go.Value := #[vi 0, vi 0, vi 0, vi 0, .bool false, vi 0, vi 0, vi 0, vi 0, vi 0, vi 0, vi 0, vi 0, vi 0, vi 0, vi 0, vi 0, vi 0, .string ByteArray.empty, .pointer none]
theorem hold0_one : hold0.all (·.oneCell') = true := by simp [hold0, Value.oneCell']
structure Base where
  Processes : List Fact
  Measures : List Fact
  Swaps : List Fact
  Lots : List Fact
  Flows : List Fact
  Qualified : List Fact
  Holds : List Fact
  Releases : List Fact
  Resets : List Fact
  Targets : List Fact
  Gaps : List Fact
/-- the cells of a base that reads so -/
def BaseC (w : World) (bc : Array Go.Value) (b : Base) : Prop :=
  ∃ v0 v1 v2 v3 v4 v5 v6 v7 v8 v9 v10, bc = #[v0, v1, v2, v3, v4, v5, v6, v7, v8, v9, v10] ∧ Sl w v0 19 Fact.cells b.Processes ∧ Sl w v1 19 Fact.cells b.Measures ∧ Sl w v2 19 Fact.cells b.Swaps ∧ Sl w v3 19 Fact.cells b.Lots ∧ Sl w v4 19 Fact.cells b.Flows ∧ Sl w v5 19 Fact.cells b.Qualified ∧ Sl w v6 19 Fact.cells b.Holds ∧ Sl w v7 19 Fact.cells b.Releases ∧ Sl w v8 19 Fact.cells b.Resets ∧ Sl w v9 19 Fact.cells b.Targets ∧ Sl w v10 19 Fact.cells b.Gaps
theorem BaseC.up {w w' : World} {bc : Array Go.Value} {b : Base} (h : BaseC w bc b) (u : Up w w') : BaseC w' bc b := by
  obtain ⟨v0, v1, v2, v3, v4, v5, v6, v7, v8, v9, v10, e, h0, h1, h2, h3, h4, h5, h6, h7, h8, h9, h10⟩ := h
  exact ⟨v0, v1, v2, v3, v4, v5, v6, v7, v8, v9, v10, e, h0.up u, h1.up u, h2.up u, h3.up u, h4.up u, h5.up u, h6.up u, h7.up u, h8.up u, h9.up u, h10.up u⟩
theorem BaseC.size {w : World} {bc : Array Go.Value} {b : Base} (h : BaseC w bc b) : bc.size = 11 := by
  obtain ⟨v0, v1, v2, v3, v4, v5, v6, v7, v8, v9, v10, e, _⟩ := h
  subst e; rfl
theorem Sl.one {α : Type} {w : World} {v : Value} {k : Nat} {enc : α → Array Value} {xs : List α} (h : Sl w v k enc xs) : v.oneCell' = true := by obtain ⟨ad, c, rfl, _⟩ := h; rfl
theorem BaseC.one {w : World} {bc : Array Go.Value} {b : Base} (h : BaseC w bc b) : bc.all (·.oneCell') = true := by
  obtain ⟨v0, v1, v2, v3, v4, v5, v6, v7, v8, v9, v10, e, h0, h1, h2, h3, h4, h5, h6, h7, h8, h9, h10⟩ := h
  subst e; simp [h0.one, h1.one, h2.one, h3.one, h4.one, h5.one, h6.one, h7.one, h8.one, h9.one, h10.one]
theorem BaseC.at0 {w : World} {bc : Array Go.Value} {b : Base} (h : BaseC w bc b) : ∃ v, bc[0]? = some v ∧ Sl w v 19 Fact.cells b.Processes := by
  obtain ⟨v0, v1, v2, v3, v4, v5, v6, v7, v8, v9, v10, e, h0, h1, h2, h3, h4, h5, h6, h7, h8, h9, h10⟩ := h
  subst e; exact ⟨v0, rfl, h0⟩
theorem BaseC.at1 {w : World} {bc : Array Go.Value} {b : Base} (h : BaseC w bc b) : ∃ v, bc[1]? = some v ∧ Sl w v 19 Fact.cells b.Measures := by
  obtain ⟨v0, v1, v2, v3, v4, v5, v6, v7, v8, v9, v10, e, h0, h1, h2, h3, h4, h5, h6, h7, h8, h9, h10⟩ := h
  subst e; exact ⟨v1, rfl, h1⟩
theorem BaseC.at2 {w : World} {bc : Array Go.Value} {b : Base} (h : BaseC w bc b) : ∃ v, bc[2]? = some v ∧ Sl w v 19 Fact.cells b.Swaps := by
  obtain ⟨v0, v1, v2, v3, v4, v5, v6, v7, v8, v9, v10, e, h0, h1, h2, h3, h4, h5, h6, h7, h8, h9, h10⟩ := h
  subst e; exact ⟨v2, rfl, h2⟩
theorem BaseC.at3 {w : World} {bc : Array Go.Value} {b : Base} (h : BaseC w bc b) : ∃ v, bc[3]? = some v ∧ Sl w v 19 Fact.cells b.Lots := by
  obtain ⟨v0, v1, v2, v3, v4, v5, v6, v7, v8, v9, v10, e, h0, h1, h2, h3, h4, h5, h6, h7, h8, h9, h10⟩ := h
  subst e; exact ⟨v3, rfl, h3⟩
theorem BaseC.at4 {w : World} {bc : Array Go.Value} {b : Base} (h : BaseC w bc b) : ∃ v, bc[4]? = some v ∧ Sl w v 19 Fact.cells b.Flows := by
  obtain ⟨v0, v1, v2, v3, v4, v5, v6, v7, v8, v9, v10, e, h0, h1, h2, h3, h4, h5, h6, h7, h8, h9, h10⟩ := h
  subst e; exact ⟨v4, rfl, h4⟩
theorem BaseC.at5 {w : World} {bc : Array Go.Value} {b : Base} (h : BaseC w bc b) : ∃ v, bc[5]? = some v ∧ Sl w v 19 Fact.cells b.Qualified := by
  obtain ⟨v0, v1, v2, v3, v4, v5, v6, v7, v8, v9, v10, e, h0, h1, h2, h3, h4, h5, h6, h7, h8, h9, h10⟩ := h
  subst e; exact ⟨v5, rfl, h5⟩
theorem BaseC.at6 {w : World} {bc : Array Go.Value} {b : Base} (h : BaseC w bc b) : ∃ v, bc[6]? = some v ∧ Sl w v 19 Fact.cells b.Holds := by
  obtain ⟨v0, v1, v2, v3, v4, v5, v6, v7, v8, v9, v10, e, h0, h1, h2, h3, h4, h5, h6, h7, h8, h9, h10⟩ := h
  subst e; exact ⟨v6, rfl, h6⟩
theorem BaseC.at7 {w : World} {bc : Array Go.Value} {b : Base} (h : BaseC w bc b) : ∃ v, bc[7]? = some v ∧ Sl w v 19 Fact.cells b.Releases := by
  obtain ⟨v0, v1, v2, v3, v4, v5, v6, v7, v8, v9, v10, e, h0, h1, h2, h3, h4, h5, h6, h7, h8, h9, h10⟩ := h
  subst e; exact ⟨v7, rfl, h7⟩
theorem BaseC.at8 {w : World} {bc : Array Go.Value} {b : Base} (h : BaseC w bc b) : ∃ v, bc[8]? = some v ∧ Sl w v 19 Fact.cells b.Resets := by
  obtain ⟨v0, v1, v2, v3, v4, v5, v6, v7, v8, v9, v10, e, h0, h1, h2, h3, h4, h5, h6, h7, h8, h9, h10⟩ := h
  subst e; exact ⟨v8, rfl, h8⟩
theorem BaseC.at9 {w : World} {bc : Array Go.Value} {b : Base} (h : BaseC w bc b) : ∃ v, bc[9]? = some v ∧ Sl w v 19 Fact.cells b.Targets := by
  obtain ⟨v0, v1, v2, v3, v4, v5, v6, v7, v8, v9, v10, e, h0, h1, h2, h3, h4, h5, h6, h7, h8, h9, h10⟩ := h
  subst e; exact ⟨v9, rfl, h9⟩
theorem BaseC.at10 {w : World} {bc : Array Go.Value} {b : Base} (h : BaseC w bc b) : ∃ v, bc[10]? = some v ∧ Sl w v 19 Fact.cells b.Gaps := by
  obtain ⟨v0, v1, v2, v3, v4, v5, v6, v7, v8, v9, v10, e, h0, h1, h2, h3, h4, h5, h6, h7, h8, h9, h10⟩ := h
  subst e; exact ⟨v10, rfl, h10⟩
theorem getElem?_of_lt {α : Type} {xs : List α} {i : Nat} (h : i < xs.length) : ∃ x, xs[i]? = some x := ⟨xs[i], by simp [h]⟩
theorem take_succ_of {α : Type} {xs : List α} {i : Nat} {x : α} (h : xs[i]? = some x) : xs.take (i + 1) = xs.take i ++ [x] := by
  rw [List.take_add_one, h]; rfl
end Go.Wx
