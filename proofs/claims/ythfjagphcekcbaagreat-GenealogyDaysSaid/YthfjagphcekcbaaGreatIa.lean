/-
  Arrays of five or six ints, as structures. Nothing of any program stands here.
-/
import Derived.Test.YthfjagphcekcbaaGreatWt
namespace Go.Wx
structure I5 where
  a : Int
  b : Int
  c : Int
  d : Int
  e : Int
def I5.cells (x : I5) : Array Value := #[vi x.a, vi x.b, vi x.c, vi x.d, vi x.e]
def I5Ok (x : I5) : Prop := inI x.a ∧ inI x.b ∧ inI x.c ∧ inI x.d ∧ inI x.e
theorem I5.one (x : I5) : x.cells.all (·.oneCell') = true := by simp [I5.cells, Value.oneCell']
structure I6 where
  a : Int
  b : Int
  c : Int
  d : Int
  e : Int
  f : Int
def I6.cells (x : I6) : Array Value := #[vi x.a, vi x.b, vi x.c, vi x.d, vi x.e, vi x.f]
def I6Ok (x : I6) : Prop := inI x.a ∧ inI x.b ∧ inI x.c ∧ inI x.d ∧ inI x.e ∧ inI x.f
theorem I6.one (x : I6) : x.cells.all (·.oneCell') = true := by simp [I6.cells, Value.oneCell']
end Go.Wx
