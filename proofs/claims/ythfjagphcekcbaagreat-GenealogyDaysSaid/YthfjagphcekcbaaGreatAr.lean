/-
  An array's literal; m = map[int]T{..} whose inserts come in the text's order. Nothing of any program stands here.
-/
import Derived.Test.YthfjagphcekcbaaGreatMl
namespace Go.Wx
open Go.RowKit
section
variable {P : Program} {n : Nat} {ds : List Deferred} {l : Env} {w : World} {d : Option Tmp} {ty : TypeId} {ps : String} {af : Array Edge} {g : Option (Nat × Bool)}
theorem PEv.buildArr {T e k size : Nat} {z cs : Array Value} {xs : Array (Nat × Operand)} {vs : List (Nat × Value)} (hu : P.underlying T = some (.array k e)) (hz : ∀ w, (zeroValue T).run P w = .ok (.agg z) w) (hs : ∀ w, (sizeOf e).run P w = .ok size w)
    (hv : Parts l xs.toList vs) (hf : Instr.fill (fun i => some (i * size, size)) z vs = some cs) : PEv P n ds l w ⟨d, .build T xs, ty, ps, af, g⟩ (.agg cs) := fun a w' ha _ => by
  refine run_v ?_
  have e : (xs.map fun (i, x) => (i, a.eval x)) = vs.toArray := by apply Array.ext'; rw [← hv.map ha]; simp
  rw [e]
  simp only [Instr.build, Sem.run_bind, hz, Result.andThen, run_underlying hu, hs, Value.cells, hf]
  rfl
end
/-- the keys 1 .. i -/
def keyT (f : Int → Value) (i : Nat) : List (Int × Value) := (List.range i).map fun j => (((j + 1 : Nat) : Int), f ((j + 1 : Nat) : Int))
theorem keyT_mem {f : Int → Value} {i : Nat} {k : Int} {v : Value} : (k, v) ∈ keyT f i ↔ 1 ≤ k ∧ k ≤ i ∧ v = f k := by
  unfold keyT
  rw [List.mem_map]
  constructor
  · rintro ⟨j, hj, e⟩
    have := List.mem_range.1 hj
    cases e
    exact ⟨by omega, by omega, rfl⟩
  · rintro ⟨h1, h2, rfl⟩
    refine ⟨(k - 1).toNat, List.mem_range.2 (by omega), ?_⟩
    have : (((k - 1).toNat + 1 : Nat) : Int) = k := by omega
    rw [this]
theorem keyT_keys {f : Int → Value} {i : Nat} {k : Int} : k ∈ (keyT f i).map (·.1) ↔ 1 ≤ k ∧ k ≤ i := by
  rw [List.mem_map]
  constructor
  · rintro ⟨⟨k', v⟩, h, rfl⟩
    have := keyT_mem.1 h
    exact ⟨this.1, this.2.1⟩
  · rintro ⟨h1, h2⟩
    exact ⟨(k, f k), keyT_mem.2 ⟨h1, h2, rfl⟩, rfl⟩
theorem keyT_next (f : Int → Value) (i : Nat) : mset (keyT f i) ((i + 1 : Nat) : Int) (f ((i + 1 : Nat) : Int)) = keyT f (i + 1) := by
  rw [mset_new (fun h => by have := keyT_keys.1 h; omega)]
  simp [keyT, List.range_succ]
end Go.Wx
