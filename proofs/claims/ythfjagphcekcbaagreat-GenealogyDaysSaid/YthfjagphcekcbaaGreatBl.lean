/-
  Struct and slice literals; slices of ints. Nothing of any program stands here.
-/
import Derived.Test.YthfjagphcekcbaaGreatFl
namespace Go.Wx
open Go.RowKit

section
variable {P : Program} {n : Nat} {ds : List Deferred} {l : Env} {w : World} {d : Option Tmp} {ty : TypeId} {ps : String} {af : Array Edge} {g : Option (Nat × Bool)}

/-- the operands of a literal's parts -/
inductive Parts (l : Env) : List (Nat × Operand) → List (Nat × Value) → Prop where
  | nil : Parts l [] []
  | cons {i : Nat} {x : Operand} {v : Value} {xs : List (Nat × Operand)} {vs : List (Nat × Value)} (h : Val l x v) (r : Parts l xs vs) : Parts l ((i, x) :: xs) ((i, v) :: vs)
theorem Parts.map {a : Act} {xs : List (Nat × Operand)} {vs : List (Nat × Value)} (hp : Parts l xs vs) (h : Ag n ds l a w) : xs.map (fun (i, x) => (i, a.eval x)) = vs := by
  induction hp with
  | nil => rfl
  | cons h1 _ ih => rw [List.map_cons, ih]; dsimp only; rw [h.ev h1]

def placesOf (T : TypeId) : Sem (Array (Nat × Nat)) := do
  match ← underlying T with
  | .struct fs => fs.mapM fun f => do pure (f.offset, ← sizeOf f.type)
  | _ => stuck ""
theorem run_build {T : TypeId} {fs : Array Field} {z cs : Array Value} {vs : List (Nat × Value)} {pl : Array (Nat × Nat)} (hu : P.underlying T = some (.struct fs)) (hz : ∀ w, (zeroValue T).run P w = .ok (.agg z) w)
    (hp : ∀ w, (placesOf T).run P w = .ok pl w) (hf : Instr.fill (pl[·]?) z vs = some cs) (w : World) : (Instr.build T vs.toArray).run P w = .ok (.agg cs) w := by
  have hp' := hp w
  simp only [placesOf, Sem.run_bind, run_underlying hu, Result.andThen] at hp'
  simp only [Instr.build, Sem.run_bind, hz, Result.andThen, run_underlying hu, hp', Value.cells, hf]
  rfl
theorem PEv.build {T : TypeId} {fs : Array Field} {z cs : Array Value} {xs : Array (Nat × Operand)} {vs : List (Nat × Value)} {pl : Array (Nat × Nat)} (hu : P.underlying T = some (.struct fs)) (hz : ∀ w, (zeroValue T).run P w = .ok (.agg z) w)
    (hp : ∀ w, (placesOf T).run P w = .ok pl w) (hv : Parts l xs.toList vs) (hf : Instr.fill (pl[·]?) z vs = some cs) :
    PEv P n ds l w ⟨d, .build T xs, ty, ps, af, g⟩ (.agg cs) := fun a w' ha _ => by
  refine run_v ?_
  have e : (xs.map fun (i, x) => (i, a.eval x)) = vs.toArray := by apply Array.ext'; rw [← hv.map ha]; simp
  rw [e]; exact run_build hu hz hp hf w'

theorem fold_set (off : Nat) : ∀ (vs : List Value) (i : Nat) (cs : Array Value) (k : Nat), off + i + vs.length ≤ cs.size →
    ((vs.zipIdx i).foldl (fun (cs : Array Value) (x : Value × Nat) => cs.setIfInBounds (off + x.2) x.1) cs)[k]? = (if off + i ≤ k ∧ k < off + i + vs.length then vs[k - (off + i)]? else cs[k]?) ∧ ((vs.zipIdx i).foldl (fun (cs : Array Value) (x : Value × Nat) => cs.setIfInBounds (off + x.2) x.1) cs).size = cs.size
  | [], i, cs, k, _ => by
    refine ⟨?_, rfl⟩
    rw [if_neg (by simp <;> omega)]; rfl
  | v :: vs, i, cs, k, h => by
    simp only [List.length_cons] at h
    simp only [List.zipIdx_cons, List.foldl_cons, List.length_cons]
    have hh : off + (i + 1) + vs.length ≤ (cs.setIfInBounds (off + i) v).size := by rw [Array.size_setIfInBounds]; omega
    obtain ⟨h1, h2⟩ := fold_set off vs (i + 1) (cs.setIfInBounds (off + i) v) k hh
    refine ⟨?_, by rw [h2]; simp⟩
    rw [h1, Array.getElem?_setIfInBounds]
    by_cases hk : off + i = k
    · subst hk
      rw [if_neg (show ¬ (off + (i + 1) ≤ off + i ∧ off + i < off + (i + 1) + vs.length) by omega), if_pos rfl, if_pos (show off + i < cs.size by omega), if_pos (show off + i ≤ off + i ∧ off + i < off + i + (vs.length + 1) by omega)]
      simp
    · by_cases hk2 : off + (i + 1) ≤ k ∧ k < off + (i + 1) + vs.length
      · rw [if_pos hk2, if_pos (show off + i ≤ k ∧ k < off + i + (vs.length + 1) by omega), show k - (off + i) = (k - (off + (i + 1))) + 1 by omega, List.getElem?_cons_succ]
      · rw [if_neg hk2, if_neg hk, if_neg (show ¬ (off + i ≤ k ∧ k < off + i + (vs.length + 1)) by omega)]

/-- a struct of two: one of k cells, one of one cell -/
theorem fill_two {k : Nat} {z cs : Array Value} {v : Value} (hk : cs.size = k) (hz : z.size = k + 1) (h1 : v.oneCell' = true) : Instr.fill (#[(0, k), (k, 1)][·]?) z [(0, .agg cs), (1, v)] = some (cs.push v) := by
  have hv : v.cells = #[v] := by cases v <;> first | rfl | cases h1
  have hf := fun j => fold_set 0 cs.toList 0 z j (by simp; omega)
  have e0 : (#[(0, k), (k, 1)] : Array (Nat × Nat))[0]? = some (0, k) := rfl
  have e1 : (#[(0, k), (k, 1)] : Array (Nat × Nat))[1]? = some (k, 1) := rfl
  have ea : (Value.agg cs).cells = cs := rfl
  have hl : cs.zipIdx.foldl (fun (cs : Array Value) (x : Value × Nat) => cs.setIfInBounds (0 + x.2) x.1) z = (cs.toList.zipIdx 0).foldl (fun (cs : Array Value) (x : Value × Nat) => cs.setIfInBounds (0 + x.2) x.1) z := by
    rw [← Array.foldl_toList]; simp
  generalize (cs.toList.zipIdx 0).foldl (fun (cs : Array Value) (x : Value × Nat) => cs.setIfInBounds (0 + x.2) x.1) z = F at hf hl
  unfold Instr.fill
  simp only [e0, ea, hk]
  rw [if_neg (by simp; omega)]
  have hl' : cs.zipIdx.foldl (fun cs (x : Value × Nat) => match x with | (c, j) => cs.setIfInBounds (0 + j) c) z = F := hl
  rw [hl']
  unfold Instr.fill
  have hF : F.size = k + 1 := by rw [(hf 0).2, hz]
  simp only [e1, hv]
  rw [if_neg (by simp; omega)]
  unfold Instr.fill
  congr 1
  apply Array.ext_getElem?
  intro j
  have hj := (hf j).1
  show (F.setIfInBounds (k + 0) v)[j]? = _
  rw [Array.getElem?_setIfInBounds, Array.getElem?_push]
  by_cases e : k + 0 = j
  · subst e
    rw [if_pos rfl, if_pos (by omega), if_pos (by omega)]
  · rw [if_neg e, if_neg (by omega), hj]
    by_cases hlt : j < k
    · rw [if_pos (by simp; omega)]; simp
    · rw [if_neg (by simp; omega)]
      have h1 : z[j]? = none := by simp; omega
      have h2 : cs[j]? = none := by simp; omega
      rw [h1, h2]
theorem fill_hold {z : Array Value} (f : Fact) (p : Addr) (hz : z.size = 20) : Instr.fill (#[(0, 19), (19, 1)][·]?) z [(0, .agg f.cells), (1, .pointer (some p))] = some (holdCells f p) := fill_two rfl hz rfl
/-- the parts in their order, each of 'size' cells -/
def numbered : List Value → Nat → List (Nat × Value)
  | [], _ => []
  | v :: vs, k => (k, v) :: numbered vs (k + 1)
theorem fill_seq (size : Nat) : ∀ (vs : List Value) (i : Nat) (cs : Array Value), (∀ v ∈ vs, v.cells.size = size) → (i + vs.length) * size ≤ cs.size →
    ∃ out, Instr.fill (fun i => some (i * size, size)) cs (numbered vs i) = some out ∧ out.size = cs.size ∧ (∀ k, k < i * size → out[k]? = cs[k]?) ∧ ∀ j v, vs[j]? = some v → ∀ q u, v.cells[q]? = some u → out[(i + j) * size + q]? = some u
  | [], i, cs, _, _ => ⟨cs, rfl, rfl, fun _ _ => rfl, fun j v h => by simp at h⟩
  | v :: vs, i, cs, hs, hl => by
    have hv : v.cells.size = size := hs v (by simp)
    simp only [List.length_cons] at hl
    have e1 : (i + (vs.length + 1)) * size = i * size + size + vs.length * size := by rw [Nat.add_mul, Nat.add_mul]; omega
    have e2 : (i + 1 + vs.length) * size = i * size + size + vs.length * size := by rw [Nat.add_mul, Nat.add_mul]; omega
    have hf := fun k => fold_set (i * size) v.cells.toList 0 cs k (by simp [hv]; omega)
    obtain ⟨out, h1, h2, h3, h4⟩ := fill_seq size vs (i + 1) ((v.cells.toList.zipIdx 0).foldl (fun (cs : Array Value) (x : Value × Nat) => cs.setIfInBounds (i * size + x.2) x.1) cs) (fun u hu => hs u (List.mem_cons_of_mem _ hu)) (by rw [(hf 0).2]; omega)
    refine ⟨out, ?_, by rw [h2, (hf 0).2], fun k hk => ?_, fun j u hj q x hx => ?_⟩
    · unfold numbered Instr.fill
      simp only [hv]
      rw [if_neg (by simp; omega)]
      rw [← h1]
      congr 1
      rw [← Array.foldl_toList]
      simp
    · rw [h3 k (by rw [Nat.add_mul]; omega), (hf k).1, if_neg (by simp [hv]; omega)]
    · cases j with
      | zero =>
        simp at hj
        subst hj
        have hq : q < size := by rw [← hv]; exact (Array.getElem?_eq_some_iff.1 hx).1
        rw [Nat.add_zero, h3 _ (by rw [Nat.add_mul]; omega), (hf _).1, if_pos (by simp [hv]; omega)]
        simpa using hx
      | succ j =>
        have := h4 j u (by simpa using hj) q x hx
        rw [show i + (j + 1) = i + 1 + j by omega]; exact this

/-- a slice literal -/
def NewSl {α : Type} (w : World) (T : TypeId) (k : Nat) (enc : α → Array Value) (xs : List α) (v : Value) (w' : World) : Prop :=
  ∃ B cs, v = .slice (some ⟨B, 0, none⟩) xs.length xs.length ∧ New w w' B cs T ∧ cs.size = xs.length * k ∧ Els w' (some ⟨B, 0, none⟩) k enc xs
theorem NewSl.q {α : Type} {w w' : World} {T : TypeId} {k : Nat} {enc : α → Array Value} {xs : List α} {v : Value} (h : NewSl w T k enc xs v w') : Up w w' ∧ Sl w' v k enc xs := by
  obtain ⟨B, cs, rfl, N, _, E⟩ := h
  exact ⟨N.up, Sl.of_els E⟩
theorem numbered_eq {α : Type} (enc : α → Value) : ∀ (xs : List α) (k : Nat), numbered (xs.map enc) k = (xs.zipIdx k).map fun p => (p.2, enc p.1)
  | [], _ => rfl
  | x :: xs, k => by simp [numbered, numbered_eq enc xs (k + 1)]
theorem run_buildSlice {α : Type} {T e : TypeId} {k N : Nat} {enc : α → Array Value} {mk : α → Value} {xs : List α} {vs : List (Nat × Value)} {z : Value} (hu : P.underlying T = some (.slice e)) (hs : ∀ w, (sizeOf e).run P w = .ok k w) (hz : ∀ w, (zeroValue e).run P w = .ok z w)
    (hN : xs.length = N) (hsmall : N * k ≤ 16777216) (hmk : ∀ x, (mk x).cells = enc x) (hk : ∀ x, (enc x).size = k) (hv : vs = numbered (xs.map mk) 0) (w : World) :
    ∃ v w', (Instr.buildSlice T N vs.toArray).run P w = .ok v w' ∧ NewSl w e k enc xs v w' := by
  subst hN
  obtain ⟨out, h1, h2, _, h4⟩ := fill_seq k (xs.map mk) 0 ((Array.range (xs.length * k)).map fun i => (if xs.length * k = 0 then (#[] : Array Value) else z.cells)[i % (if xs.length * k = 0 then (#[] : Array Value) else z.cells).size]!) (by intro v hv; obtain ⟨x, _, rfl⟩ := List.mem_map.1 hv; rw [hmk, hk]) (by simp)
  have hel : Els (w.alloc (.cells out e)) (some ⟨w.heap.size, 0, none⟩) k enc xs := els_of_block (blk_alloc w out e) fun i x hx j v hj => by
    have := h4 i (mk x) (by simp [hx]) j v (by rw [hmk]; exact hj)
    simpa using this
  refine ⟨.slice (some ⟨w.heap.size, 0, none⟩) xs.length xs.length, w.alloc (.cells out e), ?_, w.heap.size, out, rfl, New.alloc w out e, by rw [h2]; simp, hel⟩
  subst hv
  have hlim : ¬ (xs.length * k > 2 ^ 24) := by omega
  simp only [Instr.buildSlice, Sem.run_bind, run_underlying hu, Result.andThen, hs, if_neg hlim]
  by_cases h0 : xs.length * k = 0
  · simp only [h0] at h1 ⊢
    simp at h1 ⊢
    simp [h1, newRow]
  · simp only [if_neg h0] at h1 ⊢
    simp [h1, hz, Sem.run_bind, newRow]
theorem REv.buildSlice {α : Type} {T e : TypeId} {k N : Nat} {enc : α → Array Value} {mk : α → Value} {xs : List α} {po : Array (Nat × Operand)} {vs : List (Nat × Value)} {z : Value} (hu : P.underlying T = some (.slice e)) (hs : ∀ w, (sizeOf e).run P w = .ok k w) (hz : ∀ w, (zeroValue e).run P w = .ok z w)
    (hN : xs.length = N) (hsmall : N * k ≤ 16777216) (hmk : ∀ x, (mk x).cells = enc x) (hk : ∀ x, (enc x).size = k) (hp : Parts l po.toList vs) (hv : vs = numbered (xs.map mk) 0) : REv P n ds l w ⟨d, .buildSlice T N po, ty, ps, af, g⟩ (NewSl w e k enc xs) := fun a ha => by
  obtain ⟨v, w', h1, h2⟩ := run_buildSlice (P := P) hu hs hz hN hsmall hmk hk hv w
  refine ⟨v, w', run_v ?_, h2⟩
  have e1 : (po.map fun (i, x) => (i, a.eval x)) = vs.toArray := by apply Array.ext'; rw [← hp.map ha]; simp
  rw [e1]; exact h1
end
end Go.Wx
