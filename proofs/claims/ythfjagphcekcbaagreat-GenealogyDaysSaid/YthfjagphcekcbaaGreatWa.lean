/-
  Owned slices; append. Nothing of any program stands here.
-/
import Derived.Test.YthfjagphcekcbaaGreatWm
namespace Go.Wx
open Go.RowKit

section
variable {α : Type} {enc : α → Array Value} {base k : Nat} {e : TypeId}
/-- v is a slice that reads as xs; its block lies at base or behind it, and has room of its own -/
def OwnS (w : World) (base : Nat) (e : TypeId) (k : Nat) (enc : α → Array Value) (v : Value) (xs : List α) : Prop := w.ownsRow base e k v xs.length (xs.flatMap fun x => (enc x).toList)
/-- what an append leaves: all ahead of base, and whatever is no cells -/
structure Grew (base : Nat) (w w' : World) : Prop where
  os : w'.os = w.os
  tape : w'.tape = w.tape
  output : w'.output = w.output
  size : w.heap.size ≤ w'.heap.size
  block : ∀ i, i < w.heap.size → i < base → w'.heap[i]? = w.heap[i]?
  others : ∀ (i : Nat) (o : Obj), w.heap[i]? = some o → o.isCells = false → w'.heap[i]? = some o
theorem OwnS.nil (w : World) (base : Nat) (e : TypeId) (k : Nat) (enc : α → Array Value) : OwnS w base e k enc (.slice none 0 0) ([] : List α) := World.ownsRow_nil w base e k
theorem OwnS.up {w w' : World} {v : Value} {xs : List α} (h : OwnS w base e k enc v xs) (u : Up w w') : OwnS w' base e k enc v xs := World.ownsRow.kept h (up_grown u) (by cases v.ownBlock <;> simp)
theorem OwnS.sto {w w' : World} {v : Value} {xs : List α} {B : Nat} (h : OwnS w base e k enc v xs) (u : Sto B w w') (hB : B < base) : OwnS w' base e k enc v xs :=
  World.ownsRow.kept h (row := some B) ⟨u.os, u.tape, u.output, u.size, fun i hi hne => u.block i hi (fun e => hne (by rw [e]))⟩ (.inr fun e => by have := (World.ownsRow.lt h B e).1; omega)
theorem OwnS.ko {bq : Nat} {w w' : World} {v : Value} {xs : List α} (h : OwnS w base e k enc v xs) (u : Ko bq w w') : OwnS w' base e k enc v xs := by
  obtain ⟨h1, h2⟩ := h
  refine ⟨h1, ?_⟩
  rcases h2 with h2 | ⟨g, cap, cur, rfl, hb, hg, rest⟩
  · exact .inl h2
  · exact .inr ⟨g, cap, cur, rfl, hb, u.same g _ hg (.inr rfl), rest⟩
theorem OwnS.one {w : World} {v : Value} {xs : List α} (h : OwnS w base e k enc v xs) : v.oneCell' = true := by
  obtain ⟨_, ⟨rfl, _⟩ | ⟨g, cap, cur, rfl, _⟩⟩ := h <;> rfl
theorem OwnS.mono {w : World} {b' : Nat} {v : Value} {xs : List α} (h : OwnS w base e k enc v xs) (hb : b' ≤ base) : OwnS w b' e k enc v xs := by
  obtain ⟨h1, h2⟩ := h
  refine ⟨h1, ?_⟩
  rcases h2 with h2 | ⟨g, cap, cur, rfl, hg, rest⟩
  · exact .inl h2
  · exact .inr ⟨g, cap, cur, rfl, Nat.le_trans hb hg, rest⟩
/-- an int in one cell -/
def eInt (k : Int) : Array Value := #[vi k]
theorem eInt_one (x : Int) : (eInt x).all (·.oneCell') = true := by simp [eInt, Value.oneCell']
theorem flat_at (f : α → List Value) (k : Nat) (hk : 0 < k) (hf : ∀ x, (f x).length = k) : ∀ (xs : List α) (j : Nat) (u : Value), (xs.flatMap f)[j]? = some u → ∃ x, xs[j / k]? = some x ∧ (f x)[j % k]? = some u
  | [], j, u, h => by simp at h
  | x :: xs, j, u, h => by
    rw [List.flatMap_cons, List.getElem?_append, hf x] at h
    by_cases hj : j < k
    · rw [if_pos hj] at h
      exact ⟨x, by rw [Nat.div_eq_of_lt hj]; rfl, by rw [Nat.mod_eq_of_lt hj]; exact h⟩
    · rw [if_neg hj] at h
      obtain ⟨y, h1, h2⟩ := flat_at f k hk hf xs (j - k) u h
      have e1 : j = (j - k) + k := by omega
      refine ⟨y, ?_, ?_⟩
      · rw [e1, Nat.add_div_right _ hk]; exact h1
      · rw [e1, Nat.add_mod_right]; exact h2
theorem flat_length (f : α → List Value) (k : Nat) (hf : ∀ x, (f x).length = k) (xs : List α) : (xs.flatMap f).length = xs.length * k := by
  induction xs with
  | nil => simp
  | cons x xs ih => rw [List.flatMap_cons, List.length_append, ih, hf, List.length_cons, Nat.add_mul]; omega
theorem flat_of (f : α → List Value) (k : Nat) (hf : ∀ x, (f x).length = k) : ∀ (xs : List α) (i q : Nat) (x : α) (u : Value), xs[i]? = some x → (f x)[q]? = some u → (xs.flatMap f)[i * k + q]? = some u
  | [], i, q, x, u, h, _ => by simp at h
  | y :: xs, 0, q, x, u, h, hu => by
    have : y = x := by simpa using h
    subst this
    have hq : q < (f y).length := (List.getElem?_eq_some_iff.1 hu).1
    rw [List.flatMap_cons, Nat.zero_mul, Nat.zero_add, List.getElem?_append_left hq]
    exact hu
  | y :: xs, i + 1, q, x, u, h, hu => by
    have := flat_of f k hf xs i q x u (by simpa using h) hu
    rw [List.flatMap_cons, List.getElem?_append_right (by rw [hf, Nat.add_mul]; omega), hf]
    rw [show (i + 1) * k + q - k = i * k + q by rw [Nat.add_mul]; omega]
    exact this
theorem OwnS.sl {w : World} {v : Value} {xs : List α} (h : OwnS w base e k enc v xs) (hk : ∀ x, (enc x).size = k) : Sl w v k enc xs := by
  have hc := fun g hg => World.ownsRow.cells h (g := g) hg
  obtain ⟨h1, h2⟩ := h
  rcases h2 with ⟨rfl, hn⟩ | ⟨g, cap, cur, rfl, hb, hg, rest⟩
  · have : xs = [] := List.eq_nil_of_length_eq_zero hn
    subst this
    exact Sl.nil w k enc
  · refine ⟨some ⟨g, 0, none⟩, cap, rfl, fun i x hx => ⟨g, 0, rfl, fun j u hu => ?_⟩⟩
    have h3 := hc g rfl (i * k + j) u (flat_of _ k (fun x => by simp [hk]) xs i j x u hx (by simpa using hu))
    rw [Nat.zero_add]
    simpa [add_none] using h3
end

section
variable {base : Nat}
theorem Blk.gr {w w' : World} {B : Nat} {cs : Array Value} {T : TypeId} (h : Blk w B cs T) (k : Grew base w w') (hB : B < base) : Blk w' B cs T := (k.block B h.lt hB).trans h
theorem Up.gr {w0 w w' : World} (h : Up w0 w) (k : Grew base w w') (hB : w0.heap.size ≤ base) : Up w0 w' :=
  ⟨k.os.trans h.os, k.tape.trans h.tape, k.output.trans h.output, Nat.le_trans (Up.size h) k.size, fun i hi => (k.block i (Nat.lt_of_lt_of_le hi (Up.size h)) (by omega)).trans (h.block hi)⟩
theorem Sz.gr {B : Nat} {w w' : World} (h : Sz B w) (k : Grew base w w') (_ : B = B) : Sz B w' := Nat.le_trans h k.size
theorem IMap.gr {w w' : World} {b : Nat} {kv : List (Int × Value)} (h : IMap w b kv) (k : Grew base w w') (_ : b = b) : IMap w' b kv := by
  obtain ⟨es, clock, h1, h2⟩ := h
  exact ⟨es, clock, k.others b _ h1 rfl, h2⟩
theorem Kf.gr {B : Nat} {w0 w w' : World} (h : Kf B w0 w) (k : Grew base w w') : Kf B w0 w' := ⟨Nat.le_trans h.size k.size, fun i o hB hi ho => k.others i o (h.same i o hB hi ho) ho⟩
theorem Ob.gr {w w' : World} {D : Nat} {o : Obj} (h : Ob w D o) (k : Grew base w w') (ho : o.isCells = false) : Ob w' D o := k.others D o h ho
theorem Kx.gr {bq : Nat} {X Y : Nat → Prop} {w0 w w' : World} (h : Kx bq X Y w0 w) (k : Grew base w w') (hX : ∀ i, base ≤ i → X i ∨ w0.heap.size ≤ i) : Kx bq X Y w0 w' :=
  ⟨k.os.trans h.os, k.tape.trans h.tape, k.output.trans h.output, Nat.le_trans h.size k.size, fun i o hi ho => by
    have h1 := h.same i o hi ho
    cases hc : o.isCells
    · exact k.others i o h1 hc
    · by_cases hb : i < base
      · exact (k.block i (lt_of_block h1) hb).trans h1
      · exfalso
        rcases hX i (by omega) with hx | hx
        · rcases ho with ho | ho
          · exact ho.2 hx
          · rw [hc] at ho; cases ho.1
        · have := lt_of_block hi; omega⟩
theorem Sl.gr {α : Type} {w0 w w' : World} {v : Value} {k : Nat} {enc : α → Array Value} {xs : List α} (h : Sl w0 v k enc xs) (u : Up w0 w) (g : Grew base w w') (hB : w0.heap.size ≤ base) : Sl w' v k enc xs := h.up (u.gr g hB)
end

section
variable {P : Program} {n : Nat} {ds : List Deferred} {l : Env} {w : World} {d : Option Tmp} {ty : TypeId} {ps : String} {af : Array Edge} {g : Option (Nat × Bool)}
theorem REv.append {α : Type} {enc : α → Array Value} {base k bytes : Nat} {e T : TypeId} {i : TypeInfo} {z : Value} {s x : Operand} {v xv : Value} {xs ys : List α} (hT : P.underlying T = some (.slice e)) (hi : P.info? e = some i) (hz : i.zero = some z)
    (hsize : i.size = k) (hby : i.bytes = bytes) (hzs : z.cells.size = k) (hk0 : 0 < k) (henc : ∀ x, (enc x).size = k) (h1 : ∀ x, (enc x).all (·.oneCell') = true) (hs : Val l s v) (hx : Val l x xv) (ho : OwnS w base e k enc v xs) (hy : Sl w xv k enc ys) (hne : 0 < ys.length)
    (h63 : xs.length + ys.length ≤ maxLen) (hbytes : (xs.length + ys.length) * bytes ≤ 140737488355328) (hbase : base ≤ w.heap.size) :
    REv P n ds l w ⟨d, .call { callee := .builtin .append, args := #[s, x], argTypes := #[T, T] }, ty, ps, af, g⟩ (fun v' w' => OwnS w' base e k enc v' (xs ++ ys) ∧ Grew base w w') := fun a ha => by
  obtain ⟨ad, c, rfl, hE⟩ := hy
  obtain ⟨y0, hy0⟩ := getElem?_of_lt (xs := ys) (i := 0) hne
  obtain ⟨B, o, rfl, _⟩ := hE 0 y0 hy0
  have hfl : ∀ x, (enc x).toList.length = k := fun x => by simp [henc]
  obtain ⟨v', w', hr, h2, h3, _⟩ := run_append_own (P := P) w base T ty e i z k bytes hT hi hz hsize hby hzs hk0 v xs.length _ ho ⟨B, o, none⟩ ys.length c (ys.flatMap fun x => (enc x).toList) (flat_length _ k hfl ys)
    (fun j u hu => by
      obtain ⟨y, hy1, hy2⟩ := flat_at _ k hk0 hfl ys j u hu
      obtain ⟨B', o', e', hc⟩ := hE _ y hy1
      cases e'
      have := hc (j % k) u (by simpa using hy2)
      rw [add_none]
      rw [show o + j = o + j / k * k + j % k by have := Nat.div_add_mod j k; rw [Nat.mul_comm] at this; omega]
      exact this)
    (fun u hu => by
      obtain ⟨y, _, hy2⟩ := List.mem_flatMap.1 hu
      exact (Array.all_eq_true_iff_forall_mem.1 (h1 y)) u (by simpa using hy2)) h63 hbytes hbase
  refine ⟨v', w', ?_, ?_, ⟨h3.os, h3.tape, h3.output, h3.size, fun i hi hb => h3.block i hi (fun e => by have := (World.ownsRow.lt ho i e.symm).1; omega), fun i o hio hc => ?_⟩⟩
  · simp only [execOp, resolve, invoke, builtin, Sem.run_bind, Sem.run_pure, Result.andThen_ok, List.map_toArray, List.map_cons, List.map_nil, ha.ev hs, ha.ev hx, hr]
  · simpa [OwnS] using h2
  · refine (h3.block i (lt_of_block hio) (fun e => ?_)).trans hio
    obtain ⟨_, hn | ⟨g', cap, cur, rfl, _, hg, _⟩⟩ := ho
    · rw [hn.1] at e; cases e
    · have e2 : i = g' := by cases e; rfl
      subst e2
      rw [hg] at hio; cases hio; cases hc
/-- the same, whatever is appended -/
theorem REv.appendL {α : Type} {enc : α → Array Value} {base k bytes : Nat} {e T : TypeId} {i : TypeInfo} {z : Value} {s x : Operand} {v xv : Value} {xs ys : List α} (hT : P.underlying T = some (.slice e)) (hi : P.info? e = some i) (hz : i.zero = some z)
    (hsize : i.size = k) (hby : i.bytes = bytes) (hzs : z.cells.size = k) (hk0 : 0 < k) (henc : ∀ x, (enc x).size = k) (h1 : ∀ x, (enc x).all (·.oneCell') = true) (hs : Val l s v) (hx : Val l x xv) (ho : OwnS w base e k enc v xs) (hy : Sl w xv k enc ys)
    (h63 : xs.length + ys.length ≤ maxLen) (hbytes : (xs.length + ys.length) * bytes ≤ 140737488355328) (hbase : base ≤ w.heap.size) :
    REv P n ds l w ⟨d, .call { callee := .builtin .append, args := #[s, x], argTypes := #[T, T] }, ty, ps, af, g⟩ (fun v' w' => OwnS w' base e k enc v' (xs ++ ys) ∧ Grew base w w') := by
  by_cases hne : 0 < ys.length
  · exact REv.append hT hi hz hsize hby hzs hk0 henc h1 hs hx ho hy hne h63 hbytes hbase
  have hys : ys = [] := List.eq_nil_of_length_eq_zero (by omega)
  subst hys
  obtain ⟨ad, c, rfl, _⟩ := hy
  intro a ha
  have hrun : (Builtin.append_ #[T, T] ty #[v, .slice ad 0 c]).run P w = .ok v w := by
    have hsz : ∀ w, (sizeOf e).run P w = .ok k w := fun w => by simp [sizeOf, typeInfo, hi, hsize]
    obtain ⟨_, ⟨rfl, hn⟩ | ⟨g', cap, cur, rfl, _, _, hcap, _⟩⟩ := ho
    · cases ad <;> simp [Builtin.append_, run_underlying hT, hsz, Builtin.lenOf, Builtin.firstCells, loadCells, loadCellsFrom, Result.andThen]
    · cases ad <;> simp [Builtin.append_, run_underlying hT, hsz, Builtin.lenOf, Builtin.firstCells, loadCells, loadCellsFrom, storeCells, Result.andThen, hcap]
  refine ⟨v, w, ?_, by simpa using ho, ⟨rfl, rfl, rfl, Nat.le_refl _, fun _ _ _ => rfl, fun _ _ h _ => h⟩⟩
  simp only [execOp, resolve, invoke, builtin, Sem.run_bind, Sem.run_pure, Result.andThen_ok, List.map_toArray, List.map_cons, List.map_nil, ha.ev hs, ha.ev hx, List.length_nil, hrun]
end
end Go.Wx
