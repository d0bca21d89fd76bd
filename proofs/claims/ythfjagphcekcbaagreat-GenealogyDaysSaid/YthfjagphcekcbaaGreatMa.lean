/-
  Maps and ranges over maps among what is owned. Nothing of any program stands here.
-/
import Derived.Test.YthfjagphcekcbaaGreatMs
import Derived.Test.YthfjagphcekcbaaGreatBu
namespace Go.Wx
open Go.RowKit

def aIMap (b : Nat) (kv : List (Int × Value)) : Asr := ⟨(· = b), fun w => IMap w b kv, fun _ _ h k _ => by
  have := h.lt
  obtain ⟨es, clock, h1, h2⟩ := h
  exact ⟨es, clock, (k b rfl this).trans h1, h2⟩, fun _ h _ e => by rw [e]; exact h.lt⟩
def aIRng (b r : Nat) (kv : List (Int × Value)) (done : List Int) : Asr := ⟨fun i => i = b ∨ i = r, fun w => IRng w b r kv done, fun _ _ h k _ => by
  obtain ⟨es, clock, since, seen, c0, h1, h2, h3, h4, h5⟩ := h
  exact ⟨es, clock, since, seen, c0, (k b (.inl rfl) (lt_of_block h1)).trans h1, h2, h3, (k r (.inr rfl) (lt_of_block h4)).trans h4, h5⟩, fun _ h i e => by
  obtain ⟨es, clock, since, seen, c0, h1, h2, h3, h4, h5⟩ := h
  rcases e with rfl | rfl
  · exact lt_of_block h1
  · exact lt_of_block h4⟩
theorem stp_range {b r : Nat} {kv : List (Int × Value)} {w w' : World} (h : IRng w' b r kv []) (u : Up w w') (hr : r = w.heap.size) : Stp (aIMap b kv) (aIRng b r kv []) w w' := ⟨u.fr _, h, fun i hi => hi.elim (fun e => .inl e) (fun e => .inr (by omega))⟩
theorem stp_next {P : Program} {b r : Nat} {kv : List (Int × Value)} {done : List Int} {k : Int} {u : Value} {w w' : World} (h : NextTo P w w' b r kv done k u) : Stp (aIRng b r kv done) (aIRng b r kv (done ++ [k])) w w' := ⟨h.sto.fr.mono (fun i (e : i = r) => .inr e), h.rng, fun _ h => .inl h⟩
namespace Ms
def aIMap (b : Nat) (kv : List (List UInt8 × Value)) : Asr := ⟨(· = b), fun w => Ms.IMap w b kv, fun _ _ h k _ => by
  have := h.lt
  obtain ⟨es, clock, h1, h2⟩ := h
  exact ⟨es, clock, (k b rfl this).trans h1, h2⟩, fun _ h _ e => by rw [e]; exact h.lt⟩
def aIRng (b r : Nat) (kv : List (List UInt8 × Value)) (done : List (List UInt8)) : Asr := ⟨fun i => i = b ∨ i = r, fun w => Ms.IRng w b r kv done, fun _ _ h k _ => by
  obtain ⟨es, clock, since, seen, c0, h1, h2, h3, h4, h5⟩ := h
  exact ⟨es, clock, since, seen, c0, (k b (.inl rfl) (lt_of_block h1)).trans h1, h2, h3, (k r (.inr rfl) (lt_of_block h4)).trans h4, h5⟩, fun _ h i e => by
  obtain ⟨es, clock, since, seen, c0, h1, h2, h3, h4, h5⟩ := h
  rcases e with rfl | rfl
  · exact lt_of_block h1
  · exact lt_of_block h4⟩
theorem stp_set {b : Nat} {kv kv' : List (List UInt8 × Value)} {w w' : World} (h : Ms.IMap w' b kv') (k : Sto b w w') : Stp (aIMap b kv) (aIMap b kv') w w' := ⟨k.fr, h, fun _ h => .inl h⟩
theorem stp_range {b r : Nat} {kv : List (List UInt8 × Value)} {w w' : World} (h : Ms.IRng w' b r kv []) (u : Up w w') (hr : r = w.heap.size) : Stp (aIMap b kv) (aIRng b r kv []) w w' := ⟨u.fr _, h, fun i hi => hi.elim (fun e => .inl e) (fun e => .inr (by omega))⟩
theorem stp_next {P : Program} {b r : Nat} {kv : List (List UInt8 × Value)} {done : List (List UInt8)} {k : List UInt8} {u : Value} {w w' : World} (h : Ms.NextTo P w w' b r kv done k u) : Stp (aIRng b r kv done) (aIRng b r kv (done ++ [k])) w w' := ⟨h.sto.fr.mono (fun i (e : i = r) => .inr e), h.rng, fun _ h => .inl h⟩
end Ms

/-! ### several owned slices, held as one -/
theorem aAnd_stp {As : List Asr} {A A' : Asr} {w w' : World} {j : Nat} (h : (aAnd As).holds w) (hj : As[j]? = some A) (s : Stp A A' w w') : Stp (aAnd As) (aAnd (As.set j A')) w w' := by
  have := (aAnd_open h).stp j hj s
  rw [← List.append_nil (As.set j A')] at this
  exact aAnd_close this
theorem zip_set' {α β : Type} (a : α) (b : β) : ∀ (l : List α) (r : List β) (j : Nat), (l.set j a).zip (r.set j b) = (l.zip r).set j (a, b)
  | [], r, j => by simp
  | x :: l, [], j => by cases j <;> simp
  | x :: l, y :: r, 0 => rfl
  | x :: l, y :: r, j + 1 => by
    rw [List.set_cons_succ, List.set_cons_succ, List.zip_cons_cons, List.zip_cons_cons, List.set_cons_succ, zip_set' a b l r j]
def lists {α : Type} (e k : Nat) (enc : α → Array Value) (vs : List Value) (xss : List (List α)) : List Asr := (vs.zip xss).map fun p => aOwn e k enc p.1 p.2
theorem lists_get {α : Type} {e k : Nat} {enc : α → Array Value} {vs : List Value} {xss : List (List α)} {j : Nat} {v : Value} {xs : List α} (hv : vs[j]? = some v) (hx : xss[j]? = some xs) : (lists e k enc vs xss)[j]? = some (aOwn e k enc v xs) := by
  unfold lists
  rw [List.getElem?_map]
  have : (vs.zip xss)[j]? = some (v, xs) := by rw [List.getElem?_zip_eq_some]; exact ⟨hv, hx⟩
  rw [this]; rfl
theorem lists_set {α : Type} {e k : Nat} {enc : α → Array Value} {vs : List Value} {xss : List (List α)} {j : Nat} {v : Value} {xs : List α} : (lists e k enc vs xss).set j (aOwn e k enc v xs) = lists e k enc (vs.set j v) (xss.set j xs) := by
  unfold lists
  have : (vs.set j v).zip (xss.set j xs) = (vs.zip xss).set j (v, xs) := zip_set' v xs vs xss j
  rw [this, List.map_set]
theorem lists_own {α : Type} {e k : Nat} {enc : α → Array Value} {vs : List Value} {xss : List (List α)} {w : World} {j : Nat} {v : Value} {xs : List α} (h : (aAnd (lists e k enc vs xss)).holds w) (hv : vs[j]? = some v) (hx : xss[j]? = some xs) : OwnS w 0 e k enc v xs := h.1 _ (List.mem_of_getElem? (lists_get hv hx))
theorem lists_one {α : Type} {e k : Nat} {enc : α → Array Value} {vs : List Value} {xss : List (List α)} {w : World} (h : (aAnd (lists e k enc vs xss)).holds w) (hl : vs.length = xss.length) : ∀ v ∈ vs, v.oneCell' = true := fun v hv => by
  obtain ⟨j, hj⟩ := List.mem_iff_getElem?.1 hv
  have hlt := (List.getElem?_eq_some_iff.1 hj).1
  obtain ⟨xs, hx⟩ := getElem?_of_lt (xs := xss) (i := j) (by omega)
  exact (lists_own h hj hx).one
/-- nothing yet -/
theorem lists_nil {α : Type} (e k : Nat) (enc : α → Array Value) (n : Nat) (w : World) : (aAnd (lists e k enc (List.replicate n (.slice none 0 0)) (List.replicate n ([] : List α)))).holds w ∧ ∀ i, ¬ (aAnd (lists e k enc (List.replicate n (.slice none 0 0)) (List.replicate n ([] : List α)))).foot i := by
  have key : ∀ A ∈ lists e k enc (List.replicate n (.slice none 0 0)) (List.replicate n ([] : List α)), A = aOwn e k enc (.slice none 0 0) [] := fun A hA => by
    unfold lists at hA
    obtain ⟨⟨v, xs⟩, hp, rfl⟩ := List.mem_map.1 hA
    have := List.of_mem_zip hp
    rw [List.eq_of_mem_replicate this.1, List.eq_of_mem_replicate this.2]
  refine ⟨⟨fun A hA => by rw [key A hA]; exact OwnS.nil _ _ _ _ _, List.pairwise_iff_getElem.2 fun i j hi hj _ x hx => by
    rw [key _ (List.getElem_mem hi)] at hx; cases hx⟩, fun i ⟨A, hA, hi⟩ => by rw [key A hA] at hi; cases hi⟩
end Go.Wx
