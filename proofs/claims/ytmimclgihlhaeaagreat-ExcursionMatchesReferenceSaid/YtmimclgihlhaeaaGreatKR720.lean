import Derived.Test.YtmimclgihlhaeaaGreatKR719
import Derived.Shelf.GgSortFunc.InsertionK
section
namespace Go.Wx
open Go.RowKit Go.Sort Go.Proofs
theorem vC {w : World} {g : Nat} {cur : Array Value} {e : TypeId} {F : List Value} (hb : w.heap[g]? = some (.cells cur e (0, 0))) (ht : cur.toList.take F.length = F) : Holds id w g 0 F.toArray := by
 intro j hj
 have hj' : j < F.length := by simpa using hj
 refine ⟨?_, by simp [World.frozen?, hb]⟩
 have h1 : (cur.toList.take F.length)[j]? = F[j]? := by rw [ht]
 rw [List.getElem?_take_of_lt hj'] at h1
 simp only [World.cell?, hb, Nat.zero_add]
 simp only [Option.isSome_none, Bool.false_eq_true, if_false]
 rw [← Array.getElem?_toList, h1]
 simp [hj']
theorem Vi {w : World} {g n : Nat} {os : Array Obj} {cur : Array Value} {e : TypeId} {fr : Nat × Nat} (d : Array Value) (hb : w.heap[g]? = some (.cells cur e fr)) :
   (grow (putRow id (Sort.ahead w n) g 0 d) os).heap[g]? = some (.cells (putCells id 0 d cur) e fr) := by
 have hg : g < w.heap.size := (Array.getElem?_eq_some_iff.1 hb).1
 rw [heap_grow_old _ _ (by simpa using hg)]
 simp [putRow, mapBlock, Sort.ahead, Array.getElem?_modify, hb, onCells]
theorem P1 {w : World} {g n : Nat} {os : Array Obj} (d : Array Value) : w.grownBy (grow (putRow id (Sort.ahead w n) g 0 d) os) (some g) := by
 refine ⟨rfl, rfl, rfl, by simp, fun k hk hne => ?_⟩
 rw [heap_grow_old _ _ (by simpa using hk)]
 have : g ≠ k := fun e => hne (by rw [e])
 simp [putRow, mapBlock, Sort.ahead, Array.getElem?_modify, this]
theorem R0 (cur : Array Value) (ts : List Value) (h : ts.length ≤ cur.size) : (putCells id 0 ts.toArray cur).toList.take ts.length = ts := by
 apply List.ext_getElem?
 intro j
 by_cases hj : j < ts.length
 · rw [List.getElem?_take_of_lt hj, Array.getElem?_toList]
   simp [putCells, hj, show j < cur.size by omega]
 rw [List.getElem?_take_eq_none oQ, List.getElem?_eq_none (by omega)]
section
variable {α : Type} [Inhabited α] {enc : α → Array Value} {k : Nat}
theorem Yg (hk : ∀ x, (enc x).size = k) (xs : List α) : flatK (fun x => (enc x).toList) k xs.toArray = (xs.flatMap fun x => (enc x).toList).toArray := by
 have hfl : ∀ x, (enc x).toList.length = k := fun x => by simp [hk]
 have hl := Du (fun x => (enc x).toList) k hfl xs
 refine ext_get! (by simp [hl]) fun t ht => ?_
 have ht' : t < xs.length * k := by simpa using ht
 have k0 : 0 < k := by
   rcases Nat.eq_zero_or_pos k with h | h
   · subst h; simp at ht'
   exact h
 rw [get_flatK _ _ _ t (by simpa using ht')]
 have hq : t / k < xs.length := Nat.div_lt_of_lt_mul (by rw [Nat.mul_comm]; exact ht')
 have h2 := Ui (fun x => (enc x).toList) k hfl xs (t / k) (t % k) xs[t / k] ((enc xs[t / k]).toList[t % k]'(by rw [hfl]; exact Nat.mod_lt _ k0)) (by simp [hq]) (by simp)
 rw [show t / k * k + t % k = t by rw [Nat.mul_comm]; exact Nat.div_add_mod t k] at h2
 rw [getElem!_pos _ t (by simpa [hl] using ht')]
 have h3 : (xs.flatMap fun x => (enc x).toList).toArray[t]'(by simpa [hl] using ht') = (enc xs[t / k]).toList[t % k]'(by rw [hfl]; exact Nat.mod_lt _ k0) := by
   have h4 : (xs.flatMap fun x => (enc x).toList).toArray[t]? = some ((enc xs[t / k]).toList[t % k]'(by rw [hfl]; exact Nat.mod_lt _ k0)) := by simpa using h2
   exact (Array.getElem?_eq_some_iff.1 h4).2
 rw [h3]
 have h5 : xs.toArray[t / k]! = xs[t / k] := by rw [getElem!_pos _ _ (by simpa using hq)]; simp
 rw [h5, getElem!_pos _ _ (by rw [hfl]; exact Nat.mod_lt _ k0)]
theorem bI {w : World} {e : TypeId} {g m cap : Nat} {xs : List α} (hk : ∀ x, (enc x).size = k) (h : OwnS w 0 e k enc (.slice (some ⟨g, 0, none⟩) m cap) xs) : HoldsK (fun x => (enc x).toList) k w g 0 xs.toArray := by
 have hfl : ∀ x, (enc x).toList.length = k := fun x => by simp [hk]
 obtain ⟨h1, ⟨e1, _⟩ | ⟨g', cap', cur, e1, _, hg, _, _, _, htk⟩⟩ := h
 · cases e1
 cases e1
 unfold HoldsK
 rw [Yg hk]
 exact vC hg (by rw [Du _ k hfl]; exact htk)
theorem mY {w : World} {e : TypeId} {g m cap n : Nat} {os : Array Obj} {xs ts : List α} (hk : ∀ x, (enc x).size = k) (hl : ts.length = xs.length) (h : OwnS w 0 e k enc (.slice (some ⟨g, 0, none⟩) m cap) xs) :
   Stp (Al e k enc (.slice (some ⟨g, 0, none⟩) m cap) xs) (Al e k enc (.slice (some ⟨g, 0, none⟩) m cap) ts) w (sortWorldK (fun x => (enc x).toList) k w g 0 n ts.toArray os) := by
 have hfl : ∀ x, (enc x).toList.length = k := fun x => by simp [hk]
 have hgr := P1 (w := w) (g := g) (n := n) (os := os) (flatK (fun x => (enc x).toList) k ts.toArray)
 refine ⟨⟨hgr.os, hgr.tape, hgr.output, hgr.size, fun i hi hs => hgr.block i hi (fun e => hs e.symm)⟩, ?_, fun i hi => .inl hi⟩
 obtain ⟨h1, ⟨e1, _⟩ | ⟨g', cap', cur, e1, hb, hg, hcap, hcm, hcs, htk⟩⟩ := h
 · cases e1
 cases e1
 have hlt := Du (fun x => (enc x).toList) k hfl ts
 refine ⟨hlt, .inr ⟨g, cap, _, by rw [hl], Nat.zero_le _, Vi _ hg, by omega, hcm, by simp [putCells, hcs], ?_⟩⟩
 rw [Yg hk, ← hlt]
 exact R0 cur _ (by rw [hlt, hcs, hl]; exact Nat.mul_le_mul_right k hcap)
end
end Go.Wx
end
