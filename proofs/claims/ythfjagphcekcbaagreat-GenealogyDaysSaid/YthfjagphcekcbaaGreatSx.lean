/-
  Parts of slices (x[:j:j], x[j:], x[:j]), and append to a slice without room. Nothing of any program stands here.
-/
import Derived.Test.YthfjagphcekcbaaGreatFe
import Derived.Test.YthfjagphcekcbaaGreatSp
namespace Go.Wx
open Go.RowKit
section
variable {P : Program} {n : Nat} {ds : List Deferred} {l : Env} {w : World} {d : Option Tmp} {ty : TypeId} {ps : String} {af : Array Edge} {g : Option (Nat × Bool)}
theorem PEv.slice3 {T e : TypeId} {x hi mx : Operand} {ad : Option Addr} {k m cap j : Nat} (hT : P.underlying T = some (.slice e)) (hs : ∀ w, (sizeOf e).run P w = .ok k w) (hx : Val l x (.slice ad m cap)) (hl : Val l hi (.int .i64 (j : Int))) (hm : Val l mx (.int .i64 (j : Int))) (hj : j ≤ cap) :
    PEv P n ds l w ⟨d, .slice T x none (some hi) (some mx), ty, ps, af, g⟩ (.slice ad j j) := fun a w' ha _ => by
  refine run_v ?_
  rw [ha.ev hx]
  simp only [Option.map_none, Option.map_some, ha.ev hl, ha.ev hm]
  cases ad with
  | none => simp [Instr.sliceAt, Instr.slice, Instr.sliceBounds, Instr.sliceBound, asIntOf, run_underlying hT, Result.andThen, hs, hj]
  | some a => simp [Instr.sliceAt, Instr.slice, Instr.sliceBounds, Instr.sliceBound, asIntOf, run_underlying hT, Result.andThen, hs, Addr.add, hj]
theorem PEv.sliceFrom {T e : TypeId} {x lo : Operand} {ad : Option Addr} {k m cap j : Nat} (hT : P.underlying T = some (.slice e)) (hs : ∀ w, (sizeOf e).run P w = .ok k w) (hx : Val l x (.slice ad m cap)) (hl : Val l lo (.int .i64 (j : Int))) (hj : j ≤ m) :
    PEv P n ds l w ⟨d, .slice T x (some lo) none none, ty, ps, af, g⟩ (.slice (if cap = j then ad else ad.map (·.add (j * k))) (m - j) (cap - j)) := fun a w' ha _ => by
  refine run_v ?_
  rw [ha.ev hx]
  simp only [Option.map_none, Option.map_some, ha.ev hl]
  simp [Instr.sliceAt, Instr.slice, Instr.sliceBounds, Instr.sliceBound, asIntOf, run_underlying hT, Result.andThen, hs, hj]
theorem Els.drop {α : Type} {enc : α → Array Value} {ad : Option Addr} {k cap j : Nat} {xs : List α} (h : Els w ad k enc xs) (hc : xs.length ≤ cap) : Sl w (.slice (if cap = j then ad else ad.map (·.add (j * k))) (xs.length - j) (cap - j)) k enc (xs.drop j) := by
  refine ⟨_, _, by rw [List.length_drop], fun i x hx => ?_⟩
  rw [List.getElem?_drop] at hx
  have hlt := (List.getElem?_eq_some_iff.1 hx).1
  obtain ⟨B, o, rfl, hc2⟩ := h _ x hx
  rw [if_neg (by omega)]
  refine ⟨B, o + j * k, by rw [Option.map_some, add_none], ?_⟩
  rw [Nat.add_mul, ← Nat.add_assoc] at hc2
  exact hc2
theorem Els.take {α : Type} {enc : α → Array Value} {ad : Option Addr} {k j : Nat} {xs : List α} (h : Els w ad k enc xs) : Els w ad k enc (xs.take j) := fun i x hx => by
  rw [List.getElem?_take] at hx
  split at hx
  · exact h i x hx
  · cases hx
/-- append to a slice without room: new blocks alone -/
theorem REv.appendC {α : Type} {enc : α → Array Value} {k bytes : Nat} {e T : TypeId} {i : TypeInfo} {z : Value} {s x : Operand} {xv : Value} {ad : Option Addr} {xs ys : List α} (hT : P.underlying T = some (.slice e)) (hi : P.info? e = some i) (hz : i.zero = some z)
    (hsize : i.size = k) (hby : i.bytes = bytes) (hzs : z.cells.size = k) (hk0 : 0 < k) (henc : ∀ x, (enc x).size = k) (hs : Val l s (.slice ad xs.length xs.length)) (hx : Val l x xv) (hE : Els w ad k enc xs) (hy : Sl w xv k enc ys)
    (h63 : xs.length + ys.length ≤ maxLen) (hbytes : (xs.length + ys.length) * bytes ≤ 140737488355328) :
    REv P n ds l w ⟨d, .call { callee := .builtin .append, args := #[s, x], argTypes := #[T, T] }, ty, ps, af, g⟩ (fun v' w' => Up w w' ∧ Sl w' v' k enc (xs ++ ys) ∧ (0 < ys.length → OwnS w' w.heap.size e k enc v' (xs ++ ys))) := by
  subst hsize
  subst hby
  obtain ⟨ad2, c, rfl, hE2⟩ := hy
  have hfl : ∀ x, (enc x).toList.length = i.size := fun x => by simp [henc]
  have fin : ∀ v' w', (Builtin.append_ #[T, T] ty #[.slice ad xs.length xs.length, .slice ad2 ys.length c]).run P w = .ok v' w' → Up w w' ∧ Sl w' v' i.size enc (xs ++ ys) ∧ (0 < ys.length → OwnS w' w.heap.size e i.size enc v' (xs ++ ys)) → REv P n ds l w ⟨d, .call { callee := .builtin .append, args := #[s, x], argTypes := #[T, T] }, ty, ps, af, g⟩ (fun v' w' => Up w w' ∧ Sl w' v' i.size enc (xs ++ ys) ∧ (0 < ys.length → OwnS w' w.heap.size e i.size enc v' (xs ++ ys))) := fun v' w' hrun hp a ha => by
    refine ⟨v', w', ?_, hp⟩
    simp only [execOp, resolve, invoke, builtin, Sem.run_bind, Sem.run_pure, Result.andThen_ok, List.map_toArray, List.map_cons, List.map_nil, ha.ev hs, ha.ev hx, hrun]
  have cells : ∀ {B o : Nat} {zs : List α}, Els w (some ⟨B, o, none⟩) i.size enc zs → ∀ (j : Nat) (u : Value), (zs.flatMap fun x => (enc x).toList)[j]? = some u → w.cell? ((⟨B, o, none⟩ : Addr).add j) = some u := fun {B o zs} hz j u hu => by
    obtain ⟨y, hy1, hy2⟩ := flat_at _ i.size hk0 hfl zs j u hu
    obtain ⟨B1, o1, e1, hc⟩ := hz _ y hy1
    cases e1
    have := hc (j % i.size) u (by simpa using hy2)
    rw [add_none]
    rw [show o + j = o + j / i.size * i.size + j % i.size by have := Nat.div_add_mod j i.size; rw [Nat.mul_comm] at this; omega]
    exact this
  have hlx := flat_length (fun x => (enc x).toList) i.size hfl xs
  have hly := flat_length (fun x => (enc x).toList) i.size hfl ys
  by_cases hne : 0 < ys.length
  · obtain ⟨y0, hy0⟩ := getElem?_of_lt (xs := ys) (i := 0) hne
    obtain ⟨B', o, rfl, _⟩ := hE2 0 y0 hy0
    have big : ∀ v', (Builtin.append_ #[T, T] ty #[.slice ad xs.length xs.length, .slice (some ⟨B', o, none⟩) ys.length c]).run P w = .ok (.slice (some ⟨w.heap.size, 0, none⟩) (xs.length + ys.length) (grownCap w (xs.length + ys.length) xs.length e)) (w.drew.alloc (.cells ((xs.flatMap fun x => (enc x).toList).toArray ++ (ys.flatMap fun x => (enc x).toList).toArray ++ Builtin.zeroCells z.cells (grownCap w (xs.length + ys.length) xs.length e - (xs.length + ys.length))) e)) → v' = Value.slice (some ⟨w.heap.size, 0, none⟩) (xs.length + ys.length) (grownCap w (xs.length + ys.length) xs.length e) → REv P n ds l w ⟨d, .call { callee := .builtin .append, args := #[s, x], argTypes := #[T, T] }, ty, ps, af, g⟩ (fun v' w' => Up w w' ∧ Sl w' v' i.size enc (xs ++ ys) ∧ (0 < ys.length → OwnS w' w.heap.size e i.size enc v' (xs ++ ys))) := fun v' hr _ => by
      have own : OwnS (w.drew.alloc (.cells ((xs.flatMap fun x => (enc x).toList).toArray ++ (ys.flatMap fun x => (enc x).toList).toArray ++ Builtin.zeroCells z.cells (grownCap w (xs.length + ys.length) xs.length e - (xs.length + ys.length))) e)) w.heap.size e i.size enc (.slice (some ⟨w.heap.size, 0, none⟩) (xs.length + ys.length) (grownCap w (xs.length + ys.length) xs.length e)) (xs ++ ys) := by
        refine ⟨by rw [List.flatMap_append, List.length_append, hlx, hly, List.length_append, Nat.add_mul], .inr ⟨w.heap.size, _, _, by rw [List.length_append], Nat.le_refl _, heap_alloc_new w.drew _, by rw [List.length_append]; exact grownCap_ge w _ _ e, grownCap_le_maxLen w _ _ e h63, ?_, ?_⟩⟩
        · simp only [Array.size_append, List.size_toArray, size_zeroCells, hzs, hlx, hly, ← Nat.add_mul]
          congr 1
          have := grownCap_ge w (xs.length + ys.length) xs.length e
          omega
        · simp only [Array.toList_append]
          rw [List.flatMap_append, List.length_append, Nat.add_mul, ← hlx, ← hly, ← List.length_append]
          exact List.take_left
      exact fin _ _ hr ⟨(Up.drew w).trans (Up.alloc _ _), own.sl henc, fun _ => own⟩
    cases ad with
    | none =>
      have hxs : xs = [] := by
        cases xs with
        | nil => rfl
        | cons x r => obtain ⟨B, o, e, _⟩ := hE 0 x rfl; cases e
      subst hxs
      refine big _ ?_ rfl
      have hr := run_append_nil (P := P) w T ty e i z hT hi hz ⟨B', o, none⟩ ys.length c _ hly (cells hE2) hne (by simp only [maxLen] at h63; simp at h63; omega) (by simp at hbytes; omega)
      simp only [List.length_nil, Nat.zero_add, List.flatMap_nil]
      rw [hr]
      simp
    | some a =>
      refine big _ ?_ rfl
      refine run_append_grow (P := P) w T ty e i z hT hi hz a xs.length xs.length _ hlx (fun j u hu => ?_) ⟨B', o, none⟩ ys.length c _ hly (cells hE2) (by omega) (by simp only [maxLen] at h63; omega) (growslice_fits (by omega) hbytes)
      have h0 : 0 < xs.length := by
        rcases Nat.eq_zero_or_pos xs.length with h | h
        · have : xs = [] := List.eq_nil_of_length_eq_zero h
          subst this; simp at hu
        · exact h
      obtain ⟨x0, hx0⟩ := getElem?_of_lt (xs := xs) (i := 0) h0
      obtain ⟨B, o2, e2, _⟩ := hE 0 x0 hx0
      cases e2
      exact cells hE j u hu
  · have hys : ys = [] := List.eq_nil_of_length_eq_zero (by omega)
    subst hys
    refine fin (.slice ad xs.length xs.length) w ?_ ⟨Up.refl w, by rw [List.append_nil]; exact Sl.of_els hE, fun h => absurd h hne⟩
    have hsz : ∀ w, (sizeOf e).run P w = .ok i.size w := fun w => by simp [sizeOf, typeInfo, hi]
    cases ad <;> cases ad2 <;> simp [Builtin.append_, run_underlying hT, hsz, Builtin.lenOf, Builtin.firstCells, loadCells, loadCellsFrom, storeCells, Result.andThen]
end
theorem OwnS.stoT {α : Type} {enc : α → Array Value} {b k : Nat} {e T : TypeId} {w w' : World} {v : Value} {xs : List α} {B : Nat} {cs : Array Value} (h : OwnS w b e k enc v xs) (hb : Blk w B cs T) (hT : T ≠ e) (u : Sto B w w') : OwnS w' b e k enc v xs := h.keeps fun i hi _ => u.fr.block i (h.lt i hi) (fun (e2 : i = B) => by
  subst e2
  obtain ⟨_, ⟨rfl, _⟩ | ⟨g, cap, cur, rfl, _, hg, _⟩⟩ := h
  · cases hi
  · cases hi
    have : some (Obj.cells cs T (0, 0)) = some (Obj.cells cur e (0, 0)) := (show w.heap[g]? = _ from hb).symm.trans hg
    injection this with this
    injection this with _ h2
    exact hT h2)
theorem own_cap {α : Type} {enc : α → Array Value} {b k n cp : Nat} {e : TypeId} {w : World} {ad : Option Addr} {xs : List α} (h : OwnS w b e k enc (.slice ad n cp) xs) : xs.length ≤ cp := by
  obtain ⟨_, ⟨e1, e2⟩ | ⟨g, cap, cur, e1, _, _, hc, _⟩⟩ := h
  · cases e1; omega
  · cases e1; exact hc
end Go.Wx
