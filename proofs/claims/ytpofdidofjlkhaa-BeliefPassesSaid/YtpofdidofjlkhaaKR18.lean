import Derived.Test.YtpofdidofjlkhaaKR17
import Derived.Lib.Builder
import Derived.Lib.UnsafeStr
import Derived.Laws.Externs
import Derived.Laws.BytesArg
section
namespace Go.Wx
open Go.RowKit Go.Lib
theorem Fr.ko {S : Nat → Prop} {w0 w w' : World} {bq : Nat} (h : Fr S w0 w) (k : Ko bq w w') (hb : w0.heap.size ≤ bq) : Fr S w0 w' :=
 ⟨k.os.trans h.os, k.tape.trans h.tape, k.output.trans h.output, Nat.le_trans h.size k.size, fun i hi hs => by
   have h1 := h.block i hi hs
   have h2 : w.heap[i]? = some w0.heap[i] := by rw [h1]; simp [hi]
   rw [k.same i _ h2 (.inl oQ), ← h2, h1]⟩
end Go.Wx
end
section
namespace Go.Wx
open Go.RowKit Go.MapKept
section
variable {P : Program} {n : Nat} {ds : List Deferred} {l : Env} {w : World} {d : Option Tmp} {ty : TypeId} {ps : String} {af : Array Edge} {g : Option (Nat × Bool)}
theorem map_erase {α β : Type} (f : α → β) : ∀ (l : List α) (j : Nat), (l.eraseIdx j).map f = (l.map f).eraseIdx j
 | [], _ => rfl
 | _ :: _, 0 => rfl
 | a :: l, j + 1 => by rw [List.eraseIdx_cons_succ, List.map_cons, map_erase f l j, List.map_cons, List.eraseIdx_cons_succ]
end
end Go.Wx
end
