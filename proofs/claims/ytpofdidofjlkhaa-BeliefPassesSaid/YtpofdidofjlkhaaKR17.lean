import Derived.Test.YtpofdidofjlkhaaKR16
import Derived.Laws.CopyRow
import Derived.Laws.IdiomStrings
import Derived.Laws.OwnMore
section
namespace Go.Wx
open Go.RowKit
structure Fr (S : Nat → Prop) (w w' : World) : Prop where
 os : w'.os = w.os
 tape : w'.tape = w.tape
 output : w'.output = w.output
 size : w.heap.size ≤ w'.heap.size
 block : ∀ i, i < w.heap.size → ¬ S i → w'.heap[i]? = w.heap[i]?
theorem Fr.refl (S : Nat → Prop) (w : World) : Fr S w w := ⟨rfl, rfl, rfl, Nat.le_refl _, fun _ _ _ => rfl⟩
theorem Fr.trans {S : Nat → Prop} {a b c : World} (h : Fr S a b) (k : Fr S b c) : Fr S a c := ⟨k.os.trans h.os, k.tape.trans h.tape, k.output.trans h.output, Nat.le_trans h.size k.size, fun i hi hs => (k.block i (Nat.lt_of_lt_of_le hi h.size) hs).trans (h.block i hi hs)⟩
theorem Fr.next {S T : Nat → Prop} {a b c : World} (h : Fr S a b) (k : Fr T b c) (hT : ∀ i, T i → S i ∨ a.heap.size ≤ i) : Fr S a c := ⟨k.os.trans h.os, k.tape.trans h.tape, k.output.trans h.output, Nat.le_trans h.size k.size, fun i hi hs => (k.block i (Nat.lt_of_lt_of_le hi h.size) (fun h2 => (hT i h2).elim hs (fun h3 => by omega))).trans (h.block i hi hs)⟩
theorem Fr.mono {S T : Nat → Prop} {w w' : World} (h : Fr S w w') (hT : ∀ i, S i → T i) : Fr T w w' := ⟨h.os, h.tape, h.output, h.size, fun i hi hs => h.block i hi (fun h2 => hs (hT i h2))⟩
theorem Fr.toUp {S : Nat → Prop} {w w' : World} (h : Fr S w w') (hS : ∀ i, ¬ S i) : Up w w' := ⟨h.os, h.tape, h.output, h.size, fun i hi => h.block i hi (hS i)⟩
theorem Up.fr {w w' : World} (h : Up w w') (S : Nat → Prop) : Fr S w w' := ⟨h.os, h.tape, h.output, Up.size h, fun _ hi _ => h.block hi⟩
theorem Sto.fr {B : Nat} {w w' : World} (h : Sto B w w') : Fr (· = B) w w' := ⟨h.os, h.tape, h.output, h.size, fun i hi hs => h.block i hi hs⟩
def no : Nat → Prop := fun _ => False
structure Asr where
 foot : Nat → Prop
 holds : World → Prop
 keep : ∀ w w', holds w → (∀ i, foot i → i < w.heap.size → w'.heap[i]? = w.heap[i]?) → w.heap.size ≤ w'.heap.size → holds w'
 lt : ∀ w, holds w → ∀ i, foot i → i < w.heap.size
def aBlk (B : Nat) (cs : Array Value) (T : TypeId) : Asr := ⟨(· = B), fun w => Blk w B cs T, fun _ _ h k _ => (k B rfl h.lt).trans h, fun _ h _ e => by subst e; exact h.lt⟩
theorem OwnS.keeps {α : Type} {enc : α → Array Value} {b k : Nat} {e : TypeId} {w w' : World} {v : Value} {xs : List α} (h : OwnS w b e k enc v xs) (hk : ∀ i, v.ownBlock = some i → i < w.heap.size → w'.heap[i]? = w.heap[i]?) : OwnS w' b e k enc v xs := by
 obtain ⟨h1, h2⟩ := h
 refine ⟨h1, ?_⟩
 rcases h2 with h2 | ⟨g, cap, cur, rfl, hb, hg, rest⟩
 · exact .inl h2
 exact .inr ⟨g, cap, cur, rfl, hb, (hk g rfl (lt_of_block hg)).trans hg, rest⟩
theorem OwnS.lt {α : Type} {enc : α → Array Value} {b k : Nat} {e : TypeId} {w : World} {v : Value} {xs : List α} (h : OwnS w b e k enc v xs) : ∀ i, v.ownBlock = some i → i < w.heap.size := by
 obtain ⟨h1, h2⟩ := h
 rcases h2 with h2 | ⟨g, cap, cur, rfl, hb, hg, rest⟩
 · intro i hi; rw [h2.1] at hi; cases hi
 intro i hi; cases hi; exact lt_of_block hg
def aOwn {α : Type} (e : TypeId) (k : Nat) (enc : α → Array Value) (v : Value) (xs : List α) : Asr := ⟨fun i => v.ownBlock = some i, fun w => OwnS w 0 e k enc v xs, fun _ _ h k _ => h.keeps k, fun _ h => h.lt⟩
structure Sep (S0 : Nat → Prop) (w0 w : World) (As : List Asr) : Prop where
 fr : Fr S0 w0 w
 each : ∀ A ∈ As, A.holds w ∧ ∀ i, A.foot i → S0 i ∨ w0.heap.size ≤ i
 apart : As.Pairwise fun A B => ∀ i, A.foot i → ¬ B.foot i
theorem pairwise_get {α : Type} {r : α → α → Prop} {l : List α} (h : l.Pairwise r) {i j : Nat} {a b : α} (hij : i < j) (ha : l[i]? = some a) (hb : l[j]? = some b) : r a b := by
 obtain ⟨hi, rfl⟩ := List.getElem?_eq_some_iff.1 ha
 obtain ⟨hj, rfl⟩ := List.getElem?_eq_some_iff.1 hb
 exact List.pairwise_iff_getElem.1 h i j hi hj hij
section
variable {S0 : Nat → Prop} {w0 w w' : World} {As : List Asr} {A A' : Asr}
theorem Sep.start (S0 : Nat → Prop) (w : World) : Sep S0 w w [] := ⟨Fr.refl _ _, fun _ h => by simp at h, List.Pairwise.nil⟩
theorem Sep.get (h : Sep S0 w0 w As) (k : Nat) (hk : As[k]? = some A) : A.holds w := (h.each A (List.mem_of_getElem? hk)).1
theorem Sep.size (h : Sep S0 w0 w As) : w0.heap.size ≤ w.heap.size := h.fr.size
theorem Sep.up (h : Sep S0 w0 w As) (u : Up w w') : Sep S0 w0 w' As :=
 ⟨h.fr.trans (u.fr _), fun A hA => ⟨A.keep w w' (h.each A hA).1 (fun _ _ hi => u.block hi) (Up.size u), (h.each A hA).2⟩, h.apart⟩
theorem Sep.step (h : Sep S0 w0 w As) (k : Nat) (hk : As[k]? = some A) (fr : Fr A.foot w w') (h' : A'.holds w') (sub : ∀ i, A'.foot i → A.foot i ∨ w.heap.size ≤ i) : Sep S0 w0 w' (As.set k A') := by
 have hA := h.each A (List.mem_of_getElem? hk)
 have hsz := h.size
 have hne : ∀ (j : Nat) (B : Asr), As[j]? = some B → j ≠ k → (∀ i, A.foot i → ¬ B.foot i) ∧ (∀ i, B.foot i → ¬ A.foot i) := fun j B hj hjk => by
   rcases Nat.lt_or_gt_of_ne hjk with hl | hl
   · have := pairwise_get h.apart hl hj hk
     exact ⟨fun i h1 h2 => this i h2 h1, this⟩
   have := pairwise_get h.apart hl hk hj
   exact ⟨this, fun i h1 h2 => this i h2 h1⟩
 have hset : ∀ (j : Nat) (B : Asr), (As.set k A')[j]? = some B → (j = k ∧ B = A') ∨ (j ≠ k ∧ As[j]? = some B) := fun j B hj => by
   rw [List.getElem?_set] at hj
   by_cases e : k = j
   · subst e
     rw [if_pos rfl] at hj
     split at hj
     · cases hj; exact .inl ⟨rfl, rfl⟩
     cases hj
   rw [if_neg e] at hj; exact .inr ⟨fun e2 => e e2.symm, hj⟩
 refine ⟨h.fr.next fr hA.2, fun B hB => ?_, ?_⟩
 · obtain ⟨j, hj⟩ := List.mem_iff_getElem?.1 hB
   rcases hset j B hj with ⟨_, rfl⟩ | ⟨e, hj'⟩
   · exact ⟨h', fun i hi => (sub i hi).elim (hA.2 i) (fun h2 => .inr oQ)⟩
   have h1 := h.each B (List.mem_of_getElem? hj')
   exact ⟨B.keep w w' h1.1 (fun i hi hlt => fr.block i hlt ((hne j B hj' e).2 i hi)) fr.size, h1.2⟩
 rw [List.pairwise_iff_getElem]
 intro i j hi hj hij
 have hi' := List.getElem?_eq_getElem hi
 have hj' := List.getElem?_eq_getElem hj
 rcases hset _ _ hi' with ⟨e1, e2⟩ | ⟨e1, h1⟩ <;> rcases hset _ _ hj' with ⟨f1, f2⟩ | ⟨f1, h2⟩
 · omega
 · rw [e2]
   intro x hx hB
   have hlt := Asr.lt _ w (h.each _ (List.mem_of_getElem? h2)).1 x hB
   exact (sub x hx).elim (fun h3 => (hne _ _ h2 f1).1 x h3 hB) (fun h3 => by omega)
 · rw [f2]
   intro x hx hB
   have hlt := Asr.lt _ w (h.each _ (List.mem_of_getElem? h1)).1 x hx
   exact (sub x hB).elim (fun h3 => (hne _ _ h1 e1).1 x h3 hx) (fun h3 => by omega)
 exact pairwise_get h.apart hij h1 h2
theorem Sep.add (h : Sep S0 w0 w As) (u : Up w w') (h' : A'.holds w') (new : ∀ i, A'.foot i → w.heap.size ≤ i) : Sep S0 w0 w' (As ++ [A']) := by
 have h2 := h.up u
 have hsz := h.size
 refine ⟨h2.fr, fun B hB => ?_, ?_⟩
 · rcases List.mem_append.1 hB with h3 | h3
   · exact h2.each B h3
   simp at h3; subst h3
   exact ⟨h', fun i hi => .inr (by have := new i hi; omega)⟩
 rw [List.pairwise_append]
 refine ⟨h.apart, List.pairwise_singleton _ _, fun B hB C hC i hi hi2 => ?_⟩
 simp at hC; subst hC
 have := Asr.lt B w (h.each B hB).1 i hi
 have := new i hi2
 omega
theorem Sep.addB {B : Nat} {cs : Array Value} {T : TypeId} (h : Sep S0 w0 w As) (N : New w w' B cs T) : Sep S0 w0 w' (As ++ [aBlk B cs T]) := h.add N.up N.blk (fun i (e : i = B) => by rw [e, N.at_]; exact Nat.le_refl _)
theorem Sep.putB {B : Nat} {cs cs' : Array Value} {T : TypeId} (h : Sep S0 w0 w As) (k : Nat) (hk : As[k]? = some (aBlk B cs T)) (N : Set_ w w' B cs' T) : Sep S0 w0 w' (As.set k (aBlk B cs' T)) := h.step k hk N.sto.fr N.blk (fun _ hi => .inl hi)
theorem Sep.blk {B : Nat} {cs : Array Value} {T : TypeId} (h : Sep S0 w0 w As) (k : Nat) (hk : As[k]? = some (aBlk B cs T)) : Blk w B cs T := h.get k hk
theorem Sep.own {α : Type} {e : TypeId} {k' : Nat} {enc : α → Array Value} {v : Value} {xs : List α} (h : Sep S0 w0 w As) (k : Nat) (hk : As[k]? = some (aOwn e k' enc v xs)) : OwnS w 0 e k' enc v xs := h.get k hk
theorem Sep.cons (h : A.holds w) (hf : ∀ i, A.foot i → S0 i) (hs : Sep S0 w w As) (hd : ∀ B ∈ As, ∀ i, A.foot i → ¬ B.foot i) : Sep S0 w w (A :: As) :=
 ⟨hs.fr, fun B hB => by
   rcases List.mem_cons.1 hB with e | e
   · subst e; exact ⟨h, fun i hi => .inl (hf i hi)⟩
   exact hs.each B e, List.Pairwise.cons hd hs.apart⟩
theorem Sep.sub {Bs : List Asr} (h : Sep S0 w0 w As) (hs : Bs.Sublist As) : Sep S0 w0 w Bs := ⟨h.fr, fun A hA => h.each A (hs.subset hA), h.apart.sublist hs⟩
theorem Sep.foot (h : Sep S0 w0 w As) (k : Nat) (hk : As[k]? = some A) : ∀ i, A.foot i → S0 i ∨ w0.heap.size ≤ i := (h.each A (List.mem_of_getElem? hk)).2
theorem Sep.ne (h : Sep S0 w0 w As) {i j : Nat} {A B : Asr} (hij : i < j) (hi : As[i]? = some A) (hj : As[j]? = some B) : ∀ x, A.foot x → ¬ B.foot x := pairwise_get h.apart hij hi hj
structure Stp (A A' : Asr) (w w' : World) : Prop where
 fr : Fr A.foot w w'
 holds : A'.holds w'
 sub : ∀ i, A'.foot i → A.foot i ∨ w.heap.size ≤ i
theorem Stp.refl {A : Asr} {w : World} (h : A.holds w) : Stp A A w w := ⟨Fr.refl _ _, h, fun _ h => .inl h⟩
theorem Sep.stp (h : Sep S0 w0 w As) (k : Nat) (hk : As[k]? = some A) (s : Stp A A' w w') : Sep S0 w0 w' (As.set k A') := h.step k hk s.fr s.holds s.sub
theorem Sep.take (h : Sep S0 w0 w As) (n : Nat) : Sep S0 w0 w (As.take n) := h.sub (List.take_sublist _ _)
theorem Sep.upd (h : Sep no w0 w As) : Up w0 w := h.fr.toUp (fun _ h => h)
end
section
variable {P : Program} {n : Nat} {ds : List Deferred} {l : Env} {w : World} {d : Option Tmp} {ty : TypeId} {ps : String} {af : Array Edge} {g : Option (Nat × Bool)}
theorem REv.appendF {α : Type} {enc : α → Array Value} {k bytes : Nat} {e T : TypeId} {i : TypeInfo} {z : Value} {s x : Operand} {v xv : Value} {xs ys : List α} (hT : P.underlying T = some (.slice e)) (hi : P.info? e = some i) (hz : i.zero = some z)
   (hsize : i.size = k) (hby : i.bytes = bytes) (hzs : z.cells.size = k) (hk0 : 0 < k) (henc : ∀ x, (enc x).size = k) (h1 : ∀ x, (enc x).all (·.oneCell') = true) (hs : Val l s v) (hx : Val l x xv) (ho : OwnS w 0 e k enc v xs) (hy : Sl w xv k enc ys)
   (h63 : xs.length + ys.length ≤ maxLen) (hbytes : (xs.length + ys.length) * bytes ≤ 140737488355328) :
   REv P n ds l w ⟨d, .call { callee := .builtin .append, args := #[s, x], argTypes := #[T, T] }, ty, ps, af, g⟩ (fun v' w' => Stp (aOwn e k enc v xs) (aOwn e k enc v' (xs ++ ys)) w w') := fun a ha => by
 obtain ⟨ad, c, rfl, hE⟩ := hy
 have hfl : ∀ x, (enc x).toList.length = k := fun x => by simp [henc]
 by_cases hne : 0 < ys.length
 · obtain ⟨y0, hy0⟩ := getElem?_of_lt (xs := ys) (i := 0) hne
   obtain ⟨B, o, rfl, _⟩ := hE 0 y0 hy0
   have hnews : ∀ (j : Nat) (u : Value), (ys.flatMap fun x => (enc x).toList)[j]? = some u → w.cell? ((⟨B, o, none⟩ : Addr).add j) = some u := fun j u hu => by
     obtain ⟨y, hy1, hy2⟩ := flat_at _ k hk0 hfl ys j u hu
     obtain ⟨B', o', e', hc⟩ := hE _ y hy1
     cases e'
     have := hc (j % k) u (by simpa using hy2)
     rw [add_none]
     rw [show o + j = o + j / k * k + j % k by have := Nat.div_add_mod j k; rw [Nat.mul_comm] at this; omega]
     exact this
   have h1' : ∀ u ∈ (ys.flatMap fun x => (enc x).toList), u.oneCell' = true := fun u hu => by
     obtain ⟨y, _, hy2⟩ := List.mem_flatMap.1 hu
     exact (Array.all_eq_true_iff_forall_mem.1 (h1 y)) u (by simpa using hy2)
   obtain ⟨v', w', hr, h2, h3, _⟩ := run_append_own (P := P) w 0 T ty e i z k bytes hT hi hz hsize hby hzs hk0 v xs.length _ ho ⟨B, o, none⟩ ys.length c (ys.flatMap fun x => (enc x).toList) (flat_length _ k hfl ys) hnews h1' h63 hbytes (Nat.zero_le _)
   refine ⟨v', w', ?_, ⟨h3.os, h3.tape, h3.output, h3.size, fun i hi hb => h3.block i hi (fun e => hb e.symm)⟩, (show OwnS w' 0 e k enc v' (xs ++ ys) by simpa [OwnS] using h2), ?_⟩
   · simp only [execOp, resolve, invoke, builtin, Sem.run_bind, Sem.run_pure, Result.andThen_ok, List.map_toArray, List.map_cons, List.map_nil, ha.ev hs, ha.ev hx, hr]
   subst hsize
   subst hby
   have hl : (ys.flatMap fun x => (enc x).toList).length = ys.length * i.size := flat_length _ _ hfl ys
   have hm63 : xs.length + ys.length ≤ 9223372036854775807 := by simpa [maxLen] using h63
   intro q hq
   obtain ⟨hlen, ⟨rfl, hn⟩ | ⟨g', cap, cur, rfl, _, hg, hcap, hcm, hcs, htake⟩⟩ := ho
   · have hr2 := run_append_nil (P := P) w T ty e i z hT hi hz ⟨B, o, none⟩ ys.length c _ hl hnews hne oQ (by have : ys.length * i.bytes ≤ (xs.length + ys.length) * i.bytes := Nat.mul_le_mul_right _ (by omega); omega)
     rw [hr] at hr2
     cases hr2
     cases hq
     exact .inr (Nat.le_refl _)
   by_cases hroom : xs.length + ys.length ≤ cap
   · have hr2 := run_append_room (P := P) w T ty e i hT hi g' xs.length cap cur hg ⟨B, o, none⟩ ys.length c _ hl hnews h1' hroom (by rw [hl, hcs, ← Nat.add_mul]; exact Nat.mul_le_mul_right _ hroom)
     rw [hr] at hr2
     cases hr2
     exact .inl hq
   have holds : ∀ j u, (xs.flatMap fun x => (enc x).toList)[j]? = some u → w.cell? ((⟨g', 0, none⟩ : Addr).add j) = some u := World.ownsRow.cells (g := g') (show w.ownsRow 0 e i.size (.slice (some ⟨g', 0, none⟩) xs.length cap) xs.length _ from ⟨hlen, .inr ⟨g', cap, cur, rfl, Nat.zero_le _, hg, hcap, hcm, hcs, htake⟩⟩) rfl
   have hr2 := run_append_grow (P := P) w T ty e i z hT hi hz ⟨g', 0, none⟩ xs.length cap _ hlen holds ⟨B, o, none⟩ ys.length c _ hl hnews oQ oQ (growslice_fits oQ hbytes)
   rw [hr] at hr2
   cases hr2
   cases hq
   exact .inr (Nat.le_refl _)
 have hys : ys = [] := List.eq_nil_of_length_eq_zero oQ
 subst hys
 have hrun : (Builtin.append_ #[T, T] ty #[v, .slice ad 0 c]).run P w = .ok v w := by
   have hsz : ∀ w, (sizeOf e).run P w = .ok k w := fun w => by simp [sizeOf, typeInfo, hi, hsize]
   obtain ⟨_, ⟨rfl, hn⟩ | ⟨g', cap, cur, rfl, _, _, hcap, _⟩⟩ := ho
   · cases ad <;> simp [Builtin.append_, run_underlying hT, hsz, Builtin.lenOf, Builtin.firstCells, loadCells, loadCellsFrom, Result.andThen]
   cases ad <;> simp [Builtin.append_, run_underlying hT, hsz, Builtin.lenOf, Builtin.firstCells, loadCells, loadCellsFrom, storeCells, Result.andThen, hcap]
 refine ⟨v, w, ?_, Fr.refl _ _, (show OwnS w 0 e k enc v (xs ++ []) by simpa using ho), fun i h => .inl h⟩
 simp only [execOp, resolve, invoke, builtin, Sem.run_bind, Sem.run_pure, Result.andThen_ok, List.map_toArray, List.map_cons, List.map_nil, ha.ev hs, ha.ev hx, List.length_nil, hrun]
end
end Go.Wx
end
section
namespace Go.Wx
open Go.RowKit
section
variable {P : Program} {n : Nat} {ds : List Deferred} {l : Env} {w : World} {d : Option Tmp} {ty : TypeId} {ps : String} {af : Array Edge} {g : Option (Nat × Bool)}
theorem PEv.sliceHi {T e : TypeId} {x hi : Operand} {ad : Option Addr} {k m cap j : Nat} (hT : P.underlying T = some (.slice e)) (hs : ∀ w, (sizeOf e).run P w = .ok k w) (hx : Val l x (.slice ad m cap)) (hl : Val l hi (.int .i64 (j : Int))) (hj : j ≤ cap) :
   PEv P n ds l w ⟨d, .slice T x none (some hi) none, ty, ps, af, g⟩ (.slice ad j cap) := fun a w' ha _ => by
 refine run_v ?_
 rw [ha.ev hx]
 simp only [Option.map_none, Option.map_some, ha.ev hl]
 have h1 : (0 : Int) ≤ (j : Int) ∧ (j : Int) ≤ (cap : Int) := ⟨by omega, by omega⟩
 cases ad with
 | none => simp [Instr.sliceAt, Instr.slice, Instr.sliceBounds, Instr.sliceBound, asIntOf, run_underlying hT, Result.andThen, h1, hs, hj]
 | some a => simp [Instr.sliceAt, Instr.slice, Instr.sliceBounds, Instr.sliceBound, asIntOf, run_underlying hT, Result.andThen, h1, hs, Addr.add, hj]
def setFrom (old : Array Value) (o : Nat) (cs : List Value) : Array Value := (old.toList.take o ++ cs ++ old.toList.drop (o + cs.length)).toArray
theorem SEv.storePart {T TT : TypeId} {x y : Operand} {B k o : Nat} {cs old : Array Value} (hs : ∀ w, (sizeOf T).run P w = .ok k w) (hk : cs.size = k) (hx : Val l x (.pointer (some ⟨B, o, none⟩))) (hy : Val l y (.agg cs)) (h1 : cs.all (·.oneCell') = true) (hb : Blk w B old TT) (ho : o + cs.size ≤ old.size) :
   SEv P n ds l w ⟨none, .store T x y, ty, ps, af, g⟩ (fun w' => Set_ w w' B (setFrom old o cs.toList) TT) := fun a ha => by
 have hst := run_storeCells_at P B o TT cs.toList 0 old w hb (by rw [Array.length_toList]; omega) (fun v hv => (Array.all_eq_true_iff_forall_mem.1 h1) v (by simpa using hv))
 refine ⟨w.setRow B (setFrom old o cs.toList), run_u ?_, Set_.setRow hb⟩
 rw [ha.ev hx, ha.ev hy]
 simp only [Instr.storeAt, Instr.sureAddr, Sem.run_bind, Sem.run_pure, Result.andThen, storeVar, hs, Value.cells]
 rw [Nat.add_zero] at hst
 simp only [hk, setFrom]
 rw [if_neg (by simp), hst]
theorem PEv.tr {o : Oper} {b : Bool} (h : PEv P n ds l w o (.bool b)) (e : b = true) : PEv P n ds l w o (.bool true) := e ▸ h
theorem PEv.fa {o : Oper} {b : Bool} (h : PEv P n ds l w o (.bool b)) (e : b = false) : PEv P n ds l w o (.bool false) := e ▸ h
end
end Go.Wx
end
