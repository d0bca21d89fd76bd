import Derived.Test.YtmimclgihlhaeaaGreatKR75
import Derived.Laws.CopyRow
import Derived.Laws.IdiomStrings
import Derived.Laws.OwnMore
section
namespace Go.Wx
open Go.RowKit
structure Fr (S : Nat → Prop) (w w' : World) : Prop where
 os : w'.os = w.os
 tape : w'.tape = w.tape
 output : w'.output = w.output
 size : w.heap.size ≤ w'.heap.size
 block : ∀ i, i < w.heap.size → ¬ S i → w'.heap[i]? = w.heap[i]?
theorem Fr.refl (S : Nat → Prop) (w : World) : Fr S w w := ⟨rfl, rfl, rfl, Nat.le_refl _, fun _ _ _ => rfl⟩
theorem Fr.trans {S : Nat → Prop} {a b c : World} (h : Fr S a b) (k : Fr S b c) : Fr S a c := ⟨k.os.trans h.os, k.tape.trans h.tape, k.output.trans h.output, Nat.le_trans h.size k.size, fun i hi hs => (k.block i (Nat.lt_of_lt_of_le hi h.size) hs).trans (h.block i hi hs)⟩
theorem Fr.next {S T : Nat → Prop} {a b c : World} (h : Fr S a b) (k : Fr T b c) (hT : ∀ i, T i → S i ∨ a.heap.size ≤ i) : Fr S a c := ⟨k.os.trans h.os, k.tape.trans h.tape, k.output.trans h.output, Nat.le_trans h.size k.size, fun i hi hs => (k.block i (Nat.lt_of_lt_of_le hi h.size) (fun h2 => (hT i h2).elim hs (fun h3 => by omega))).trans (h.block i hi hs)⟩
theorem Fr.mono {S T : Nat → Prop} {w w' : World} (h : Fr S w w') (hT : ∀ i, S i → T i) : Fr T w w' := ⟨h.os, h.tape, h.output, h.size, fun i hi hs => h.block i hi (fun h2 => hs (hT i h2))⟩
theorem Fr.pF {S : Nat → Prop} {w w' : World} (h : Fr S w w') (hS : ∀ i, ¬ S i) : Up w w' := ⟨h.os, h.tape, h.output, h.size, fun i hi => h.block i hi (hS i)⟩
theorem Up.fr {w w' : World} (h : Up w w') (S : Nat → Prop) : Fr S w w' := ⟨h.os, h.tape, h.output, Up.size h, fun _ hi _ => h.block hi⟩
theorem Sto.fr {B : Nat} {w w' : World} (h : Sto B w w') : Fr (· = B) w w' := ⟨h.os, h.tape, h.output, h.size, fun i hi hs => h.block i hi hs⟩
def no : Nat → Prop := fun _ => False
structure Asr where
 foot : Nat → Prop
 holds : World → Prop
 keep : ∀ w w', holds w → (∀ i, foot i → i < w.heap.size → w'.heap[i]? = w.heap[i]?) → w.heap.size ≤ w'.heap.size → holds w'
 lt : ∀ w, holds w → ∀ i, foot i → i < w.heap.size
def Ck (B : Nat) (cs : Array Value) (T : TypeId) : Asr := ⟨(· = B), fun w => Blk w B cs T, fun _ _ h k _ => (k B rfl h.lt).trans h, fun _ h _ e => by subst e; exact h.lt⟩
theorem OwnS.keeps {α : Type} {enc : α → Array Value} {b k : Nat} {e : TypeId} {w w' : World} {v : Value} {xs : List α} (h : OwnS w b e k enc v xs) (hk : ∀ i, v.ownBlock = some i → i < w.heap.size → w'.heap[i]? = w.heap[i]?) : OwnS w' b e k enc v xs := by
 obtain ⟨h1, h2⟩ := h
 refine ⟨h1, ?_⟩
 rcases h2 with h2 | ⟨g, cap, cur, rfl, hb, hg, rest⟩
 · exact .inl h2
 exact .inr ⟨g, cap, cur, rfl, hb, (hk g rfl (lt_of_block hg)).trans hg, rest⟩
theorem OwnS.lt {α : Type} {enc : α → Array Value} {b k : Nat} {e : TypeId} {w : World} {v : Value} {xs : List α} (h : OwnS w b e k enc v xs) : ∀ i, v.ownBlock = some i → i < w.heap.size := by
 obtain ⟨h1, h2⟩ := h
 rcases h2 with h2 | ⟨g, cap, cur, rfl, hb, hg, rest⟩
 · intro i hi; rw [h2.1] at hi; cases hi
 intro i hi; cases hi; exact lt_of_block hg
def Al {α : Type} (e : TypeId) (k : Nat) (enc : α → Array Value) (v : Value) (xs : List α) : Asr := ⟨fun i => v.ownBlock = some i, fun w => OwnS w 0 e k enc v xs, fun _ _ h k _ => h.keeps k, fun _ h => h.lt⟩
structure Sep (S0 : Nat → Prop) (w0 w : World) (As : List Asr) : Prop where
 fr : Fr S0 w0 w
 each : ∀ A ∈ As, A.holds w ∧ ∀ i, A.foot i → S0 i ∨ w0.heap.size ≤ i
 apart : As.Pairwise fun A B => ∀ i, A.foot i → ¬ B.foot i
theorem Jm {α : Type} {r : α → α → Prop} {l : List α} (h : l.Pairwise r) {i j : Nat} {a b : α} (hij : i < j) (ha : l[i]? = some a) (hb : l[j]? = some b) : r a b := by
 obtain ⟨hi, rfl⟩ := List.getElem?_eq_some_iff.1 ha
 obtain ⟨hj, rfl⟩ := List.getElem?_eq_some_iff.1 hb
 exact List.pairwise_iff_getElem.1 h i j hi hj hij
section
variable {S0 : Nat → Prop} {w0 w w' : World} {As : List Asr} {A A' : Asr}
theorem Sep.start (S0 : Nat → Prop) (w : World) : Sep S0 w w [] := ⟨Fr.refl _ _, fun _ h => by simp at h, List.Pairwise.nil⟩
theorem Sep.get (h : Sep S0 w0 w As) (k : Nat) (hk : As[k]? = some A) : A.holds w := (h.each A (List.mem_of_getElem? hk)).1
theorem Sep.size (h : Sep S0 w0 w As) : w0.heap.size ≤ w.heap.size := h.fr.size
theorem Sep.up (h : Sep S0 w0 w As) (u : Up w w') : Sep S0 w0 w' As :=
 ⟨h.fr.trans (u.fr _), fun A hA => ⟨A.keep w w' (h.each A hA).1 (fun _ _ hi => u.block hi) (Up.size u), (h.each A hA).2⟩, h.apart⟩
theorem Sep.step (h : Sep S0 w0 w As) (k : Nat) (hk : As[k]? = some A) (fr : Fr A.foot w w') (h' : A'.holds w') (sub : ∀ i, A'.foot i → A.foot i ∨ w.heap.size ≤ i) : Sep S0 w0 w' (As.set k A') := by
 have hA := h.each A (List.mem_of_getElem? hk)
 have hsz := h.size
 have hne : ∀ (j : Nat) (B : Asr), As[j]? = some B → j ≠ k → (∀ i, A.foot i → ¬ B.foot i) ∧ (∀ i, B.foot i → ¬ A.foot i) := fun j B hj hjk => by
   rcases Nat.lt_or_gt_of_ne hjk with hl | hl
   · have := Jm h.apart hl hj hk
     exact ⟨fun i h1 h2 => this i h2 h1, this⟩
   have := Jm h.apart hl hk hj
   exact ⟨this, fun i h1 h2 => this i h2 h1⟩
 have hset : ∀ (j : Nat) (B : Asr), (As.set k A')[j]? = some B → (j = k ∧ B = A') ∨ (j ≠ k ∧ As[j]? = some B) := fun j B hj => by
   rw [List.getElem?_set] at hj
   by_cases e : k = j
   · subst e
     rw [if_pos rfl] at hj
     split at hj
     · cases hj; exact .inl ⟨rfl, rfl⟩
     cases hj
   rw [if_neg e] at hj; exact .inr ⟨fun e2 => e e2.symm, hj⟩
 refine ⟨h.fr.next fr hA.2, fun B hB => ?_, ?_⟩
 · obtain ⟨j, hj⟩ := List.mem_iff_getElem?.1 hB
   rcases hset j B hj with ⟨_, rfl⟩ | ⟨e, hj'⟩
   · exact ⟨h', fun i hi => (sub i hi).elim (hA.2 i) (fun h2 => .inr oQ)⟩
   have h1 := h.each B (List.mem_of_getElem? hj')
   exact ⟨B.keep w w' h1.1 (fun i hi hlt => fr.block i hlt ((hne j B hj' e).2 i hi)) fr.size, h1.2⟩
 rw [List.pairwise_iff_getElem]
 intro i j hi hj hij
 have hi' := List.getElem?_eq_getElem hi
 have hj' := List.getElem?_eq_getElem hj
 rcases hset _ _ hi' with ⟨e1, e2⟩ | ⟨e1, h1⟩ <;> rcases hset _ _ hj' with ⟨f1, f2⟩ | ⟨f1, h2⟩
 · omega
 · rw [e2]
   intro x hx hB
   have hlt := Asr.lt _ w (h.each _ (List.mem_of_getElem? h2)).1 x hB
   exact (sub x hx).elim (fun h3 => (hne _ _ h2 f1).1 x h3 hB) (fun h3 => by omega)
 · rw [f2]
   intro x hx hB
   have hlt := Asr.lt _ w (h.each _ (List.mem_of_getElem? h1)).1 x hx
   exact (sub x hB).elim (fun h3 => (hne _ _ h1 e1).1 x h3 hx) (fun h3 => by omega)
 exact Jm h.apart hij h1 h2
theorem Sep.add (h : Sep S0 w0 w As) (u : Up w w') (h' : A'.holds w') (new : ∀ i, A'.foot i → w.heap.size ≤ i) : Sep S0 w0 w' (As ++ [A']) := by
 have h2 := h.up u
 have hsz := h.size
 refine ⟨h2.fr, fun B hB => ?_, ?_⟩
 · rcases List.mem_append.1 hB with h3 | h3
   · exact h2.each B h3
   simp at h3; subst h3
   exact ⟨h', fun i hi => .inr (by have := new i hi; omega)⟩
 rw [List.pairwise_append]
 refine ⟨h.apart, List.pairwise_singleton _ _, fun B hB C hC i hi hi2 => ?_⟩
 simp at hC; subst hC
 have := Asr.lt B w (h.each B hB).1 i hi
 have := new i hi2
 omega
theorem Sep.Cj {B : Nat} {cs : Array Value} {T : TypeId} (h : Sep S0 w0 w As) (N : New w w' B cs T) : Sep S0 w0 w' (As ++ [Ck B cs T]) := h.add N.up N.blk (fun i (e : i = B) => by rw [e, N.at_]; exact Nat.le_refl _)
theorem Sep.Gf {B : Nat} {cs cs' : Array Value} {T : TypeId} (h : Sep S0 w0 w As) (k : Nat) (hk : As[k]? = some (Ck B cs T)) (N : Set_ w w' B cs' T) : Sep S0 w0 w' (As.set k (Ck B cs' T)) := h.step k hk N.sto.fr N.blk (fun _ hi => .inl hi)
theorem Sep.blk {B : Nat} {cs : Array Value} {T : TypeId} (h : Sep S0 w0 w As) (k : Nat) (hk : As[k]? = some (Ck B cs T)) : Blk w B cs T := h.get k hk
theorem Sep.own {α : Type} {e : TypeId} {k' : Nat} {enc : α → Array Value} {v : Value} {xs : List α} (h : Sep S0 w0 w As) (k : Nat) (hk : As[k]? = some (Al e k' enc v xs)) : OwnS w 0 e k' enc v xs := h.get k hk
theorem Sep.cons (h : A.holds w) (hf : ∀ i, A.foot i → S0 i) (hs : Sep S0 w w As) (hd : ∀ B ∈ As, ∀ i, A.foot i → ¬ B.foot i) : Sep S0 w w (A :: As) :=
 ⟨hs.fr, fun B hB => by
   rcases List.mem_cons.1 hB with e | e
   · subst e; exact ⟨h, fun i hi => .inl (hf i hi)⟩
   exact hs.each B e, List.Pairwise.cons hd hs.apart⟩
theorem Sep.sub {Bs : List Asr} (h : Sep S0 w0 w As) (hs : Bs.Sublist As) : Sep S0 w0 w Bs := ⟨h.fr, fun A hA => h.each A (hs.subset hA), h.apart.sublist hs⟩
theorem Sep.foot (h : Sep S0 w0 w As) (k : Nat) (hk : As[k]? = some A) : ∀ i, A.foot i → S0 i ∨ w0.heap.size ≤ i := (h.each A (List.mem_of_getElem? hk)).2
structure Stp (A A' : Asr) (w w' : World) : Prop where
 fr : Fr A.foot w w'
 holds : A'.holds w'
 sub : ∀ i, A'.foot i → A.foot i ∨ w.heap.size ≤ i
theorem Stp.up {A A' : Asr} {w w' w'' : World} (h : Stp A A' w w') (u : Up w' w'') : Stp A A' w w'' := ⟨h.fr.trans (u.fr _), A'.keep _ _ h.holds (fun _ _ hi => u.block hi) (Up.size u), h.sub⟩
theorem Stp.refl {A : Asr} {w : World} (h : A.holds w) : Stp A A w w := ⟨Fr.refl _ _, h, fun _ h => .inl h⟩
theorem Stp.trans {A B C : Asr} {a b c : World} (h : Stp A B a b) (k : Stp B C b c) : Stp A C a c := ⟨h.fr.next k.fr h.sub, k.holds, fun i hi => (k.sub i hi).elim (fun h2 => h.sub i h2) (fun h2 => .inr (Nat.le_trans h.fr.size h2))⟩
theorem Sep.Dh (h : Sep S0 w0 w As) (k : Nat) (hk : As[k]? = some A) (s : Stp A A' w w') : Sep S0 w0 w' (As.set k A') := h.step k hk s.fr s.holds s.sub
theorem Sep.take (h : Sep S0 w0 w As) (n : Nat) : Sep S0 w0 w (As.take n) := h.sub (List.take_sublist _ _)
theorem OwnS.base {α : Type} {enc : α → Array Value} {b k : Nat} {e : TypeId} {w : World} {v : Value} {xs : List α} (h : OwnS w b e k enc v xs) : ∀ i, v.ownBlock = some i → b ≤ i := by
 obtain ⟨_, ⟨rfl, _⟩ | ⟨g, cap, cur, rfl, hb, _⟩⟩ := h
 · intro i hi; cases hi
 intro i hi; cases hi; exact hb
theorem Sep.Ce (h : Sep no w0 w As) : Up w0 w := h.fr.pF (fun _ h => h)
end
theorem REv.mono {P : Program} {n : Nat} {ds : List Deferred} {l : Env} {w : World} {o : Oper} {Post Post' : Value → World → Prop} (h : REv P n ds l w o Post) (k : ∀ v w', Post v w' → Post' v w') : REv P n ds l w o Post' := fun a ha => let ⟨v, w', h1, h2⟩ := h a ha; ⟨v, w', h1, k v w' h2⟩
section
variable {P : Program} {n : Nat} {ds : List Deferred} {l : Env} {w : World} {d : Option Tmp} {ty : TypeId} {ps : String} {af : Array Edge} {g : Option (Nat × Bool)}
theorem REv.A8 {α : Type} {enc : α → Array Value} {k bytes : Nat} {e T : TypeId} {i : TypeInfo} {z : Value} {s x : Operand} {v xv : Value} {xs ys : List α} (hT : P.underlying T = some (.slice e)) (hi : P.info? e = some i) (hz : i.zero = some z)
   (hsize : i.size = k) (hby : i.bytes = bytes) (hzs : z.cells.size = k) (hk0 : 0 < k) (henc : ∀ x, (enc x).size = k) (h1 : ∀ x, (enc x).all (·.oneCell') = true) (hs : Val l s v) (hx : Val l x xv) (ho : OwnS w 0 e k enc v xs) (hy : Sl w xv k enc ys)
   (h63 : xs.length + ys.length ≤ maxLen) (hbytes : (xs.length + ys.length) * bytes ≤ 140737488355328) :
   REv P n ds l w ⟨d, .call { callee := .builtin .append, args := #[s, x], argTypes := #[T, T] }, ty, ps, af, g⟩ (fun v' w' => Stp (Al e k enc v xs) (Al e k enc v' (xs ++ ys)) w w') := fun a ha => by
 obtain ⟨ad, c, rfl, hE⟩ := hy
 have hfl : ∀ x, (enc x).toList.length = k := fun x => by simp [henc]
 by_cases hne : 0 < ys.length
 · obtain ⟨y0, hy0⟩ := Ac (xs := ys) (i := 0) hne
   obtain ⟨B, o, rfl, _⟩ := hE 0 y0 hy0
   have hnews : ∀ (j : Nat) (u : Value), (ys.flatMap fun x => (enc x).toList)[j]? = some u → w.cell? ((⟨B, o, none⟩ : Addr).add j) = some u := fun j u hu => by
     obtain ⟨y, hy1, hy2⟩ := M6 _ k hk0 hfl ys j u hu
     obtain ⟨B', o', e', hc⟩ := hE _ y hy1
     cases e'
     have := hc (j % k) u (by simpa using hy2)
     rw [Eu]
     rw [show o + j = o + j / k * k + j % k by have := Nat.div_add_mod j k; rw [Nat.mul_comm] at this; omega]
     exact this
   have h1' : ∀ u ∈ (ys.flatMap fun x => (enc x).toList), u.oneCell' = true := fun u hu => by
     obtain ⟨y, _, hy2⟩ := List.mem_flatMap.1 hu
     exact (Array.all_eq_true_iff_forall_mem.1 (h1 y)) u (by simpa using hy2)
   obtain ⟨v', w', hr, h2, h3, _⟩ := run_append_own (P := P) w 0 T ty e i z k bytes hT hi hz hsize hby hzs hk0 v xs.length _ ho ⟨B, o, none⟩ ys.length c (ys.flatMap fun x => (enc x).toList) (Du _ k hfl ys) hnews h1' h63 hbytes (Nat.zero_le _)
   refine ⟨v', w', ?_, ⟨h3.os, h3.tape, h3.output, h3.size, fun i hi hb => h3.block i hi (fun e => hb e.symm)⟩, (show OwnS w' 0 e k enc v' (xs ++ ys) by simpa [OwnS] using h2), ?_⟩
   · simp only [execOp, resolve, invoke, builtin, Sem.run_bind, Sem.run_pure, Result.andThen_ok, List.map_toArray, List.map_cons, List.map_nil, ha.ev hs, ha.ev hx, hr]
   subst hsize
   subst hby
   have hl : (ys.flatMap fun x => (enc x).toList).length = ys.length * i.size := Du _ _ hfl ys
   have hm63 : xs.length + ys.length ≤ 9223372036854775807 := by simpa [maxLen] using h63
   intro q hq
   obtain ⟨hlen, ⟨rfl, hn⟩ | ⟨g', cap, cur, rfl, _, hg, hcap, hcm, hcs, htake⟩⟩ := ho
   · have hr2 := run_append_nil (P := P) w T ty e i z hT hi hz ⟨B, o, none⟩ ys.length c _ hl hnews hne oQ (by have : ys.length * i.bytes ≤ (xs.length + ys.length) * i.bytes := Nat.mul_le_mul_right _ (by omega); omega)
     rw [hr] at hr2
     cases hr2
     cases hq
     exact .inr (Nat.le_refl _)
   by_cases hroom : xs.length + ys.length ≤ cap
   · have hr2 := run_append_room (P := P) w T ty e i hT hi g' xs.length cap cur hg ⟨B, o, none⟩ ys.length c _ hl hnews h1' hroom (by rw [hl, hcs, ← Nat.add_mul]; exact Nat.mul_le_mul_right _ hroom)
     rw [hr] at hr2
     cases hr2
     exact .inl hq
   have holds : ∀ j u, (xs.flatMap fun x => (enc x).toList)[j]? = some u → w.cell? ((⟨g', 0, none⟩ : Addr).add j) = some u := World.ownsRow.cells (g := g') (show w.ownsRow 0 e i.size (.slice (some ⟨g', 0, none⟩) xs.length cap) xs.length _ from ⟨hlen, .inr ⟨g', cap, cur, rfl, Nat.zero_le _, hg, hcap, hcm, hcs, htake⟩⟩) rfl
   have hr2 := run_append_grow (P := P) w T ty e i z hT hi hz ⟨g', 0, none⟩ xs.length cap _ hlen holds ⟨B, o, none⟩ ys.length c _ hl hnews oQ oQ (growslice_fits oQ hbytes)
   rw [hr] at hr2
   cases hr2
   cases hq
   exact .inr (Nat.le_refl _)
 have hys : ys = [] := List.eq_nil_of_length_eq_zero oQ
 subst hys
 have hrun : (Builtin.append_ #[T, T] ty #[v, .slice ad 0 c]).run P w = .ok v w := by
   have hsz : ∀ w, (sizeOf e).run P w = .ok k w := fun w => by simp [sizeOf, typeInfo, hi, hsize]
   obtain ⟨_, ⟨rfl, hn⟩ | ⟨g', cap, cur, rfl, _, _, hcap, _⟩⟩ := ho
   · cases ad <;> simp [Builtin.append_, run_underlying hT, hsz, Builtin.lenOf, Builtin.firstCells, loadCells, loadCellsFrom, Result.andThen]
   cases ad <;> simp [Builtin.append_, run_underlying hT, hsz, Builtin.lenOf, Builtin.firstCells, loadCells, loadCellsFrom, storeCells, Result.andThen, hcap]
 refine ⟨v, w, ?_, Fr.refl _ _, (show OwnS w 0 e k enc v (xs ++ []) by simpa using ho), fun i h => .inl h⟩
 simp only [execOp, resolve, invoke, builtin, Sem.run_bind, Sem.run_pure, Result.andThen_ok, List.map_toArray, List.map_cons, List.map_nil, ha.ev hs, ha.ev hx, List.length_nil, hrun]
end
end Go.Wx
end
section
namespace Go.Wx
open Go.RowKit
def bv (b : UInt8) : Value := .int .u8 (b.toNat : Int)
section
variable {P : Program} {n : Nat} {ds : List Deferred} {l : Env} {w : World} {d : Option Tmp} {ty : TypeId} {ps : String} {af : Array Edge} {g : Option (Nat × Bool)}
theorem PEv.K9 {T e : TypeId} {x hi : Operand} {ad : Option Addr} {k m cap j : Nat} (hT : P.underlying T = some (.slice e)) (hs : ∀ w, (sizeOf e).run P w = .ok k w) (hx : Val l x (.slice ad m cap)) (hl : Val l hi (.int .i64 (j : Int))) (hj : j ≤ cap) :
   PEv P n ds l w ⟨d, .slice T x none (some hi) none, ty, ps, af, g⟩ (.slice ad j cap) := fun a w' ha _ => by
 refine A9 ?_
 rw [ha.ev hx]
 simp only [Option.map_none, Option.map_some, ha.ev hl]
 have h1 : (0 : Int) ≤ (j : Int) ∧ (j : Int) ≤ (cap : Int) := ⟨by omega, by omega⟩
 cases ad with
 | none => simp [Instr.sliceAt, Instr.slice, Instr.sliceBounds, Instr.sliceBound, asIntOf, run_underlying hT, Result.andThen, h1, hs, hj]
 | some a => simp [Instr.sliceAt, Instr.slice, Instr.sliceBounds, Instr.sliceBound, asIntOf, run_underlying hT, Result.andThen, h1, hs, Addr.add, hj]
theorem Qo {T T' : TypeId} {x y : Operand} {a b : ByteArray} (hx : Val l x (.string a)) (hy : Val l y (.string b)) : PEv P n ds l w ⟨d, .binOp .eql T x y T', ty, ps, af, g⟩ (.bool (a.toList == b.toList)) := fun ac w' ha _ => by
 refine A9 ?_
 rw [ha.ev hx, ha.ev hy, Sem.run_bind]
 have : (eqGuard .eql T x y (.string a) (.string b)).run P w' = .ok () w' := by unfold eqGuard; rfl
 rw [this]
 show (binOp .eql T (.string a) (.string b)).run P w' = _
 rw [binOp_string_eql]; rfl
theorem PEv.tG {T T' : TypeId} {x y : Operand} {a b : ByteArray} (hx : Val l x (.string a)) (hy : Val l y (.string b)) : PEv P n ds l w ⟨d, .binOp .neq T x y T', ty, ps, af, g⟩ (.bool (!(a.toList == b.toList))) := fun ac w' ha _ => by
 refine A9 ?_
 rw [ha.ev hx, ha.ev hy, Sem.run_bind]
 have : (eqGuard .neq T x y (.string a) (.string b)).run P w' = .ok () w' := by unfold eqGuard; rfl
 rw [this]
 simp [binOp, Op.stringOp]
def Nc (old : Array Value) (o : Nat) (cs : List Value) : Array Value := (old.toList.take o ++ cs ++ old.toList.drop (o + cs.length)).toArray
theorem Sm {T TT : TypeId} {x y : Operand} {B k o : Nat} {cs old : Array Value} (hs : ∀ w, (sizeOf T).run P w = .ok k w) (hk : cs.size = k) (hx : Val l x (.pointer (some ⟨B, o, none⟩))) (hy : Val l y (.agg cs)) (h1 : cs.all (·.oneCell') = true) (hb : Blk w B old TT) (ho : o + cs.size ≤ old.size) :
   SEv P n ds l w ⟨none, .store T x y, ty, ps, af, g⟩ (fun w' => Set_ w w' B (Nc old o cs.toList) TT) := fun a ha => by
 have hst := run_storeCells_at P B o TT cs.toList 0 old w hb (by rw [Array.length_toList]; omega) (fun v hv => (Array.all_eq_true_iff_forall_mem.1 h1) v (by simpa using hv))
 refine ⟨w.setRow B (Nc old o cs.toList), Kc ?_, Set_.setRow hb⟩
 rw [ha.ev hx, ha.ev hy]
 simp only [Instr.storeAt, Instr.sureAddr, Sem.run_bind, Sem.run_pure, Result.andThen, storeVar, hs, Value.cells]
 rw [Nat.add_zero] at hst
 simp only [hk, Nc]
 rw [if_neg (by simp), hst]
theorem PEv.tr {o : Oper} {b : Bool} (h : PEv P n ds l w o (.bool b)) (e : b = true) : PEv P n ds l w o (.bool true) := e ▸ h
theorem PEv.fa {o : Oper} {b : Bool} (h : PEv P n ds l w o (.bool b)) (e : b = false) : PEv P n ds l w o (.bool false) := e ▸ h
theorem PEv.Nd {T T' : TypeId} {x y : Operand} {i j : Nat} (hx : Val l x (.int .i64 (i : Int))) (hy : Val l y (.int .i64 (j : Int))) (h : i + j < 9223372036854775807) : PEv P n ds l w ⟨d, .binOp .add T x y T', ty, ps, af, g⟩ (.int .i64 ((i + j : Nat) : Int)) := by
 have := PEv.add (P := P) (n := n) (ds := ds) (l := l) (w := w) (d := d) (ty := ty) (ps := ps) (af := af) (g := g) (T := T) (T' := T') hx hy oQ oQ
 rw [Int.natCast_add]; exact this
theorem PEv.jN {x y : Operand} {ts : Array TypeId} {i j : Nat} (hx : Val l x (.int .i64 (i : Int))) (hy : Val l y (.int .i64 (j : Int))) :
   PEv P n ds l w ⟨d, .call { callee := .builtin .min, args := #[x, y], argTypes := ts }, ty, ps, af, g⟩ (.int .i64 ((min i j : Nat) : Int)) := by
 have := PEv.min2 (P := P) (n := n) (ds := ds) (l := l) (w := w) (d := d) (ty := ty) (ps := ps) (af := af) (g := g) (ts := ts) hx hy
 have e : (if (j : Int) < (i : Int) then (j : Int) else (i : Int)) = ((min i j : Nat) : Int) := by split <;> omega
 rw [e] at this; exact this
theorem PEv.CR {T : TypeId} {x : Operand} {i : Int} (hx : Val l x (.int .i64 i)) (h1 : -9223372036854775808 ≤ -i) (h2 : -i ≤ 9223372036854775807) : PEv P n ds l w ⟨d, .unOp .neg T x, ty, ps, af, g⟩ (.int .i64 (-i)) := fun a w' ha _ => by
 refine A9 ?_
 rw [ha.ev hx]
 simp [Op.unary, Op.intArith, Dt h1 h2]
end
end Go.Wx
end
section
namespace Go.Wx
open Go.RowKit
section
variable (R : Option Nat) (m : Nat) (P : Program) (n : Nat) (ds : List Deferred)
def DK (ops : Array Oper) (Q : Exit → Go.Act → World → Prop) (s : Nat) (l : Env) (w : World) : Prop := ∀ (fuel : Nat) (listed : Array Bool) (a : Go.Act), ops.size - s ≤ fuel → sV ops s listed → Ag n ds l a w → wpAnyIn (FR R) m P .any ops Q fuel listed a w
end
def J7 (ops : Array Oper) (k : Nat) : Bool :=
 (List.range ops.size).all fun i => !Nat.ble (k + 1) i || (match ops[i]? with | none => false | some o => o.after.any fun e => Region.binds .any e && Nat.ble k e.on)
def DG (n : Nat) (ops : Array Oper) (s k : Nat) : Bool := (List.range k).all fun i => !Nat.ble s i || (match ops[i]? with
 | none => false
 | some o => match o.dst with
   | none => false
   | some d => Nat.ble (d + 1) n && (List.range k).all fun j => !Nat.ble s j || (Nat.beq i j || (match ops[j]? with | none => true | some p => !(p.dst == some d))))
theorem L9 : ∀ {l : Env} {i : Nat} {ph : Ph}, lk l i = some ph → (i, ph) ∈ l
 | [], _, _, h => by cases h
 | (j, q) :: l, i, ph, h => by
   by_cases e : i = j
   · subst e; rw [Ap] at h; cases h; exact List.mem_cons_self
   rw [Au e] at h; exact List.mem_cons_of_mem _ (L9 h)
section
variable {R : Option Nat} {m : Nat} {P : Program} {n : Nat} {ds : List Deferred} {Q : Exit → Go.Act → World → Prop} {l : Env} {w : World} {ops : Array Oper}
theorem jO {k : Nat} (h : J7 ops k = true) {i : Nat} {o : Oper} (ho : ops[i]? = some o) (hk : k < i) : ∃ e ∈ o.after, Region.binds .any e = true ∧ k ≤ e.on := by
 have hi : i < ops.size := (Array.getElem?_eq_some_iff.1 ho).1
 have h1 := List.all_eq_true.1 h i (List.mem_range.2 hi)
 have hb : Nat.ble (k + 1) i = true := Nat.ble_eq_true_of_le hk
 simp only [ho, hb, Bool.not_true, Bool.false_or] at h1
 obtain ⟨e, he, hh⟩ := Array.any_eq_true.1 h1
 simp only [Bool.and_eq_true] at hh
 exact ⟨_, Array.getElem_mem he, hh.1, Nat.le_of_ble_eq_true hh.2⟩
theorem Ff {id : Nat} {opsL : List Oper} (hm : P.follows .mixedOrders = true) (hl : Cd l = true) (h : DK R m P n ds opsL.toArray Q 0 l w.drew) : CW R m P n ds (.region id opsL.toArray true) Q l w := fun a ha =>
 wpIn_region_any hm (h _ _ a (by simp) ⟨by simp, fun j hj => by
   rw [Array.getD_eq_getD_getElem?, Array.getElem?_replicate]
   split <;> rfl⟩ (ha.world hl _))
def allL (p : Nat → Oper → Prop) : Nat → List Oper → Prop
 | _, [] => True
 | i, o :: r => p i o ∧ allL p (i + 1) r
theorem allL.nil {p : Nat → Oper → Prop} {i : Nat} : allL p i [] := trivial
theorem allL.cons {p : Nat → Oper → Prop} {i : Nat} {o : Oper} {r : List Oper} (h : p i o) (k : allL p (i + 1) r) : allL p i (o :: r) := ⟨h, k⟩
abbrev aC := @allL.cons
theorem allL.at {p : Nat → Oper → Prop} : ∀ {r : List Oper} {i j : Nat} {o : Oper}, allL p i r → r[j]? = some o → p (i + j) o
 | [], _, _, _, _, h => by cases h
 | x :: r, i, 0, o, hp, h => by
   rw [List.getElem?_cons_zero] at h
   cases h; exact hp.1
 | x :: r, i, j + 1, o, hp, h => by
   rw [List.getElem?_cons_succ] at h
   have := allL.at hp.2 h
   rwa [show i + 1 + j = i + (j + 1) by omega] at this
def Kj (base : Env) (r : List Oper) : Bool := r.all fun o => match o.dst with | none => true | some d => (lk base d).isNone
theorem Gm {base : Env} {r : List Oper} (h : Kj base r = true) {i : Nat} {ph : Ph} (hi : lk base i = some ph) {o : Oper} (ho : o ∈ r) : o.dst ≠ some i := by
 intro e
 have := List.all_eq_true.1 h o ho
 simp [e, hi] at this
end
end Go.Wx
end
section
namespace Go.Wx
open Go.RowKit Go.MapKept
structure Cel (w w' : World) : Prop where
 size : w.heap.size ≤ w'.heap.size
 cell : ∀ ad v, w.cell? ad = some v → w'.cell? ad = some v
 blk : ∀ (b : Nat) (cs : Array Value) (T : TypeId) (x : Nat × Nat), w.heap[b]? = some (Obj.cells cs T x) → w'.heap[b]? = some (Obj.cells cs T x)
section
variable (R : Option Nat) (m : Nat) (P : Program) (n : Nat) (ds : List Deferred)
def DH (o : Oper) (a : Go.Act) (w : World) (Post : Value → World → Prop) : Prop := jH P o a w Post ∨ (∃ w', (execOp a.eval o).run P w = .ok .skip w' ∧ Post undef w')
def TG (ops : Array Oper) (env : Env) (f : Nat → Value) (w : World) (o : Oper) (Post : Value → World → Prop) : Prop := ∀ a, Ag n ds env a w → (∀ t, a.tmps.getD t undef = f t) → if Region.wanted o (yielded ops a.tmps) = true then DH P o a w Post else Post undef w
def AWF (ops : Array Oper) (Q : Exit → Go.Act → World → Prop) (s : Nat) (l : Env) (f : Nat → Value) (w : World) : Prop := ∀ (fuel : Nat) (listed : Array Bool) (a : Go.Act), ops.size - s ≤ fuel → sV ops s listed → Ag n ds l a w → (∀ t, a.tmps.getD t undef = f t) → wpAnyIn (FR R) m P .any ops Q fuel listed a w
end
def Hb (n : Nat) (ops : Array Oper) (s k : Nat) : Bool := (List.range k).all fun i => !Nat.ble s i || (match ops[i]? with
 | none => false
 | some o => match o.dst with
   | none => true
   | some d => Nat.ble (d + 1) n && (List.range k).all fun j => !Nat.ble s j || (Nat.beq i j || (match ops[j]? with | none => true | some p => !(p.dst == some d))))
def Lx (ops : Array Oper) (ph : Nat → Ph) (s : Nat) (o : Oper) : Env := o.after.toList.filterMap fun e => if (Region.binds .any e && Nat.ble s e.on) = true then ((ops[e.on]?).bind (·.dst)).map fun d => (d, ph e.on) else none
def H6 (ops : Array Oper) (ph : Nat → Ph) (s k : Nat) : Env := (List.range k).filterMap fun j => if Nat.ble s j = true then ((ops[j]?).bind (·.dst)).map fun d => (d, ph j) else none
def DI (ops : Array Oper) (L : Nat → Bool) : Prop := ∀ (i : Nat) (o : Oper), ops[i]? = some o → L i = true → ∀ e ∈ o.after, Region.binds .any e = true → L e.on = true
def Cp (L : Nat → Bool) (i : Nat) : Nat → Bool := fun j => if j = i then true else L j
def E9 (f : Nat → Value) (d : Option Nat) (v : Value) : Nat → Value := fun t => if d = some t then v else f t
section
variable {R : Option Nat} {m : Nat} {P : Program} {n : Nat} {ds : List Deferred} {Q : Exit → Go.Act → World → Prop} {l : Env} {w : World} {ops : Array Oper}
theorem Di {s k : Nat} (h : Hb n ops s k = true) {i : Nat} {o : Oper} {d : Nat} (hs : s ≤ i) (hk : i < k) (ho : ops[i]? = some o) (hd : o.dst = some d) : d < n ∧ ∀ (j : Nat) (p : Oper), s ≤ j → j < k → j ≠ i → ops[j]? = some p → p.dst ≠ some d := by
 have h1 := List.all_eq_true.1 h i (List.mem_range.2 hk)
 have hb : Nat.ble s i = true := Nat.ble_eq_true_of_le hs
 simp only [hb, Bool.not_true, Bool.false_or, ho, hd] at h1
 simp only [Bool.and_eq_true] at h1
 refine ⟨Nat.le_of_ble_eq_true h1.1, fun j p hj hjk hne hp => ?_⟩
 have h2 := List.all_eq_true.1 h1.2 j (List.mem_range.2 hjk)
 have hb' : Nat.ble s j = true := Nat.ble_eq_true_of_le hj
 have hb2 : Nat.beq i j = false := by
   cases e : Nat.beq i j with
   | false => rfl
   | true => exact absurd (Nat.eq_of_beq_eq_true e).symm hne
 simp only [hb', Bool.not_true, Bool.false_or, hb2, hp] at h2
 intro e
 rw [e] at h2
 simp at h2
theorem tH {ph : Nat → Ph} {s : Nat} {o : Oper} {t : Nat} {q : Ph} (h : lk (Lx ops ph s o) t = some q) : ∃ e ∈ o.after, Region.binds .any e = true ∧ s ≤ e.on ∧ ∃ p, ops[e.on]? = some p ∧ p.dst = some t ∧ q = ph e.on := by
 have h1 := L9 h
 unfold Lx at h1
 rw [List.mem_filterMap] at h1
 obtain ⟨e, he, h2⟩ := h1
 split at h2
 · rename_i hc
   simp only [Bool.and_eq_true] at hc
   cases hp : ops[e.on]? with
   | none => rw [hp] at h2; cases h2
   | some p =>
     rw [hp] at h2
     cases hd : p.dst with
     | none => simp [hd] at h2
     | some d =>
       simp [hd] at h2
       obtain ⟨rfl, rfl⟩ := h2
       exact ⟨e, by simpa using he, hc.1, Nat.le_of_ble_eq_true hc.2, p, hp, hd, rfl⟩
 cases h2
theorem Fk {ph : Nat → Ph} {s k : Nat} {t : Nat} {q : Ph} (h : lk (H6 ops ph s k) t = some q) : ∃ j p, s ≤ j ∧ j < k ∧ ops[j]? = some p ∧ p.dst = some t ∧ q = ph j := by
 have h1 := L9 h
 unfold H6 at h1
 rw [List.mem_filterMap] at h1
 obtain ⟨j, hj, h2⟩ := h1
 split at h2
 · rename_i hc
   cases hp : ops[j]? with
   | none => rw [hp] at h2; cases h2
   | some p =>
     rw [hp] at h2
     cases hd : p.dst with
     | none => simp [hd] at h2
     | some d =>
       simp [hd] at h2
       obtain ⟨rfl, rfl⟩ := h2
       exact ⟨j, p, Nat.le_of_ble_eq_true hc, List.mem_range.1 hj, hp, hd, rfl⟩
 cases h2
theorem jP {o : Oper} {a : Go.Act} {Post : Value → World → Prop} {K : Go.Act → World → Prop} {w : World} (h : DH P o a w Post) (hk : ∀ v w', Post v w' → K (a.put o.dst v) w') : o.wpIn (FR R) m P a w K Q := by
 rcases h with h | ⟨w', hr, hp⟩
 · exact Ke h hk
 exact O9 hr (hk _ w' hp)
theorem AWF.gen {s k : Nat} {base : Env} (ph : Nat → Ph) (Rel : World → World → Prop) (Inv : (Nat → Bool) → (Nat → Value) → World → Prop) {f0 : Nat → Value}
   (hrefl : ∀ w, Rel w w) (htr : ∀ w w1 w2, Rel w w1 → Rel w1 w2 → Rel w w2) (hph : ∀ i v w w', (ph i).holds v w → Rel w w' → (ph i).holds v w')
   (hA : Dz ops = true) (hC : (Nat.beq k ops.size || Ft ops k) = true) (hF : J7 ops k = true) (hks : Nat.ble k ops.size = true) (hsk : Nat.ble s k = true)
   (hD : Hb n ops s k = true) (hbp : Cd base = true) (hbd : ∀ i ph, lk base i = some ph → ∀ (j : Nat) (o : Oper), s ≤ j → j < k → ops[j]? = some o → o.dst ≠ some i)
   (hop : ∀ i o, s ≤ i → i < k → ops[i]? = some o → ∀ L f W, Rel w W → DI ops L → L i = false → (∀ e ∈ o.after, Region.binds .any e = true → L e.on = true) → Inv L f W →
     TG P n ds ops (Lx ops ph s o ++ base) f W o (fun v W' => Rel W W' ∧ (∀ d, o.dst = some d → (ph i).holds v W') ∧ Inv (Cp L i) (E9 f o.dst v) W'))
   (hw : Inv (fun j => decide (j < s)) f0 w) (hend : ∀ f W, Rel w W → Inv (fun j => decide (j < k)) f W → AWF R m P n ds ops Q k (H6 ops ph s k ++ base) f W) : AWF R m P n ds ops Q s base f0 w := by
 have hks : k ≤ ops.size := Nat.le_of_ble_eq_true hks
 have hsk : s ≤ k := Nat.le_of_ble_eq_true hsk
 suffices H : ∀ (fuel : Nat) (listed : Array Bool) (a : Go.Act) (f : Nat → Value) (W : World), listed.size = ops.size → listed.toList.countP (· == false) ≤ fuel → (∀ j, j < s → listed.getD j false = true) → (∀ j, k ≤ j → j < ops.size → listed.getD j false = false) → Dn ops listed → Ag n ds base a W → (∀ t, a.tmps.getD t undef = f t) → Rel w W →
     (∀ (j : Nat) (o : Oper) (d : Nat), s ≤ j → j < k → ops[j]? = some o → o.dst = some d → listed.getD j false = true → (ph j).holds (f d) W) → Inv (fun j => listed.getD j false) f W → wpAnyIn (FR R) m P .any ops Q fuel listed a W by
   intro fuel listed a hf hu ha hsl
   have hno : ∀ j, s ≤ j → j < ops.size → listed.getD j false = false := fun j h1 h2 => by rw [hu.2 j h2]; simpa using h1
   have hyes : ∀ j, j < s → listed.getD j false = true := fun j h1 => by rw [hu.2 j (by omega)]; simpa using h1
   refine H fuel listed a f0 w hu.1 ?_ hyes (fun j h1 h2 => hno j oQ h2) ?_ ha hsl (hrefl w) ?_ ?_
   · have e : listed.toList = listed.toList.take s ++ listed.toList.drop s := (List.take_append_drop s _).symm
     rw [e, List.countP_append]
     have z1 : (listed.toList.take s).countP (· == false) = 0 := by
       rw [List.countP_eq_zero]
       intro b hb
       obtain ⟨j, hj, he⟩ := List.mem_iff_getElem.1 hb
       rw [List.getElem_take] at he
       have hj' : j < s := by simp at hj; omega
       have hj2 : j < listed.size := by simp at hj; omega
       have := hyes j hj'
       rw [Array.getD_eq_getD_getElem?] at this
       simp only [hj2, Array.getElem?_eq_getElem, Option.getD_some] at this
       rw [← he]
       simp [this]
     have z2 : (listed.toList.drop s).countP (· == false) ≤ (listed.toList.drop s).length := List.countP_le_length
     have z3 : (listed.toList.drop s).length = ops.size - s := by simp [hu.1]
     omega
   · intro i o ho hli e he hb
     have hi : i < ops.size := (Array.getElem?_eq_some_iff.1 ho).1
     have his : i < s := by
       rcases Nat.lt_or_ge i s with h | h
       · exact h
       rw [hno i h hi] at hli; cases hli
     exact hyes _ (by have := Ej hA ho e he hb; omega)
   · intro j o d hj hjk ho _ hlj
     rw [hno j hj (by omega)] at hlj
     cases hlj
   have e : (fun j => listed.getD j false) = fun j => decide (j < s) := by
     funext j
     rcases Nat.lt_or_ge j ops.size with h | h
     · exact hu.2 j h
     have := hu.1
     rw [Array.getD_eq_getD_getElem?, Array.getElem?_eq_none oQ, decide_eq_false (by omega)]
     rfl
   rw [e]
   exact hw
 have last : ∀ (fuel : Nat) (listed : Array Bool) (a : Go.Act) (f : Nat → Value) (W : World), listed.size = ops.size → listed.toList.countP (· == false) ≤ fuel → (∀ j, k ≤ j → j < ops.size → listed.getD j false = false) → Ag n ds base a W → (∀ t, a.tmps.getD t undef = f t) → Rel w W →
     (∀ (j : Nat) (o : Oper) (d : Nat), s ≤ j → j < k → ops[j]? = some o → o.dst = some d → listed.getD j false = true → (ph j).holds (f d) W) → Inv (fun j => listed.getD j false) f W → (∀ j, j < k → listed.getD j false = true) → wpAnyIn (FR R) m P .any ops Q fuel listed a W := by
   intro fuel listed a f W hs hc hno ha hsl hR hI hSt hall
   have e : (fun j => listed.getD j false) = fun j => decide (j < k) := by
     funext j
     rcases Nat.lt_or_ge j k with h | h
     · rw [hall j h, decide_eq_true h]
     rcases Nat.lt_or_ge j ops.size with h' | h'
     · rw [hno j h h', decide_eq_false (by omega)]
     rw [Array.getD_eq_getD_getElem?, Array.getElem?_eq_none oQ, decide_eq_false (by omega)]
     rfl
   rw [e] at hSt
   refine hend f W hR hSt fuel listed a (Qm hs hc hno) ⟨hs, fun j hj => congrFun e j⟩ ⟨ha.defers, ha.size, fun t q ht => ?_⟩ hsl
   rcases Df ht with h | h
   · obtain ⟨j, p, hj, hjk, hp, hd, rfl⟩ := Fk h
     rw [hsl]
     exact hI j p t hj hjk hp hd (hall j hjk)
   exact ha.val t q h
 intro fuel
 induction fuel with
 | zero =>
   intro listed a f W hs hc hyes hno hDn ha hsl hR hI hSt
   refine last 0 listed a f W hs hc hno ha hsl hR hI hSt (fun j hj => ?_)
   have h0 : listed.toList.countP (· == false) = 0 := by omega
   rw [List.countP_eq_zero] at h0
   have hlt : j < listed.size := by omega
   have := h0 listed[j] (by simp)
   rw [Array.getD_eq_getD_getElem?]
   simp only [hlt, Array.getElem?_eq_getElem, Option.getD_some]
   simpa using this
 | succ fuel ih =>
   intro listed a f W hs hc hyes hno hDn ha hsl hR hI hSt
   by_cases hall : ∀ j, j < k → listed.getD j false = true
   · exact last (fuel + 1) listed a f W hs hc hno ha hsl hR hI hSt hall
   simp only [Classical.not_forall] at hall
   obtain ⟨c, hck, hcf⟩ := hall
   have hcf : listed.getD c false = false := by simpa using hcf
   refine ⟨fun hr => ?_, fun i hi => ?_⟩
   · exfalso
     obtain ⟨i, hi⟩ := L8 hA (k := k) oQ hs c hck hcf
     rw [hr] at hi
     cases hi
   obtain ⟨o, hio, hbi, hed⟩ := (E7 hs).1 hi
   have hi' : i < ops.size := (Array.getElem?_eq_some_iff.1 hio).1
   have hlt : i < listed.size := by omega
   have hsi : s ≤ i := by
     rcases Nat.lt_or_ge i s with h | h
     · rw [hyes i h] at hbi; cases hbi
     exact h
   have hik : i < k := by
     rcases Nat.lt_or_ge i k with h | h
     · exact h
     exfalso
     by_cases e : i = k
     · subst e
       rcases Bool.or_eq_true_iff.1 hC with hC | hC
       · have := Nat.eq_of_beq_eq_true hC; omega
       have := M7 hC hDn hio hed (i - c) c rfl hck
       rw [hcf] at this; cases this
     obtain ⟨e', he, hb, hon⟩ := jO hF hio oQ
     have h1 := hed e' he hb
     have h2 := Ej hA hio e' he hb
     rw [hno e'.on hon (by omega)] at h1
     cases h1
   have hag : Ag n ds (Lx ops ph s o ++ base) a W := by
     refine ⟨ha.defers, ha.size, fun t q ht => ?_⟩
     rcases Df ht with h | h
     · obtain ⟨e, he, hb, hse, p, hp, hpd, rfl⟩ := tH h
       rw [hsl]
       exact hI e.on p t hse (by have := Ej hA hio e he hb; omega) hp hpd (hed e he hb)
     exact ha.val t q h
   have eL : (fun j => (listed.setIfInBounds i true).getD j false) = Cp (fun j => listed.getD j false) i := by
     funext j
     rw [C8 hlt]
     rfl
   have key : ∀ (v : Value) (W' : World), Rel W W' ∧ (∀ d, o.dst = some d → (ph i).holds v W') ∧ Inv (Cp (fun j => listed.getD j false) i) (E9 f o.dst v) W' → wpAnyIn (FR R) m P .any ops Q fuel (listed.setIfInBounds i true) (a.put o.dst v) W' := by
     rintro v W' ⟨hRel, hv, hSt'⟩
     refine ih _ _ (E9 f o.dst v) W' (by simpa using hs) (Nb hlt hbi hc) ?_ ?_ (Ul hlt hio hed hDn) ?_ ?_ (htr _ _ _ hR hRel) ?_ (by rw [eL]; exact hSt')
     · intro j hj
       rw [C8 hlt]
       split
       · rfl
       exact hyes j hj
     · intro j hj hjs
       rw [C8 hlt, if_neg (by omega)]
       exact hno j hj hjs
     · cases hd : o.dst with
       | none => exact ha.world hbp W'
       | some d =>
         refine ⟨ha.defers, by simp [Go.Act.put, ha.size], fun t q ht => ?_⟩
         have hne' : t ≠ d := fun e => hbd t q ht i o hsi hik hio (by rw [hd, e])
         rw [Cz hne']
         exact E6 hbp ht (ha.val t q ht)
     · intro t
       cases hd : o.dst with
       | none => exact hsl t
       | some d =>
         by_cases e : t = d
         · subst e
           rw [Ei (by rw [ha.size]; exact (Di hD hsi hik hio hd).1)]
           simp [E9]
         rw [Cz e, hsl]
         simp [E9, Ne.symm e]
     intro j p d' hj hjk hp hpd hl
     by_cases e : j = i
     · subst e
       rw [hio] at hp; cases hp
       rw [hpd]
       simp only [E9, if_true]
       exact hv d' hpd
     rw [C8 hlt, if_neg e] at hl
     have hne' : o.dst ≠ some d' := fun ee => (Di hD hsi hik hio ee).2 j p hj hjk e hp hpd
     simp only [E9, if_neg hne']
     exact hph j _ _ _ (hI j p d' hj hjk hp hpd hl) hRel
   have top := hop i o hsi hik hio _ f W hR (fun i o ho hli e he hb => hDn i o ho hli e he hb) hbi hed hSt
   have top := top a hag hsl
   unfold wpOpIn
   rw [hio]
   dsimp only
   split
   · rename_i hw'
     rw [if_pos hw'] at top
     exact jP top key
   rename_i hw'
   rw [if_neg hw'] at top
   exact ⟨fun _ _ => trivial, key _ W top⟩
theorem Cel.refl (w : World) : Cel w w := ⟨Nat.le_refl _, fun _ _ h => h, fun _ _ _ _ h => h⟩
theorem Cel.trans {w w1 w2 : World} (h : Cel w w1) (k : Cel w1 w2) : Cel w w2 := ⟨Nat.le_trans h.size k.size, fun ad v hv => k.cell ad v (h.cell ad v hv), fun b cs T x hb => k.blk b cs T x (h.blk b cs T x hb)⟩
theorem Up.Fu {w w' : World} (u : Up w w') : Cel w w' := ⟨u.size, fun _ _ h => Gd h u, fun _ _ _ _ h => (u.block (lt_of_block h)).trans h⟩
theorem Sto.Fu {w w' : World} {b : Nat} (u : Sto b w w') (hz : w.heap.size ≤ w'.heap.size) (hb : ∀ ad v, ad.block = b → w.cell? ad ≠ some v) (hk : ∀ (cs : Array Value) (T : TypeId) (x : Nat × Nat), w.heap[b]? ≠ some (Obj.cells cs T x)) : Cel w w' := ⟨hz, fun ad v h => V0 h u (fun e => hb ad v e h), fun i cs T x h => (u.block i (lt_of_block h) (fun e => hk cs T x (e ▸ h))).trans h⟩
theorem IMap.Qp {w : World} {b : Nat} {kv : List (Int × Value)} (h : IMap w b kv) : ∀ ad v, ad.block = b → w.cell? ad ≠ some v := by
 intro ad v e hc
 obtain ⟨es, clock, h1, _⟩ := h
 unfold World.cell? at hc
 rw [e, h1] at hc
 cases hc
theorem IMap.Wd {w : World} {b : Nat} {kv : List (Int × Value)} (h : IMap w b kv) : ∀ (cs : Array Value) (T : TypeId) (x : Nat × Nat), w.heap[b]? ≠ some (Obj.cells cs T x) := by
 intro cs T x hc
 obtain ⟨es, clock, h1, _⟩ := h
 rw [h1] at hc
 cases hc
theorem AggAt.Fu {w w' : World} {B o : Nat} {cs : Array Value} (h : AggAt w B o cs) (k : Cel w w') : AggAt w' B o cs := fun j v hv => k.cell _ _ (h j v hv)
theorem Els.Fu {α : Type} {w w' : World} {ad : Option Addr} {k : Nat} {enc : α → Array Value} {xs : List α} (h : Els w ad k enc xs) (u : Cel w w') : Els w' ad k enc xs := fun i x hx => let ⟨B, o, h1, h2⟩ := h i x hx; ⟨B, o, h1, h2.Fu u⟩
theorem Sl.Fu {α : Type} {w w' : World} {v : Value} {k : Nat} {enc : α → Array Value} {xs : List α} (h : Sl w v k enc xs) (u : Cel w w') : Sl w' v k enc xs := let ⟨ad, c, h1, h2⟩ := h; ⟨ad, c, h1, Els.Fu h2 u⟩
theorem SEv.insert {ty : TypeId} {ps : String} {af : Array Edge} {g : Option (Nat × Bool)} {T K E : TypeId} {mo x y : Operand} {b : Nat} {k : Int} {v : Value} {kv : List (Int × Value)} (hT : P.underlying T = some (.map K E)) (hK : P.underlying K = some (.int .i64)) (hm : Val l mo (.map (some b))) (hx : Val l x (vi k)) (hy : Val l y v) (h : IMap w b kv) :
   SEv P n ds l w ⟨none, .insert T mo x y, ty, ps, af, g⟩ (fun w' => IMap w' b (D5 kv k v) ∧ Sto b w w' ∧ w'.heap.size = w.heap.size) := fun a ha =>
 SEv.mapUpdate (ty := ty) (ps := ps) (af := af) (g := g) hT hK hm hx hy h a ha
def yT (m0 ms : Nat) (J : List (Nat × Int × Nat)) (w0 : World) (L : Nat → Bool) (f : Nat → Value) (W : World) : Prop :=
 Up w0 W ∧ (L m0 = true → ∃ b kv, f ms = .map (some b) ∧ w0.heap.size ≤ b ∧ IMap W b kv ∧ kv.Perm ((J.filter fun j => L j.1).map fun j => (j.2.1, f j.2.2)))
def Qq (ops : Array Oper) (m0 : Nat) (J : List (Nat × Int × Nat)) : Bool :=
 J.all fun j => match ops[j.1]? with
   | none => false
   | some o => o.dst.isNone && (o.after.any fun e => Region.binds .any e && Nat.beq e.on m0) && (o.after.any fun e => Region.binds .any e && (match ops[e.on]? with | none => false | some p => p.dst == some j.2.2))
theorem G2 {m0 : Nat} {J : List (Nat × Int × Nat)} (h : Qq ops m0 J = true) {j : Nat × Int × Nat} (hj : j ∈ J) : ∃ o, ops[j.1]? = some o ∧ o.dst = none ∧ (∃ e ∈ o.after, Region.binds .any e = true ∧ e.on = m0) ∧ ∃ e ∈ o.after, Region.binds .any e = true ∧ ∃ p, ops[e.on]? = some p ∧ p.dst = some j.2.2 := by
 have h1 := List.all_eq_true.1 h j hj
 cases ho : ops[j.1]? with
 | none => simp [ho] at h1
 | some o =>
   simp only [ho, Bool.and_eq_true] at h1
   obtain ⟨⟨h2, h3⟩, h4⟩ := h1
   obtain ⟨e, he, hh⟩ := Array.any_eq_true.1 h3
   simp only [Bool.and_eq_true] at hh
   obtain ⟨e', he', hh'⟩ := Array.any_eq_true.1 h4
   simp only [Bool.and_eq_true] at hh'
   refine ⟨o, rfl, by simpa using h2, ⟨_, Array.getElem_mem he, hh.1, Nat.eq_of_beq_eq_true hh.2⟩, ⟨_, Array.getElem_mem he', hh'.1, ?_⟩⟩
   have h5 := hh'.2
   split at h5
   · cases h5
   rename_i p hp
   exact ⟨p, hp, by simpa using h5⟩
theorem Qr {J : List (Nat × Int × Nat)} {L : Nat → Bool} {i : Nat} (hn : i ∉ J.map (·.1)) : (J.filter fun j => Cp L i j.1) = J.filter fun j => L j.1 := by
 apply List.filter_congr
 intro j hj
 have : j.1 ≠ i := fun e => hn (e ▸ List.mem_map.2 ⟨j, hj, rfl⟩)
 simp [Cp, this]
theorem Qs : ∀ {J : List (Nat × Int × Nat)} {L : Nat → Bool} {i : Nat} {k : Int} {s : Nat}, (J.map (·.1)).Nodup → (i, k, s) ∈ J → L i = false → (J.filter fun j => Cp L i j.1).Perm ((i, k, s) :: J.filter fun j => L j.1)
 | [], _, _, _, _, _, h, _ => by cases h
 | x :: r, L, i, k, s, hn, h, hL => by
   obtain ⟨h1, h2⟩ := List.nodup_cons.1 (by simpa using hn : (x.1 :: r.map (·.1)).Nodup)
   rcases List.mem_cons.1 h with rfl | h
   · rw [List.filter_cons, List.filter_cons, if_pos (by simp [Cp]), if_neg (by simp [hL]), Qr h1]
   have hne : x.1 ≠ i := fun e => h1 (e ▸ List.mem_map.2 ⟨_, h, rfl⟩)
   have e : Cp L i x.1 = L x.1 := by simp [Cp, hne]
   have ih := Qs h2 h hL
   rw [List.filter_cons, List.filter_cons, e]
   split
   · exact (List.Perm.cons _ ih).trans (List.Perm.swap _ _ _)
   exact ih
theorem Qt {kv : List (Int × Value)} {k : Int} {v : Value} (h : k ∉ kv.map (·.1)) : D5 kv k v = kv ++ [(k, v)] := by rw [D5, if_neg h]
theorem pG {J : List (Nat × Int × Nat)} (hn : (J.map (·.2.1)).Nodup) {x y : Nat × Int × Nat} (hx : x ∈ J) (hy : y ∈ J) (h : x.2.1 = y.2.1) : x = y := by
 obtain ⟨i, hi, rfl⟩ := List.mem_iff_getElem.1 hx
 obtain ⟨j, hj, rfl⟩ := List.mem_iff_getElem.1 hy
 have := (List.getElem_inj (i := i) (j := j) (h₀ := by simpa using hi) (h₁ := by simpa using hj) hn).1 (by simpa using h)
 subst this; rfl
theorem AWF.Zg {k m0 ms T K E : Nat} {base : Env} {J : List (Nat × Int × Nat)} (ph : Nat → Ph) {f0 : Nat → Value} (hT : P.underlying T = some (.map K E)) (hK : P.underlying K = some (.int .i64))
   (hph : ∀ i v w w', (ph i).holds v w → Cel w w' → (ph i).holds v w') (hA : Dz ops = true) (hC : (Nat.beq k ops.size || Ft ops k) = true) (hF : J7 ops k = true) (hks : Nat.ble k ops.size = true)
   (hD : Hb n ops 0 k = true) (hbp : Cd base = true) (hbd : ∀ i ph, lk base i = some ph → ∀ (j : Nat) (o : Oper), 0 ≤ j → j < k → ops[j]? = some o → o.dst ≠ some i)
   (hlit : Qq ops m0 J = true) (hJi : (J.map (·.1)).Nodup) (hJk : (J.map (·.2.1)).Nodup) (hJl : ∀ j ∈ J, j.1 < k) (hm0k : m0 < k)
   (hm0 : ∃ ty ps, ops[m0]? = some ⟨some ms, .makeMap T none, ty, ps, #[], none⟩)
   (hins : ∀ j ∈ J, ∃ ty ps af, ops[j.1]? = some ⟨none, .insert T (.tmp ms) (.const (vi j.2.1)) (.tmp j.2.2), ty, ps, af, none⟩)
   (hmp : ∀ b W, (ph m0).holds (.map (some b)) W)
   (hop : ∀ i o, i < k → i ≠ m0 → i ∉ J.map (·.1) → ops[i]? = some o → o.guard = none ∧ ∀ W, Cel w W → ∀ a, Ag n ds (Lx ops ph 0 o ++ base) a W → jH P o a W (fun v W' => Up W W' ∧ (ph i).holds v W'))
   (hend : ∀ f W b kv, Up w W → f ms = .map (some b) → IMap W b kv → kv.Perm (J.map fun j => (j.2.1, f j.2.2)) → AWF R m P n ds ops Q k (H6 ops ph 0 k ++ base) f W) : AWF R m P n ds ops Q 0 base f0 w := by
 refine AWF.gen ph Cel (yT m0 ms J w) Cel.refl (fun _ _ _ => Cel.trans) hph hA hC hF hks (by simp) hD hbp hbd ?_ ⟨Up.refl w, fun h => by simp at h⟩ ?_
 · intro i o _ hik hio L f W hRel hDn hLi hed hInv
   obtain ⟨hUp, hInv⟩ := hInv
   by_cases e0 : i = m0
   · subst e0
     obtain ⟨ty, ps, hm0⟩ := hm0
     rw [hio] at hm0; cases hm0
     intro a ha hsl
     rw [if_pos (by simp [Region.wanted])]
     obtain ⟨v, W', hr, b, rfl, hM, hu, hb, hz⟩ := REv.makeMap (P := P) (n := n) (ds := ds) (l := Lx ops ph 0 _ ++ base) (w := W) (d := some ms) (ty := ty) (ps := ps) (af := #[]) (g := none) a ha
     refine .inl (.inl ⟨_, W', hr, hu.Fu, fun _ _ => hmp b W', hUp.trans hu, fun _ => ⟨b, [], ?_, ?_, hM, ?_⟩⟩)
     · simp [E9]
     · have := hUp.size; omega
     have : (J.filter fun j => Cp L i j.1) = [] := by
       rw [List.filter_eq_nil_iff]
       intro j hj
       obtain ⟨oj, hoj, _, ⟨e, he, hbe, hon⟩, _⟩ := G2 hlit hj
       intro hLj
       have hne : j.1 ≠ i := fun e' => by
         have := Ej hA hoj e he hbe
         omega
       have : L j.1 = true := by simpa [Cp, hne] using hLj
       have := hDn _ _ hoj this e he hbe
       rw [hon, hLi] at this; cases this
     rw [this]; exact List.Perm.nil
   by_cases ej : i ∈ J.map (·.1)
   · obtain ⟨⟨i', key, s⟩, hj, rfl⟩ := List.mem_map.1 ej
     obtain ⟨ty, ps, af, ho⟩ := hins _ hj
     rw [hio] at ho; cases ho
     intro a ha hsl
     rw [if_pos (by simp [Region.wanted])]
     obtain ⟨oj, hoj, _, ⟨e, he, hbe, hon⟩, ⟨e', he', hbe', p, hp, hpd⟩⟩ := G2 hlit hj
     rw [hio] at hoj; cases hoj
     obtain ⟨b, kv, h1, hb, hM, hperm⟩ := hInv (by rw [← hon]; exact hed e he hbe)
     have hag : Ag n ds [(s, .eq (f s)), (ms, .eq (.map (some b)))] a W := by
       refine ⟨ha.defers, ha.size, fun t q ht => ?_⟩
       by_cases e1 : t = s
       · subst e1; rw [Ap] at ht; cases ht; exact hsl _
       rw [Au e1] at ht
       by_cases e2 : t = ms
       · subst e2; rw [Ap] at ht; cases ht; exact (hsl _).trans h1
       rw [Au e2] at ht; cases ht
     have vm : Val [(s, .eq (f s)), (ms, .eq (.map (some b)))] (.tmp ms) (.map (some b)) := by
       by_cases e1 : ms = s
       · subst e1; exact .tmp (by rw [Ap, h1])
       exact .tmp (by rw [Au e1, Ap])
     obtain ⟨W', hr, hM', hsto, hz⟩ := SEv.insert (P := P) (n := n) (ds := ds) (w := W) (ty := ty) (ps := ps) (af := af) (g := none) hT hK vm (.const (vi key)) (.tmp Ap) hM a hag
     have hnk : key ∉ kv.map (·.1) := by
       intro hmem
       have := (hperm.map (·.1)).mem_iff.1 hmem
       rw [List.map_map] at this
       obtain ⟨j', hj', hk'⟩ := List.mem_map.1 this
       obtain ⟨hj1, hj2⟩ := List.mem_filter.1 hj'
       have : j' = (i', key, s) := pG hJk hj1 hj hk'
       rw [this, hLi] at hj2
       cases hj2
     rw [Qt hnk] at hM'
     refine .inr ⟨W', hr, hsto.Fu oQ hM.Qp hM.Wd, (fun d hd => by cases hd), hUp.sto hsto hb, fun _ => ⟨b, _, h1, hb, hM', ?_⟩⟩
     have := ((Qs hJi hj hLi).map fun j => (j.2.1, f j.2.2))
     refine List.Perm.trans ?_ this.symm
     rw [List.map_cons]
     exact (List.perm_append_comm).trans (List.Perm.cons _ hperm)
   obtain ⟨hg, hop⟩ := hop i o hik e0 ej hio
   intro a ha hsl
   rw [if_pos (by simp [Region.wanted, hg])]
   have done : ∀ v W', Up W W' ∧ (ph i).holds v W' → Cel W W' ∧ (∀ d, o.dst = some d → (ph i).holds v W') ∧ yT m0 ms J w (Cp L i) (E9 f o.dst v) W' := by
     rintro v W' ⟨hu, hv⟩
     refine ⟨hu.Fu, fun _ _ => hv, hUp.trans hu, fun hm => ?_⟩
     have hm' : L m0 = true := by simpa [Cp, Ne.symm e0] using hm
     obtain ⟨b, kv, h1, hb, hM, hperm⟩ := hInv hm'
     refine ⟨b, kv, ?_, hb, hM.up hu, ?_⟩
     · obtain ⟨ty, ps, hm0⟩ := hm0
       have : o.dst ≠ some ms := by
         intro ed
         exact (Di hD (Nat.zero_le _) hik hio ed).2 m0 _ (Nat.zero_le _) hm0k (Ne.symm e0) hm0 rfl
       simpa [E9, this] using h1
     rw [Qr ej]
     have : ((J.filter fun j => L j.1).map fun j => (j.2.1, E9 f o.dst v j.2.2)) = (J.filter fun j => L j.1).map fun j => (j.2.1, f j.2.2) := by
       refine List.map_congr_left fun j hj => ?_
       obtain ⟨hj1, hj2⟩ := List.mem_filter.1 hj
       obtain ⟨oj, hoj, _, _, ⟨e', he', hbe', p, hp, hpd⟩⟩ := G2 hlit hj1
       have hne : o.dst ≠ some j.2.2 := by
         intro ed
         have h2 := hDn _ _ hoj hj2 e' he' hbe'
         have h3 := Ej hA hoj e' he' hbe'
         by_cases ee : e'.on = i
         · rw [ee, hLi] at h2; cases h2
         exact (Di hD (Nat.zero_le _) hik hio ed).2 e'.on p (Nat.zero_le _) (by have := hJl j hj1; omega) ee hp hpd
       simp [E9, hne]
     rw [this]
     exact hperm
   rcases hop W hRel a ha with ⟨v, W', hr, hp⟩ | ⟨fn, args, w1, hr, hc⟩
   · exact .inl (.inl ⟨v, W', hr, done v W' hp⟩)
   exact .inl (.inr ⟨fn, args, w1, hr, hc.mono done⟩)
 intro f W hRel hInv
 obtain ⟨hUp, hInv⟩ := hInv
 obtain ⟨b, kv, h1, _, h2, h3⟩ := hInv (by simpa using hm0k)
 refine hend f W b kv hUp h1 h2 ?_
 rwa [List.filter_eq_self.2 (fun j hj => by simpa using hJl j hj)] at h3
def PhC (q : Ph) : Prop := ∀ v w w', q.holds v w → Cel w w' → q.holds v w'
theorem PhC.eq (v : Value) : PhC (.eq v) := fun _ _ _ h _ => h
theorem PhC.pred {p : Value → World → Prop} (h : ∀ v w w', p v w → Cel w w' → p v w') : PhC (.pred p) := h
def allC : List Ph → Prop
 | [] => True
 | q :: r => PhC q ∧ allC r
theorem allC.at : ∀ {l : List Ph}, allC l → ∀ i, PhC (l.getD i (.eq undef))
 | [], _, _ => by simpa using PhC.eq undef
 | _ :: _, h, 0 => by simpa using h.1
 | _ :: _, h, i + 1 => by simpa using allC.at h.2 i
theorem G3 : ∀ {l r : Env} {t : Nat}, lk l t = none → lk (l ++ r) t = lk r t
 | [], _, _, _ => rfl
 | (j, q) :: l, r, t, h => by
   by_cases e : t = j
   · subst e; rw [Ap] at h; cases h
   rw [Au e] at h
   rw [List.cons_append, Au e]
   exact G3 h
theorem Lc : ∀ {l r : Env} {t : Nat} {q : Ph}, lk l t = some q → lk (l ++ r) t = some q
 | [], _, _, _, h => by cases h
 | (j, q') :: l, r, t, q, h => by
   by_cases e : t = j
   · subst e; rw [Ap] at h; cases h; rw [List.cons_append, Ap]
   rw [Au e] at h
   rw [List.cons_append, Au e]
   exact Lc h
theorem Hx : ∀ {l : Env} {t : Nat} {q : Ph}, (t, q) ∈ l → ∃ q', lk l t = some q'
 | [], _, _, h => by cases h
 | (j, q') :: l, t, q, h => by
   by_cases e : t = j
   · subst e; exact ⟨q', Ap⟩
   rw [Au e]
   rcases List.mem_cons.1 h with h | h
   · cases h; exact absurd rfl e
   exact Hx h
def TU (P : Program) (n : Nat) (ds : List Deferred) (env : Env) (W : World) (o : Oper) (q : Ph) : Prop := ∀ a, Ag n ds env a W → jH P o a W (fun v W' => Up W W' ∧ q.holds v W')
theorem TU.p {env : Env} {o : Oper} {v : Value} {q : Ph} (h : PEv P n ds env w o v) (hx : q.holds v w) : TU P n ds env w o q := fun a ha => .inl ⟨v, w, h a w ha (Up.refl w), Up.refl w, hx⟩
theorem TU.r {env : Env} {o : Oper} {q : Ph} {Post : Value → World → Prop} (h : REv P n ds env w o Post) (hx : ∀ v W', Post v W' → Up w W' ∧ q.holds v W') : TU P n ds env w o q := fun a ha =>
 let ⟨v, W', hr, hp⟩ := h a ha
 .inl ⟨v, W', hr, hx v W' hp⟩
theorem TU.c {env : Env} {o : Oper} {q : Ph} {f : FuncId} {args : Array Value} {Post : Value → World → Prop} (he : ∀ a, Ag n ds env a w → (execOp a.eval o).run P w = .ok (.enter f args) w) (hc : Ret P f args w Post) (hx : ∀ v W', Post v W' → Up w W' ∧ q.holds v W') : TU P n ds env w o q := fun a ha =>
 .inr ⟨f, args, w, he a ha, hc.mono hx⟩
theorem TU.open {env : Env} {o : Oper} {q : Ph} {d : Nat} {p : Value → World → Prop} (hp : lk env d = some (.pred p)) (h : ∀ v, p v w → TU P n ds ((d, .eq v) :: env) w o q) : TU P n ds env w o q := fun a ha =>
 h _ (ha.val d _ hp) a ⟨ha.defers, ha.size, fun i ph hi => by
   by_cases e : i = d
   · subst e
     rw [Ap] at hi
     cases hi
     rfl
   rw [Au e] at hi
   exact ha.val i ph hi⟩
theorem CW.Zg {id : Nat} {opsL : List Oper} (k m0 ms : Nat) (J : List (Nat × Int × Nat)) (Et : List Ph) {T K E : Nat} (hT : P.underlying T = some (.map K E)) (hK : P.underlying K = some (.int .i64)) (hm : P.follows .mixedOrders = true) (hl : Cd l = true)
   (hA : Dz opsL.toArray = true) (hC : (Nat.beq k opsL.toArray.size || Ft opsL.toArray k) = true) (hF : J7 opsL.toArray k = true) (hks : Nat.ble k opsL.toArray.size = true) (hD : Hb n opsL.toArray 0 k = true) (hlit : Qq opsL.toArray m0 J = true) (hTl : Gl opsL.toArray k = true)
   (hfree : Kj l (opsL.take k) = true) (hJ : (decide (J.map (·.1)).Nodup && (decide (J.map (·.2.1)).Nodup && (J.all fun j => Nat.ble (j.1 + 1) k) && Nat.ble (m0 + 1) k)) = true)
   (hm0 : ∃ ty ps, opsL[m0]? = some ⟨some ms, .makeMap T none, ty, ps, #[], none⟩) (hph : allC Et) (hmp : ∀ b W, (Et.getD m0 (.eq undef)).holds (.map (some b)) W)
   (hop : ∀ W, Cel w.drew W → allL (fun i o => (i = m0 ∨ (J.any fun j => Nat.beq j.1 i) = true ∧ ∀ j ∈ J, j.1 = i → ∃ ty ps af, o = ⟨none, .insert T (.tmp ms) (.const (vi j.2.1)) (.tmp j.2.2), ty, ps, af, none⟩) ∨ (o.guard = none ∧ (J.any fun j => Nat.beq j.1 i) = false ∧ TU P n ds (Lx opsL.toArray (fun i => Et.getD i (.eq undef)) 0 o ++ l) W o (Et.getD i (.eq undef)))) 0 (opsL.take k))
   (hend : ∀ W b kv (g : Nat → Value), Up w.drew W → IMap W b kv → kv.Perm (J.map fun j => (j.2.1, g j.2.2)) → (∀ i o d, i < k → opsL[i]? = some o → o.dst = some d → (Et.getD i (.eq undef)).holds (g d) W) → LW R m P n ds opsL.toArray Q (opsL.drop k) ((ms, .eq (.map (some b))) :: l) W) :
   CW R m P n ds (.region id opsL.toArray true) Q l w := by
 simp only [Bool.and_eq_true, decide_eq_true_eq] at hJ
 obtain ⟨hJi, ⟨hJk, hJl⟩, hm0k⟩ := hJ
 have hks' : k ≤ opsL.length := by have := Nat.le_of_ble_eq_true hks; simp at this; omega
 have hJl' : ∀ j ∈ J, j.1 < k := fun j hj => Nat.le_of_ble_eq_true (List.all_eq_true.1 hJl j hj)
 have sub : ∀ j o, j < k → opsL.toArray[j]? = some o → (opsL.take k)[j]? = some o := fun j o hjk ho => by
   rw [List.getElem?_take_of_lt hjk]; simpa using ho
 have hbd : ∀ i ph, lk l i = some ph → ∀ (j : Nat) (o : Oper), 0 ≤ j → j < k → opsL.toArray[j]? = some o → o.dst ≠ some i := fun i ph hi j o _ hjk ho => Gm hfree hi (List.mem_of_getElem? (sub j o hjk ho))
 have any_iff : ∀ i, (J.any fun j => Nat.beq j.1 i) = true ↔ i ∈ J.map (·.1) := fun i => by
   rw [List.any_eq_true, List.mem_map]
   exact ⟨fun ⟨j, hj, h⟩ => ⟨j, hj, Nat.eq_of_beq_eq_true h⟩, fun ⟨j, hj, h⟩ => ⟨j, hj, by rw [h]; simp⟩⟩
 refine Ff hm hl fun fuel listed a hf hu ha => (AWF.Zg (T := T) (K := K) (E := E) (m0 := m0) (ms := ms) (J := J) (k := k) (fun i => Et.getD i (.eq undef)) (f0 := fun t => a.tmps.getD t undef) hT hK (fun i v w w' h u => (hph.at i) v w w' h u) hA hC hF hks hD hl hbd hlit hJi hJk hJl' (Nat.le_of_ble_eq_true hm0k) (by simpa using hm0) ?_ hmp ?_ ?_ fuel listed a hf hu ha (fun _ => rfl))
 · intro j hj
   obtain ⟨oj, hoj, _⟩ := G2 hlit hj
   have := (hop w.drew (Cel.refl _)).at (sub j.1 oj (hJl' j hj) hoj)
   rw [Nat.zero_add] at this
   rcases this with (e | ⟨_, h⟩) | ⟨_, h, _⟩
   · exfalso
     obtain ⟨ty, ps, hm0⟩ := hm0
     obtain ⟨o', ho', hd', _⟩ := G2 hlit hj
     rw [e] at ho'
     have : opsL[m0]? = some o' := by simpa using ho'
     rw [hm0] at this; cases this; cases hd'
   · obtain ⟨ty, ps, af, ho⟩ := h j hj rfl
     exact ⟨ty, ps, af, by rw [hoj, ho]⟩
   rw [(any_iff j.1).2 (List.mem_map.2 ⟨j, hj, rfl⟩)] at h; cases h
 · intro i o hik hne hnj ho
   have h0 := (hop w.drew (Cel.refl _)).at (sub i o hik ho)
   rw [Nat.zero_add] at h0
   rcases h0 with (e | ⟨h, _⟩) | ⟨hg, _, _⟩
   · exact absurd e hne
   · exact absurd ((any_iff i).1 h) hnj
   refine ⟨hg, fun W hW a ha => ?_⟩
   have h1 := (hop W hW).at (sub i o hik ho)
   rw [Nat.zero_add] at h1
   rcases h1 with (e | ⟨h, _⟩) | ⟨_, _, h⟩
   · exact absurd e hne
   · exact absurd ((any_iff i).1 h) hnj
   exact h a ha
 intro f W b kv hUp hfm hM hperm fuel' listed' a' hf' hu' ha' hsl'
 have key : ∀ i o d, i < k → opsL[i]? = some o → o.dst = some d → (Et.getD i (.eq undef)).holds (f d) W := by
   intro i o d hik ho hd
   have ho' : opsL.toArray[i]? = some o := by simpa using ho
   have hmem : (d, Et.getD i (.eq undef)) ∈ H6 opsL.toArray (fun i => Et.getD i (.eq undef)) 0 k := by
     unfold H6
     rw [List.mem_filterMap]
     exact ⟨i, List.mem_range.2 hik, by rw [if_pos (by simp), ho']; simp [hd]⟩
   obtain ⟨q', hq⟩ := Hx hmem
   obtain ⟨j, p, _, hjk, hp, hpd, e⟩ := Fk hq
   have : j = i := by
     by_cases ee : j = i
     · exact ee
     exact absurd hpd ((Di hD (Nat.zero_le _) hik ho' hd).2 j p (Nat.zero_le _) hjk ee hp)
   subst this
   have := ha'.val d q' (Lc hq)
   rw [hsl', e] at this
   exact this
 refine Fe hTl hA (opsL.toArray.size - k) k fuel' listed' a' W rfl (by simp; omega) (Nat.le_refl _) hf' hu' ?_
 have h2 := hend W b kv f hUp hM hperm key
 refine h2 a' ⟨ha'.defers, ha'.size, fun t q ht => ?_⟩
 by_cases e : t = ms
 · subst e; rw [Ap] at ht; cases ht
   exact (hsl' _).trans hfm
 rw [Au e] at ht
 refine ha'.val t q ?_
 rw [G3]
 · exact ht
 cases hq : lk (H6 opsL.toArray (fun i => Et.getD i (.eq undef)) 0 k) t with
 | none => rfl
 | some q' =>
   obtain ⟨j, p, _, hjk, hp, hpd, _⟩ := Fk hq
   exact absurd hpd (hbd t q ht j p (Nat.zero_le _) hjk hp)
theorem PEv.C1 {d : Option Tmp} {ty : TypeId} {ps : String} {af : Array Edge} {g : Option (Nat × Bool)} {T K E : TypeId} {mo x : Operand} {b : Nat} {k : Int} {v : Value} {kv : List (Int × Value)} {ok : Bool} (hT : P.underlying T = some (.map K E)) (hK : P.underlying K = some (.int .i64)) (hm : Val l mo (.map (some b))) (hx : Val l x (vi k)) (h : IMap w b kv) (hkv : (k, v) ∈ kv) :
   PEv P n ds l w ⟨d, .lookup T mo x ok, ty, ps, af, g⟩ (if ok then .tuple #[v, .bool true] else v) := fun a w' ha hu => by
 obtain ⟨es, clock, hb, hs, he⟩ := h.up hu
 have hk : IsKey (.int .i64) (vi k) := rfl
 refine A9 ?_
 rw [ha.ev hm, ha.ev hx]
 rcases findNow_spec hk es.toList 0 (Fj he) with ⟨h1, h2⟩ | ⟨j, e, h1, h2, h3⟩
 · exfalso
   obtain ⟨x', hx', L0, _⟩ := C5 he hkv
   exact h2 x' hx' L0
 obtain ⟨x', hx', L0, hvx⟩ := C5 he hkv
 have hv : e.val = v := by
   have := Dg (List.pairwise_map.1 hs.2.2) (List.mem_of_getElem? h2) hx' (by rw [h3, L0])
   rw [this]; exact hvx
 cases ok <;> simp [Instr.lookup, run_underlying hT, MapKept.run_getObj_map hb, MapKept.run_checkKey hK hk, MapKept.run_findKey hK h1, Result.andThen, hv]
theorem PEv.G4 {d : Option Tmp} {ty : TypeId} {ps : String} {af : Array Edge} {g : Option (Nat × Bool)} {T K E : TypeId} {mo x : Operand} {b : Nat} {k : Int} {z : Value} {kv : List (Int × Value)} {ok : Bool} (hT : P.underlying T = some (.map K E)) (hK : P.underlying K = some (.int .i64)) (hz : ∀ w, (zeroValue E).run P w = .ok z w) (hm : Val l mo (.map (some b))) (hx : Val l x (vi k)) (h : IMap w b kv) (hkv : k ∉ kv.map (·.1)) :
   PEv P n ds l w ⟨d, .lookup T mo x ok, ty, ps, af, g⟩ (if ok then .tuple #[z, .bool false] else z) := fun a w' ha hu => by
 obtain ⟨es, clock, hb, hs, he⟩ := h.up hu
 have hk : IsKey (.int .i64) (vi k) := rfl
 refine A9 ?_
 rw [ha.ev hm, ha.ev hx]
 rcases findNow_spec hk es.toList 0 (Fj he) with ⟨h1, h2⟩ | ⟨j, e, h1, h2, h3⟩
 · cases ok <;> simp [Instr.lookup, run_underlying hT, MapKept.run_getObj_map hb, MapKept.run_checkKey hK hk, MapKept.run_findKey hK h1, Result.andThen, hz]
 exfalso
 obtain ⟨k', hk', hkv'⟩ := E4 he e (List.mem_of_getElem? h2)
 have : k' = k := Qj (hk'.symm.trans h3)
 exact hkv (List.mem_map.2 ⟨_, hkv', this⟩)
def SlT {α : Type} (e : TypeId) (w : World) (v : Value) (k : Nat) (enc : α → Array Value) (xs : List α) : Prop := Sl w v k enc xs ∧ ∀ B o n c, v = .slice (some ⟨B, o, none⟩) n c → ∃ cs x, w.heap[B]? = some (Obj.cells cs e x)
theorem SlT.Fu {α : Type} {e : TypeId} {w w' : World} {v : Value} {k : Nat} {enc : α → Array Value} {xs : List α} (h : SlT e w v k enc xs) (u : Cel w w') : SlT e w' v k enc xs := ⟨h.1.Fu u, fun B o n c hv => let ⟨cs, x, hb⟩ := h.2 B o n c hv; ⟨cs, x, u.blk _ _ _ _ hb⟩⟩
theorem SlT.up {α : Type} {e : TypeId} {w w' : World} {v : Value} {k : Nat} {enc : α → Array Value} {xs : List α} (h : SlT e w v k enc xs) (u : Up w w') : SlT e w' v k enc xs := h.Fu u.Fu
theorem SlT.lit {α : Type} {T : TypeId} {w w' : World} {k : Nat} {enc : α → Array Value} {xs : List α} {v : Value} (h : NewSl w T k enc xs v w') : SlT T w' v k enc xs := by
 have h2 := h.q.2
 obtain ⟨B, cs, rfl, N, _, _⟩ := h
 exact ⟨h2, fun B' o n c hv => by cases hv; exact ⟨cs, _, N.blk⟩⟩
theorem SlT.own {α : Type} {base : Nat} {e : TypeId} {w : World} {v : Value} {k : Nat} {enc : α → Array Value} {xs : List α} (h : OwnS w base e k enc v xs) (hk : ∀ x, (enc x).size = k) : SlT e w v k enc xs := by
 refine ⟨h.sl hk, fun B o n c hv => ?_⟩
 obtain ⟨_, h2⟩ := h
 rcases h2 with ⟨rfl, _⟩ | ⟨g, cap, cur, rfl, hb, hg, _⟩
 · cases hv
 cases hv; exact ⟨_, _, hg⟩
theorem A4 {α : Type} (e : TypeId) (k : Nat) (enc : α → Array Value) (xs : List α) : PhC (.pred fun v w => SlT e w v k enc xs) := fun _ _ _ h u => SlT.Fu h u
end
end Go.Wx
end
section
namespace Go.Wx
open Go.RowKit
structure KeepT (T : TypeId) (w w' : World) : Prop where
 size : w.heap.size ≤ w'.heap.size
 obj : ∀ (b : Nat) (o : Obj), w.heap[b]? = some o → (∀ cs x, o ≠ Obj.cells cs T x) → w'.heap[b]? = some o
theorem KeepT.refl (T : TypeId) (w : World) : KeepT T w w := ⟨Nat.le_refl _, fun _ _ h _ => h⟩
theorem KeepT.trans {T : TypeId} {w w1 w2 : World} (h : KeepT T w w1) (k : KeepT T w1 w2) : KeepT T w w2 := ⟨Nat.le_trans h.size k.size, fun b o hb hn => k.obj b o (h.obj b o hb hn) hn⟩
theorem Up.C9 {T : TypeId} {w w' : World} (u : Up w w') : KeepT T w w' := ⟨u.size, fun _ _ h _ => (u.block (lt_of_block h)).trans h⟩
theorem Sto.C9 {T : TypeId} {w w' : World} {B : Nat} {cs : Array Value} (u : Sto B w w') (hz : w.heap.size ≤ w'.heap.size) (hb : Blk w B cs T) : KeepT T w w' := ⟨hz, fun b o h hn => by
 by_cases e : b = B
 · subst e; unfold Blk at hb; rw [hb] at h; cases h; exact absurd rfl (hn _ _)
 exact (u.block b (lt_of_block h) e).trans h⟩
theorem Blk.C9 {T e : TypeId} {w w' : World} {B : Nat} {cs : Array Value} (h : Blk w B cs e) (hne : Nat.beq e T = false) (u : KeepT T w w') : Blk w' B cs e := u.obj _ _ h (fun _ _ e' => by cases e'; simp at hne)
theorem IMap.C9 {T : TypeId} {w w' : World} {b : Nat} {kv : List (Int × Value)} (h : IMap w b kv) (u : KeepT T w w') : IMap w' b kv := by
 obtain ⟨es, clock, h1, h2⟩ := h
 exact ⟨es, clock, u.obj _ _ h1 (fun _ _ e => by cases e), h2⟩
theorem SlT.C9 {α : Type} {e T : TypeId} {w w' : World} {v : Value} {k : Nat} {enc : α → Array Value} {xs : List α} (h : SlT e w v k enc xs) (hne : Nat.beq e T = false) (u : KeepT T w w') : SlT e w' v k enc xs := by
 have hne : e ≠ T := fun e' => by rw [e'] at hne; simp at hne
 obtain ⟨⟨ad, c, rfl, hE⟩, ht⟩ := h
 have keep : ∀ B o, ad = some ⟨B, o, none⟩ → ∃ cs x, w.heap[B]? = some (Obj.cells cs e x) ∧ w'.heap[B]? = some (Obj.cells cs e x) := fun B o hB => by
   obtain ⟨cs, x, hb⟩ := ht B o _ _ (by rw [hB])
   exact ⟨cs, x, hb, u.obj _ _ hb (fun _ _ e' => by cases e'; exact hne rfl)⟩
 refine ⟨⟨ad, c, rfl, fun i x hx => ?_⟩, fun B o n c' hv => ?_⟩
 · obtain ⟨B, o, hB, hA⟩ := hE i x hx
   obtain ⟨cs, y, h1, h2⟩ := keep B o hB
   refine ⟨B, o, hB, fun j v hv => ?_⟩
   have := hA j v hv
   unfold World.cell? at this ⊢
   rw [h1] at this
   rw [h2]
   exact this
 cases hv
 obtain ⟨cs, x, h1, h2⟩ := keep B o rfl
 exact ⟨cs, x, h2⟩
section
variable {R : Option Nat} {m : Nat} {P : Program} {n : Nat} {ds : List Deferred} {Q : Exit → Go.Act → World → Prop} {l : Env} {w : World} {ops : Array Oper}
def yU (ia is sa sv : Nat) (T : TypeId) (z : Array Value) (w0 : World) (L : Nat → Bool) (f : Nat → Value) (W : World) : Prop :=
 Up w0 W ∧ (L is = true → L ia = true) ∧ (L ia = true → ∃ B, f sa = .pointer (some ⟨B, 0, none⟩) ∧ w0.heap.size ≤ B ∧ Blk W B (if L is = true then (f sv).cells else z) T)
theorem AWF.box {k ia is isv sa sv : Nat} {T : TypeId} {z : Array Value} {base : Env} (ph : Nat → Ph) {f0 : Nat → Value} (hz : ∀ w, (zeroValue T).run P w = .ok (.agg z) w) (hs : ∀ w, (sizeOf T).run P w = .ok z.size w)
   (hph : ∀ i v w w', (ph i).holds v w → KeepT T w w' → (ph i).holds v w') (hA : Dz ops = true) (hC : (Nat.beq k ops.size || Ft ops k) = true) (hF : J7 ops k = true) (hks : Nat.ble k ops.size = true)
   (hD : Hb n ops 0 k = true) (hbp : Cd base = true) (hbd : ∀ i ph, lk base i = some ph → ∀ (j : Nat) (o : Oper), 0 ≤ j → j < k → ops[j]? = some o → o.dst ≠ some i)
   (hlit : Qq ops ia [(is, 0, sv)] = true) (hik : is < k) (hiak : ia < k) (hne : ia ≠ is)
   (hia : ∃ ty ps af, ops[ia]? = some ⟨some sa, .alloc T, ty, ps, af, none⟩) (his : ∃ ty ps af, ops[is]? = some ⟨none, .store T (.tmp sa) (.tmp sv), ty, ps, af, none⟩)
   (hlk : ∀ o, ops[is]? = some o → lk (Lx ops ph 0 o ++ base) sv = some (ph isv)) (hsv : ∀ v W, (ph isv).holds v W → ∃ cs, v = .agg cs ∧ cs.size = z.size ∧ cs.all (·.oneCell') = true)
   (hpa : ∀ B W, (ph ia).holds (.pointer (some ⟨B, 0, none⟩)) W)
   (hop : ∀ i o, i < k → i ≠ ia → i ≠ is → ops[i]? = some o → o.guard = none ∧ ∀ W, KeepT T w W → ∀ a, Ag n ds (Lx ops ph 0 o ++ base) a W → jH P o a W (fun v W' => Up W W' ∧ (ph i).holds v W'))
   (hend : ∀ f W B, Up w W → f sa = .pointer (some ⟨B, 0, none⟩) → w.heap.size ≤ B → Blk W B (f sv).cells T → AWF R m P n ds ops Q k (H6 ops ph 0 k ++ base) f W) : AWF R m P n ds ops Q 0 base f0 w := by
 obtain ⟨os, hos, hods, ⟨e, he, hbe, hon⟩, ⟨e', he', hbe', pv, hpv, hpvd⟩⟩ := G2 hlit List.mem_cons_self
 refine AWF.gen ph (KeepT T) (yU ia is sa sv T z w) (KeepT.refl T) (fun _ _ _ => KeepT.trans) hph hA hC hF hks (by simp) hD hbp hbd ?_ ⟨Up.refl w, fun h => by simp at h, fun h => by simp at h⟩ ?_
 · intro i o _ hi hio L f W hRel hDn hLi hed hInv
   obtain ⟨hUp, hsa, hInv⟩ := hInv
   by_cases e0 : i = ia
   · subst e0
     obtain ⟨ty, ps, af, hia⟩ := hia
     rw [hio] at hia; cases hia
     intro a ha hsl
     rw [if_pos (by simp [Region.wanted])]
     obtain ⟨v, W', hr, B, rfl, N⟩ := REv.Az (P := P) (n := n) (ds := ds) (l := Lx ops ph 0 _ ++ base) (w := W) (d := some sa) (ty := ty) (ps := ps) (af := af) (g := none) hz a ha
     have hLs : L is = false := by
       cases h : L is with
       | false => rfl
       | true => rw [hsa h] at hLi; cases hLi
     refine .inl (.inl ⟨_, W', hr, N.up.C9, fun _ _ => hpa B W', hUp.trans N.up, fun _ => by simp [Cp], fun _ => ⟨B, by simp [E9], by rw [N.at_]; exact hUp.size, ?_⟩⟩)
     have : Cp L i is = false := by simp [Cp, Ne.symm hne, hLs]
     rw [this]
     exact N.blk
   by_cases e1 : i = is
   · subst e1
     have hLa : L ia = true := by rw [hos] at hio; cases hio; rw [← hon]; exact hed e he hbe
     obtain ⟨ty, ps, af, his⟩ := his
     rw [hio] at his; cases his
     intro a ha hsl
     rw [if_pos (by simp [Region.wanted])]
     obtain ⟨B, h1, hB, hblk⟩ := hInv hLa
     rw [hLi] at hblk
     obtain ⟨cs, hcs, hcz, hc1⟩ := hsv _ W (ha.val sv _ (hlk _ hio))
     have hfs : f sv = .agg cs := by rw [← hsl]; exact hcs
     have hag : Ag n ds [(sv, .eq (.agg cs)), (sa, .eq (.pointer (some ⟨B, 0, none⟩)))] a W := by
       refine ⟨ha.defers, ha.size, fun t q ht => ?_⟩
       by_cases e1 : t = sv
       · subst e1; rw [Ap] at ht; cases ht; exact hcs
       rw [Au e1] at ht
       by_cases e2 : t = sa
       · subst e2; rw [Ap] at ht; cases ht; exact (hsl _).trans h1
       rw [Au e2] at ht; cases ht
     have hsn : sa ≠ sv := fun e' => by rw [e', hfs] at h1; cases h1
     obtain ⟨W', hr, hset⟩ := SEv.Ay (P := P) (n := n) (ds := ds) (w := W) (l := [(sv, .eq (.agg cs)), (sa, .eq (.pointer (some ⟨B, 0, none⟩)))]) (x := .tmp sa) (y := .tmp sv) (ty := ty) (ps := ps) (af := af) (g := none) hs hcz (.tmp (by rw [Au hsn, Ap])) (.tmp Ap) hc1 hblk (by simp) a hag
     refine .inr ⟨W', hr, hset.sto.C9 (by rw [hset.size]; exact Nat.le_refl _) hblk, (fun d hd => by cases hd), hUp.sto hset.sto hB, fun _ => by simp [Cp, hLa], fun _ => ⟨B, h1, hB, ?_⟩⟩
     have h2 : Cp L i i = true := by simp [Cp]
     rw [h2, if_pos rfl]
     show Blk W' B (f sv).cells T
     rw [hfs]
     exact hset.blk
   obtain ⟨hg, hop⟩ := hop i o hi e0 e1 hio
   intro a ha hsl
   rw [if_pos (by simp [Region.wanted, hg])]
   have done : ∀ v W', Up W W' ∧ (ph i).holds v W' → KeepT T W W' ∧ (∀ d, o.dst = some d → (ph i).holds v W') ∧ yU ia is sa sv T z w (Cp L i) (E9 f o.dst v) W' := by
     rintro v W' ⟨hu, hv⟩
     have ela : Cp L i ia = L ia := by simp [Cp, Ne.symm e0]
     have els : Cp L i is = L is := by simp [Cp, Ne.symm e1]
     refine ⟨hu.C9, fun _ _ => hv, hUp.trans hu, fun h => by rw [ela]; rw [els] at h; exact hsa h, fun hm => ?_⟩
     rw [ela] at hm
     obtain ⟨B, h1, hB, hblk⟩ := hInv hm
     have hn1 : o.dst ≠ some sa := by
       obtain ⟨ty, ps, af, hia⟩ := hia
       intro ed
       exact (Di hD (Nat.zero_le _) hi hio ed).2 ia _ (Nat.zero_le _) hiak (Ne.symm e0) hia rfl
     refine ⟨B, by simpa [E9, hn1] using h1, hB, ?_⟩
     rw [els]
     cases hLs : L is with
     | false => rw [hLs] at hblk; exact hblk.up hu
     | true =>
       rw [hLs] at hblk
       have hn2 : o.dst ≠ some sv := by
         intro ed
         have h2 := hDn _ _ hos hLs e' he' hbe'
         have h3 := Ej hA hos e' he' hbe'
         by_cases ee : e'.on = i
         · rw [ee, hLi] at h2; cases h2
         exact (Di hD (Nat.zero_le _) hi hio ed).2 e'.on pv (Nat.zero_le _) (by have : e'.on < is := h3; omega) ee hpv hpvd
       have h4 : E9 f o.dst v sv = f sv := by simp [E9, hn2]
       rw [h4]
       exact hblk.up hu
   rcases hop W hRel a ha with ⟨v, W', hr, hp⟩ | ⟨fn, args, w1, hr, hc⟩
   · exact .inl (.inl ⟨v, W', hr, done v W' hp⟩)
   exact .inl (.inr ⟨fn, args, w1, hr, hc.mono done⟩)
 intro f W hRel hInv
 obtain ⟨hUp, _, hInv⟩ := hInv
 obtain ⟨B, h1, hB, h2⟩ := hInv (by simpa using hiak)
 rw [if_pos (by simpa using hik)] at h2
 exact hend f W B hUp h1 hB h2
def PhT (T : TypeId) (q : Ph) : Prop := ∀ v w w', q.holds v w → KeepT T w w' → q.holds v w'
theorem PhT.eq (T : TypeId) (v : Value) : PhT T (.eq v) := fun _ _ _ h _ => h
theorem PhT.pred {T : TypeId} {p : Value → World → Prop} (h : ∀ v w w', p v w → KeepT T w w' → p v w') : PhT T (.pred p) := h
def allT (T : TypeId) : List Ph → Prop
 | [] => True
 | q :: r => PhT T q ∧ allT T r
theorem allT.at {T : TypeId} : ∀ {l : List Ph}, allT T l → ∀ i, PhT T (l.getD i (.eq undef))
 | [], _, _ => by simpa using PhT.eq T undef
 | _ :: _, h, 0 => by simpa using h.1
 | _ :: _, h, i + 1 => by simpa using allT.at h.2 i
theorem CW.box {id : Nat} {opsL : List Oper} (k ia is isv sa sv : Nat) (z : Array Value) (Et : List Ph) (keep : List Nat) {T : TypeId} (hz : ∀ w, (zeroValue T).run P w = .ok (.agg z) w) (hs : ∀ w, (sizeOf T).run P w = .ok z.size w) (hm : P.follows .mixedOrders = true) (hl : Cd l = true)
   (hA : Dz opsL.toArray = true) (hC : (Nat.beq k opsL.toArray.size || Ft opsL.toArray k) = true) (hF : J7 opsL.toArray k = true) (hks : Nat.ble k opsL.toArray.size = true) (hD : Hb n opsL.toArray 0 k = true) (hlit : Qq opsL.toArray ia [(is, 0, sv)] = true) (hTl : Gl opsL.toArray k = true)
   (hfree : Kj l (opsL.take k) = true) (hidx : (Nat.ble (is + 1) k && (Nat.ble (ia + 1) k && !Nat.beq ia is)) = true)
   (hia : ∃ ty ps af, opsL[ia]? = some ⟨some sa, .alloc T, ty, ps, af, none⟩) (os : Oper) (hos : opsL[is]? = some os) (his : ∃ ty ps af, os = ⟨none, .store T (.tmp sa) (.tmp sv), ty, ps, af, none⟩) (hph : allT T Et)
   (hlk : lk (Lx opsL.toArray (fun i => Et.getD i (.eq undef)) 0 os ++ l) sv = some (Et.getD isv (.eq undef))) (hsv : ∀ v W, (Et.getD isv (.eq undef)).holds v W → ∃ cs, v = .agg cs ∧ cs.size = z.size ∧ cs.all (·.oneCell') = true)
   (hpa : ∀ B W, (Et.getD ia (.eq undef)).holds (.pointer (some ⟨B, 0, none⟩)) W)
   (hop : ∀ W, KeepT T w.drew W → allL (fun i o => (i = ia ∨ i = is) ∨ (o.guard = none ∧ TU P n ds (Lx opsL.toArray (fun i => Et.getD i (.eq undef)) 0 o ++ l) W o (Et.getD i (.eq undef)))) 0 (opsL.take k))
   (hend : ∀ W B (g : Nat → Value), Up w.drew W → w.drew.heap.size ≤ B → Blk W B (g sv).cells T → (∀ i o d, i < k → opsL[i]? = some o → o.dst = some d → (Et.getD i (.eq undef)).holds (g d) W) → LW R m P n ds opsL.toArray Q (opsL.drop k) ((sa, .eq (.pointer (some ⟨B, 0, none⟩))) :: (keep.map (fun d => (d, .eq (g d))) ++ l)) W) :
   CW R m P n ds (.region id opsL.toArray true) Q l w := by
 simp only [Bool.and_eq_true] at hidx
 obtain ⟨hik, hiak, hne⟩ := hidx
 have hik : is < k := Nat.le_of_ble_eq_true hik
 have hiak : ia < k := Nat.le_of_ble_eq_true hiak
 have hne : ia ≠ is := fun e => by subst e; simp at hne
 have hks' : k ≤ opsL.length := by have := Nat.le_of_ble_eq_true hks; simp at this; omega
 have sub : ∀ j o, j < k → opsL.toArray[j]? = some o → (opsL.take k)[j]? = some o := fun j o hjk ho => by
   rw [List.getElem?_take_of_lt hjk]; simpa using ho
 have hbd : ∀ i ph, lk l i = some ph → ∀ (j : Nat) (o : Oper), 0 ≤ j → j < k → opsL.toArray[j]? = some o → o.dst ≠ some i := fun i ph hi j o _ hjk ho => Gm hfree hi (List.mem_of_getElem? (sub j o hjk ho))
 refine Ff hm hl fun fuel listed a hf hu ha => (AWF.box (k := k) (ia := ia) (is := is) (isv := isv) (sa := sa) (sv := sv) (T := T) (z := z) (fun i => Et.getD i (.eq undef)) (f0 := fun t => a.tmps.getD t undef) hz hs (fun i v w w' h u => (hph.at i) v w w' h u) hA hC hF hks hD hl hbd hlit hik hiak hne (by simpa using hia) ?_ ?_ hsv hpa ?_ ?_ fuel listed a hf hu ha (fun _ => rfl))
 · obtain ⟨ty, ps, af, e⟩ := his
   exact ⟨ty, ps, af, by rw [← e]; simpa using hos⟩
 · intro o ho
   have : opsL[is]? = some o := by simpa using ho
   rw [hos] at this; cases this
   exact hlk
 · intro i o hi h1 h2 ho
   have h0 := (hop w.drew (KeepT.refl T _)).at (sub i o hi ho)
   rw [Nat.zero_add] at h0
   rcases h0 with (e | e) | ⟨hg, _⟩
   · exact absurd e h1
   · exact absurd e h2
   refine ⟨hg, fun W hW a ha => ?_⟩
   have h3 := (hop W hW).at (sub i o hi ho)
   rw [Nat.zero_add] at h3
   rcases h3 with (e | e) | ⟨_, h⟩
   · exact absurd e h1
   · exact absurd e h2
   exact h a ha
 intro f W B hUp hfa hB hblk fuel' listed' a' hf' hu' ha' hsl'
 have key : ∀ i o d, i < k → opsL[i]? = some o → o.dst = some d → (Et.getD i (.eq undef)).holds (f d) W := by
   intro i o d hik ho hd
   have ho' : opsL.toArray[i]? = some o := by simpa using ho
   have hmem : (d, Et.getD i (.eq undef)) ∈ H6 opsL.toArray (fun i => Et.getD i (.eq undef)) 0 k := by
     unfold H6
     rw [List.mem_filterMap]
     exact ⟨i, List.mem_range.2 hik, by rw [if_pos (by simp), ho']; simp [hd]⟩
   obtain ⟨q', hq⟩ := Hx hmem
   obtain ⟨j, p, _, hjk, hp, hpd, e⟩ := Fk hq
   have : j = i := by
     by_cases ee : j = i
     · exact ee
     exact absurd hpd ((Di hD (Nat.zero_le _) hik ho' hd).2 j p (Nat.zero_le _) hjk ee hp)
   subst this
   have := ha'.val d q' (Lc hq)
   rw [hsl', e] at this
   exact this
 refine Fe hTl hA (opsL.toArray.size - k) k fuel' listed' a' W rfl (by simp; omega) (Nat.le_refl _) hf' hu' (hend W B f hUp hB hblk key a' ⟨ha'.defers, ha'.size, fun t q ht => ?_⟩)
 by_cases e : t = sa
 · subst e; rw [Ap] at ht; cases ht
   exact (hsl' _).trans hfa
 rw [Au e] at ht
 rcases Df ht with h | h
 · obtain ⟨d, _, he⟩ := List.mem_map.1 (L9 h)
   cases he
   exact hsl' _
 refine ha'.val t q ?_
 rw [G3]
 · exact h
 cases hq : lk (H6 opsL.toArray (fun i => Et.getD i (.eq undef)) 0 k) t with
 | none => rfl
 | some q' =>
   obtain ⟨j, p, _, hjk, hp, hpd, _⟩ := Fk hq
   exact absurd hpd (hbd t q h j p (Nat.zero_le _) hjk hp)
end
end Go.Wx
end
section
namespace Go.Wx
structure Fld where
 off : Nat
 lo : Int
 hi : Int
def Br (o : Nat) : Fld := ⟨o, 1, 1000000⟩
def Cb : List Fld := [Br 1]
def Jn : List Fld := [Br 14, Br 15]
def Cm : List Fld := [⟨11, 0, 59⟩, ⟨12, 0, 3⟩]
def Bi : Fld := ⟨5, 0, 1000000⟩
def Dc : List Fld := [Bi, ⟨6, 0, 1000000⟩]
def Iv : List Fld := [⟨7, 0, 1000000⟩, ⟨9, 0, 1000000⟩, ⟨11, 0, 60⟩, ⟨12, 0, 4⟩, ⟨13, 0, 40⟩, ⟨14, 0, 1000000⟩, ⟨15, 0, 1000000⟩]
def Hn : Fld := ⟨17, 1, 255⟩
def J8 : Fld := ⟨16, -1000000, 1000000⟩
theorem S8 {α : Type} {xss : List (List α)} {k : Nat} {ys : List α} (h : xss[k]? = some ys) : (xss.take (k + 1)).flatten = (xss.take k).flatten ++ ys := by
 obtain ⟨hk, e⟩ := List.getElem?_eq_some_iff.1 h
 rw [List.take_add_one, h]; simp
theorem Sn {α : Type} (xss : List (List α)) (k : Nat) : ((xss.take k).flatten).length ≤ xss.flatten.length := by
 have : xss.flatten = (xss.take k).flatten ++ (xss.drop k).flatten := by rw [← List.flatten_append, List.take_append_drop]
 rw [this, List.length_append]; omega
end Go.Wx
namespace Go.Proofs.YtmimclgihlhaeaaGreat
open Go.Proofs.Tryz
open Go.Wx Go.RowKit
def pH : Nat → FuncId := fun o => match o with
 | 1 => 120
 | 5 => 171
 | 6 => 170
 | 7 => 124
 | 8 => 137
 | 9 => 125
 | 10 => 138
 | 11 => 126
 | 12 => 127
 | 13 => 128
 | 14 => 121
 | 15 => 122
 | 16 => 130
 | 17 => 129
 | _ => 0
def Fld.cells (x : Fld) : Array Go.Value := #[.func (.func (pH x.off)) #[] #[], vi x.lo, vi x.hi]
theorem Fld.one (x : Fld) : (Fld.cells x).all (·.oneCell') = true := by simp [Fld.cells, Value.oneCell']
theorem tI (b : Nat) (w : World) : Ret Tryz.prog 120 #[.pointer (some ⟨b, 0, none⟩)] w fun r w' => r = .pointer (some ⟨b, 1, none⟩) ∧ Up w w' := by
 have hW := Up.refl w
 refine cS (n := 6) (m := 9) func120 rfl rfl rfl (CW.S (LW.C (LW.S (CW.region (LW.M rfl (LW.pp (.nilCheck (.t rfl)) (LW.pp (.fA 1 underlying36 rfl sizeOf3 rfl) (LW.A rfl (LW.T (CW.ret (Ae rfl rfl ⟨_, rfl, ?_⟩)))))))))))
 exact ⟨rfl, hW⟩
theorem jQ (b : Nat) (w : World) : Ret Tryz.prog 171 #[.pointer (some ⟨b, 0, none⟩)] w fun r w' => r = .pointer (some ⟨b, 5, none⟩) ∧ Up w w' := by
 have hW := Up.refl w
 refine cS (n := 6) (m := 9) func171 rfl rfl rfl (CW.S (LW.C (LW.S (CW.region (LW.M rfl (LW.pp (.nilCheck (.t rfl)) (LW.pp (.fA 5 underlying36 rfl sizeOf3 rfl) (LW.A rfl (LW.T (CW.ret (Ae rfl rfl ⟨_, rfl, ?_⟩)))))))))))
 exact ⟨rfl, hW⟩
theorem fE (b : Nat) (w : World) : Ret Tryz.prog 170 #[.pointer (some ⟨b, 0, none⟩)] w fun r w' => r = .pointer (some ⟨b, 6, none⟩) ∧ Up w w' := by
 have hW := Up.refl w
 refine cS (n := 6) (m := 9) func170 rfl rfl rfl (CW.S (LW.C (LW.S (CW.region (LW.M rfl (LW.pp (.nilCheck (.t rfl)) (LW.pp (.fA 6 underlying36 rfl sizeOf3 rfl) (LW.A rfl (LW.T (CW.ret (Ae rfl rfl ⟨_, rfl, ?_⟩)))))))))))
 exact ⟨rfl, hW⟩
theorem fF (b : Nat) (w : World) : Ret Tryz.prog 124 #[.pointer (some ⟨b, 0, none⟩)] w fun r w' => r = .pointer (some ⟨b, 7, none⟩) ∧ Up w w' := by
 have hW := Up.refl w
 refine cS (n := 6) (m := 9) func124 rfl rfl rfl (CW.S (LW.C (LW.S (CW.region (LW.M rfl (LW.pp (.nilCheck (.t rfl)) (LW.pp (.fA 7 underlying36 rfl sizeOf3 rfl) (LW.A rfl (LW.T (CW.ret (Ae rfl rfl ⟨_, rfl, ?_⟩)))))))))))
 exact ⟨rfl, hW⟩
theorem fG (b : Nat) (w : World) : Ret Tryz.prog 137 #[.pointer (some ⟨b, 0, none⟩)] w fun r w' => r = .pointer (some ⟨b, 8, none⟩) ∧ Up w w' := by
 have hW := Up.refl w
 refine cS (n := 6) (m := 9) func137 rfl rfl rfl (CW.S (LW.C (LW.S (CW.region (LW.M rfl (LW.pp (.nilCheck (.t rfl)) (LW.pp (.fA 8 underlying36 rfl sizeOf3 rfl) (LW.A rfl (LW.T (CW.ret (Ae rfl rfl ⟨_, rfl, ?_⟩)))))))))))
 exact ⟨rfl, hW⟩
theorem pI (b : Nat) (w : World) : Ret Tryz.prog 125 #[.pointer (some ⟨b, 0, none⟩)] w fun r w' => r = .pointer (some ⟨b, 9, none⟩) ∧ Up w w' := by
 have hW := Up.refl w
 refine cS (n := 6) (m := 9) func125 rfl rfl rfl (CW.S (LW.C (LW.S (CW.region (LW.M rfl (LW.pp (.nilCheck (.t rfl)) (LW.pp (.fA 9 underlying36 rfl sizeOf3 rfl) (LW.A rfl (LW.T (CW.ret (Ae rfl rfl ⟨_, rfl, ?_⟩)))))))))))
 exact ⟨rfl, hW⟩
theorem We (b : Nat) (w : World) : Ret Tryz.prog 138 #[.pointer (some ⟨b, 0, none⟩)] w fun r w' => r = .pointer (some ⟨b, 10, none⟩) ∧ Up w w' := by
 have hW := Up.refl w
 refine cS (n := 6) (m := 9) func138 rfl rfl rfl (CW.S (LW.C (LW.S (CW.region (LW.M rfl (LW.pp (.nilCheck (.t rfl)) (LW.pp (.fA 10 underlying36 rfl sizeOf3 rfl) (LW.A rfl (LW.T (CW.ret (Ae rfl rfl ⟨_, rfl, ?_⟩)))))))))))
 exact ⟨rfl, hW⟩
theorem jR (b : Nat) (w : World) : Ret Tryz.prog 126 #[.pointer (some ⟨b, 0, none⟩)] w fun r w' => r = .pointer (some ⟨b, 11, none⟩) ∧ Up w w' := by
 have hW := Up.refl w
 refine cS (n := 6) (m := 9) func126 rfl rfl rfl (CW.S (LW.C (LW.S (CW.region (LW.M rfl (LW.pp (.nilCheck (.t rfl)) (LW.pp (.fA 11 underlying36 rfl sizeOf3 rfl) (LW.A rfl (LW.T (CW.ret (Ae rfl rfl ⟨_, rfl, ?_⟩)))))))))))
 exact ⟨rfl, hW⟩
theorem Wf (b : Nat) (w : World) : Ret Tryz.prog 127 #[.pointer (some ⟨b, 0, none⟩)] w fun r w' => r = .pointer (some ⟨b, 12, none⟩) ∧ Up w w' := by
 have hW := Up.refl w
 refine cS (n := 6) (m := 9) func127 rfl rfl rfl (CW.S (LW.C (LW.S (CW.region (LW.M rfl (LW.pp (.nilCheck (.t rfl)) (LW.pp (.fA 12 underlying36 rfl sizeOf3 rfl) (LW.A rfl (LW.T (CW.ret (Ae rfl rfl ⟨_, rfl, ?_⟩)))))))))))
 exact ⟨rfl, hW⟩
theorem jS (b : Nat) (w : World) : Ret Tryz.prog 128 #[.pointer (some ⟨b, 0, none⟩)] w fun r w' => r = .pointer (some ⟨b, 13, none⟩) ∧ Up w w' := by
 have hW := Up.refl w
 refine cS (n := 6) (m := 9) func128 rfl rfl rfl (CW.S (LW.C (LW.S (CW.region (LW.M rfl (LW.pp (.nilCheck (.t rfl)) (LW.pp (.fA 13 underlying36 rfl sizeOf3 rfl) (LW.A rfl (LW.T (CW.ret (Ae rfl rfl ⟨_, rfl, ?_⟩)))))))))))
 exact ⟨rfl, hW⟩
theorem Zh (b : Nat) (w : World) : Ret Tryz.prog 121 #[.pointer (some ⟨b, 0, none⟩)] w fun r w' => r = .pointer (some ⟨b, 14, none⟩) ∧ Up w w' := by
 have hW := Up.refl w
 refine cS (n := 6) (m := 9) func121 rfl rfl rfl (CW.S (LW.C (LW.S (CW.region (LW.M rfl (LW.pp (.nilCheck (.t rfl)) (LW.pp (.fA 14 underlying36 rfl sizeOf3 rfl) (LW.A rfl (LW.T (CW.ret (Ae rfl rfl ⟨_, rfl, ?_⟩)))))))))))
 exact ⟨rfl, hW⟩
theorem Um (b : Nat) (w : World) : Ret Tryz.prog 122 #[.pointer (some ⟨b, 0, none⟩)] w fun r w' => r = .pointer (some ⟨b, 15, none⟩) ∧ Up w w' := by
 have hW := Up.refl w
 refine cS (n := 6) (m := 9) func122 rfl rfl rfl (CW.S (LW.C (LW.S (CW.region (LW.M rfl (LW.pp (.nilCheck (.t rfl)) (LW.pp (.fA 15 underlying36 rfl sizeOf3 rfl) (LW.A rfl (LW.T (CW.ret (Ae rfl rfl ⟨_, rfl, ?_⟩)))))))))))
 exact ⟨rfl, hW⟩
theorem fH (b : Nat) (w : World) : Ret Tryz.prog 130 #[.pointer (some ⟨b, 0, none⟩)] w fun r w' => r = .pointer (some ⟨b, 16, none⟩) ∧ Up w w' := by
 have hW := Up.refl w
 refine cS (n := 6) (m := 9) func130 rfl rfl rfl (CW.S (LW.C (LW.S (CW.region (LW.M rfl (LW.pp (.nilCheck (.t rfl)) (LW.pp (.fA 16 underlying36 rfl sizeOf3 rfl) (LW.A rfl (LW.T (CW.ret (Ae rfl rfl ⟨_, rfl, ?_⟩)))))))))))
 exact ⟨rfl, hW⟩
theorem Wg (b : Nat) (w : World) : Ret Tryz.prog 129 #[.pointer (some ⟨b, 0, none⟩)] w fun r w' => r = .pointer (some ⟨b, 17, none⟩) ∧ Up w w' := by
 have hW := Up.refl w
 refine cS (n := 6) (m := 9) func129 rfl rfl rfl (CW.S (LW.C (LW.S (CW.region (LW.M rfl (LW.pp (.nilCheck (.t rfl)) (LW.pp (.fA 17 underlying36 rfl sizeOf3 rfl) (LW.A rfl (LW.T (CW.ret (Ae rfl rfl ⟨_, rfl, ?_⟩)))))))))))
 exact ⟨rfl, hW⟩
theorem Cx (g : FuncId) (w : World) : Ret Tryz.prog 119 #[.func (.func g) #[] #[]] w fun r w' => r = .agg #[.func (.func g) #[] #[], vi 1, vi 1000000] ∧ Up w w' := by
 have hW := Up.refl w
 refine cS (n := 5) (m := 9) func119 rfl rfl rfl (CW.S (Ah (.Az zeroValue163) rfl ?_))
 rintro _ w1 ⟨B2, rfl, NB2⟩
 have eB2 := NB2.at_
 replace hW := hW.up NB2.up
 have hB2 := NB2.blk
 refine LW.S (CW.region (LW.M rfl (LW.pp (.build (cs := #[.func (.func g) #[] #[], vi 1, vi 1000000]) underlying163 zeroValue163 Bh (.cons (.t rfl) (.cons (.const _) (.cons (.const _) .nil))) rfl) (LW.E (.Ay sizeOf163 rfl (.t rfl) (.t rfl) eQ hB2 rfl) ?_))))
 intro w2 Nw2
 replace hW := hW.sto Nw2.sto oQ
 replace hB2 := Nw2.blk
 refine LW.T (CW.ret (F0 rfl rfl isAgg163 sizeOf163 rfl (hB2.agg) ⟨_, rfl, ?_⟩))
 exact ⟨rfl, hW⟩
theorem Gg (w : World) : Ret Tryz.prog 135 #[] w fun r w' => r = .agg (Fld.cells Bi) ∧ Up w w' := by
 have hW := Up.refl w
 refine cS (n := 2) (m := 9) func135 rfl rfl rfl (CW.S (Ah (.Az zeroValue163) rfl ?_))
 rintro _ w1 ⟨B0, rfl, NB0⟩
 have eB0 := NB0.at_
 replace hW := hW.up NB0.up
 have hB0 := NB0.blk
 refine LW.S (CW.region (LW.pp (.build (cs := (Fld.cells Bi)) underlying163 zeroValue163 Bh (.cons (.func _) (.cons (.const _) (.cons (.const _) .nil))) rfl) (LW.E (.Ay sizeOf163 rfl (.t rfl) (.t rfl) (Fld.one _) hB0 rfl) ?_)))
 intro w2 Nw2
 replace hW := hW.sto Nw2.sto oQ
 replace hB0 := Nw2.blk
 refine LW.T (CW.ret (F0 rfl rfl isAgg163 sizeOf163 rfl (hB0.agg) ⟨_, rfl, ?_⟩))
 exact ⟨rfl, hW⟩
theorem Ld (w : World) : Ret Tryz.prog 132 #[] w fun r w' => SlT 163 w' r 3 Fld.cells Cm ∧ Up w w' := by
 have hW := Up.refl w
 refine cS (n := 4) (m := 9) func132 rfl rfl rfl (CW.S (LW.C (LW.S (CW.region (LW.pp (.build (cs := (Fld.cells ⟨11, 0, 59⟩)) underlying163 zeroValue163 Bh (.cons (.func _) (.cons (.const _) (.cons (.const _) .nil))) rfl) (LW.pp (.build (cs := (Fld.cells ⟨12, 0, 3⟩)) underlying163 zeroValue163 Bh (.cons (.func _) (.cons (.const _) (.cons (.const _) .nil))) rfl) (Ah (.buildSlice (xs := Cm) (enc := Fld.cells) (mk := fun x : Fld => .agg (Fld.cells x)) underlying128 sizeOf163 zeroValue163 rfl cQ (fun _ => rfl) (fun _ => rfl) (.cons (.t rfl) (.cons (.t rfl) .nil)) rfl) rfl ?_)))))))
 rintro _ w1 ⟨B3, cB3, rfl, NB3, yB3, xB3⟩
 replace hW := hW.up NB3.up
 have hB3 := NB3.blk
 have hE3 := xB3
 refine LW.A rfl (LW.T (CW.ret (Ae rfl rfl ⟨_, rfl, ?_⟩)))
 exact ⟨SlT.lit ⟨B3, cB3, rfl, NB3, yB3, hE3⟩, hW⟩
theorem Nf (w : World) : Ret Tryz.prog 133 #[] w fun r w' => SlT 163 w' r 3 Fld.cells Dc ∧ Up w w' := by
 have hW := Up.refl w
 refine cS (n := 4) (m := 9) func133 rfl rfl rfl (CW.S (LW.C (LW.S (CW.region (LW.K (eC .nil (Na)) rfl (Gg _) ?_)))))
 rintro _ w1 ⟨rfl, uw1⟩
 replace hW := hW.up uw1
 refine LW.pp (.build (cs := (Fld.cells ⟨6, 0, 1000000⟩)) underlying163 zeroValue163 Bh (.cons (.func _) (.cons (.const _) (.cons (.const _) .nil))) rfl) (Ah (.buildSlice (xs := Dc) (enc := Fld.cells) (mk := fun x : Fld => .agg (Fld.cells x)) underlying128 sizeOf163 zeroValue163 rfl cQ (fun _ => rfl) (fun _ => rfl) (.cons (.t rfl) (.cons (.t rfl) .nil)) rfl) rfl ?_)
 rintro _ w2 ⟨B3, cB3, rfl, NB3, yB3, xB3⟩
 replace hW := hW.up NB3.up
 have hB3 := NB3.blk
 have hE3 := xB3
 refine LW.A rfl (LW.T (CW.ret (Ae rfl rfl ⟨_, rfl, ?_⟩)))
 exact ⟨SlT.lit ⟨B3, cB3, rfl, NB3, yB3, hE3⟩, hW⟩
theorem H7 (ad : Option Addr) (cp : Nat) (vs : List Go.Value) (xss : List (List Fld)) (w : World) (hE0 : Els w ad 1 (fun v => #[v]) vs) (hl : xss.length = vs.length) (hx0 : ∀ (i : Nat) (v : Go.Value) (xs : List Fld), vs[i]? = some v → xss[i]? = some xs → Sl w v 3 Fld.cells xs) (hv : vs.length ≤ 1000) (hb : xss.flatten.length ≤ 1000) : Ret Tryz.prog 131 #[.slice ad vs.length cp] w fun r w' => SlT 163 w' r 3 Fld.cells xss.flatten ∧ Up w w' := by
 obtain ⟨w0, rfl⟩ : ∃ w0, w0 = w := ⟨_, rfl⟩
 have hS := Sep.start no w0
 refine cS (n := 16) (m := 9) func131 rfl rfl rfl (CW.S (LW.C (LW.S (CW.seq ?_))))
 replace hS := hS.add (Up.refl _) (A' := Al 163 3 Fld.cells (.slice none 0 0) ([] : List Fld)) (OwnS.nil _ _ _ _ _) (fun i h => by cases h)
 refine CW.region (LW.M rfl (LW.pp (.Ci underlying209 (.t rfl)) (LW.pp (.move (.const _)) (LW.T (CW.block (Am (σ := Nat × Go.Value) (fun s w => (s.1 ≤ vs.length) ∧ (Sep no w0 w [Al 163 3 Fld.cells s.2 ((xss.take s.1).flatten)])) (fun s => [(7, .eq (vi (s.1 : Int))), (2, .eq (s.2))]) ([(5, .eq _), (6, .eq _)]) (fun s => vs.length - s.1) (0, .slice none 0 0) ?_ ⟨rfl, rfl, rfl, rfl, trivial⟩ ?_))))))
 ·exact ⟨Nat.zero_le _, hS⟩
 rintro ⟨k, v⟩ w1 ⟨hkk, hS⟩
 dsimp only at hkk hS
 refine CW.S (LW.pp (.lss (.t rfl) (.t rfl)) (LW.S (CW.cond (.t rfl) (fun h8 => ?_) (fun h8 => ?_))))
 ·refine CW.skip (KW.then (CW.seq (CW.block (CW.seq ?_))))
  have hE := hE0.up hS.Ce
  have hkl : k < vs.length := by simp at h8; omega
  refine CW.region ?_
  obtain ⟨x, hx⟩ := Ac (xs := vs) (i := k) oQ
  obtain ⟨Bx, ox, ax, hcx⟩ := hE _ x hx
  refine LW.pp (.Aj underlying209 sizeOf128 (.t rfl) (.t rfl) oQ ax) (LW.pp (.ld isAgg128 rfl (hcx.nth (j := 0) rfl)) (LW.A rfl (LW.T ?_)))
  obtain ⟨ys, hys⟩ := Ac (xs := xss) (i := k) oQ
  have hSl := ((hx0 k x ys hx hys).up hS.Ce)
  have hfl := Sn xss (k + 1)
  rw [S8 hys, List.length_append] at hfl
  refine CW.region (LW.M rfl (LW.M rfl (Ah (.A8 (enc := Fld.cells) (bytes := 24) (i := Tryz.t163) underlying128 kQ rfl rfl rfl rfl cQ (fun _ => rfl) Fld.one (.t rfl) (.t rfl) (hS.own 0 rfl) hSl (by simp only [maxLen]; omega) oQ) rfl ?_)))
  intro v13 w2 Gw2
  replace hS := hS.Dh 0 rfl Gw2
  refine LW.A rfl (LW.nil (KW.inBlock (KW.then (CW.region (LW.pp (.inc (.t rfl) oQ) (LW.M rfl (LW.nil (KW.round ?_))))))))
  exact ⟨(k + 1, v13), ⟨by omega, by rw [S8 hys]; exact hS⟩, ⟨rfl, rfl, rfl, rfl, trivial⟩, by omega⟩
 refine CW.exit (Aa (Aa (Ad (KW.then (CW.S (LW.M rfl (LW.A rfl (LW.T (CW.ret (Ae rfl rfl ⟨_, rfl, ?_⟩))))))))))
 have hk2 : xss.take k = xss := List.take_of_length_le (by simp at h8; omega)
 rw [hk2] at hS
 exact ⟨SlT.own (hS.own 0 rfl) (fun _ => rfl), hS.Ce⟩
end Go.Proofs.YtmimclgihlhaeaaGreat
namespace Go.Wx
def Ma : List (List Fld) := [[], Cb ++ [Br 7] ++ Cm ++ [⟨13, 0, 39⟩] ++ Jn ++ Dc ++ [⟨16, -10000000, 10000000⟩], Cb ++ [Bi, J8], Cb ++ [Br 7, Br 8, Bi], [Br 7, Br 9, Br 10, Bi], [Br 10], Cb ++ Cm ++ Jn ++ Dc, Cb ++ Iv ++ Dc ++ [Hn], [Br 8, Hn, Bi], Cb ++ Cm ++ [Bi], [Br 14, Bi, J8], Cb ++ Cm ++ Dc]
def Qu : List (List Fld) := [[], Cb, Cb, Cb, [Br 7, Bi], [Br 10], Cb, Cb, [Br 8, Hn], Cb, [Br 14, Bi], Cb]
def fieldsOf (k : Int) : List Fld := Ma.getD k.toNat []
def Em (k : Int) : List Fld := Qu.getD k.toNat []
def Gn (k : Int) : Nat := [0, 1, 0, 2, 0, 0, 1, 1, 0, 0, 0, 1].getD k.toNat 0
def F6 (k : Int) : Bool := decide (k = 5)
end Go.Wx
namespace Go.Proofs.YtmimclgihlhaeaaGreat
open Go.Proofs.Tryz
open Go.Wx Go.RowKit
def Eo : Nat → FuncId := fun o => match o with
 | 1 => 134
 | 2 => 123
 | _ => 136
def ShV (w : World) (v : Go.Value) (fs ks : List Fld) (r : Nat) (t : Bool) : Prop := ∃ v1 v2, v = .agg #[v1, v2, .func (.func (Eo r)) #[] #[], .bool t] ∧ SlT 163 w v1 3 Fld.cells fs ∧ SlT 163 w v2 3 Fld.cells ks
theorem ShV.Fu {w w' : World} {v : Go.Value} {fs ks : List Fld} {r : Nat} {t : Bool} (h : ShV w v fs ks r t) (u : Cel w w') : ShV w' v fs ks r t := let ⟨v1, v2, e, h1, h2⟩ := h; ⟨v1, v2, e, h1.Fu u, h2.Fu u⟩
def SlS (w : World) (v : Go.Value) (xss : List (List Fld)) : Prop := ∃ vs : List Go.Value, Sl w v 1 (fun v => #[v]) vs ∧ xss.length = vs.length ∧ ∀ (i : Nat) (v : Go.Value) (xs : List Fld), vs[i]? = some v → xss[i]? = some xs → Sl w v 3 Fld.cells xs
theorem SlS.Fu {w w' : World} {v : Go.Value} {xss : List (List Fld)} (h : SlS w v xss) (u : Cel w w') : SlS w' v xss := let ⟨vs, h1, h2, h3⟩ := h; ⟨vs, h1.Fu u, h2, fun i v xs a b => (h3 i v xs a b).Fu u⟩
theorem Jo (xss : List (List Fld)) : PhC (.pred fun v w => SlS w v xss) := fun _ _ _ h u => SlS.Fu h u
theorem Gh (fs ks : List Fld) (r : Nat) (t : Bool) : PhC (.pred fun v w => ShV w v fs ks r t) := fun _ _ _ h u => ShV.Fu h u
def ShMap (w : World) (b : Nat) : Prop := ∃ kv, IMap w b kv ∧ (∀ k v, (k, v) ∈ kv → ShV w v (fieldsOf k) (Em k) (Gn k) (F6 k)) ∧ ∀ k, k ∈ kv.map (·.1) ↔ 1 ≤ k ∧ k ≤ 11
theorem ShMap.up {w w' : World} {b : Nat} (h : ShMap w b) (u : Up w w') : ShMap w' b := let ⟨kv, h1, h2, h3⟩ := h; ⟨kv, h1.up u, fun k v m => (h2 k v m).Fu u.Fu, h3⟩
def AllSl (w : World) : List Go.Value → List (List Fld) → Prop
 | [], [] => True
 | v :: vs, xs :: xss => Sl w v 3 Fld.cells xs ∧ AllSl w vs xss
 | _, _ => False
def Sq (t : Option Addr × Nat × Nat) : Go.Value := .slice t.1 t.2.1 t.2.2
theorem Els.Hc {α : Type} {mk : α → Go.Value} {w : World} {ad : Option Addr} {xs : List α} (h : Els w ad 1 (fun x => #[mk x]) xs) : Els w ad 1 (fun v => #[v]) (xs.map mk) := fun i v hv => by
 rw [List.getElem?_map] at hv
 cases hx : xs[i]? with
 | none => rw [hx] at hv; cases hv
 | some x => rw [hx] at hv; cases hv; exact h i x hx
theorem AllSl.at {w : World} : ∀ {vs : List Go.Value} {xss : List (List Fld)}, AllSl w vs xss → xss.length = vs.length ∧ ∀ (i : Nat) (v : Go.Value) (xs : List Fld), vs[i]? = some v → xss[i]? = some xs → Sl w v 3 Fld.cells xs
 | [], [], _ => ⟨rfl, fun i v xs h => by simp at h⟩
 | v :: vs, xs :: xss, h => ⟨by simp [(AllSl.at h.2).1], fun i v' xs' e1 e2 => by
   match i with
   | 0 => cases e1; cases e2; exact h.1
   | i + 1 => rw [List.getElem?_cons_succ] at e1 e2; exact (AllSl.at h.2).2 i v' xs' e1 e2⟩
 | [], _ :: _, h => h.elim
 | _ :: _, [], h => h.elim
theorem AllSl.up {w w' : World} (u : Up w w') : ∀ {vs : List Go.Value} {xss : List (List Fld)}, AllSl w vs xss → AllSl w' vs xss
 | [], [], _ => trivial
 | _ :: _, _ :: _, h => ⟨h.1.Fu u.Fu, AllSl.up u h.2⟩
 | [], _ :: _, h => h.elim
 | _ :: _, [], h => h.elim
set_option maxHeartbeats 8000000 in
theorem Jp (w : World) : Ret Tryz.prog 65 #[] w fun r w' => ∃ b, r = .map (some b) ∧ ShMap w' b ∧ Up w w' := by
 have hW := Up.refl w
 refine cS (n := 118) (m := 9) func65 rfl rfl rfl (CW.S (LW.C (LW.S (CW.region (LW.K (eC (.cons (.func _) .nil) (Hg)) rfl (Cx _ _) ?_)))))
 rintro _ w1 ⟨rfl, uw1⟩
 replace hW := hW.up uw1
 refine Ah (.buildSlice (xs := Cb) (enc := Fld.cells) (mk := fun x : Fld => .agg (Fld.cells x)) underlying128 sizeOf163 zeroValue163 rfl cQ (fun _ => rfl) (fun _ => rfl) (.cons (.t rfl) .nil) rfl) rfl ?_
 rintro _ w2 ⟨B8, cB8, rfl, NB8, yB8, xB8⟩
 replace hW := hW.up NB8.up
 have hB8 := NB8.blk
 have hE8 := xB8
 refine LW.A rfl (LW.S ?_)
 have hT8 := SlT.lit ⟨B8, cB8, rfl, NB8, yB8, hE8⟩
 refine CW.region (LW.K (eC (.cons (.func _) .nil) (Hg)) rfl (Cx _ _) ?_)
 rintro _ w3 ⟨rfl, uw3⟩
 replace hW := hW.up uw3
 replace hB8 := hB8.up uw3
 replace hE8 := hE8.up uw3
 replace hT8 := hT8.up uw3
 refine LW.K (eC (.cons (.func _) .nil) (Hg)) rfl (Cx _ _) ?_
 rintro _ w4 ⟨rfl, uw4⟩
 replace hW := hW.up uw4
 replace hB8 := hB8.up uw4
 replace hE8 := hE8.up uw4
 replace hT8 := hT8.up uw4
 refine Ah (.buildSlice (xs := Jn) (enc := Fld.cells) (mk := fun x : Fld => .agg (Fld.cells x)) underlying128 sizeOf163 zeroValue163 rfl cQ (fun _ => rfl) (fun _ => rfl) (.cons (.t rfl) (.cons (.t rfl) .nil)) rfl) rfl ?_
 rintro _ w5 ⟨B11, cB11, rfl, NB11, yB11, xB11⟩
 replace hW := hW.up NB11.up
 replace hB8 := hB8.up NB11.up
 replace hE8 := hE8.up NB11.up
 replace hT8 := hT8.up NB11.up
 have hB11 := NB11.blk
 have hE11 := xB11
 refine LW.A rfl (LW.S ?_)
 have hT11 := SlT.lit ⟨B11, cB11, rfl, NB11, yB11, hE11⟩
 refine CW.region (LW.pp (.assign (.func _)) (LW.S (CW.region (LW.pp (.build (cs := (Fld.cells ⟨7, 0, 1000000⟩)) underlying163 zeroValue163 Bh (.cons (.func _) (.cons (.const _) (.cons (.const _) .nil))) rfl) (LW.pp (.build (cs := (Fld.cells ⟨9, 0, 1000000⟩)) underlying163 zeroValue163 Bh (.cons (.func _) (.cons (.const _) (.cons (.const _) .nil))) rfl) (LW.pp (.build (cs := (Fld.cells ⟨11, 0, 60⟩)) underlying163 zeroValue163 Bh (.cons (.func _) (.cons (.const _) (.cons (.const _) .nil))) rfl) (LW.pp (.build (cs := (Fld.cells ⟨12, 0, 4⟩)) underlying163 zeroValue163 Bh (.cons (.func _) (.cons (.const _) (.cons (.const _) .nil))) rfl) (LW.pp (.build (cs := (Fld.cells ⟨13, 0, 40⟩)) underlying163 zeroValue163 Bh (.cons (.func _) (.cons (.const _) (.cons (.const _) .nil))) rfl) (LW.pp (.build (cs := (Fld.cells ⟨14, 0, 1000000⟩)) underlying163 zeroValue163 Bh (.cons (.func _) (.cons (.const _) (.cons (.const _) .nil))) rfl) (LW.pp (.build (cs := (Fld.cells ⟨15, 0, 1000000⟩)) underlying163 zeroValue163 Bh (.cons (.func _) (.cons (.const _) (.cons (.const _) .nil))) rfl) (Ah (.buildSlice (xs := Iv) (enc := Fld.cells) (mk := fun x : Fld => .agg (Fld.cells x)) underlying128 sizeOf163 zeroValue163 rfl cQ (fun _ => rfl) (fun _ => rfl) (.cons (.t rfl) (.cons (.t rfl) (.cons (.t rfl) (.cons (.t rfl) (.cons (.t rfl) (.cons (.t rfl) (.cons (.t rfl) .nil))))))) rfl) rfl ?_)))))))))))
 rintro _ w6 ⟨B19, cB19, rfl, NB19, yB19, xB19⟩
 replace hW := hW.up NB19.up
 replace hB8 := hB8.up NB19.up
 replace hE8 := hE8.up NB19.up
 replace hT8 := hT8.up NB19.up
 replace hB11 := hB11.up NB19.up
 replace hE11 := hE11.up NB19.up
 replace hT11 := hT11.up NB19.up
 have hB19 := NB19.blk
 have hE19 := xB19
 refine LW.A rfl (LW.S ?_)
 have hT19 := SlT.lit ⟨B19, cB19, rfl, NB19, yB19, hE19⟩
 refine CW.region (LW.pp (.build (cs := (Fld.cells Hn)) underlying163 zeroValue163 Bh (.cons (.func _) (.cons (.const _) (.cons (.const _) .nil))) rfl) (Ah (.Az zeroValue163) rfl ?_))
 rintro _ w7 ⟨B5, rfl, MB5⟩
 refine LW.E (.Ay sizeOf163 rfl (.t rfl) (.t rfl) (Fld.one _) MB5.blk rfl) ?_
 intro w8 LB5
 have NB5 := MB5.set LB5
 replace hW := hW.up NB5.up
 replace hB8 := hB8.up NB5.up
 replace hE8 := hE8.up NB5.up
 replace hT8 := hT8.up NB5.up
 replace hB11 := hB11.up NB5.up
 replace hE11 := hE11.up NB5.up
 replace hT11 := hT11.up NB5.up
 replace hB19 := hB19.up NB5.up
 replace hE19 := hE19.up NB5.up
 replace hT19 := hT19.up NB5.up
 have hB5 := NB5.blk
 refine LW.S (CW.region (LW.pp (.build (cs := (Fld.cells J8)) underlying163 zeroValue163 Bh (.cons (.func _) (.cons (.const _) (.cons (.const _) .nil))) rfl) (Ah (.Az zeroValue163) rfl ?_)))
 rintro _ w9 ⟨B6, rfl, MB6⟩
 refine LW.E (.Ay sizeOf163 rfl (.t rfl) (.t rfl) (Fld.one _) MB6.blk rfl) ?_
 intro w10 LB6
 have NB6 := MB6.set LB6
 replace hW := hW.up NB6.up
 replace hB8 := hB8.up NB6.up
 replace hE8 := hE8.up NB6.up
 replace hT8 := hT8.up NB6.up
 replace hB11 := hB11.up NB6.up
 replace hE11 := hE11.up NB6.up
 replace hT11 := hT11.up NB6.up
 replace hB19 := hB19.up NB6.up
 replace hE19 := hE19.up NB6.up
 replace hT19 := hT19.up NB6.up
 replace hB5 := hB5.up NB6.up
 have hB6 := NB6.blk
 refine LW.S (CW.Zg 106 0 22 [(15, 1, 36), (24, 2, 44), (35, 3, 54), (45, 4, 63), (51, 5, 68), (60, 6, 76), (70, 7, 85), (79, 8, 93), (88, 9, 101), (97, 10, 109), (105, 11, 116)] [(.pred fun v _ => ∃ b, v = .map (some b)), (.pred fun v w => SlT 163 w v 3 Fld.cells (Cb)), (.eq (.agg (Fld.cells (Br 7)))), (.pred fun v w => SlT 163 w v 3 Fld.cells ([Br 7])), (.pred fun v w => SlT 163 w v 3 Fld.cells (Cm)), (.eq (.agg (Fld.cells (⟨13, 0, 39⟩)))), (.pred fun v w => SlT 163 w v 3 Fld.cells ([⟨13, 0, 39⟩])), (.pred fun v w => SlT 163 w v 3 Fld.cells (Jn)), (.pred fun v w => SlT 163 w v 3 Fld.cells (Dc)), (.eq (.agg (Fld.cells (⟨16, -10000000, 10000000⟩)))), (.pred fun v w => SlT 163 w v 3 Fld.cells ([⟨16, -10000000, 10000000⟩])), (.pred fun v w => SlS w v [Cb, [Br 7], Cm, [⟨13, 0, 39⟩], Jn, Dc, [⟨16, -10000000, 10000000⟩]]), (.pred fun v w => SlT 163 w v 3 Fld.cells (List.flatten [Cb, [Br 7], Cm, [⟨13, 0, 39⟩], Jn, Dc, [⟨16, -10000000, 10000000⟩]])), (.pred fun v w => SlT 163 w v 3 Fld.cells (Cb)), (.pred fun v w => ShV w v (List.flatten [Cb, [Br 7], Cm, [⟨13, 0, 39⟩], Jn, Dc, [⟨16, -10000000, 10000000⟩]]) (Cb) 1 false), (.eq undef), (.pred fun v w => SlT 163 w v 3 Fld.cells (Cb)), (.eq (.agg (Fld.cells (Bi)))), (.eq (.agg (Fld.cells (J8)))), (.pred fun v w => SlT 163 w v 3 Fld.cells ([Bi, J8])), (.pred fun v w => SlS w v [Cb, [Bi, J8]]), (.pred fun v w => SlT 163 w v 3 Fld.cells (List.flatten [Cb, [Bi, J8]])), (.pred fun v w => SlT 163 w v 3 Fld.cells (Cb)), (.pred fun v w => ShV w v (List.flatten [Cb, [Bi, J8]]) (Cb) 0 false), (.eq undef), (.pred fun v w => SlT 163 w v 3 Fld.cells (Cb)), (.eq (.agg (Fld.cells (Br 7)))), (.eq (.agg (Fld.cells (Br 8)))), (.eq (.agg (Fld.cells (Bi)))), (.pred fun v w => SlT 163 w v 3 Fld.cells ([Br 7, Br 8, Bi])), (.pred fun v w => SlS w v [Cb, [Br 7, Br 8, Bi]]), (.pred fun v w => SlT 163 w v 3 Fld.cells (List.flatten [Cb, [Br 7, Br 8, Bi]])), (.pred fun v w => SlT 163 w v 3 Fld.cells (Cb)), (.eq (.func (.func (Eo 2)) #[] #[])), (.pred fun v w => ShV w v (List.flatten [Cb, [Br 7, Br 8, Bi]]) (Cb) 2 false), (.eq undef), (.eq (.agg (Fld.cells (Br 7)))), (.eq (.agg (Fld.cells (Br 9)))), (.eq (.agg (Fld.cells (Br 10)))), (.eq (.agg (Fld.cells (Bi)))), (.pred fun v w => SlT 163 w v 3 Fld.cells ([Br 7, Br 9, Br 10, Bi])), (.eq (.agg (Fld.cells (Br 7)))), (.eq (.agg (Fld.cells (Bi)))), (.pred fun v w => SlT 163 w v 3 Fld.cells ([Br 7, Bi])), (.pred fun v w => ShV w v ([Br 7, Br 9, Br 10, Bi]) ([Br 7, Bi]) 0 false), (.eq undef), (.eq (.agg (Fld.cells (Br 10)))), (.pred fun v w => SlT 163 w v 3 Fld.cells ([Br 10])), (.eq (.agg (Fld.cells (Br 10)))), (.pred fun v w => SlT 163 w v 3 Fld.cells ([Br 10])), (.pred fun v w => ShV w v ([Br 10]) ([Br 10]) 0 true), (.eq undef), (.pred fun v w => SlT 163 w v 3 Fld.cells (Cb)), (.pred fun v w => SlT 163 w v 3 Fld.cells (Cm)), (.pred fun v w => SlT 163 w v 3 Fld.cells (Jn)), (.pred fun v w => SlT 163 w v 3 Fld.cells (Dc)), (.pred fun v w => SlS w v [Cb, Cm, Jn, Dc]), (.pred fun v w => SlT 163 w v 3 Fld.cells (List.flatten [Cb, Cm, Jn, Dc])), (.pred fun v w => SlT 163 w v 3 Fld.cells (Cb)), (.pred fun v w => ShV w v (List.flatten [Cb, Cm, Jn, Dc]) (Cb) 1 false), (.eq undef), (.pred fun v w => SlT 163 w v 3 Fld.cells (Cb)), (.pred fun v w => SlT 163 w v 3 Fld.cells (Iv)), (.pred fun v w => SlT 163 w v 3 Fld.cells (Dc)), (.eq (.agg (Fld.cells (Hn)))), (.pred fun v w => SlT 163 w v 3 Fld.cells ([Hn])), (.pred fun v w => SlS w v [Cb, Iv, Dc, [Hn]]), (.pred fun v w => SlT 163 w v 3 Fld.cells (List.flatten [Cb, Iv, Dc, [Hn]])), (.pred fun v w => SlT 163 w v 3 Fld.cells (Cb)), (.pred fun v w => ShV w v (List.flatten [Cb, Iv, Dc, [Hn]]) (Cb) 1 false), (.eq undef), (.eq (.agg (Fld.cells (Br 8)))), (.eq (.agg (Fld.cells (Hn)))), (.eq (.agg (Fld.cells (Bi)))), (.pred fun v w => SlT 163 w v 3 Fld.cells ([Br 8, Hn, Bi])), (.eq (.agg (Fld.cells (Br 8)))), (.eq (.agg (Fld.cells (Hn)))), (.pred fun v w => SlT 163 w v 3 Fld.cells ([Br 8, Hn])), (.pred fun v w => ShV w v ([Br 8, Hn, Bi]) ([Br 8, Hn]) 0 false), (.eq undef), (.pred fun v w => SlT 163 w v 3 Fld.cells (Cb)), (.pred fun v w => SlT 163 w v 3 Fld.cells (Cm)), (.eq (.agg (Fld.cells (Bi)))), (.pred fun v w => SlT 163 w v 3 Fld.cells ([Bi])), (.pred fun v w => SlS w v [Cb, Cm, [Bi]]), (.pred fun v w => SlT 163 w v 3 Fld.cells (List.flatten [Cb, Cm, [Bi]])), (.pred fun v w => SlT 163 w v 3 Fld.cells (Cb)), (.pred fun v w => ShV w v (List.flatten [Cb, Cm, [Bi]]) (Cb) 0 false), (.eq undef), (.eq (.agg (Fld.cells (Br 14)))), (.eq (.agg (Fld.cells (Bi)))), (.eq (.agg (Fld.cells (J8)))), (.pred fun v w => SlT 163 w v 3 Fld.cells ([Br 14, Bi, J8])), (.eq (.agg (Fld.cells (Br 14)))), (.eq (.agg (Fld.cells (Bi)))), (.pred fun v w => SlT 163 w v 3 Fld.cells ([Br 14, Bi])), (.pred fun v w => ShV w v ([Br 14, Bi, J8]) ([Br 14, Bi]) 0 false), (.eq undef), (.pred fun v w => SlT 163 w v 3 Fld.cells (Cb)), (.pred fun v w => SlT 163 w v 3 Fld.cells (Cm)), (.pred fun v w => SlT 163 w v 3 Fld.cells (Dc)), (.pred fun v w => SlS w v [Cb, Cm, Dc]), (.pred fun v w => SlT 163 w v 3 Fld.cells (List.flatten [Cb, Cm, Dc])), (.pred fun v w => SlT 163 w v 3 Fld.cells (Cb)), (.pred fun v w => ShV w v (List.flatten [Cb, Cm, Dc]) (Cb) 1 false), (.eq undef)] underlying131 underlying3 kQ rfl kQ kQ kQ kQ kQ kQ kQ rfl cQ ⟨_, _, rfl⟩ ⟨PhC.pred fun _ _ _ h _ => h, A4 _ _ _ _, PhC.eq _, A4 _ _ _ _, A4 _ _ _ _, PhC.eq _, A4 _ _ _ _, A4 _ _ _ _, A4 _ _ _ _, PhC.eq _, A4 _ _ _ _, Jo _, A4 _ _ _ _, A4 _ _ _ _, Gh _ _ _ _, PhC.eq _, A4 _ _ _ _, PhC.eq _, PhC.eq _, A4 _ _ _ _, Jo _, A4 _ _ _ _, A4 _ _ _ _, Gh _ _ _ _, PhC.eq _, A4 _ _ _ _, PhC.eq _, PhC.eq _, PhC.eq _, A4 _ _ _ _, Jo _, A4 _ _ _ _, A4 _ _ _ _, PhC.eq _, Gh _ _ _ _, PhC.eq _, PhC.eq _, PhC.eq _, PhC.eq _, PhC.eq _, A4 _ _ _ _, PhC.eq _, PhC.eq _, A4 _ _ _ _, Gh _ _ _ _, PhC.eq _, PhC.eq _, A4 _ _ _ _, PhC.eq _, A4 _ _ _ _, Gh _ _ _ _, PhC.eq _, A4 _ _ _ _, A4 _ _ _ _, A4 _ _ _ _, A4 _ _ _ _, Jo _, A4 _ _ _ _, A4 _ _ _ _, Gh _ _ _ _, PhC.eq _, A4 _ _ _ _, A4 _ _ _ _, A4 _ _ _ _, PhC.eq _, A4 _ _ _ _, Jo _, A4 _ _ _ _, A4 _ _ _ _, Gh _ _ _ _, PhC.eq _, PhC.eq _, PhC.eq _, PhC.eq _, A4 _ _ _ _, PhC.eq _, PhC.eq _, A4 _ _ _ _, Gh _ _ _ _, PhC.eq _, A4 _ _ _ _, A4 _ _ _ _, PhC.eq _, A4 _ _ _ _, Jo _, A4 _ _ _ _, A4 _ _ _ _, Gh _ _ _ _, PhC.eq _, PhC.eq _, PhC.eq _, PhC.eq _, A4 _ _ _ _, PhC.eq _, PhC.eq _, A4 _ _ _ _, Gh _ _ _ _, PhC.eq _, A4 _ _ _ _, A4 _ _ _ _, A4 _ _ _ _, Jo _, A4 _ _ _ _, A4 _ _ _ _, Gh _ _ _ _, PhC.eq _, trivial⟩ (fun b W => ⟨b, rfl⟩) ?_ ?_)
 ·intro W hC0
  have hC := (Up.drew w10).Fu.trans hC0
  refine aC (.inl (.inl rfl)) (aC (.inr ⟨rfl, rfl, TU.p (.move (.t rfl)) (SlT.Fu hT8 hC)⟩) (aC (.inr ⟨rfl, rfl, TU.c (eC (.cons (.func _) .nil) (Hg)) (Cx _ _) sQ⟩) (aC (.inr ⟨rfl, rfl, TU.r (REv.buildSlice (xs := ([Br 7] : List Fld)) (enc := Fld.cells) (mk := fun x : Fld => .agg (Fld.cells x)) underlying128 sizeOf163 zeroValue163 rfl cQ (fun _ => rfl) (fun _ => rfl) (.cons (.t rfl) .nil) rfl) (by rintro _ W1 ⟨B, c, rfl, N, y, x⟩; exact ⟨N.up, SlT.lit ⟨B, c, rfl, N, y, x⟩⟩)⟩) (aC (.inr ⟨rfl, rfl, TU.c (eC .nil (cF)) (Ld _) (fun v W1 h => ⟨h.2, h.1⟩)⟩) (aC (.inr ⟨rfl, rfl, TU.p (.build (cs := Fld.cells ⟨13, 0, 39⟩) underlying163 zeroValue163 Bh (.cons (.func _) (.cons (.const _) (.cons (.const _) .nil))) rfl) rfl⟩) (aC (.inr ⟨rfl, rfl, TU.r (REv.buildSlice (xs := ([⟨13, 0, 39⟩] : List Fld)) (enc := Fld.cells) (mk := fun x : Fld => .agg (Fld.cells x)) underlying128 sizeOf163 zeroValue163 rfl cQ (fun _ => rfl) (fun _ => rfl) (.cons (.t rfl) .nil) rfl) (by rintro _ W1 ⟨B, c, rfl, N, y, x⟩; exact ⟨N.up, SlT.lit ⟨B, c, rfl, N, y, x⟩⟩)⟩) (aC (.inr ⟨rfl, rfl, TU.p (.move (.t rfl)) (SlT.Fu hT11 hC)⟩) (aC (.inr ⟨rfl, rfl, TU.c (eC .nil (cG)) (Nf _) (fun v W1 h => ⟨h.2, h.1⟩)⟩) (aC (.inr ⟨rfl, rfl, TU.p (.build (cs := Fld.cells ⟨16, -10000000, 10000000⟩) underlying163 zeroValue163 Bh (.cons (.func _) (.cons (.const _) (.cons (.const _) .nil))) rfl) rfl⟩) (aC (.inr ⟨rfl, rfl, TU.r (REv.buildSlice (xs := ([⟨16, -10000000, 10000000⟩] : List Fld)) (enc := Fld.cells) (mk := fun x : Fld => .agg (Fld.cells x)) underlying128 sizeOf163 zeroValue163 rfl cQ (fun _ => rfl) (fun _ => rfl) (.cons (.t rfl) .nil) rfl) (by rintro _ W1 ⟨B, c, rfl, N, y, x⟩; exact ⟨N.up, SlT.lit ⟨B, c, rfl, N, y, x⟩⟩)⟩) (aC (.inr ⟨rfl, rfl, TU.open (d := 23) rfl (by rintro _ ⟨⟨a23, c23, rfl, x23⟩, _⟩; exact TU.open (d := 25) rfl (by rintro _ ⟨⟨a25, c25, rfl, x25⟩, _⟩; exact TU.open (d := 26) rfl (by rintro _ ⟨⟨a26, c26, rfl, x26⟩, _⟩; exact TU.open (d := 28) rfl (by rintro _ ⟨⟨a28, c28, rfl, x28⟩, _⟩; exact TU.open (d := 29) rfl (by rintro _ ⟨⟨a29, c29, rfl, x29⟩, _⟩; exact TU.open (d := 30) rfl (by rintro _ ⟨⟨a30, c30, rfl, x30⟩, _⟩; exact TU.open (d := 32) rfl (by rintro _ ⟨⟨a32, c32, rfl, x32⟩, _⟩; exact TU.r (REv.buildSlice (xs := [(a23, List.length (Cb), c23), (a25, List.length ([Br 7]), c25), (a26, List.length (Cm), c26), (a28, List.length ([⟨13, 0, 39⟩]), c28), (a29, List.length (Jn), c29), (a30, List.length (Dc), c30), (a32, List.length ([⟨16, -10000000, 10000000⟩]), c32)]) (enc := fun t => #[Sq t]) (mk := Sq) underlying209 sizeOf128 zeroValue128 rfl cQ (fun _ => rfl) (fun _ => rfl) (.cons (.t rfl) (.cons (.t rfl) (.cons (.t rfl) (.cons (.t rfl) (.cons (.t rfl) (.cons (.t rfl) (.cons (.t rfl) .nil))))))) rfl) (by rintro _ W1 ⟨B, c, rfl, N, y, x⟩; exact ⟨N.up, _, Ak (Els.Hc x), (AllSl.up N.up (vs := List.map Sq [(a23, List.length (Cb), c23), (a25, List.length ([Br 7]), c25), (a26, List.length (Cm), c26), (a28, List.length ([⟨13, 0, 39⟩]), c28), (a29, List.length (Jn), c29), (a30, List.length (Dc), c30), (a32, List.length ([⟨16, -10000000, 10000000⟩]), c32)]) (xss := [Cb, [Br 7], Cm, [⟨13, 0, 39⟩], Jn, Dc, [⟨16, -10000000, 10000000⟩]]) ⟨Ak x23, Ak x25, Ak x26, Ak x28, Ak x29, Ak x30, Ak x32, trivial⟩).at⟩))))))))⟩) (aC (.inr ⟨rfl, rfl, TU.open (d := 33) rfl (by rintro v ⟨vs, ⟨ad, cp, rfl, hE⟩, hl, hx⟩; exact TU.c (eC (.o rfl) (Qk)) (H7 ad cp vs _ _ hE hl hx (by rw [← hl]; decide) cQ) (fun v W1 h => ⟨h.2, h.1⟩))⟩) (aC (.inr ⟨rfl, rfl, TU.p (.move (.t rfl)) (SlT.Fu hT8 hC)⟩) (aC (.inr ⟨rfl, rfl, TU.open (d := 34) rfl (by rintro _ ⟨⟨a34, c34, rfl, x34⟩, p34⟩; exact TU.open (d := 35) rfl (by rintro _ ⟨⟨b35, d35, rfl, y35⟩, q35⟩; exact TU.p (.build (cs := #[.slice a34 (List.length (List.flatten [Cb, [Br 7], Cm, [⟨13, 0, 39⟩], Jn, Dc, [⟨16, -10000000, 10000000⟩]])) c34, .slice b35 (List.length (Cb)) d35, .func (.func (Eo 1)) #[] #[], .bool false]) underlying130 zeroValue130 Cs (.cons (.t rfl) (.cons (.t rfl) (.cons (.func _) (.cons (.const _) .nil)))) rfl) ⟨_, _, rfl, ⟨Ak x34, p34⟩, ⟨Ak y35, q35⟩⟩))⟩) (aC (.inl (.inr ⟨rfl, by intro j hj e; simp only [List.mem_cons, List.mem_nil_iff, or_false] at hj; rcases hj with rfl | rfl | rfl | rfl | rfl | rfl | rfl | rfl | rfl | rfl | rfl <;> first | exact absurd e cQ | exact ⟨_, _, _, rfl⟩⟩)) (aC (.inr ⟨rfl, rfl, TU.p (.move (.t rfl)) (SlT.Fu hT8 hC)⟩) (aC (.inr ⟨rfl, rfl, TU.c (eC .nil (Na)) (Gg _) sQ⟩) (aC (.inr ⟨rfl, rfl, TU.p (.la isAgg163 sizeOf163 rfl (AggAt.Fu hB6.agg hC)) rfl⟩) (aC (.inr ⟨rfl, rfl, TU.r (REv.buildSlice (xs := ([Bi, J8] : List Fld)) (enc := Fld.cells) (mk := fun x : Fld => .agg (Fld.cells x)) underlying128 sizeOf163 zeroValue163 rfl cQ (fun _ => rfl) (fun _ => rfl) (.cons (.t rfl) (.cons (.t rfl) .nil)) rfl) (by rintro _ W1 ⟨B, c, rfl, N, y, x⟩; exact ⟨N.up, SlT.lit ⟨B, c, rfl, N, y, x⟩⟩)⟩) (aC (.inr ⟨rfl, rfl, TU.open (d := 37) rfl (by rintro _ ⟨⟨a37, c37, rfl, x37⟩, _⟩; exact TU.open (d := 40) rfl (by rintro _ ⟨⟨a40, c40, rfl, x40⟩, _⟩; exact TU.r (REv.buildSlice (xs := [(a37, List.length (Cb), c37), (a40, List.length ([Bi, J8]), c40)]) (enc := fun t => #[Sq t]) (mk := Sq) underlying209 sizeOf128 zeroValue128 rfl cQ (fun _ => rfl) (fun _ => rfl) (.cons (.t rfl) (.cons (.t rfl) .nil)) rfl) (by rintro _ W1 ⟨B, c, rfl, N, y, x⟩; exact ⟨N.up, _, Ak (Els.Hc x), (AllSl.up N.up (vs := List.map Sq [(a37, List.length (Cb), c37), (a40, List.length ([Bi, J8]), c40)]) (xss := [Cb, [Bi, J8]]) ⟨Ak x37, Ak x40, trivial⟩).at⟩)))⟩) (aC (.inr ⟨rfl, rfl, TU.open (d := 41) rfl (by rintro v ⟨vs, ⟨ad, cp, rfl, hE⟩, hl, hx⟩; exact TU.c (eC (.o rfl) (Qk)) (H7 ad cp vs _ _ hE hl hx (by rw [← hl]; decide) cQ) (fun v W1 h => ⟨h.2, h.1⟩))⟩) (aC (.inr ⟨rfl, rfl, TU.p (.move (.t rfl)) (SlT.Fu hT8 hC)⟩) (aC (.inr ⟨rfl, rfl, TU.open (d := 42) rfl (by rintro _ ⟨⟨a42, c42, rfl, x42⟩, p42⟩; exact TU.open (d := 43) rfl (by rintro _ ⟨⟨b43, d43, rfl, y43⟩, q43⟩; exact TU.p (.build (cs := #[.slice a42 (List.length (List.flatten [Cb, [Bi, J8]])) c42, .slice b43 (List.length (Cb)) d43, .func (.func (Eo 0)) #[] #[], .bool false]) underlying130 zeroValue130 Cs (.cons (.t rfl) (.cons (.t rfl) (.cons (.func _) (.cons (.const _) .nil)))) rfl) ⟨_, _, rfl, ⟨Ak x42, p42⟩, ⟨Ak y43, q43⟩⟩))⟩) (aC (.inl (.inr ⟨rfl, by intro j hj e; simp only [List.mem_cons, List.mem_nil_iff, or_false] at hj; rcases hj with rfl | rfl | rfl | rfl | rfl | rfl | rfl | rfl | rfl | rfl | rfl <;> first | exact absurd e cQ | exact ⟨_, _, _, rfl⟩⟩)) (aC (.inr ⟨rfl, rfl, TU.p (.move (.t rfl)) (SlT.Fu hT8 hC)⟩) (aC (.inr ⟨rfl, rfl, TU.c (eC (.cons (.func _) .nil) (Hg)) (Cx _ _) sQ⟩) (aC (.inr ⟨rfl, rfl, TU.c (eC (.cons (.func _) .nil) (Hg)) (Cx _ _) sQ⟩) (aC (.inr ⟨rfl, rfl, TU.c (eC .nil (Na)) (Gg _) sQ⟩) (aC (.inr ⟨rfl, rfl, TU.r (REv.buildSlice (xs := ([Br 7, Br 8, Bi] : List Fld)) (enc := Fld.cells) (mk := fun x : Fld => .agg (Fld.cells x)) underlying128 sizeOf163 zeroValue163 rfl cQ (fun _ => rfl) (fun _ => rfl) (.cons (.t rfl) (.cons (.t rfl) (.cons (.t rfl) .nil))) rfl) (by rintro _ W1 ⟨B, c, rfl, N, y, x⟩; exact ⟨N.up, SlT.lit ⟨B, c, rfl, N, y, x⟩⟩)⟩) (aC (.inr ⟨rfl, rfl, TU.open (d := 45) rfl (by rintro _ ⟨⟨a45, c45, rfl, x45⟩, _⟩; exact TU.open (d := 49) rfl (by rintro _ ⟨⟨a49, c49, rfl, x49⟩, _⟩; exact TU.r (REv.buildSlice (xs := [(a45, List.length (Cb), c45), (a49, List.length ([Br 7, Br 8, Bi]), c49)]) (enc := fun t => #[Sq t]) (mk := Sq) underlying209 sizeOf128 zeroValue128 rfl cQ (fun _ => rfl) (fun _ => rfl) (.cons (.t rfl) (.cons (.t rfl) .nil)) rfl) (by rintro _ W1 ⟨B, c, rfl, N, y, x⟩; exact ⟨N.up, _, Ak (Els.Hc x), (AllSl.up N.up (vs := List.map Sq [(a45, List.length (Cb), c45), (a49, List.length ([Br 7, Br 8, Bi]), c49)]) (xss := [Cb, [Br 7, Br 8, Bi]]) ⟨Ak x45, Ak x49, trivial⟩).at⟩)))⟩) (aC (.inr ⟨rfl, rfl, TU.open (d := 50) rfl (by rintro v ⟨vs, ⟨ad, cp, rfl, hE⟩, hl, hx⟩; exact TU.c (eC (.o rfl) (Qk)) (H7 ad cp vs _ _ hE hl hx (by rw [← hl]; decide) cQ) (fun v W1 h => ⟨h.2, h.1⟩))⟩) (aC (.inr ⟨rfl, rfl, TU.p (.move (.t rfl)) (SlT.Fu hT8 hC)⟩) (aC (.inr ⟨rfl, rfl, TU.p (.move (.t rfl)) rfl⟩) (aC (.inr ⟨rfl, rfl, TU.open (d := 51) rfl (by rintro _ ⟨⟨a51, c51, rfl, x51⟩, p51⟩; exact TU.open (d := 52) rfl (by rintro _ ⟨⟨b52, d52, rfl, y52⟩, q52⟩; exact TU.p (.build (cs := #[.slice a51 (List.length (List.flatten [Cb, [Br 7, Br 8, Bi]])) c51, .slice b52 (List.length (Cb)) d52, .func (.func (Eo 2)) #[] #[], .bool false]) underlying130 zeroValue130 Cs (.cons (.t rfl) (.cons (.t rfl) (.cons (.t rfl) (.cons (.const _) .nil)))) rfl) ⟨_, _, rfl, ⟨Ak x51, p51⟩, ⟨Ak y52, q52⟩⟩))⟩) (aC (.inl (.inr ⟨rfl, by intro j hj e; simp only [List.mem_cons, List.mem_nil_iff, or_false] at hj; rcases hj with rfl | rfl | rfl | rfl | rfl | rfl | rfl | rfl | rfl | rfl | rfl <;> first | exact absurd e cQ | exact ⟨_, _, _, rfl⟩⟩)) (aC (.inr ⟨rfl, rfl, TU.c (eC (.cons (.func _) .nil) (Hg)) (Cx _ _) sQ⟩) (aC (.inr ⟨rfl, rfl, TU.c (eC (.cons (.func _) .nil) (Hg)) (Cx _ _) sQ⟩) (aC (.inr ⟨rfl, rfl, TU.c (eC (.cons (.func _) .nil) (Hg)) (Cx _ _) sQ⟩) (aC (.inr ⟨rfl, rfl, TU.c (eC .nil (Na)) (Gg _) sQ⟩) (aC (.inr ⟨rfl, rfl, TU.r (REv.buildSlice (xs := ([Br 7, Br 9, Br 10, Bi] : List Fld)) (enc := Fld.cells) (mk := fun x : Fld => .agg (Fld.cells x)) underlying128 sizeOf163 zeroValue163 rfl cQ (fun _ => rfl) (fun _ => rfl) (.cons (.t rfl) (.cons (.t rfl) (.cons (.t rfl) (.cons (.t rfl) .nil)))) rfl) (by rintro _ W1 ⟨B, c, rfl, N, y, x⟩; exact ⟨N.up, SlT.lit ⟨B, c, rfl, N, y, x⟩⟩)⟩) (aC (.inr ⟨rfl, rfl, TU.c (eC (.cons (.func _) .nil) (Hg)) (Cx _ _) sQ⟩) (aC (.inr ⟨rfl, rfl, TU.c (eC .nil (Na)) (Gg _) sQ⟩) (aC (.inr ⟨rfl, rfl, TU.r (REv.buildSlice (xs := ([Br 7, Bi] : List Fld)) (enc := Fld.cells) (mk := fun x : Fld => .agg (Fld.cells x)) underlying128 sizeOf163 zeroValue163 rfl cQ (fun _ => rfl) (fun _ => rfl) (.cons (.t rfl) (.cons (.t rfl) .nil)) rfl) (by rintro _ W1 ⟨B, c, rfl, N, y, x⟩; exact ⟨N.up, SlT.lit ⟨B, c, rfl, N, y, x⟩⟩)⟩) (aC (.inr ⟨rfl, rfl, TU.open (d := 59) rfl (by rintro _ ⟨⟨a59, c59, rfl, x59⟩, p59⟩; exact TU.open (d := 62) rfl (by rintro _ ⟨⟨b62, d62, rfl, y62⟩, q62⟩; exact TU.p (.build (cs := #[.slice a59 (List.length ([Br 7, Br 9, Br 10, Bi])) c59, .slice b62 (List.length ([Br 7, Bi])) d62, .func (.func (Eo 0)) #[] #[], .bool false]) underlying130 zeroValue130 Cs (.cons (.t rfl) (.cons (.t rfl) (.cons (.func _) (.cons (.const _) .nil)))) rfl) ⟨_, _, rfl, ⟨Ak x59, p59⟩, ⟨Ak y62, q62⟩⟩))⟩) (aC (.inl (.inr ⟨rfl, by intro j hj e; simp only [List.mem_cons, List.mem_nil_iff, or_false] at hj; rcases hj with rfl | rfl | rfl | rfl | rfl | rfl | rfl | rfl | rfl | rfl | rfl <;> first | exact absurd e cQ | exact ⟨_, _, _, rfl⟩⟩)) (aC (.inr ⟨rfl, rfl, TU.c (eC (.cons (.func _) .nil) (Hg)) (Cx _ _) sQ⟩) (aC (.inr ⟨rfl, rfl, TU.r (REv.buildSlice (xs := ([Br 10] : List Fld)) (enc := Fld.cells) (mk := fun x : Fld => .agg (Fld.cells x)) underlying128 sizeOf163 zeroValue163 rfl cQ (fun _ => rfl) (fun _ => rfl) (.cons (.t rfl) .nil) rfl) (by rintro _ W1 ⟨B, c, rfl, N, y, x⟩; exact ⟨N.up, SlT.lit ⟨B, c, rfl, N, y, x⟩⟩)⟩) (aC (.inr ⟨rfl, rfl, TU.c (eC (.cons (.func _) .nil) (Hg)) (Cx _ _) sQ⟩) (aC (.inr ⟨rfl, rfl, TU.r (REv.buildSlice (xs := ([Br 10] : List Fld)) (enc := Fld.cells) (mk := fun x : Fld => .agg (Fld.cells x)) underlying128 sizeOf163 zeroValue163 rfl cQ (fun _ => rfl) (fun _ => rfl) (.cons (.t rfl) .nil) rfl) (by rintro _ W1 ⟨B, c, rfl, N, y, x⟩; exact ⟨N.up, SlT.lit ⟨B, c, rfl, N, y, x⟩⟩)⟩) (aC (.inr ⟨rfl, rfl, TU.open (d := 65) rfl (by rintro _ ⟨⟨a65, c65, rfl, x65⟩, p65⟩; exact TU.open (d := 67) rfl (by rintro _ ⟨⟨b67, d67, rfl, y67⟩, q67⟩; exact TU.p (.build (cs := #[.slice a65 (List.length ([Br 10])) c65, .slice b67 (List.length ([Br 10])) d67, .func (.func (Eo 0)) #[] #[], .bool true]) underlying130 zeroValue130 Cs (.cons (.t rfl) (.cons (.t rfl) (.cons (.func _) (.cons (.const _) .nil)))) rfl) ⟨_, _, rfl, ⟨Ak x65, p65⟩, ⟨Ak y67, q67⟩⟩))⟩) (aC (.inl (.inr ⟨rfl, by intro j hj e; simp only [List.mem_cons, List.mem_nil_iff, or_false] at hj; rcases hj with rfl | rfl | rfl | rfl | rfl | rfl | rfl | rfl | rfl | rfl | rfl <;> first | exact absurd e cQ | exact ⟨_, _, _, rfl⟩⟩)) (aC (.inr ⟨rfl, rfl, TU.p (.move (.t rfl)) (SlT.Fu hT8 hC)⟩) (aC (.inr ⟨rfl, rfl, TU.c (eC .nil (cF)) (Ld _) (fun v W1 h => ⟨h.2, h.1⟩)⟩) (aC (.inr ⟨rfl, rfl, TU.p (.move (.t rfl)) (SlT.Fu hT11 hC)⟩) (aC (.inr ⟨rfl, rfl, TU.c (eC .nil (cG)) (Nf _) (fun v W1 h => ⟨h.2, h.1⟩)⟩) (aC (.inr ⟨rfl, rfl, TU.open (d := 69) rfl (by rintro _ ⟨⟨a69, c69, rfl, x69⟩, _⟩; exact TU.open (d := 70) rfl (by rintro _ ⟨⟨a70, c70, rfl, x70⟩, _⟩; exact TU.open (d := 71) rfl (by rintro _ ⟨⟨a71, c71, rfl, x71⟩, _⟩; exact TU.open (d := 72) rfl (by rintro _ ⟨⟨a72, c72, rfl, x72⟩, _⟩; exact TU.r (REv.buildSlice (xs := [(a69, List.length (Cb), c69), (a70, List.length (Cm), c70), (a71, List.length (Jn), c71), (a72, List.length (Dc), c72)]) (enc := fun t => #[Sq t]) (mk := Sq) underlying209 sizeOf128 zeroValue128 rfl cQ (fun _ => rfl) (fun _ => rfl) (.cons (.t rfl) (.cons (.t rfl) (.cons (.t rfl) (.cons (.t rfl) .nil)))) rfl) (by rintro _ W1 ⟨B, c, rfl, N, y, x⟩; exact ⟨N.up, _, Ak (Els.Hc x), (AllSl.up N.up (vs := List.map Sq [(a69, List.length (Cb), c69), (a70, List.length (Cm), c70), (a71, List.length (Jn), c71), (a72, List.length (Dc), c72)]) (xss := [Cb, Cm, Jn, Dc]) ⟨Ak x69, Ak x70, Ak x71, Ak x72, trivial⟩).at⟩)))))⟩) (aC (.inr ⟨rfl, rfl, TU.open (d := 73) rfl (by rintro v ⟨vs, ⟨ad, cp, rfl, hE⟩, hl, hx⟩; exact TU.c (eC (.o rfl) (Qk)) (H7 ad cp vs _ _ hE hl hx (by rw [← hl]; decide) cQ) (fun v W1 h => ⟨h.2, h.1⟩))⟩) (aC (.inr ⟨rfl, rfl, TU.p (.move (.t rfl)) (SlT.Fu hT8 hC)⟩) (aC (.inr ⟨rfl, rfl, TU.open (d := 74) rfl (by rintro _ ⟨⟨a74, c74, rfl, x74⟩, p74⟩; exact TU.open (d := 75) rfl (by rintro _ ⟨⟨b75, d75, rfl, y75⟩, q75⟩; exact TU.p (.build (cs := #[.slice a74 (List.length (List.flatten [Cb, Cm, Jn, Dc])) c74, .slice b75 (List.length (Cb)) d75, .func (.func (Eo 1)) #[] #[], .bool false]) underlying130 zeroValue130 Cs (.cons (.t rfl) (.cons (.t rfl) (.cons (.func _) (.cons (.const _) .nil)))) rfl) ⟨_, _, rfl, ⟨Ak x74, p74⟩, ⟨Ak y75, q75⟩⟩))⟩) (aC (.inl (.inr ⟨rfl, by intro j hj e; simp only [List.mem_cons, List.mem_nil_iff, or_false] at hj; rcases hj with rfl | rfl | rfl | rfl | rfl | rfl | rfl | rfl | rfl | rfl | rfl <;> first | exact absurd e cQ | exact ⟨_, _, _, rfl⟩⟩)) (aC (.inr ⟨rfl, rfl, TU.p (.move (.t rfl)) (SlT.Fu hT8 hC)⟩) (aC (.inr ⟨rfl, rfl, TU.p (.move (.t rfl)) (SlT.Fu hT19 hC)⟩) (aC (.inr ⟨rfl, rfl, TU.c (eC .nil (cG)) (Nf _) (fun v W1 h => ⟨h.2, h.1⟩)⟩) (aC (.inr ⟨rfl, rfl, TU.p (.la isAgg163 sizeOf163 rfl (AggAt.Fu hB5.agg hC)) rfl⟩) (aC (.inr ⟨rfl, rfl, TU.r (REv.buildSlice (xs := ([Hn] : List Fld)) (enc := Fld.cells) (mk := fun x : Fld => .agg (Fld.cells x)) underlying128 sizeOf163 zeroValue163 rfl cQ (fun _ => rfl) (fun _ => rfl) (.cons (.t rfl) .nil) rfl) (by rintro _ W1 ⟨B, c, rfl, N, y, x⟩; exact ⟨N.up, SlT.lit ⟨B, c, rfl, N, y, x⟩⟩)⟩) (aC (.inr ⟨rfl, rfl, TU.open (d := 77) rfl (by rintro _ ⟨⟨a77, c77, rfl, x77⟩, _⟩; exact TU.open (d := 78) rfl (by rintro _ ⟨⟨a78, c78, rfl, x78⟩, _⟩; exact TU.open (d := 79) rfl (by rintro _ ⟨⟨a79, c79, rfl, x79⟩, _⟩; exact TU.open (d := 81) rfl (by rintro _ ⟨⟨a81, c81, rfl, x81⟩, _⟩; exact TU.r (REv.buildSlice (xs := [(a77, List.length (Cb), c77), (a78, List.length (Iv), c78), (a79, List.length (Dc), c79), (a81, List.length ([Hn]), c81)]) (enc := fun t => #[Sq t]) (mk := Sq) underlying209 sizeOf128 zeroValue128 rfl cQ (fun _ => rfl) (fun _ => rfl) (.cons (.t rfl) (.cons (.t rfl) (.cons (.t rfl) (.cons (.t rfl) .nil)))) rfl) (by rintro _ W1 ⟨B, c, rfl, N, y, x⟩; exact ⟨N.up, _, Ak (Els.Hc x), (AllSl.up N.up (vs := List.map Sq [(a77, List.length (Cb), c77), (a78, List.length (Iv), c78), (a79, List.length (Dc), c79), (a81, List.length ([Hn]), c81)]) (xss := [Cb, Iv, Dc, [Hn]]) ⟨Ak x77, Ak x78, Ak x79, Ak x81, trivial⟩).at⟩)))))⟩) (aC (.inr ⟨rfl, rfl, TU.open (d := 82) rfl (by rintro v ⟨vs, ⟨ad, cp, rfl, hE⟩, hl, hx⟩; exact TU.c (eC (.o rfl) (Qk)) (H7 ad cp vs _ _ hE hl hx (by rw [← hl]; decide) cQ) (fun v W1 h => ⟨h.2, h.1⟩))⟩) (aC (.inr ⟨rfl, rfl, TU.p (.move (.t rfl)) (SlT.Fu hT8 hC)⟩) (aC (.inr ⟨rfl, rfl, TU.open (d := 83) rfl (by rintro _ ⟨⟨a83, c83, rfl, x83⟩, p83⟩; exact TU.open (d := 84) rfl (by rintro _ ⟨⟨b84, d84, rfl, y84⟩, q84⟩; exact TU.p (.build (cs := #[.slice a83 (List.length (List.flatten [Cb, Iv, Dc, [Hn]])) c83, .slice b84 (List.length (Cb)) d84, .func (.func (Eo 1)) #[] #[], .bool false]) underlying130 zeroValue130 Cs (.cons (.t rfl) (.cons (.t rfl) (.cons (.func _) (.cons (.const _) .nil)))) rfl) ⟨_, _, rfl, ⟨Ak x83, p83⟩, ⟨Ak y84, q84⟩⟩))⟩) (aC (.inl (.inr ⟨rfl, by intro j hj e; simp only [List.mem_cons, List.mem_nil_iff, or_false] at hj; rcases hj with rfl | rfl | rfl | rfl | rfl | rfl | rfl | rfl | rfl | rfl | rfl <;> first | exact absurd e cQ | exact ⟨_, _, _, rfl⟩⟩)) (aC (.inr ⟨rfl, rfl, TU.c (eC (.cons (.func _) .nil) (Hg)) (Cx _ _) sQ⟩) (aC (.inr ⟨rfl, rfl, TU.p (.la isAgg163 sizeOf163 rfl (AggAt.Fu hB5.agg hC)) rfl⟩) (aC (.inr ⟨rfl, rfl, TU.c (eC .nil (Na)) (Gg _) sQ⟩) (aC (.inr ⟨rfl, rfl, TU.r (REv.buildSlice (xs := ([Br 8, Hn, Bi] : List Fld)) (enc := Fld.cells) (mk := fun x : Fld => .agg (Fld.cells x)) underlying128 sizeOf163 zeroValue163 rfl cQ (fun _ => rfl) (fun _ => rfl) (.cons (.t rfl) (.cons (.t rfl) (.cons (.t rfl) .nil))) rfl) (by rintro _ W1 ⟨B, c, rfl, N, y, x⟩; exact ⟨N.up, SlT.lit ⟨B, c, rfl, N, y, x⟩⟩)⟩) (aC (.inr ⟨rfl, rfl, TU.c (eC (.cons (.func _) .nil) (Hg)) (Cx _ _) sQ⟩) (aC (.inr ⟨rfl, rfl, TU.p (.la isAgg163 sizeOf163 rfl (AggAt.Fu hB5.agg hC)) rfl⟩) (aC (.inr ⟨rfl, rfl, TU.r (REv.buildSlice (xs := ([Br 8, Hn] : List Fld)) (enc := Fld.cells) (mk := fun x : Fld => .agg (Fld.cells x)) underlying128 sizeOf163 zeroValue163 rfl cQ (fun _ => rfl) (fun _ => rfl) (.cons (.t rfl) (.cons (.t rfl) .nil)) rfl) (by rintro _ W1 ⟨B, c, rfl, N, y, x⟩; exact ⟨N.up, SlT.lit ⟨B, c, rfl, N, y, x⟩⟩)⟩) (aC (.inr ⟨rfl, rfl, TU.open (d := 89) rfl (by rintro _ ⟨⟨a89, c89, rfl, x89⟩, p89⟩; exact TU.open (d := 92) rfl (by rintro _ ⟨⟨b92, d92, rfl, y92⟩, q92⟩; exact TU.p (.build (cs := #[.slice a89 (List.length ([Br 8, Hn, Bi])) c89, .slice b92 (List.length ([Br 8, Hn])) d92, .func (.func (Eo 0)) #[] #[], .bool false]) underlying130 zeroValue130 Cs (.cons (.t rfl) (.cons (.t rfl) (.cons (.func _) (.cons (.const _) .nil)))) rfl) ⟨_, _, rfl, ⟨Ak x89, p89⟩, ⟨Ak y92, q92⟩⟩))⟩) (aC (.inl (.inr ⟨rfl, by intro j hj e; simp only [List.mem_cons, List.mem_nil_iff, or_false] at hj; rcases hj with rfl | rfl | rfl | rfl | rfl | rfl | rfl | rfl | rfl | rfl | rfl <;> first | exact absurd e cQ | exact ⟨_, _, _, rfl⟩⟩)) (aC (.inr ⟨rfl, rfl, TU.p (.move (.t rfl)) (SlT.Fu hT8 hC)⟩) (aC (.inr ⟨rfl, rfl, TU.c (eC .nil (cF)) (Ld _) (fun v W1 h => ⟨h.2, h.1⟩)⟩) (aC (.inr ⟨rfl, rfl, TU.c (eC .nil (Na)) (Gg _) sQ⟩) (aC (.inr ⟨rfl, rfl, TU.r (REv.buildSlice (xs := ([Bi] : List Fld)) (enc := Fld.cells) (mk := fun x : Fld => .agg (Fld.cells x)) underlying128 sizeOf163 zeroValue163 rfl cQ (fun _ => rfl) (fun _ => rfl) (.cons (.t rfl) .nil) rfl) (by rintro _ W1 ⟨B, c, rfl, N, y, x⟩; exact ⟨N.up, SlT.lit ⟨B, c, rfl, N, y, x⟩⟩)⟩) (aC (.inr ⟨rfl, rfl, TU.open (d := 94) rfl (by rintro _ ⟨⟨a94, c94, rfl, x94⟩, _⟩; exact TU.open (d := 95) rfl (by rintro _ ⟨⟨a95, c95, rfl, x95⟩, _⟩; exact TU.open (d := 97) rfl (by rintro _ ⟨⟨a97, c97, rfl, x97⟩, _⟩; exact TU.r (REv.buildSlice (xs := [(a94, List.length (Cb), c94), (a95, List.length (Cm), c95), (a97, List.length ([Bi]), c97)]) (enc := fun t => #[Sq t]) (mk := Sq) underlying209 sizeOf128 zeroValue128 rfl cQ (fun _ => rfl) (fun _ => rfl) (.cons (.t rfl) (.cons (.t rfl) (.cons (.t rfl) .nil))) rfl) (by rintro _ W1 ⟨B, c, rfl, N, y, x⟩; exact ⟨N.up, _, Ak (Els.Hc x), (AllSl.up N.up (vs := List.map Sq [(a94, List.length (Cb), c94), (a95, List.length (Cm), c95), (a97, List.length ([Bi]), c97)]) (xss := [Cb, Cm, [Bi]]) ⟨Ak x94, Ak x95, Ak x97, trivial⟩).at⟩))))⟩) (aC (.inr ⟨rfl, rfl, TU.open (d := 98) rfl (by rintro v ⟨vs, ⟨ad, cp, rfl, hE⟩, hl, hx⟩; exact TU.c (eC (.o rfl) (Qk)) (H7 ad cp vs _ _ hE hl hx (by rw [← hl]; decide) cQ) (fun v W1 h => ⟨h.2, h.1⟩))⟩) (aC (.inr ⟨rfl, rfl, TU.p (.move (.t rfl)) (SlT.Fu hT8 hC)⟩) (aC (.inr ⟨rfl, rfl, TU.open (d := 99) rfl (by rintro _ ⟨⟨a99, c99, rfl, x99⟩, p99⟩; exact TU.open (d := 100) rfl (by rintro _ ⟨⟨b100, d100, rfl, y100⟩, q100⟩; exact TU.p (.build (cs := #[.slice a99 (List.length (List.flatten [Cb, Cm, [Bi]])) c99, .slice b100 (List.length (Cb)) d100, .func (.func (Eo 0)) #[] #[], .bool false]) underlying130 zeroValue130 Cs (.cons (.t rfl) (.cons (.t rfl) (.cons (.func _) (.cons (.const _) .nil)))) rfl) ⟨_, _, rfl, ⟨Ak x99, p99⟩, ⟨Ak y100, q100⟩⟩))⟩) (aC (.inl (.inr ⟨rfl, by intro j hj e; simp only [List.mem_cons, List.mem_nil_iff, or_false] at hj; rcases hj with rfl | rfl | rfl | rfl | rfl | rfl | rfl | rfl | rfl | rfl | rfl <;> first | exact absurd e cQ | exact ⟨_, _, _, rfl⟩⟩)) (aC (.inr ⟨rfl, rfl, TU.c (eC (.cons (.func _) .nil) (Hg)) (Cx _ _) sQ⟩) (aC (.inr ⟨rfl, rfl, TU.c (eC .nil (Na)) (Gg _) sQ⟩) (aC (.inr ⟨rfl, rfl, TU.p (.la isAgg163 sizeOf163 rfl (AggAt.Fu hB6.agg hC)) rfl⟩) (aC (.inr ⟨rfl, rfl, TU.r (REv.buildSlice (xs := ([Br 14, Bi, J8] : List Fld)) (enc := Fld.cells) (mk := fun x : Fld => .agg (Fld.cells x)) underlying128 sizeOf163 zeroValue163 rfl cQ (fun _ => rfl) (fun _ => rfl) (.cons (.t rfl) (.cons (.t rfl) (.cons (.t rfl) .nil))) rfl) (by rintro _ W1 ⟨B, c, rfl, N, y, x⟩; exact ⟨N.up, SlT.lit ⟨B, c, rfl, N, y, x⟩⟩)⟩) (aC (.inr ⟨rfl, rfl, TU.c (eC (.cons (.func _) .nil) (Hg)) (Cx _ _) sQ⟩) (aC (.inr ⟨rfl, rfl, TU.c (eC .nil (Na)) (Gg _) sQ⟩) (aC (.inr ⟨rfl, rfl, TU.r (REv.buildSlice (xs := ([Br 14, Bi] : List Fld)) (enc := Fld.cells) (mk := fun x : Fld => .agg (Fld.cells x)) underlying128 sizeOf163 zeroValue163 rfl cQ (fun _ => rfl) (fun _ => rfl) (.cons (.t rfl) (.cons (.t rfl) .nil)) rfl) (by rintro _ W1 ⟨B, c, rfl, N, y, x⟩; exact ⟨N.up, SlT.lit ⟨B, c, rfl, N, y, x⟩⟩)⟩) (aC (.inr ⟨rfl, rfl, TU.open (d := 105) rfl (by rintro _ ⟨⟨a105, c105, rfl, x105⟩, p105⟩; exact TU.open (d := 108) rfl (by rintro _ ⟨⟨b108, d108, rfl, y108⟩, q108⟩; exact TU.p (.build (cs := #[.slice a105 (List.length ([Br 14, Bi, J8])) c105, .slice b108 (List.length ([Br 14, Bi])) d108, .func (.func (Eo 0)) #[] #[], .bool false]) underlying130 zeroValue130 Cs (.cons (.t rfl) (.cons (.t rfl) (.cons (.func _) (.cons (.const _) .nil)))) rfl) ⟨_, _, rfl, ⟨Ak x105, p105⟩, ⟨Ak y108, q108⟩⟩))⟩) (aC (.inl (.inr ⟨rfl, by intro j hj e; simp only [List.mem_cons, List.mem_nil_iff, or_false] at hj; rcases hj with rfl | rfl | rfl | rfl | rfl | rfl | rfl | rfl | rfl | rfl | rfl <;> first | exact absurd e cQ | exact ⟨_, _, _, rfl⟩⟩)) (aC (.inr ⟨rfl, rfl, TU.p (.move (.t rfl)) (SlT.Fu hT8 hC)⟩) (aC (.inr ⟨rfl, rfl, TU.c (eC .nil (cF)) (Ld _) (fun v W1 h => ⟨h.2, h.1⟩)⟩) (aC (.inr ⟨rfl, rfl, TU.c (eC .nil (cG)) (Nf _) (fun v W1 h => ⟨h.2, h.1⟩)⟩) (aC (.inr ⟨rfl, rfl, TU.open (d := 110) rfl (by rintro _ ⟨⟨a110, c110, rfl, x110⟩, _⟩; exact TU.open (d := 111) rfl (by rintro _ ⟨⟨a111, c111, rfl, x111⟩, _⟩; exact TU.open (d := 112) rfl (by rintro _ ⟨⟨a112, c112, rfl, x112⟩, _⟩; exact TU.r (REv.buildSlice (xs := [(a110, List.length (Cb), c110), (a111, List.length (Cm), c111), (a112, List.length (Dc), c112)]) (enc := fun t => #[Sq t]) (mk := Sq) underlying209 sizeOf128 zeroValue128 rfl cQ (fun _ => rfl) (fun _ => rfl) (.cons (.t rfl) (.cons (.t rfl) (.cons (.t rfl) .nil))) rfl) (by rintro _ W1 ⟨B, c, rfl, N, y, x⟩; exact ⟨N.up, _, Ak (Els.Hc x), (AllSl.up N.up (vs := List.map Sq [(a110, List.length (Cb), c110), (a111, List.length (Cm), c111), (a112, List.length (Dc), c112)]) (xss := [Cb, Cm, Dc]) ⟨Ak x110, Ak x111, Ak x112, trivial⟩).at⟩))))⟩) (aC (.inr ⟨rfl, rfl, TU.open (d := 113) rfl (by rintro v ⟨vs, ⟨ad, cp, rfl, hE⟩, hl, hx⟩; exact TU.c (eC (.o rfl) (Qk)) (H7 ad cp vs _ _ hE hl hx (by rw [← hl]; decide) cQ) (fun v W1 h => ⟨h.2, h.1⟩))⟩) (aC (.inr ⟨rfl, rfl, TU.p (.move (.t rfl)) (SlT.Fu hT8 hC)⟩) (aC (.inr ⟨rfl, rfl, TU.open (d := 114) rfl (by rintro _ ⟨⟨a114, c114, rfl, x114⟩, p114⟩; exact TU.open (d := 115) rfl (by rintro _ ⟨⟨b115, d115, rfl, y115⟩, q115⟩; exact TU.p (.build (cs := #[.slice a114 (List.length (List.flatten [Cb, Cm, Dc])) c114, .slice b115 (List.length (Cb)) d115, .func (.func (Eo 1)) #[] #[], .bool false]) underlying130 zeroValue130 Cs (.cons (.t rfl) (.cons (.t rfl) (.cons (.func _) (.cons (.const _) .nil)))) rfl) ⟨_, _, rfl, ⟨Ak x114, p114⟩, ⟨Ak y115, q115⟩⟩))⟩) (aC (.inl (.inr ⟨rfl, by intro j hj e; simp only [List.mem_cons, List.mem_nil_iff, or_false] at hj; rcases hj with rfl | rfl | rfl | rfl | rfl | rfl | rfl | rfl | rfl | rfl | rfl <;> first | exact absurd e cQ | exact ⟨_, _, _, rfl⟩⟩)) ?_)))))))))))))))))))))))))))))))))))))))))))))))))))))))))))))))))))))))))))))))))))))))))))))))))))))))))
  exact allL.nil
 intro W b kv g hU hM hP hg
 have hW := hW.trans ((Up.drew _).trans hU)
 refine LW.M rfl (LW.A rfl (LW.T (CW.ret (Ae rfl rfl ⟨_, rfl, ?_⟩))))
 refine ⟨_, rfl, ⟨kv, hM, ?_, ?_⟩, hW⟩
 ·intro k v hm
  have := hP.mem_iff.1 hm
  simp only [List.map_cons, List.map_nil, List.mem_cons, List.mem_nil_iff, or_false, Prod.mk.injEq] at this
  rcases this with ⟨rfl, rfl⟩ | ⟨rfl, rfl⟩ | ⟨rfl, rfl⟩ | ⟨rfl, rfl⟩ | ⟨rfl, rfl⟩ | ⟨rfl, rfl⟩ | ⟨rfl, rfl⟩ | ⟨rfl, rfl⟩ | ⟨rfl, rfl⟩ | ⟨rfl, rfl⟩ | ⟨rfl, rfl⟩
  · exact hg 14 _ 36 cQ rfl rfl
  · exact hg 23 _ 44 cQ rfl rfl
  · exact hg 34 _ 54 cQ rfl rfl
  · exact hg 44 _ 63 cQ rfl rfl
  · exact hg 50 _ 68 cQ rfl rfl
  · exact hg 59 _ 76 cQ rfl rfl
  · exact hg 69 _ 85 cQ rfl rfl
  · exact hg 78 _ 93 cQ rfl rfl
  · exact hg 87 _ 101 cQ rfl rfl
  · exact hg 96 _ 109 cQ rfl rfl
  exact hg 104 _ 116 cQ rfl rfl
 intro k
 rw [(hP.map (·.1)).mem_iff]
 simp
 omega
end Go.Proofs.YtmimclgihlhaeaaGreat
namespace Go.Proofs
open Go.Proofs.Tryz
open Go.Wx Go.RowKit
set_option maxRecDepth 4000 in
theorem Pb (f g : Fact) (w : World) : (Op.equalIn 10000 36 (.agg f.cells) (.agg g.cells)).run Tryz.prog w = .ok (H4 f g) w := by
 have hf : Tryz.prog.underlying 36 = some (.struct (Tryz.prog.fieldsOf 36)) := by rw [Program.fieldsOf, underlying36]
 rw [run_equalIn_agg w 9999 36 _ _ hf stoodInHeld36]
 have h : (Op.eqFields 9999 f.cells g.cells (Tryz.prog.fieldsOf 36).toList).run Tryz.prog w = .ok (H4 f g) w := by
   rw [Program.fieldsOf, underlying36]
   dsimp only
   iterate 4 (refine Qc cQ isAgg3 rfl rfl (run_equalIn_int w 9998 _ _ _ _ _ underlying3) ?_)
   refine Qc cQ isAgg4 rfl rfl (run_equalIn_bool' w 9998 _ _ _ underlying4) ?_
   iterate 13 (refine Qc cQ isAgg3 rfl rfl (run_equalIn_int w 9998 _ _ _ _ _ underlying3) ?_)
   rw [show (f.Text.toList == g.Text.toList) = ((f.Text.toList == g.Text.toList) && true) by simp]
   exact Qc cQ isAgg9 rfl rfl (run_equalIn_string w 9998 _ _ _ underlying9) rfl
 exact h
end Go.Proofs
namespace Go.Wx
def Gb (f : Fact) (o : Nat) : Int := match o with
 | 1 => f.ID
 | 5 => f.Time
 | 6 => f.Until
 | 7 => f.Wafer
 | 8 => f.Other
 | 9 => f.Lot
 | 10 => f.Product
 | 11 => f.Tool
 | 12 => f.Chamber
 | 13 => f.Step
 | 14 => f.Recipe
 | 15 => f.Revision
 | 16 => f.Value
 | 17 => f.Parties
 | _ => 0
def fI (f : Fact) (o : Nat) (n : Int) : Fact := match o with
 | 1 => { f with ID := n }
 | 5 => { f with Time := n }
 | 6 => { f with Until := n }
 | 7 => { f with Wafer := n }
 | 8 => { f with Other := n }
 | 9 => { f with Lot := n }
 | 10 => { f with Product := n }
 | 11 => { f with Tool := n }
 | 12 => { f with Chamber := n }
 | 13 => { f with Step := n }
 | 14 => { f with Recipe := n }
 | 15 => { f with Revision := n }
 | 16 => { f with Value := n }
 | 17 => { f with Parties := n }
 | _ => f
def Ew (o : Nat) : Bool := Nat.beq o 1 || (Nat.ble 5 o && Nat.ble o 17)
theorem Dv {o : Nat} (h : Ew o = true) : o = 1 ∨ o = 5 ∨ o = 6 ∨ o = 7 ∨ o = 8 ∨ o = 9 ∨ o = 10 ∨ o = 11 ∨ o = 12 ∨ o = 13 ∨ o = 14 ∨ o = 15 ∨ o = 16 ∨ o = 17 := by
 simp [Ew] at h; omega
theorem S9 (k : Int) : ∀ x ∈ fieldsOf k, Ew x.off = true := by
 intro x hx
 have h : ∀ l ∈ Ma, ∀ y ∈ l, Ew y.off = true := by decide
 unfold fieldsOf at hx
 rw [List.getD_eq_getElem?_getD] at hx
 cases hl : Ma[k.toNat]? with
 | none => rw [hl] at hx; simp at hx
 | some l => rw [hl] at hx; exact h l (List.mem_of_getElem? hl) x (by simpa using hx)
theorem Of {f : Fact} {o : Nat} (h : Ew o = true) : nth f.cells.toList o = some (vi (Gb f o)) := by
 rcases Dv h with rfl | rfl | rfl | rfl | rfl | rfl | rfl | rfl | rfl | rfl | rfl | rfl | rfl | rfl <;> rfl
theorem Zi {f : Fact} {o : Nat} {n : Int} (h : Ew o = true) : f.cells.setIfInBounds o (vi n) = (fI f o n).cells := by
 rcases Dv h with rfl | rfl | rfl | rfl | rfl | rfl | rfl | rfl | rfl | rfl | rfl | rfl | rfl | rfl <;> rfl
def Pc (r : Nat) (f : Fact) : Bool := match r with
 | 1 => decide (f.Time ≤ f.Until)
 | 2 => !decide (f.Wafer = f.Other)
 | _ => true
def Ih : List Fld → Fact → Option Fact
 | [], g => some g
 | x :: r, g => if Gb g x.off < x.lo ∨ x.hi < Gb g x.off then none else Ih r (fI g x.off 0)
def Ta (k v d : Int) (g : Bool) : Fact := ⟨k, 0, v, d, g, 0, 0, 0, 0, 0, 0, 0, 0, 0, 0, 0, 0, 0, ByteArray.empty⟩
def preB (f : Fact) : Bool := decide (f.Version < 1) || decide (1000000 < f.Version) || decide (f.Day < 0) || decide (100000 < f.Day) || decide (8192 < (f.Text.size : Int))
def A6 (f : Fact) : Bool := decide (1 ≤ f.Kind ∧ f.Kind ≤ 11) && (!(preB f || !Pc (Gn f.Kind) f) &&
 match Ih (fieldsOf f.Kind) f with
 | none => false
 | some g => H4 (if F6 f.Kind then { g with Text := ByteArray.empty } else g) (Ta f.Kind f.Version f.Day f.Gone))
end Go.Wx
namespace Go.Proofs.YtmimclgihlhaeaaGreat
open Go.Proofs.Tryz
open Go.Wx Go.RowKit
theorem fJ (f : Fact) (w : World) : Ret Tryz.prog 136 #[.agg f.cells] w fun r w' => r = .bool (Pc 0 f) ∧ Up w w' := by
 have hW := Up.refl w
 refine cS (n := 3) (m := 9) func136 rfl rfl rfl (CW.S (Ah (.C7 (.t rfl)) rfl ?_))
 rintro _ w1 ⟨B1, rfl, NB1⟩
 replace hW := hW.up NB1.up
 have hB1 := NB1.blk
 refine LW.C (LW.S (CW.region (LW.C (LW.T (CW.ret (Ae rfl rfl ⟨_, rfl, ?_⟩))))))
 exact ⟨rfl, hW⟩
theorem Zj (f : Fact) (w : World) : Ret Tryz.prog 134 #[.agg f.cells] w fun r w' => r = .bool (Pc 1 f) ∧ Up w w' := by
 have hW := Up.refl w
 refine cS (n := 8) (m := 9) func134 rfl rfl rfl (CW.S (Ah (.C7 (.t rfl)) rfl ?_))
 rintro _ w1 ⟨B1, rfl, NB1⟩
 replace hW := hW.up NB1.up
 have hB1 := NB1.blk
 refine LW.C (LW.S (CW.region (LW.pp (.fA 5 underlying36 rfl sizeOf3 rfl) (LW.pp (.ld isAgg3 rfl (hB1.Ai rfl)) (LW.pp (.fA 6 underlying36 rfl sizeOf3 rfl) (LW.pp (.ld isAgg3 rfl (hB1.Ai rfl)) (LW.pp (.leq (.t rfl) (.t rfl)) (LW.A rfl (LW.T (CW.ret (Ae rfl rfl ⟨_, rfl, ?_⟩)))))))))))
 exact ⟨rfl, hW⟩
theorem fK (f : Fact) (w : World) : Ret Tryz.prog 123 #[.agg f.cells] w fun r w' => r = .bool (Pc 2 f) ∧ Up w w' := by
 have hW := Up.refl w
 refine cS (n := 8) (m := 9) func123 rfl rfl rfl (CW.S (Ah (.C7 (.t rfl)) rfl ?_))
 rintro _ w1 ⟨B1, rfl, NB1⟩
 replace hW := hW.up NB1.up
 have hB1 := NB1.blk
 refine LW.C (LW.S (CW.region (LW.pp (.fA 7 underlying36 rfl sizeOf3 rfl) (LW.pp (.ld isAgg3 rfl (hB1.Ai rfl)) (LW.pp (.fA 8 underlying36 rfl sizeOf3 rfl) (LW.pp (.ld isAgg3 rfl (hB1.Ai rfl)) (LW.pp (.neq (.t rfl) (.t rfl)) (LW.A rfl (LW.T (CW.ret (Ae rfl rfl ⟨_, rfl, ?_⟩)))))))))))
 exact ⟨rfl, hW⟩
end Go.Proofs.YtmimclgihlhaeaaGreat
namespace Go.Wx
def cH (f : Fact) : Fact := Ta f.Kind f.Version f.Day f.Gone
theorem fL {fs : List Fld} {f g : Fact} {k : Nat} {x : Fld} (hg : Ih fs f = Ih (fs.drop k) g) (hx : fs[k]? = some x) (h : ¬ (Gb g x.off < x.lo ∨ x.hi < Gb g x.off)) : Ih fs f = Ih (fs.drop (k + 1)) (fI g x.off 0) := by
 obtain ⟨hk, e⟩ := List.getElem?_eq_some_iff.1 hx
 rw [hg, List.drop_eq_getElem_cons hk, e]
 simp only [Ih, if_neg h]
theorem fM {fs : List Fld} {f g : Fact} {k : Nat} {x : Fld} (hg : Ih fs f = Ih (fs.drop k) g) (hx : fs[k]? = some x) (h : Gb g x.off < x.lo ∨ x.hi < Gb g x.off) : Ih fs f = none := by
 obtain ⟨hk, e⟩ := List.getElem?_eq_some_iff.1 hx
 rw [hg, List.drop_eq_getElem_cons hk, e]
 simp only [Ih, if_pos h]
theorem Mb (k : Int) : (fieldsOf k).length ≤ 16 := by
 have h : ∀ l ∈ Ma, l.length ≤ 16 := by decide
 unfold fieldsOf
 rw [List.getD_eq_getElem?_getD]
 cases hl : Ma[k.toNat]? with
 | none => simp
 | some l => exact h l (List.mem_of_getElem? hl)
theorem yV {f : Fact} (h : ¬ (1 ≤ f.Kind ∧ f.Kind ≤ 11)) : false = A6 f := by simp [A6, decide_eq_false h]
theorem yW {f : Fact} (h : preB f = true) : false = A6 f := by simp [A6, h]
theorem tJ {f : Fact} {r : Nat} (hr : r = Gn f.Kind) (h : Pc r f = false) : false = A6 f := by subst hr; simp [A6, h]
theorem tK {f : Fact} (h : Ih (fieldsOf f.Kind) f = none) : false = A6 f := by simp [A6, h]
theorem Zl {f : Fact} {o : Nat} (h : Ew o = true) : o + 1 ≤ f.cells.size := by
 rcases Dv h with rfl | rfl | rfl | rfl | rfl | rfl | rfl | rfl | rfl | rfl | rfl | rfl | rfl | rfl <;> exact Nat.le_of_ble_eq_true rfl
theorem tL {f g : Fact} {r : Nat} {t : Bool} (hk : 1 ≤ f.Kind ∧ f.Kind ≤ 11) (hp : preB f = false) (hr : r = Gn f.Kind) (h : Pc r f = true) (hg : Ih (fieldsOf f.Kind) f = some g) (ht0 : t = F6 f.Kind) (ht : t = true) : H4 ({ g with Text := ByteArray.empty } : Fact) (cH f) = A6 f := by
 subst hr ht0; simp only [A6, decide_eq_true hk, hp, h, hg, ht]; rfl
theorem tM {f g : Fact} {r : Nat} {t : Bool} (hk : 1 ≤ f.Kind ∧ f.Kind ≤ 11) (hp : preB f = false) (hr : r = Gn f.Kind) (h : Pc r f = true) (hg : Ih (fieldsOf f.Kind) f = some g) (ht0 : t = F6 f.Kind) (ht : t = false) : H4 g (cH f) = A6 f := by
 subst hr ht0; simp only [A6, decide_eq_true hk, hp, h, hg, ht]; rfl
theorem Wh {fs : List Fld} {f g : Fact} {k : Nat} (hg : Ih fs f = Ih (fs.drop k) g) (hk : fs.length ≤ k) : Ih fs f = some g := by
 rw [hg, List.drop_eq_nil_of_le hk]
 rfl
end Go.Wx
namespace Go.Proofs.YtmimclgihlhaeaaGreat
open Go.Proofs.Tryz
open Go.Wx Go.RowKit
theorem cI (o b : Nat) (w : World) (ho : Ew o = true) : Ret Tryz.prog (pH o) #[.pointer (some ⟨b, 0, none⟩)] w fun r w' => r = .pointer (some ⟨b, o, none⟩) ∧ Up w w' := by
 rcases Dv ho with rfl | rfl | rfl | rfl | rfl | rfl | rfl | rfl | rfl | rfl | rfl | rfl | rfl | rfl
 · exact tI b w
 · exact jQ b w
 · exact fE b w
 · exact fF b w
 · exact fG b w
 · exact pI b w
 · exact We b w
 · exact jR b w
 · exact Wf b w
 · exact jS b w
 · exact Zh b w
 · exact Um b w
 · exact fH b w
 exact Wg b w
theorem jT (o : Nat) (ho : Ew o = true) : ∀ (args : Array Go.Value) (w : World), (callFunc (pH o) args).run Tryz.prog w = .ok (.enter (pH o) args) w := by
 rcases Dv ho with rfl | rfl | rfl | rfl | rfl | rfl | rfl | rfl | rfl | rfl | rfl | rfl | rfl | rfl
 · exact xD
 · exact yL
 · exact yK
 · exact xH
 · exact xQ
 · exact xI
 · exact xR
 · exact xJ
 · exact xK
 · exact xL
 · exact xE
 · exact xF
 · exact xN
 exact xM
theorem jU (r : Nat) (f : Fact) (w : World) (hr : r < 3) : Ret Tryz.prog (Eo r) #[.agg f.cells] w fun v w' => v = .bool (Pc r f) ∧ Up w w' := by
 match r, hr with
 | 0, _ => exact fJ f w
 | 1, _ => exact Zj f w
 | 2, _ => exact fK f w
theorem pJ (r : Nat) (hr : r < 3) : ∀ (args : Array Go.Value) (w : World), (callFunc (Eo r) args).run Tryz.prog w = .ok (.enter (Eo r) args) w := by
 match r, hr with
 | 0, _ => exact xP
 | 1, _ => exact xO
 | 2, _ => exact xG
theorem pK (k : Int) : Gn k < 3 := by
 unfold Gn
 rw [List.getD_eq_getElem?_getD]
 have h : ∀ x ∈ [0, 1, 0, 2, 0, 0, 1, 1, 0, 0, 0, 1], x < 3 := by decide
 cases hl : [0, 1, 0, 2, 0, 0, 1, 1, 0, 0, 0, 1][k.toNat]? with
 | none => simp
 | some x => exact h x (List.mem_of_getElem? hl)
theorem ShV.C9 {w w' : World} {v : Go.Value} {fs ks : List Fld} {r : Nat} {t : Bool} (h : ShV w v fs ks r t) (u : KeepT 130 w w') : ShV w' v fs ks r t := let ⟨v1, v2, e, h1, h2⟩ := h; ⟨v1, v2, e, h1.C9 rfl u, h2.C9 rfl u⟩
theorem ShMap.C9 {w w' : World} {b : Nat} (h : ShMap w b) (u : KeepT 130 w w') : ShMap w' b := let ⟨kv, h1, h2, h3⟩ := h; ⟨kv, h1.C9 u, fun k v m => (h2 k v m).C9 u, h3⟩
def ShM (v : Go.Value) (w : World) : Prop := ∃ b, v = .map (some b) ∧ ShMap w b
theorem ShM.C9 {v : Go.Value} {w w' : World} (h : ShM v w) (u : KeepT 130 w w') : ShM v w' := let ⟨b, e, m⟩ := h; ⟨b, e, m.C9 u⟩
def shOf (f : Fact) (v : Go.Value) (w : World) : Prop := ShV w v (fieldsOf f.Kind) (Em f.Kind) (Gn f.Kind) (F6 f.Kind)
def sK (f : Fact) (v : Go.Value) (w : World) : Prop := ∃ s, v = .tuple #[s, .bool true] ∧ shOf f s w
def Un : Go.Value := .agg #[.slice none 0 0, .slice none 0 0, .nilFunc, .bool false]
theorem shOf.agg {f : Fact} {v : Go.Value} {w : World} (h : shOf f v w) : ∃ cs, v = .agg cs ∧ cs.size = 4 ∧ cs.all (·.oneCell') = true := by
 obtain ⟨v1, v2, rfl, ⟨⟨a1, c1, rfl, _⟩, _⟩, ⟨a2, c2, rfl, _⟩, _⟩ := h
 exact ⟨_, rfl, rfl, by simp [Value.oneCell']⟩
set_option maxHeartbeats 4000000 in
theorem Le (f : Fact) (w : World) : Ret Tryz.prog 61 #[.agg f.cells] w fun r w' => r = .bool (A6 f) ∧ Up w w' := by
 obtain ⟨w0, rfl⟩ : ∃ w0, w0 = w := ⟨_, rfl⟩
 have hS := Sep.start no w0
 refine cS (n := 93) (m := 9) func61 rfl rfl rfl (CW.S (Ah (.C7 (.t rfl)) rfl ?_))
 rintro _ w1 ⟨B1, rfl, NB1⟩
 replace hS := hS.Cj NB1
 refine LW.C (LW.S ?_)
 cases hq1 : decide (1 ≤ f.Kind ∧ f.Kind ≤ 11) with
 | true =>
  have hkn := of_decide_eq_true hq1
  obtain ⟨r0, hr0⟩ : ∃ r, r = Gn f.Kind := ⟨_, rfl⟩
  have hr3 : r0 < 3 := by rw [hr0]; exact pK _
  obtain ⟨t0, ht0⟩ : ∃ t, t = F6 f.Kind := ⟨_, rfl⟩
  have hB1T := hS.blk 0 rfl
  have hU0 := hS.Ce
  refine CW.box 9 7 8 5 3 14 #[.slice none 0 0, .slice none 0 0, .nilFunc, .bool false] [.pred ShM, .eq (.pointer (some ⟨B1, 0, none⟩)), .eq (vi f.Kind), .pred (sK f), .pred (sK f), .pred (shOf f), .eq (.bool true), .pred fun v _ => ∃ B, v = .pointer (some ⟨B, 0, none⟩), .eq undef] [15] zeroValue130 sizeOf130 kQ rfl kQ kQ kQ kQ kQ kQ kQ rfl rfl ⟨_, _, _, rfl⟩ _ rfl ⟨_, _, _, rfl⟩ ⟨PhT.pred fun _ _ _ h u => ShM.C9 h u, PhT.eq _ _, PhT.eq _ _, PhT.pred fun _ _ _ h u => let ⟨s, e, h⟩ := h; ⟨s, e, ShV.C9 h u⟩, PhT.pred fun _ _ _ h u => let ⟨s, e, h⟩ := h; ⟨s, e, ShV.C9 h u⟩, PhT.pred fun _ _ _ h u => ShV.C9 h u, PhT.eq _ _, PhT.pred fun _ _ _ h _ => h, PhT.eq _ _, trivial⟩ rfl (fun v W h => shOf.agg h) (fun B W => ⟨B, rfl⟩) ?_ ?_
  ·intro W hK0
   have hK := (Up.drew w1).C9.trans hK0
   have hB1W := Blk.C9 hB1T (T := 130) rfl hK
   refine aC (.inr ⟨rfl, TU.c (eC .nil (pE)) (Jp _) (fun v W1 h => let ⟨b, e, m, u⟩ := h; ⟨u, b, e, m⟩)⟩) (aC (.inr ⟨rfl, TU.p (.fA 0 underlying36 rfl sizeOf3 rfl) rfl⟩) (aC (.inr ⟨rfl, TU.p (.ld isAgg3 rfl (hB1W.Ai rfl)) rfl⟩) (aC (.inr ⟨rfl, TU.open (d := 10) rfl (by rintro _ ⟨b, rfl, kv, hI, hV, hK⟩; obtain ⟨⟨k0, sv⟩, hkv, e0⟩ := List.mem_map.1 ((hK f.Kind).2 hkn); cases e0; exact TU.p (.C1 underlying131 underlying3 (.t rfl) (.t rfl) hI hkv) ⟨_, rfl, hV _ _ hkv⟩)⟩) (aC (.inr ⟨rfl, TU.open (d := 13) rfl (by rintro _ ⟨s, rfl, h⟩; exact TU.p (.move (.t rfl)) ⟨s, rfl, h⟩)⟩) (aC (.inr ⟨rfl, TU.open (d := 9) rfl (by rintro _ ⟨s, rfl, h⟩; exact TU.p (.extract (.t rfl) rfl) h)⟩) (aC (.inr ⟨rfl, TU.open (d := 9) rfl (by rintro _ ⟨s, rfl, h⟩; exact TU.p (.extract (.t rfl) rfl) rfl)⟩) (aC (.inl (.inl rfl)) (aC (.inl (.inr rfl)) ?_))))))))
   exact allL.nil
  intro wT B3 g hU hBn hB3 hg
  have h15 : g 15 = .bool true := hg 6 _ 15 cQ rfl rfl
  have hUT := (Up.drew _).trans hU
  have hB1X := hB1T.up hUT
  replace hB1T := hB1X
  replace hU0 := hU0.trans hUT
  obtain ⟨v1, v2, e14, hs1, hs2⟩ := hg 5 _ 14 cQ rfl rfl
  rw [e14] at hB3
  obtain ⟨⟨ad, cp, rfl, hE0⟩, _⟩ := hs1
  obtain ⟨⟨ad2, cp2, rfl, hE2⟩, _⟩ := hs2
  rw [← hr0, ← ht0] at hB3
  replace hB3 : Blk wT B3 #[.slice ad (fieldsOf f.Kind).length cp, .slice ad2 (Em f.Kind).length cp2, .func (.func (Eo r0)) #[] #[], .bool t0] 130 := hB3
  have hB3T := hB3
  change LW _ _ _ _ _ _ _ _ ((3, _) :: (15, .eq (g 15)) :: _) _
  rw [h15]
  replace hS := (Sep.start no wT)
  refine LW.A rfl (LW.S (CW.seq ?_))
  cases hq2 : preB f with
  | true =>
   refine CW.region (LW.pp (.tr (PEv.move (.t rfl)) (rfl)) (LW.pp (.not (.t rfl)) (LW.M rfl (LW.Y (LW.pp (.fA 2 underlying36 rfl sizeOf3 rfl) (LW.Y (LW.pp (.ld isAgg3 rfl ((hB1T.up hS.Ce).Ai rfl)) (LW.Y (LW.pp (.lss (.t rfl) (.const _)) (LW.pp (.A7 (.t rfl) (fun hp => (by exact .tmp rfl))) (LW.M rfl (LW.g rfl rfl rfl rfl rfl rfl rfl (fun hc => PEv.fA 2 underlying36 rfl sizeOf3 rfl) (LW.g rfl rfl rfl rfl rfl rfl rfl (fun hc => PEv.load isAgg3 vQ ((hB1T.up hS.Ce).Ai rfl)) (LW.g rfl rfl rfl rfl rfl rfl rfl (fun hc => PEv.gtr vQ (.const _)) (LW.pp (.A7 (.t rfl) (fun hp => (by exact .cond rfl (by simp_all)))) (LW.M rfl (LW.g rfl rfl rfl rfl rfl rfl rfl (fun hc => PEv.fA 3 underlying36 rfl sizeOf3 rfl) (LW.g rfl rfl rfl rfl rfl rfl rfl (fun hc => PEv.load isAgg3 vQ ((hB1T.up hS.Ce).Ai rfl)) (LW.g rfl rfl rfl rfl rfl rfl rfl (fun hc => PEv.lss vQ (.const _)) (LW.pp (.A7 (.t rfl) (fun hp => (by exact .cond rfl (by simp_all)))) (LW.M rfl (LW.g rfl rfl rfl rfl rfl rfl rfl (fun hc => PEv.fA 3 underlying36 rfl sizeOf3 rfl) (LW.g rfl rfl rfl rfl rfl rfl rfl (fun hc => PEv.load isAgg3 vQ ((hB1T.up hS.Ce).Ai rfl)) (LW.g rfl rfl rfl rfl rfl rfl rfl (fun hc => PEv.gtr vQ (.const _)) (LW.pp (.A7 (.t rfl) (fun hp => (by exact .cond rfl (by simp_all)))) (LW.M rfl (LW.g rfl rfl rfl rfl rfl rfl rfl (fun hc => PEv.fA 18 underlying36 rfl sizeOf9 rfl) (LW.g rfl rfl rfl rfl rfl rfl rfl (fun hc => PEv.load isAgg9 vQ ((hB1T.up hS.Ce).Ai rfl)) (LW.g rfl rfl rfl rfl rfl rfl rfl (fun hc => PEv.Oa underlying9 vQ) (LW.g rfl rfl rfl rfl rfl rfl rfl (fun hc => PEv.gtr vQ (.const _)) (LW.pp (.A7 (.t rfl) (fun hp => (by exact .cond rfl (by simp_all)))) (LW.pp (.tr (PEv.move (.t rfl)) (by simpa [preB] using hq2)) (LW.N (LW.N (LW.N (LW.N (LW.N (LW.pp (.A7 (b := false) (.t rfl) (fun hp => absurd (show true = false from hp) cQ)) (LW.T (CW.cond_true (.t rfl) (CW.S (LW.C (LW.T (CW.ret (Af (Ae rfl rfl ⟨_, rfl, ?_⟩))))))))))))))))))))))))))))))))))))))))))))))
   refine ⟨congrArg Go.Value.bool ?_, hU0.trans hS.Ce⟩
   exact yW hq2
  | false =>
   obtain ⟨hp1, hp2, hp3, hp4, hp5⟩ : ¬ f.Version < 1 ∧ ¬ 1000000 < f.Version ∧ ¬ f.Day < 0 ∧ ¬ 100000 < f.Day ∧ ¬ 8192 < (f.Text.size : Int) := by simp [preB] at hq2; omega
   refine CW.region (LW.pp (.tr (PEv.move (.t rfl)) (rfl)) (LW.pp (.not (.t rfl)) (LW.M rfl (LW.Y (LW.pp (.fA 2 underlying36 rfl sizeOf3 rfl) (LW.Y (LW.pp (.ld isAgg3 rfl ((hB1T.up hS.Ce).Ai rfl)) (LW.Y (LW.pp (.fa (PEv.lss (.t rfl) (.const _)) (decide_eq_false hp1)) (LW.pp (.A7 (.t rfl) (fun hp => (by exact .tmp rfl))) (LW.M rfl (LW.Y (LW.pp (.fA 2 underlying36 rfl sizeOf3 rfl) (LW.Y (LW.pp (.ld isAgg3 rfl ((hB1T.up hS.Ce).Ai rfl)) (LW.Y (LW.pp (.fa (PEv.gtr (.t rfl) (.const _)) (decide_eq_false hp2)) (LW.pp (.A7 (.t rfl) (fun hp => (by exact .tmp rfl))) (LW.M rfl (LW.Y (LW.pp (.fA 3 underlying36 rfl sizeOf3 rfl) (LW.Y (LW.pp (.ld isAgg3 rfl ((hB1T.up hS.Ce).Ai rfl)) (LW.Y (LW.pp (.fa (PEv.lss (.t rfl) (.const _)) (decide_eq_false hp3)) (LW.pp (.A7 (.t rfl) (fun hp => (by exact .tmp rfl))) (LW.M rfl (LW.Y (LW.pp (.fA 3 underlying36 rfl sizeOf3 rfl) (LW.Y (LW.pp (.ld isAgg3 rfl ((hB1T.up hS.Ce).Ai rfl)) (LW.Y (LW.pp (.fa (PEv.gtr (.t rfl) (.const _)) (decide_eq_false hp4)) (LW.pp (.A7 (.t rfl) (fun hp => (by exact .tmp rfl))) (LW.M rfl (LW.Y (LW.pp (.fA 18 underlying36 rfl sizeOf9 rfl) (LW.Y (LW.pp (.ld isAgg9 rfl ((hB1T.up hS.Ce).Ai rfl)) (LW.Y (LW.pp (.Oa underlying9 (.t rfl)) (LW.Y (LW.pp (.fa (PEv.gtr (.t rfl) (.const _)) (decide_eq_false hp5)) (LW.pp (.A7 (.t rfl) (fun hp => (by exact .tmp rfl))) (LW.M rfl (LW.Y (LW.pp (.fA 2 underlying130 rfl sizeOf81 rfl) (LW.Y (LW.pp (.ld isAgg81 rfl ((hB3T.up hS.Ce).Ai rfl)) (LW.Y (LW.pp (.la isAgg36 sizeOf36 rfl ((hB1T.up hS.Ce).agg)) (LW.Y (LW.K (C0 (.t rfl) (.cons (.t rfl) .nil) (pJ r0 hr3)) rfl (jU r0 f _ hr3) ?_)))))))))))))))))))))))))))))))))))))))))))))))))))))
   rintro _ w2 ⟨rfl, uw2⟩
   replace hS := hS.up uw2
   refine LW.Y (LW.pp (.not (.t rfl)) (LW.pp (.A7 (.t rfl) (fun hp => (by exact .tmp rfl))) (LW.T (CW.cond (.t rfl) (fun h50 => ?_) (fun h50 => ?_)))))
   ·refine CW.S (LW.C (LW.T (CW.ret (Af (Ae rfl rfl ⟨_, rfl, ?_⟩)))))
    refine ⟨congrArg Go.Value.bool ?_, hU0.trans hS.Ce⟩
    exact tJ hr0 (by simpa using h50)
   refine CW.skip (KW.then (CW.S (LW.pp (.la isAgg36 sizeOf36 rfl ((hB1T.up hS.Ce).agg)) (Ah (.Az zeroValue36) rfl ?_))))
   rintro _ w3 ⟨B5, rfl, MB5⟩
   refine LW.E (.Ay sizeOf36 rfl (.t rfl) (.t rfl) eQ MB5.blk rfl) ?_
   intro w4 LB5
   have NB5 := MB5.set LB5
   replace hS := hS.Cj NB5
   refine LW.S (CW.S (LW.pp (.fA 0 underlying130 rfl sizeOf128 rfl) (LW.pp (.ld isAgg128 rfl ((hB3T.up hS.Ce).Ai rfl)) (LW.pp (.Ci underlying128 (.t rfl)) (LW.pp (.move (.const _)) (LW.T (CW.block (Am (σ := Nat × Fact) (fun s w => (s.1 ≤ (fieldsOf f.Kind).length) ∧ (Ih (fieldsOf f.Kind) f = Ih ((fieldsOf f.Kind).drop s.1) s.2) ∧ (Sep no wT w [Ck B5 s.2.cells 36])) (fun s => [(55, .eq (vi (s.1 : Int)))]) ([(1, .eq _), (3, .eq _), (5, .eq _), (53, .eq _), (54, .eq _)]) (fun s => (fieldsOf f.Kind).length - s.1) (0, f) ?_ ⟨rfl, rfl, rfl, rfl, rfl, rfl, trivial⟩ ?_))))))))
   ·exact ⟨Nat.zero_le _, rfl, hS⟩
   rintro ⟨k, g⟩ w5 ⟨hkk, hg, hS⟩
   refine CW.S (LW.pp (.lss (.t rfl) (.t rfl)) (LW.S (CW.cond (.t rfl) (fun h56 => ?_) (fun h56 => ?_))))
   ·refine CW.skip (KW.then (CW.seq (CW.block (CW.seq ?_))))
    have hfl := Mb f.Kind
    have hE := Els.up hE0 hS.Ce
    have hkl : k < (fieldsOf f.Kind).length := by simp at h56; omega
    refine CW.region ?_
    obtain ⟨x, hx⟩ := Ac (xs := fieldsOf f.Kind) (i := k) oQ
    obtain ⟨Bx, ox, ax, hcx⟩ := hE _ x hx
    refine LW.pp (.Aj underlying128 sizeOf163 (.t rfl) (.t rfl) oQ ax) (LW.pp (.la isAgg163 sizeOf163 rfl (hcx)) (Ah (.Az zeroValue163) rfl ?_))
    rintro _ w6 ⟨B7, rfl, MB7⟩
    refine LW.E (.Ay sizeOf163 rfl (.t rfl) (.t rfl) (Fld.one _) MB7.blk rfl) ?_
    intro w7 LB7
    have NB7 := MB7.set LB7
    replace hcx := hcx.up NB7.up
    replace hS := hS.Cj NB7
    refine LW.S ?_
    have hox := S9 _ x (List.mem_of_getElem? hx)
    refine CW.region (LW.pp (.fA 0 underlying163 rfl sizeOf161 rfl) (LW.pp (.ld isAgg161 rfl ((hS.blk 1 rfl).Ai rfl)) (LW.K (C0 (.t rfl) (.cons (.t rfl) .nil) (jT x.off hox)) rfl (cI x.off _ _ hox) ?_)))
    rintro _ w8 ⟨rfl, uw8⟩
    replace hS := hS.up uw8
    refine LW.A rfl (LW.S (CW.seq (Ch kQ kQ rfl rfl (HW.pp (.move (.t rfl)) (HW.pp (.nilCheck (.t rfl)) (HW.pp (.ld isAgg3 rfl ((hS.blk 0 rfl).Ai (Of hox))) (HW.pp (.fA 1 underlying163 rfl sizeOf3 rfl) (HW.pp (.ld isAgg3 rfl ((hS.blk 1 rfl).Ai (v := vi x.lo) rfl)) (HW.pp (.lss (.t rfl) (.t rfl)) (HW.pp (.move (.t rfl)) (HW.g rfl rfl rfl rfl rfl rfl (fun hc => PEv.move (.t rfl)) (HW.g rfl rfl rfl rfl rfl rfl (fun hc => PEv.nilCheck vQ) (HW.g rfl rfl rfl rfl rfl rfl (fun hc => PEv.load isAgg3 vQ ((hS.blk 0 rfl).Ai (Of hox))) (HW.g rfl rfl rfl rfl rfl rfl (fun hc => PEv.fA 2 underlying163 rfl sizeOf3 rfl) (HW.g rfl rfl rfl rfl rfl rfl (fun hc => PEv.load isAgg3 vQ ((hS.blk 1 rfl).Ai (v := vi x.hi) rfl)) (HW.g rfl rfl rfl rfl rfl rfl (fun hc => PEv.gtr vQ vQ) (HW.pp (.A7 (.t rfl) (fun hp => (by exact .cond rfl (by simp_all)))) (HW.nil ?_))))))))))))))))))
    intro w9 uw9
    replace hS := hS.up uw9
    refine KW.then (CW.cond (.t rfl) (fun h75 => ?_) (fun h75 => ?_))
    ·refine CW.S (LW.C (LW.T (CW.ret (Af (An (Af (Af (An (Af (Ae rfl rfl ⟨_, rfl, ?_⟩))))))))))
     refine ⟨congrArg Go.Value.bool ?_, hU0.trans hS.Ce⟩
     exact tK (fM hg hx (by simp at h75; omega))
    refine CW.skip (KW.then (CW.region (LW.M rfl (LW.pp (.nilCheck (.t rfl)) (LW.E (.store sizeOf3 (.t rfl) (.const _) rfl (hS.blk 0 rfl) (Zl hox)) ?_)))))
    intro w10 Nw10
    have zw10 := Nw10.size
    replace hS := hS.Gf 0 rfl (by rw [Zi hox] at Nw10; exact Nw10)
    refine LW.nil (KW.inBlock (KW.then (CW.region (LW.pp (.inc (.t rfl) oQ) (LW.M rfl (LW.nil (KW.round ?_)))))))
    exact ⟨(k + 1, fI g x.off 0), ⟨by omega, fL hg hx (by simp at h75; omega), hS.take 1⟩, ⟨rfl, rfl, rfl, rfl, rfl, rfl, trivial⟩, by omega⟩
   refine CW.exit (Aa (Aa (Ad (KW.then (CW.seq (CW.S (LW.pp (.fA 3 underlying130 rfl sizeOf4 rfl) (LW.pp (.ld isAgg4 rfl ((hB3T.up hS.Ce).Ai rfl)) (LW.T (CW.cond (.t rfl) (fun h80 => ?_) (fun h80 => ?_)))))))))))
   ·refine CW.region (LW.pp (.fA 18 underlying36 rfl sizeOf9 rfl) (LW.E (.store sizeOf9 (.t rfl) (.const _) rfl (hS.blk 0 rfl) (Nat.le_of_ble_eq_true rfl)) ?_))
    intro w11 Nw11
    replace hS := hS.Gf 0 rfl (show Set_ _ w11 _ (({ g with Text := ByteArray.empty } : Fact).cells) _ from Nw11)
    refine LW.S (CW.region (LW.pp (.la isAgg36 sizeOf36 rfl ((hS.blk 0 rfl).agg)) (LW.pp (.fA 0 underlying36 rfl sizeOf3 rfl) (LW.pp (.ld isAgg3 rfl ((hB1T.up hS.Ce).Ai rfl)) (LW.pp (.fA 2 underlying36 rfl sizeOf3 rfl) (LW.pp (.ld isAgg3 rfl ((hB1T.up hS.Ce).Ai rfl)) (LW.pp (.fA 3 underlying36 rfl sizeOf3 rfl) (LW.pp (.ld isAgg3 rfl ((hB1T.up hS.Ce).Ai rfl)) (LW.pp (.fA 4 underlying36 rfl sizeOf4 rfl) (LW.pp (.ld isAgg4 rfl ((hB1T.up hS.Ce).Ai rfl)) (LW.pp (.build (cs := (cH f).cells) underlying36 zeroValue36 C3 (.cons (.t rfl) (.cons (.t rfl) (.cons (.t rfl) (.cons (.t rfl) .nil)))) rfl) (LW.pp (.oX eqGuardType36 (Pb _ _) (.t rfl) (.t rfl)) (LW.A rfl (LW.T (CW.ret (Ae rfl rfl ⟨_, rfl, ?_⟩))))))))))))))))
    refine ⟨congrArg Go.Value.bool ?_, hU0.trans hS.Ce⟩
    exact tL hkn hq2 hr0 (by simpa using h50) (Wh hg (by simp at h56; omega)) ht0 h80
   refine CW.skip (KW.then (CW.S (LW.pp (.la isAgg36 sizeOf36 rfl ((hS.blk 0 rfl).agg)) (LW.pp (.fA 0 underlying36 rfl sizeOf3 rfl) (LW.pp (.ld isAgg3 rfl ((hB1T.up hS.Ce).Ai rfl)) (LW.pp (.fA 2 underlying36 rfl sizeOf3 rfl) (LW.pp (.ld isAgg3 rfl ((hB1T.up hS.Ce).Ai rfl)) (LW.pp (.fA 3 underlying36 rfl sizeOf3 rfl) (LW.pp (.ld isAgg3 rfl ((hB1T.up hS.Ce).Ai rfl)) (LW.pp (.fA 4 underlying36 rfl sizeOf4 rfl) (LW.pp (.ld isAgg4 rfl ((hB1T.up hS.Ce).Ai rfl)) (LW.pp (.build (cs := (cH f).cells) underlying36 zeroValue36 C3 (.cons (.t rfl) (.cons (.t rfl) (.cons (.t rfl) (.cons (.t rfl) .nil)))) rfl) (LW.pp (.oX eqGuardType36 (Pb _ _) (.t rfl) (.t rfl)) (LW.A rfl (LW.T (CW.ret (Ae rfl rfl ⟨_, rfl, ?_⟩)))))))))))))))))
   refine ⟨congrArg Go.Value.bool ?_, hU0.trans hS.Ce⟩
   exact tM hkn hq2 hr0 (by simpa using h50) (Wh hg (by simp at h56; omega)) ht0 h80
 | false =>
  have hkn := of_decide_eq_false hq1
  have hB1T := hS.blk 0 rfl
  have hU0 := hS.Ce
  refine CW.box 9 7 8 5 3 14 #[.slice none 0 0, .slice none 0 0, .nilFunc, .bool false] [.pred ShM, .eq (.pointer (some ⟨B1, 0, none⟩)), .eq (vi f.Kind), .eq (.tuple #[Un, .bool false]), .eq (.tuple #[Un, .bool false]), .eq Un, .eq (.bool false), .pred fun v _ => ∃ B, v = .pointer (some ⟨B, 0, none⟩), .eq undef] [15] zeroValue130 sizeOf130 kQ rfl kQ kQ kQ kQ kQ kQ kQ rfl rfl ⟨_, _, _, rfl⟩ _ rfl ⟨_, _, _, rfl⟩ ⟨PhT.pred fun _ _ _ h u => ShM.C9 h u, PhT.eq _ _, PhT.eq _ _, PhT.eq _ _, PhT.eq _ _, PhT.eq _ _, PhT.eq _ _, PhT.pred fun _ _ _ h _ => h, PhT.eq _ _, trivial⟩ rfl (fun v W h => ⟨_, h, rfl, by simp [Value.oneCell']⟩) (fun B W => ⟨B, rfl⟩) ?_ ?_
  ·intro W hK0
   have hK := (Up.drew w1).C9.trans hK0
   have hB1W := Blk.C9 hB1T (T := 130) rfl hK
   refine aC (.inr ⟨rfl, TU.c (eC .nil (pE)) (Jp _) (fun v W1 h => let ⟨b, e, m, u⟩ := h; ⟨u, b, e, m⟩)⟩) (aC (.inr ⟨rfl, TU.p (.fA 0 underlying36 rfl sizeOf3 rfl) rfl⟩) (aC (.inr ⟨rfl, TU.p (.ld isAgg3 rfl (hB1W.Ai rfl)) rfl⟩) (aC (.inr ⟨rfl, TU.open (d := 10) rfl (by rintro _ ⟨b, rfl, kv, hI, hV, hK⟩; exact TU.p (.G4 underlying131 underlying3 zeroValue130 (.t rfl) (.t rfl) hI (fun h => hkn ((hK f.Kind).1 h))) rfl)⟩) (aC (.inr ⟨rfl, TU.p (.move (.t rfl)) rfl⟩) (aC (.inr ⟨rfl, TU.p (.extract (.t rfl) rfl) rfl⟩) (aC (.inr ⟨rfl, TU.p (.extract (.t rfl) rfl) rfl⟩) (aC (.inl (.inl rfl)) (aC (.inl (.inr rfl)) ?_))))))))
   exact allL.nil
  intro wT B3 g hU hBn hB3 hg
  have h15 : g 15 = .bool false := hg 6 _ 15 cQ rfl rfl
  have hUT := (Up.drew _).trans hU
  have hB1X := hB1T.up hUT
  replace hB1T := hB1X
  replace hU0 := hU0.trans hUT
  have e14 : g 14 = Un := hg 5 _ 14 cQ rfl rfl
  rw [e14] at hB3
  replace hB3 : Blk wT B3 #[.slice none 0 0, .slice none 0 0, .nilFunc, .bool false] 130 := hB3
  change LW _ _ _ _ _ _ _ _ ((3, _) :: (15, .eq (g 15)) :: _) _
  rw [h15]
  replace hS := (Sep.start no wT)
  refine LW.A rfl (LW.S (CW.S (LW.pp (.fa (PEv.move (.t rfl)) (rfl)) (LW.pp (.not (.t rfl)) (LW.M rfl (LW.N (LW.N (LW.N (LW.pp (.A7 (b := false) (.t rfl) (fun hp => absurd (show true = false from hp) cQ)) (LW.M rfl (LW.N (LW.N (LW.N (LW.pp (.A7 (b := false) (.t rfl) (fun hp => absurd (show true = false from hp) cQ)) (LW.M rfl (LW.N (LW.N (LW.N (LW.pp (.A7 (b := false) (.t rfl) (fun hp => absurd (show true = false from hp) cQ)) (LW.M rfl (LW.N (LW.N (LW.N (LW.pp (.A7 (b := false) (.t rfl) (fun hp => absurd (show true = false from hp) cQ)) (LW.M rfl (LW.N (LW.N (LW.N (LW.N (LW.pp (.A7 (b := false) (.t rfl) (fun hp => absurd (show true = false from hp) cQ)) (LW.M rfl (LW.N (LW.N (LW.N (LW.N (LW.N (LW.pp (.A7 (b := false) (.t rfl) (fun hp => absurd (show true = false from hp) cQ)) (LW.T (CW.cond_true (.t rfl) (CW.S (LW.C (LW.T (CW.ret (Af (Ae rfl rfl ⟨_, rfl, ?_⟩)))))))))))))))))))))))))))))))))))))))))))))
  refine ⟨congrArg Go.Value.bool ?_, hU0.trans hS.Ce⟩
  exact yV hkn
end Go.Proofs.YtmimclgihlhaeaaGreat
end
section
namespace Go.Wx
open Go.RowKit
section
variable {P : Program} {n : Nat} {ds : List Deferred} {l : Env} {w : World} {d : Option Tmp} {ty : TypeId} {ps : String} {af : Array Edge} {g : Option (Nat × Bool)}
theorem PEv.yX {op : BinOp} {T T' : TypeId} {x y : Operand} {k k' : IntKind} {i j : Int} {v : Value} (hx : Val l x (.int k i)) (hy : Val l y (.int k' j)) (h : ∀ w, (binOp op T (.int k i) (.int k' j)).run P w = .ok v w) :
   PEv P n ds l w ⟨d, .binOp op T x y T', ty, ps, af, g⟩ v := fun a w' ha _ => by
 refine A9 ?_
 rw [ha.ev hx, ha.ev hy, Sem.run_bind]
 have : (eqGuard op T x y (.int k i) (.int k' j)).run P w' = .ok () w' := by unfold eqGuard; cases op <;> rfl
 rw [this]
 exact h w'
theorem PEv.yY {T T' : TypeId} {x y : Operand} {k k' : IntKind} {i : Int} {j : Nat} (hx : Val l x (.int k i)) (hy : Val l y (.int k' (j : Int))) : PEv P n ds l w ⟨d, .binOp .shl T x y T', ty, ps, af, g⟩ (.int k (k.wrap (i * 2 ^ (min j k.bits)))) := .yX hx hy fun w => by
 have h : ¬ ((j : Int) < 0) := by omega
 simp [binOp, Op.shift, h]
theorem PEv.Tb {T T' : TypeId} {x y : Operand} {k k' : IntKind} {i : Int} {j : Nat} (hx : Val l x (.int k i)) (hy : Val l y (.int k' (j : Int))) : PEv P n ds l w ⟨d, .binOp .shr T x y T', ty, ps, af, g⟩ (.int k (i.fdiv (2 ^ (min j k.bits)))) := .yX hx hy fun w => by
 have h : ¬ ((j : Int) < 0) := by omega
 simp [binOp, Op.shift, h]
theorem fN {T T' : TypeId} {x y : Operand} {k : IntKind} {i j : Int} (hx : Val l x (.int k i)) (hy : Val l y (.int k j)) : PEv P n ds l w ⟨d, .binOp .and T x y T', ty, ps, af, g⟩ (.int k (k.wrap (BitVec.ofInt k.bits i &&& BitVec.ofInt k.bits j).toNat)) := .bin hx hy fun w => by simp [binOp, Op.intBits]
theorem fO {T T' : TypeId} {x y : Operand} {k : IntKind} {i j : Int} (hx : Val l x (.int k i)) (hy : Val l y (.int k j)) : PEv P n ds l w ⟨d, .binOp .xor T x y T', ty, ps, af, g⟩ (.int k (k.wrap (BitVec.ofInt k.bits i ^^^ BitVec.ofInt k.bits j).toNat)) := .bin hx hy fun w => by simp [binOp, Op.intBits]
theorem PEv.conv {T T' : TypeId} {x : Operand} {k k' : IntKind} {i : Int} (hT : (P.underlying T).isSome = true) (hT' : P.underlying T' = some (.int k')) (hx : Val l x (.int k i)) : PEv P n ds l w ⟨d, .convert T T' x, ty, ps, af, g⟩ (.int k' (k'.wrap i)) := fun a w' ha _ => by
 refine A9 ?_
 rw [ha.ev hx]
 have hk : P.intKind T' = k' := by simp [Program.intKind, hT']
 have := run_convert_int (P := P) (w := w') T T' k i hT (by rw [hk]; exact hT')
 rw [hk] at this
 exact this
end
def cJ (n : Int) : Nat := if 0 ≤ n then (2 * n).toNat else (-2 * n - 1).toNat
theorem pL {a b : Int} (h : cJ a = cJ b) : a = b := by unfold cJ at h; split at h <;> split at h <;> omega
theorem Zm {a : Int} (h1 : -4611686018427387903 ≤ a) (h2 : a ≤ 4611686018427387903) : cJ a < 18446744073709551616 := by unfold cJ; split <;> omega
def Og : Nat → Nat → List (UInt8 × Bool)
 | 0, _ => []
 | k + 1, z => if z < 128 then [(UInt8.ofNat z, true)] else (UInt8.ofNat (z % 128), false) :: Og k (z / 128)
theorem Tc : ∀ (k j z : Nat), z < 128 ^ k → z < 128 ^ j → 0 < k → 0 < j → Og k z = Og j z
 | k + 1, j + 1, z, h1, h2, _, _ => by
   unfold Og
   split
   · rfl
   rename_i hz
   match k, j with
   | 0, _ => simp at h1; omega
   | _, 0 => simp at h2; omega
   | k + 1, j + 1 =>
     rw [Tc (k + 1) (j + 1) (z / 128) (by rw [Nat.div_lt_iff_lt_mul (by decide)]; rw [Nat.pow_succ] at h1; exact h1) (by rw [Nat.div_lt_iff_lt_mul (by decide)]; rw [Nat.pow_succ] at h2; exact h2) oQ (by omega)]
def Qv (z : Nat) : List (UInt8 × Bool) := Og 10 z
theorem fP {z : Nat} (h : z < 128) : Qv z = [(UInt8.ofNat z, true)] := by unfold Qv Og; rw [if_pos h]
theorem pM {z : Nat} (h : ¬ z < 128) (hz : z < 18446744073709551616) : Qv z = (UInt8.ofNat (z % 128), false) :: Qv (z / 128) := by
 unfold Qv
 conv => lhs; unfold Og
 rw [if_neg h, Tc 9 10 (z / 128) oQ oQ cQ (by decide)]
theorem Wi : ∀ (k z : Nat), (Og k z).length ≤ k
 | 0, _ => Nat.le_refl _
 | k + 1, z => by
   unfold Og
   split
   · simp
   simp only [List.length_cons]; have := Wi k (z / 128); omega
theorem cK (z : Nat) : (Qv z).length ≤ 10 := Wi 10 z
def Wj (p : UInt8 × Bool) : UInt8 := if p.2 then p.1 else p.1 ||| 128
theorem jV {b : Nat} (hb : b < 128) : (UInt8.ofNat b ||| 128).toNat = b + 128 := by
 rw [UInt8.toNat_or, UInt8.toNat_ofNat']
 show b % 2 ^ 8 ||| 2 ^ 7 = _
 have := Nat.two_pow_add_eq_or_of_lt (i := 7) (b := b) oQ 1
 rw [Nat.mul_one] at this
 rw [Nat.mod_eq_of_lt oQ, Nat.or_comm, ← this]
 omega
def pN (z : Nat) : List UInt8 := (Qv z).map Wj
def Oh (a : Int) : Prop := -4611686018427387903 ≤ a ∧ a ≤ 4611686018427387903
instance (a : Int) : Decidable (Oh a) := by unfold Oh; infer_instance
theorem cL {k : Nat} (h : k ≤ 1000000000) : Oh (k : Int) := ⟨by omega, by omega⟩
def encI (i : Int) : List UInt8 := if Oh i then pN (cJ i) else []
theorem Ng (i : Int) : (encI i).length ≤ 10 := by
 unfold encI
 split
 · unfold pN; rw [List.length_map]; exact cK _
 simp
def jW : List UInt8 → Option (Nat × List UInt8)
 | [] => none
 | b :: r => if b.toNat < 128 then some (b.toNat, r) else match jW r with
   | none => none
   | some (z, s) => some (b.toNat - 128 + 128 * z, s)
theorem Td : ∀ (k z : Nat) (r : List UInt8), z < 128 ^ k → 0 < k → jW ((Og k z).map Wj ++ r) = some (z, r)
 | k + 1, z, r, h, _ => by
   unfold Og
   split
   · rename_i hz
     have e : (UInt8.ofNat z).toNat = z := by rw [UInt8.toNat_ofNat']; omega
     simp only [List.map_cons, List.map_nil, Wj, if_true, List.cons_append, List.nil_append, jW, e, if_pos hz]
   rename_i hz
   have e : (UInt8.ofNat (z % 128) ||| 128).toNat = z % 128 + 128 := jV oQ
   match k with
   | 0 => simp at h; omega
   | k + 1 =>
     have ih := Td (k + 1) (z / 128) r (by rw [Nat.div_lt_iff_lt_mul (by decide)]; rw [Nat.pow_succ] at h; exact h) oQ
     simp only [List.map_cons, Wj, Bool.false_eq_true, if_false, List.cons_append, jW, e]
     rw [if_neg (by omega)]
     rw [ih]
     simp only [Option.some.injEq, Prod.mk.injEq, and_true]
     omega
theorem Te {z : Nat} (r : List UInt8) (h : z < 18446744073709551616) : jW (pN z ++ r) = some (z, r) := Td 10 z r oQ cQ
theorem Qw {a b : Int} {r s : List UInt8} (ha : Oh a) (hb : Oh b) (h : encI a ++ r = encI b ++ s) : a = b ∧ r = s := by
 have h1 := Te r (Zm ha.1 ha.2)
 have h2 := Te s (Zm hb.1 hb.2)
 rw [encI, encI, if_pos ha, if_pos hb] at h
 rw [h, h2] at h1
 simp only [Option.some.injEq, Prod.mk.injEq] at h1
 exact ⟨(pL h1.1).symm, h1.2.symm⟩
theorem cM {a : Int} (h : Oh a) : encI a ≠ [] := by
 rw [encI, if_pos h]
 unfold pN Qv Og
 split <;> simp
def Ca (l : List Int) : List UInt8 := l.flatMap encI
theorem Gp : ∀ (l : List Int), (Ca l).length ≤ 10 * l.length
 | [] => by simp [Ca]
 | x :: l => by
   have h1 := Ng x
   have h2 := Gp l
   simp only [Ca, List.flatMap_cons, List.length_append, List.length_cons] at h2 ⊢
   omega
theorem Zn {l : List Int} {k : Nat} {x : Int} (h : l[k]? = some x) : Ca (l.take (k + 1)) = Ca (l.take k) ++ encI x := by
 obtain ⟨hk, e⟩ := List.getElem?_eq_some_iff.1 h
 unfold Ca
 rw [List.take_add_one, h]; simp
theorem Zo (l : List Int) (x : Int) : Ca (l ++ [x]) = Ca l ++ encI x := by simp [Ca]
theorem fQ (x : Int) : Ca [x] = encI x := by simp [Ca]
theorem Tf : ∀ {a b : List Int} {r s : List UInt8}, (∀ x ∈ a, Oh x) → (∀ x ∈ b, Oh x) → a.length = b.length → Ca a ++ r = Ca b ++ s → a = b ∧ r = s
 | [], [], r, s, _, _, _, h => ⟨rfl, by simpa [Ca] using h⟩
 | x :: a, y :: b, r, s, ha, hb, hl, h => by
   simp only [Ca, List.flatMap_cons, List.append_assoc] at h
   obtain ⟨h1, h2⟩ := Qw (ha x List.mem_cons_self) (hb y List.mem_cons_self) h
   obtain ⟨h3, h4⟩ := Tf (r := r) (s := s) (fun x hx => ha x (List.mem_cons_of_mem _ hx)) (fun x hx => hb x (List.mem_cons_of_mem _ hx)) (by simpa using hl) h2
   exact ⟨by rw [h1, h3], h4⟩
 | [], _ :: _, _, _, _, _, hl, _ => by simp at hl
 | _ :: _, [], _, _, _, _, hl, _ => by simp at hl
def Zp (t : List UInt8) : List UInt8 := encI (t.length : Int) ++ t
def vu (z : Nat) : Value := .int .u64 (z : Int)
theorem Fv (i : Int) : IntKind.u64.wrap i = i % 18446744073709551616 := by rw [IntKind.wrap_u64]
theorem jX {a : Int} (ha : Oh a) : IntKind.u64.wrap (BitVec.ofInt IntKind.u64.bits (IntKind.u64.wrap (IntKind.u64.wrap a * 2 ^ (min 1 IntKind.u64.bits))) ^^^ BitVec.ofInt IntKind.u64.bits (IntKind.u64.wrap (a.fdiv (2 ^ (min 63 IntKind.i64.bits))))).toNat = (cJ a : Int) := by
 obtain ⟨h1, h2⟩ := ha
 have e1 : min 1 IntKind.u64.bits = 1 := rfl
 have e2 : min 63 IntKind.i64.bits = 63 := rfl
 rw [e1, e2]
 by_cases h : 0 ≤ a
 · have f : a.fdiv (2 ^ 63) = 0 := by rw [Int.fdiv_eq_ediv_of_nonneg _ (by decide)]; omega
   have g0 : IntKind.u64.wrap 0 = 0 := by rw [Fv]; rfl
   rw [f, g0]
   have z : cJ a = (2 * a).toNat := by unfold cJ; rw [if_pos h]
   rw [z]
   have v : IntKind.u64.wrap (IntKind.u64.wrap a * 2 ^ 1) = ((2 * a).toNat : Int) := by rw [Fv, Fv]; omega
   rw [v]
   have q : (BitVec.ofInt 64 ((2 * a).toNat : Int) ^^^ 0#64).toNat = (2 * a).toNat := by
     rw [BitVec.xor_zero, BitVec.toNat_ofInt]; omega
   show IntKind.u64.wrap ((BitVec.ofInt 64 ((2 * a).toNat : Int) ^^^ 0#64).toNat : Int) = _
   rw [q, Fv]
   omega
 have f : a.fdiv (2 ^ 63) = -1 := by rw [Int.fdiv_eq_ediv_of_nonneg _ (by decide)]; omega
 have g0 : IntKind.u64.wrap (-1) = 18446744073709551615 := by rw [Fv]; rfl
 rw [f, g0]
 have z : cJ a = (-2 * a - 1).toNat := by unfold cJ; rw [if_neg h]
 rw [z]
 have v : IntKind.u64.wrap (IntKind.u64.wrap a * 2 ^ 1) = 18446744073709551616 + 2 * a := by rw [Fv, Fv]; omega
 rw [v]
 have q : (BitVec.ofInt 64 (18446744073709551616 + 2 * a) ^^^ BitVec.allOnes 64).toNat = (-2 * a - 1).toNat := by
   rw [BitVec.xor_allOnes, BitVec.toNat_not, BitVec.toNat_ofInt]; omega
 show IntKind.u64.wrap ((BitVec.ofInt 64 (18446744073709551616 + 2 * a) ^^^ BitVec.allOnes 64).toNat : Int) = _
 rw [q, Fv]
 omega
theorem tO {z : Nat} (hz : z < 18446744073709551616) : IntKind.u64.wrap (BitVec.ofInt IntKind.u64.bits (z : Int) &&& BitVec.ofInt IntKind.u64.bits 127).toNat = ((z % 128 : Nat) : Int) := by
 have : (BitVec.ofInt IntKind.u64.bits (z : Int) &&& BitVec.ofInt IntKind.u64.bits 127).toNat = z % 128 := by
   have e : BitVec.ofInt IntKind.u64.bits (z : Int) = BitVec.ofNat 64 z := BitVec.ofInt_natCast 64 z
   rw [e]
   have e2 : BitVec.ofInt IntKind.u64.bits 127 = BitVec.ofNat 64 127 := rfl
   rw [e2]
   show (BitVec.ofNat 64 z &&& BitVec.ofNat 64 127).toNat = _
   rw [BitVec.toNat_and, BitVec.toNat_ofNat, BitVec.toNat_ofNat, Nat.mod_eq_of_lt (by omega : z < 2 ^ 64)]
   show z &&& (2 ^ 7 - 1) = z % 2 ^ 7
   exact Nat.and_two_pow_sub_one_eq_mod z 7
 rw [this, Fv]
 omega
theorem CS {z : Nat} : ((z : Int).fdiv (2 ^ (min 7 IntKind.u64.bits))) = ((z / 128 : Nat) : Int) := by
 have e1 : min 7 IntKind.u64.bits = 7 := rfl
 rw [e1, Int.fdiv_eq_ediv_of_nonneg _ (by decide)]
 show (z : Int) / 128 = _
 omega
theorem pO {z : Nat} : Value.int .u8 (IntKind.u8.wrap (z : Int)) = bv (UInt8.ofNat z) := by
 rw [IntKind.wrap_u8]
 unfold bv
 rw [UInt8.toNat_ofNat']
 congr 1
theorem yZ {b : UInt8} : IntKind.u8.wrap (BitVec.ofInt IntKind.u8.bits (b.toNat : Int) ||| BitVec.ofInt IntKind.u8.bits 128).toNat = ((b ||| 128).toNat : Int) := by
 have e : (BitVec.ofInt IntKind.u8.bits (b.toNat : Int) ||| BitVec.ofInt IntKind.u8.bits 128).toNat = (b ||| 128).toNat := by
   have e : BitVec.ofInt IntKind.u8.bits (b.toNat : Int) = BitVec.ofNat 8 b.toNat := BitVec.ofInt_natCast 8 b.toNat
   rw [e]
   have e2 : BitVec.ofInt IntKind.u8.bits 128 = BitVec.ofNat 8 128 := rfl
   rw [e2, UInt8.toNat_or]
   show (BitVec.ofNat 8 b.toNat ||| BitVec.ofNat 8 128).toNat = _
   rw [BitVec.toNat_or, BitVec.toNat_ofNat, BitVec.toNat_ofNat, Nat.mod_eq_of_lt (UInt8.toNat_lt b)]
   rfl
 rw [e, IntKind.wrap_u8]
 have := UInt8.toNat_lt (b ||| 128)
 omega
end Go.Wx
end
