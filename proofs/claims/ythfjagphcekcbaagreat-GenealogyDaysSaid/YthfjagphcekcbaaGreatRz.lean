/-
  A range over a function whose iterator writes variables of its own (blocks of Z): no round breaks off. Nothing of any program stands here.
-/
import Derived.Test.YthfjagphcekcbaaGreatBu
namespace Go.Wx
open Go.RowKit

/-- how a round is left: it goes on; the iterator's own blocks lie as they lay -/
def roundZ {α : Type} (bq : Nat) (Z : Nat → Prop) (I : List α → World → Prop) (ys : List α) (W : World) : Exit → Go.Act → World → Prop
  | .normal, _, W' => KeepsFrom bq W W' ∧ (∀ b, Z b → W'.heap[b]? = W.heap[b]?) ∧ I ys W'
  | _, _, _ => False
/-- an iterator that hands out all of a list of S; J: what its caller says; the rounds leave Z, and what J says is kept where Z is written -/
def IterZ {α : Type} (P : Program) (g : Nat) (lb : Array Value) (encs : α → Array Value) (Z : Nat → Prop) (S : List α → Prop) (N : Nat) (w : World) : Prop :=
  ∀ (lp : Nat) (J : List α → World → Prop) (W : World), Up w W → (∀ s A B, J s A → Fr Z A B → J s B) →
    (∀ pre x W1, J pre W1 → pre.length < N → YieldAt (FR none) 8 P lp (encs x) W1 fun e W' => ∃ v, e = .returned v ∧ v = .bool true ∧ J (pre ++ [x]) W' ∧ ∀ b, Z b → W'.heap[b]? = W1.heap[b]?) →
    J [] W → Ret P g (#[.func (.yield lp) #[] #[]] ++ lb) W fun _ W' => ∃ ys, S ys ∧ J ys W'

theorem Sz.frz {B : Nat} {Z : Nat → Prop} {w w' : World} (h : Sz B w) (k : Fr Z w w') : Sz B w' := Nat.le_trans h k.size
theorem Blk.frz {B : Nat} {cs : Array Value} {T : TypeId} {Z : Nat → Prop} {w w' : World} (h : Blk w B cs T) (k : Fr Z w w') (hn : ¬ Z B) : Blk w' B cs T := (k.block B h.lt hn).trans h
theorem OwnS.frz {α : Type} {enc : α → Array Value} {base k : Nat} {e : TypeId} {Z : Nat → Prop} {w w' : World} {v : Value} {xs : List α} (h : OwnS w base e k enc v xs) (u : Fr Z w w') (hn : ∀ b, Z b → b < base) : OwnS w' base e k enc v xs := by
  obtain ⟨h1, h2⟩ := h
  refine ⟨h1, ?_⟩
  rcases h2 with h2 | ⟨g, cap, cur, rfl, hb, hg, rest⟩
  · exact .inl h2
  · exact .inr ⟨g, cap, cur, rfl, hb, (u.block g (lt_of_block hg) (fun hz => by have := hn g hz; omega)).trans hg, rest⟩
theorem Up.frz {Z : Nat → Prop} {w0 w w' : World} (h : Up w0 w) (k : Fr Z w w') (hn : ∀ b, Z b → w0.heap.size ≤ b) : Up w0 w' :=
  ⟨k.os.trans h.os, k.tape.trans h.tape, k.output.trans h.output, Nat.le_trans (Up.size h) k.size, fun i hi => (k.block i (Nat.lt_of_lt_of_le hi (Up.size h)) (fun hz => by have := hn i hz; omega)).trans (h.block hi)⟩
/-- block B lies as it lay -/
structure Zk (B : Nat) (w w' : World) : Prop where
  lt : B < w'.heap.size
  same : w'.heap[B]? = w.heap[B]?
theorem Zk.refl {B : Nat} {w : World} (h : B < w.heap.size) : Zk B w w := ⟨h, rfl⟩
theorem Zk.up {B : Nat} {w0 w w' : World} (h : Zk B w0 w) (u : Up w w') : Zk B w0 w' := ⟨Nat.lt_of_lt_of_le h.lt u.size, (u.block h.lt).trans h.same⟩
theorem Zk.sto {B B' : Nat} {w0 w w' : World} (h : Zk B w0 w) (u : Sto B' w w') (hne : B ≠ B') : Zk B w0 w' := ⟨Nat.lt_of_lt_of_le h.lt u.size, (u.block _ h.lt hne).trans h.same⟩
theorem Zk.gr {B base : Nat} {w0 w w' : World} (h : Zk B w0 w) (u : Grew base w w') (hb : B < base) : Zk B w0 w' := ⟨Nat.lt_of_lt_of_le h.lt u.size, (u.block _ h.lt hb).trans h.same⟩
theorem zip2 (p q : Tmp) (v u : Value) (t : Array Value) : (#[p, q].zip #[v, u]).foldl (fun (t : Array Value) (x : Tmp × Value) => t.setIfInBounds x.1 x.2) t = (t.setIfInBounds p v).setIfInBounds q u := by simp

section
variable {R : Option Nat} {m : Nat} {P : Program} {n : Nat} {ds : List Deferred} {Q : Exit → Go.Act → World → Prop} {l : Env} {w : World}
theorem CW.assign2 {lp : Nat} {c : Code} {p q : Nat} {v u : Value} (hp : Nat.ble (p + 1) n = true) (hq : Nat.ble (q + 1) n = true) (h : CW (some lp) m P n [] c Q ((q, .eq u) :: (p, .eq v) :: l) w) :
    ∀ a, Ag n ds l a w → c.wpIn (FR (some lp)) m P Q { tmps := (#[p, q].zip #[v, u]).foldl (fun t (p, v) => t.setIfInBounds p v) a.tmps, defers := [] } w := fun a ha => by
  have e : (#[p, q].zip #[v, u]).foldl (fun t (p, v) => t.setIfInBounds p v) a.tmps = (a.tmps.setIfInBounds p v).setIfInBounds q u := by simp
  rw [e]
  have h1 : Ag n [] l { tmps := a.tmps, defers := [] } w := ⟨rfl, ha.size, ha.val⟩
  exact h _ ((h1.put hp (ph := .eq v) rfl).put hq (ph := .eq u) rfl)
theorem CW.rangeFuncZ {α : Type} {g : Operand} {ps : Array Tmp} {assign body : Code} {gf : Nat} {lb : Array Value} {encs : α → Array Value} (Z : Nat → Prop) {S : List α → Prop} {N : Nat} (I : List α → World → Prop) (env : α → Env)
    (hx : Val l g (.func (.func gf) #[] lb)) (en : ∀ args w, (callFunc gf args).run P w = .ok (.enter gf args) w) (hit : ∀ W, Up w W → IterZ P gf lb encs Z S N W) (hps : ∀ x, (encs x).size = ps.size) (hl : noPred l = true) (hZ : ∀ b, Z b → b < w.heap.size)
    (hI : OwnFrom w.heap.size I) (hIZ : ∀ s A B, I s A → Fr Z A B → I s B) (h0 : I [] w)
    (hassign : ∀ (lp : Nat) (x : α) (W : World) (a : Go.Act), Ag n ds l a W → assign.wpIn (FR (some lp)) 8 P (Exit.then (fun a' W' => W' = W ∧ Ag n [] (env x) a' W) (fun _ _ _ => False)) { tmps := (ps.zip (encs x)).foldl (fun t (p, v) => t.setIfInBounds p v) a.tmps, defers := [] } W)
    (henv : ∀ x, noPred (env x) = true)
    (hbody : ∀ (lp : Nat) (pre : List α) (x : α) (W : World), I pre W → pre.length < N → CW (some lp) 8 P n [] body (roundZ w.heap.size Z I (pre ++ [x]) W) (env x) W)
    (hdone : ∀ (D : Nat) (ys : List α) (W : World), w.heap.size ≤ D → S ys → I ys W → W.heap[D]? = some (.deferred (some [])) → KW n ({ target := .collected D, args := #[] } :: ds) (Q .normal) l W) :
    CW none 10 P n ds (.rangeFunc g ps assign body) Q l w := fun a ha => by
  have hg := ha.ev hx
  refine wpIn_rangeFunc ?_
  intro fn hfn
  -- the loop's record, and the block of what the rounds defer
  let rec_ : LoopState → Option Code → Loop := fun st pe => { state := st, pending := pe, fn, tmps := a.tmps, params := ps, assign, body, defers := w.heap.size }
  let kd : Nat := w.heap.size
  let lp : Nat := w.heap.size + 1
  let W1 : World := (w.alloc (.deferred (some []))).alloc (.loop (rec_ .ready none))
  have hU : Up w W1 := (Up.alloc _ _).trans (Up.alloc _ _)
  have rec1 : W1.heap[lp]? = some (.loop (rec_ .ready none)) := by
    have := World.alloc_heap_new (w.alloc (.deferred (some []))) (.loop (rec_ .ready none))
    rw [World.size_alloc] at this
    exact this
  have dfr1 : W1.heap[kd]? = some (.deferred (some [])) := (Below.heap_alloc _ _ _ (by simp [kd])).trans (World.alloc_heap_new w _)
  have hne : kd ≠ lp := by show w.heap.size ≠ w.heap.size + 1; omega
  have hI1 : I [] W1 := hI.alloc _ (hI.alloc _ h0)
  refine ⟨lp, [{ target := .collected kd, args := #[] }], W1, { target := .fn (.func gf) lb, args := #[.func (.yield lp) #[] #[]] }, W1, gf, #[.func (.yield lp) #[] #[]] ++ lb, W1, run_enterLoop_outer _ _ _ _ _, ?_, fun f' hf' => ?_, ?_, fun _ => (by decide), ?_⟩
  · simp only [resolve, hg]
    simp [go_sem]
  · simp [Target.leads] at hf'; subst hf'; trivial
  · simp [invoke, go_sem, en]
  have fine : ∀ {A B : World}, Fr Z A B → ∀ (k : Nat) (o : Obj), w.heap.size ≤ k → A.heap[k]? = some o → B.heap[k]? = some o := fun hf k o hk ho =>
    (hf.block k (lt_of_block ho) (fun hz => by have := hZ k hz; omega)).trans ho
  have all := hit W1 hU lp (fun pre W => I pre W ∧ W.heap[lp]? = some (.loop (rec_ .ready none)) ∧ W.heap[kd]? = some (.deferred (some []))) W1 (Up.refl _)
    (fun s A B hs hf => ⟨hIZ s A B hs.1 hf, fine hf lp _ (by show w.heap.size ≤ w.heap.size + 1; omega) hs.2.1, fine hf kd _ (Nat.le_refl _) hs.2.2⟩) ?_ ⟨hI1, rec1, dfr1⟩
  · refine (show CallsIn (FR none) 9 P gf _ W1 _ from callsIn_wide.2 all).mono ?_
    rintro e W2 ⟨v, rfl, xs, hS, hi, hlr, hk⟩
    refine ⟨none, W2.putObj lp (.loop (rec_ .exhausted none)), ?_, ?_⟩
    · exact run_endLoop (P := P) hlr (by simp [rec_])
    · exact hdone kd xs _ (Nat.le_refl _) hS (hI.putObj _ hi (by show w.heap.size ≤ w.heap.size + 1; omega) hlr rfl) ((World.putObj_heap_other hne).trans hk) _ ⟨by rw [← ha.defers]; rfl, ha.size, (ha.world hl _).val⟩
  · -- one round
    rintro pre x W ⟨hi, hlr, hk⟩ hlen
    have hlt := lt_of_block hlr
    have hy := run_yield (P := P) (args := encs x) hlr (by simp only [rec_]; exact hps x)
    refine ⟨fn, _, assign, body, hy, roundIn_of_wpIn hfn ?_⟩
    refine wpIn_mono (hassign lp x W a (ha.world hl W)) ?_
    intro e a1 W' hq
    cases e with
    | normal =>
      obtain ⟨rfl, ha1⟩ := hq
      refine ⟨_, run_beginRound hlr rfl, ?_⟩
      have hput : OwnFrom w.heap.size I → I pre (W'.putObj lp (.loop { rec_ .ready none with state := .busy })) := fun h => h.putObj _ hi (by show w.heap.size ≤ w.heap.size + 1; omega) hlr rfl
      have l2 : (W'.putObj lp (.loop { rec_ .ready none with state := .busy })).heap[lp]? = some (.loop { rec_ .ready none with state := .busy }) := World.putObj_heap_same hlt
      have k2 : (W'.putObj lp (.loop { rec_ .ready none with state := .busy })).heap[kd]? = some (.deferred (some [])) := (World.putObj_heap_other hne).trans hk
      refine wpIn_mono (hbody lp pre x _ (hput hI) hlen a1 (ha1.world (henv x) _)) ?_
      intro e2 a2 W3 hp
      cases e2 with
      | normal =>
        obtain ⟨hk3, hz3, hi3⟩ := hp
        have l3 := hk3.same _ _ (by show w.heap.size ≤ w.heap.size + 1; omega) l2 rfl
        have k3 := hk3.same _ _ (Nat.le_refl _) k2 rfl
        have hr := run_endRound (P := P) none l3
        have ne : ∀ b, Z b → b ≠ lp := fun b hb => by have := hZ b hb; show b ≠ w.heap.size + 1; omega
        refine ⟨_, _, hr, _, rfl, rfl, ⟨hI.putObj _ hi3 (by show w.heap.size ≤ w.heap.size + 1; omega) l3 rfl, World.putObj_heap_same (lt_of_block l3), (World.putObj_heap_other hne).trans k3⟩, fun b hb => ?_⟩
        exact (World.putObj_heap_other (ne b hb)).trans ((hz3 b hb).trans (World.putObj_heap_other (ne b hb)))
      | ret => exact hp.elim
      | exit id => exact hp.elim
      | goto t => exact hp.elim
      | panic ch => exact hp.elim
      | outgrown => exact hp.elim
    | ret => exact hq.elim
    | exit id => exact hq.elim
    | goto t => exact hq.elim
    | panic ch => exact hq.elim
    | outgrown => exact hq.elim
end
end Go.Wx
