/-
  A range over a function: the caller's law and the iterator's, over slots that are known in part. Nothing of any program stands here.
-/
import Derived.Test.YthfjagphcekcbaaGreatBl
namespace Go.Wx
open Go.RowKit

/-! ### what a round keeps -/
/-- all lies as it lay, but for cells in blocks of X, other things in blocks of Y, and the loops' own records from bq on -/
structure Kx (bq : Nat) (X Y : Nat → Prop) (w w' : World) : Prop where
  os : w'.os = w.os
  tape : w'.tape = w.tape
  output : w'.output = w.output
  size : w.heap.size ≤ w'.heap.size
  same : ∀ (k : Nat) (o : Obj), w.heap[k]? = some o → ((o.isCells = true ∧ ¬ X k) ∨ (o.isCells = false ∧ ¬ Y k ∧ (k < bq ∨ o.isWalk = true))) → w'.heap[k]? = some o
theorem Kx.refl (bq : Nat) (X Y : Nat → Prop) (w : World) : Kx bq X Y w w := ⟨rfl, rfl, rfl, Nat.le_refl _, fun _ _ h _ => h⟩
section
variable {bq : Nat} {X Y : Nat → Prop}
theorem Kx.trans {a b c : World} (h : Kx bq X Y a b) (k : Kx bq X Y b c) : Kx bq X Y a c := ⟨k.os.trans h.os, k.tape.trans h.tape, k.output.trans h.output, Nat.le_trans h.size k.size, fun i o hi ho => k.same i o (h.same i o hi ho) ho⟩
theorem Kx.up {w0 w w' : World} (h : Kx bq X Y w0 w) (u : Up w w') : Kx bq X Y w0 w' :=
  ⟨u.os.trans h.os, u.tape.trans h.tape, u.output.trans h.output, Nat.le_trans h.size u.size, fun k o hk ho => (u.block (lt_of_block (h.same k o hk ho))).trans (h.same k o hk ho)⟩
theorem Kx.stoC {w0 w w' : World} {B : Nat} (h : Kx bq X Y w0 w) (k : Sto B w w') (hc : ∃ cs T, Blk w B cs T) (hB : X B ∨ w0.heap.size ≤ B) : Kx bq X Y w0 w' :=
  ⟨k.os.trans h.os, k.tape.trans h.tape, k.output.trans h.output, Nat.le_trans h.size k.size, fun i o hi ho => (k.block i (lt_of_block (h.same i o hi ho)) (fun e => by
    have h1 := h.same i o hi ho
    subst e
    obtain ⟨cs, T, hc⟩ := hc
    rw [show w.heap[i]? = _ from hc] at h1
    cases h1
    rcases hB with hB | hB
    · rcases ho with ho | ho
      · exact ho.2 hB
      · cases ho.1
    · have := lt_of_block hi; omega)).trans (h.same i o hi ho)⟩
theorem Kx.stoM {w0 w w' : World} {B : Nat} (h : Kx bq X Y w0 w) (k : Sto B w w') (hc : ∃ o : Obj, w.heap[B]? = some o ∧ o.isCells = false) (hB : Y B ∨ w0.heap.size ≤ B) : Kx bq X Y w0 w' :=
  ⟨k.os.trans h.os, k.tape.trans h.tape, k.output.trans h.output, Nat.le_trans h.size k.size, fun i o hi ho => (k.block i (lt_of_block (h.same i o hi ho)) (fun e => by
    have h1 := h.same i o hi ho
    subst e
    obtain ⟨o', hc, hf⟩ := hc
    rw [hc] at h1
    cases h1
    rcases hB with hB | hB
    · rcases ho with ho | ho
      · rw [hf] at ho; cases ho.1
      · exact ho.2.1 hB
    · have := lt_of_block hi; omega)).trans (h.same i o hi ho)⟩
end
/-- all lies as it lay, but for the loops' records and the walks from bq on -/
structure Ko (bq : Nat) (w w' : World) : Prop where
  os : w'.os = w.os
  tape : w'.tape = w.tape
  output : w'.output = w.output
  size : w.heap.size ≤ w'.heap.size
  same : ∀ (k : Nat) (o : Obj), w.heap[k]? = some o → (k < bq ∨ o.isCells = true) → w'.heap[k]? = some o
theorem Ko.grown {bq : Nat} {w w' : World} {row : Option Nat} (hg : w.grownBy w' row) (hr : ∀ r, row = some r → bq ≤ r ∧ ∃ o : Obj, w.heap[r]? = some o ∧ o.isCells = false) : Ko bq w w' :=
  ⟨hg.os, hg.tape, hg.output, hg.size, fun k o hk ho => (hg.block k (lt_of_block hk) (fun e => by
    obtain ⟨h0, o', h1, h2⟩ := hr k e.symm
    rw [hk] at h1; cases h1
    rcases ho with ho | ho
    · omega
    · rw [ho] at h2; cases h2)).trans hk⟩
theorem Ko.putObj {bq : Nat} {w : World} {l : Nat} {o : Obj} (o' : Obj) (h : w.heap[l]? = some o) (ho : o.isCells = false) (hl : bq ≤ l) : Ko bq w (w.putObj l o') :=
  Ko.grown (grownBy_putObj' w l o') (fun r e => by cases e; exact ⟨hl, o, h, ho⟩)
theorem Blk.ko {bq : Nat} {w w' : World} {B : Nat} {cs : Array Value} {T : TypeId} (h : Blk w B cs T) (k : Ko bq w w') : Blk w' B cs T := k.same B _ h (.inr rfl)
theorem Blk.kx {bq : Nat} {X Y : Nat → Prop} {w w' : World} {B : Nat} {cs : Array Value} {T : TypeId} (h : Blk w B cs T) (k : Kx bq X Y w w') (hB : ¬ X B) : Blk w' B cs T := k.same B _ h (.inl ⟨rfl, hB⟩)
theorem Up.ko {bq : Nat} {w0 w w' : World} (h : Up w0 w) (k : Ko bq w w') (hb : w0.heap.size ≤ bq) : Up w0 w' :=
  ⟨k.os.trans h.os, k.tape.trans h.tape, k.output.trans h.output, Nat.le_trans (Up.size h) k.size, fun i hi => by
    have h1 := h.block hi
    have h2 : w.heap[i]? = some w0.heap[i] := by rw [h1]; simp [hi]
    rw [k.same i _ h2 (.inl (by omega)), ← h2, h1]⟩
theorem Up.kx {bq : Nat} {X Y : Nat → Prop} {w0 w w' : World} (h : Up w0 w) (k : Kx bq X Y w w') (hX : ∀ i, X i → w0.heap.size ≤ i) (hY : ∀ i, Y i → w0.heap.size ≤ i) (hb : w0.heap.size ≤ bq) : Up w0 w' :=
  ⟨k.os.trans h.os, k.tape.trans h.tape, k.output.trans h.output, Nat.le_trans (Up.size h) k.size, fun i hi => by
    have h1 := h.block hi
    have h2 : w.heap[i]? = some w0.heap[i] := by rw [h1]; simp [hi]
    have h3 : ((w0.heap[i]).isCells = true ∧ ¬ X i) ∨ ((w0.heap[i]).isCells = false ∧ ¬ Y i ∧ (i < bq ∨ (w0.heap[i]).isWalk = true)) := by
      cases hc : (w0.heap[i]).isCells
      · exact .inr ⟨rfl, fun hy => by have := hY i hy; omega, .inl (by omega)⟩
      · exact .inl ⟨rfl, fun hx => by have := hX i hx; omega⟩
    rw [k.same i _ h2 h3, ← h2, h1]⟩
theorem up_grown {w w' : World} (h : Up w w') : w.grownBy w' none := ⟨h.os, h.tape, h.output, h.size, fun _ hk _ => h.block hk⟩

/-! ### the iterator's side -/
/-- a word on what has come so far, which new blocks keep -/
structure Jw {β : Type} (B : Nat) (J : β → World → Prop) (s : β) (w : World) : Prop where
  ab : AbidesFrom B J
  j : J s w
theorem Jw.walk {β : Type} {B : Nat} {J : β → World → Prop} {s : β} {w w' : World} {r : Nat} {o : Obj} (h : Jw B J s w) (g : w.grownBy w' (some r)) (hr : B ≤ r) (ho : w.heap[r]? = some o) (hw : o.isWalk = true) : Jw B J s w' := ⟨h.ab, h.ab s w w' _ h.j g (fun i e => by cases e; exact ⟨hr, o, ho, hw⟩)⟩
theorem Jw.up {β : Type} {B : Nat} {J : β → World → Prop} {s : β} {w w' : World} (h : Jw B J s w) (u : Up w w') : Jw B J s w' := ⟨h.ab, h.ab s w w' none h.j (up_grown u) (fun r e => by cases e)⟩

theorem room_FR (R : Option Nat) (k : Nat) : (FR R).room k := fun d hd => by cases hd
theorem RoundIn.any {R : Option Nat} {n n' : Nat} {P : Program} {l : Nat} {f : FuncId} {tmps : Array Value} {assign body : Code} {w : World} {RR : Ending → World → Prop} (h : RoundIn (FR R) n P l f tmps assign body w RR) : RoundIn (FR R) n' P l f tmps assign body w RR :=
  ⟨h.1, fun c cs _ => h.2 c cs (room_FR _ _)⟩
theorem semAt_round {r : Option Nat} {ρ : Operand → Value} {o : Oper} {l : Nat} {f : FuncId} {tm : Array Value} {as bo : Code} {P : Program} {w w' : World} (h : (execOp ρ o).run P w = .ok (.round l f tm as bo) w') : (o.semAt r ρ).run P w = .ok (.round l f tm as bo) w' := by
  by_cases hd : ∃ c, o.op = .defer c
  · obtain ⟨c, hc⟩ := hd
    simp only [execOp, hc, Sem.run_bind] at h
    cases hr : (resolve ρ c o.type).run P w with
    | ok d w1 => simp [hr, Result.andThen] at h
    | halt x w1 => simp [hr, Result.andThen] at h
  · rw [Oper.semAt_eq _ _ _ (fun c hc => hd ⟨c, hc⟩)]; exact h

section
variable {R : Option Nat} {m : Nat} {P : Program} {n : Nat} {ds : List Deferred} {Q : Exit → Go.Act → World → Prop} {l : Env} {w : World} {ops : Array Oper} {rest : List Oper} {o : Oper}
/-- a call of yield -/
theorem LW.y {lp m' : Nat} {vs : List Value} {d : Nat} {Post : Value → World → Prop} {x : Operand} {xs : Array Operand} {ts : Array TypeId} {ty : TypeId} {ps : String} {af : Array Edge}
    (hx : Val l x (.func (.yield lp) #[] #[])) (hv : Vals l xs.toList vs) (hn : Nat.ble (d + 1) n = true) (hl : noPred l = true)
    (hY : YieldAt (FR none) m' P lp vs.toArray w fun e w' => ∃ v, e = .returned v ∧ Post v w') (k : ∀ v w', Post v w' → LW R m P n ds ops Q rest ((d, .eq v) :: l) w') :
    LW R m P n ds ops Q (⟨some d, .call { callee := .value x, args := xs, argTypes := ts }, ty, ps, af, none⟩ :: rest) l w := fun a ha =>
  wpListIn_plain rfl fun K hK => by
    obtain ⟨fn, tmps, assign, body, hy, hR⟩ := hY
    have e1 : xs.map a.eval = vs.toArray := by apply Array.ext'; simp [ha.evs hv]
    have he : (execOp a.eval ⟨some d, .call { callee := .value x, args := xs, argTypes := ts }, ty, ps, af, none⟩).run P w = .ok (.round lp fn tmps assign body) w := by
      simp only [execOp, resolve, ha.ev hx, e1, Deferred.ofValue, Sem.run_bind, Sem.run_pure, Result.andThen, invoke]
      simpa using hy
    refine ⟨fun _ _ => trivial, ?_⟩
    rw [show (FR R).round = R from rfl, semAt_round he]
    refine ⟨fun hd => (by cases hd), ?_⟩
    have h1 : RoundIn (FR none) (m - 1) P lp fn tmps assign body w _ := RoundIn.any hR
    refine RoundIn.mono (show RoundIn (FR R) (m - 1) P lp fn tmps assign body w _ from h1) ?_
    rintro e w'' ⟨v, rfl, hp⟩
    exact hK _ _ (k v w'' hp _ ((ha.world hl w'').put hn rfl))

/-- an iterator: what it hands out in all is of S; what it hands out until it is stopped, of Sp; the rounds may write the blocks of X -/
def IterS {α : Type} (P : Program) (g : Nat) (lb : Array Value) (encs : α → Array Value) (X Y : Nat → Prop) (S Sp : List α → Prop) (N : Nat) (w : World) : Prop :=
  SeqStopsK (FR none) 9 P g lb encs (Kx w.heap.size X Y) S Sp N w
/-- from a walk of the iterator's own -/
theorem IterS.of {α : Type} {g : Nat} {lb : Array Value} {encs : α → Array Value} {X Y : Nat → Prop} {S Sp : List α → Prop} {N : Nat} {w : World}
    (h : ∀ (lp : Nat) (J Jx : List α → World → Prop) (W : World), Up w W → AbidesFrom W.heap.size Jx →
      (∀ pre x W1, Jw W.heap.size J pre W1 → pre.length < N → YieldAt (FR none) 8 P lp (encs x) W1 fun e W' => ∃ v, e = .returned v ∧ ∃ y, v = .bool y ∧ ((y = true ∧ Jw W.heap.size J (pre ++ [x]) W' ∧ Kx w.heap.size X Y W1 W') ∨ (y = false ∧ Jx (pre ++ [x]) W'))) →
      Jw W.heap.size J [] W → Ret P g (#[.func (.yield lp) #[] #[]] ++ lb) W fun _ W' => (∃ ys, S ys ∧ J ys W') ∨ ∃ pre, Sp pre ∧ Jx pre W') : IterS P g lb encs X Y S Sp N w := by
  intro lp J Jx W hW hJ hJx hY h0
  have := h lp J Jx W hW hJx (fun pre x W1 hj hlen => by
    obtain ⟨fn, tmps, assign, body, h1, h2⟩ := hY pre x W1 hj.j hlen
    refine ⟨fn, tmps, assign, body, h1, h2.mono ?_⟩
    rintro e W' (⟨rfl, h3, h4⟩ | ⟨rfl, h3⟩)
    · exact ⟨_, rfl, _, rfl, .inl ⟨rfl, ⟨hJ, h3⟩, h4⟩⟩
    · exact ⟨_, rfl, _, rfl, .inr ⟨rfl, h3⟩⟩) ⟨hJ, h0⟩
  refine callsIn_wide.2 (Calls.mono this ?_)
  rintro e W' ⟨v, rfl, h⟩
  exact ⟨⟨_, rfl⟩, h⟩

theorem filt_yes {α : Type} {p : α → Bool} {xs : List α} {k : Nat} {x : α} (h : xs[k]? = some x) (hp : p x = true) : (xs.take (k + 1)).filter p = (xs.take k).filter p ++ [x] := by
  rw [take_succ_of h, List.filter_append]; simp [hp]
theorem filt_no {α : Type} {p : α → Bool} {xs : List α} {k : Nat} {x : α} (h : xs[k]? = some x) (hp : p x = false) : (xs.take (k + 1)).filter p = (xs.take k).filter p := by
  rw [take_succ_of h, List.filter_append]; simp [hp]
theorem filt_prefix {α : Type} (p : α → Bool) (xs : List α) (k : Nat) : (xs.take k).filter p <+: xs.filter p := (List.take_prefix k xs).filter p
theorem filt_lt {α : Type} {p : α → Bool} {xs : List α} {k : Nat} {x : α} (h : xs[k]? = some x) (hp : p x = true) : ((xs.take k).filter p).length < (xs.filter p).length := by
  have h1 := (filt_prefix p xs (k + 1)).length_le
  rw [filt_yes h hp] at h1
  simp at h1
  omega

/-! ### the caller's side -/
/-- how a round's body may be left -/
theorem CW.rangeFunc {α : Type} {g : Operand} {ps : Array Tmp} {assign body : Code} {gf : Nat} {lb : Array Value} {encs : α → Array Value} (X Y : Nat → Prop) {S Sp : List α → Prop} {N : Nat} (I : List α → World → Prop) (Ix : Code → List α → World → Prop) (Ax : α → Go.Act → World → Prop)
    (hx : Val l g (.func (.func gf) #[] lb)) (en : ∀ args w, (callFunc gf args).run P w = .ok (.enter gf args) w) (hit : IterS P gf lb encs X Y S Sp N w) (hps : ∀ x, (encs x).size = ps.size) (hl : noPred l = true)
    (hI : OwnFrom w.heap.size I) (hIx : ∀ c, OwnFrom w.heap.size (Ix c)) (hAx : ∀ x a', OwnFrom w.heap.size (fun (_ : Unit) W => Ax x a' W)) (h0 : I [] w)
    (hassign : ∀ (lp : Nat) (pre : List α) (x : α) (W : World) (K : Go.Act → World → Prop), I pre W → (∀ a' W', KeepsFrom w.heap.size W W' → Kx w.heap.size X Y W W' → I pre W' → Ax x a' W' → K a' W') →
      ∀ a, Ag n ds l a W → assign.wpIn (FR (some lp)) 8 P (Exit.then K (fun _ _ _ => False)) { tmps := (ps.zip (encs x)).foldl (fun t (p, v) => t.setIfInBounds p v) a.tmps, defers := [] } W)
    (hbody : ∀ (lp : Nat) (pre : List α) (x : α) (a' : Go.Act) (W : World), I pre W → Ax x a' W → pre.length < N → body.wpIn (FR (some lp)) 8 P (ownPostG w.heap.size (Kx w.heap.size X Y) I Ix (pre ++ [x]) W) a' W)
    (hdone : ∀ (D : Nat) (ys : List α) (W : World), w.heap.size ≤ D → S ys → I ys W → W.heap[D]? = some (.deferred (some [])) → KW n ({ target := .collected D, args := #[] } :: ds) (Q .normal) l W)
    (hstop : ∀ (D : Nat) (c : Code) (pre : List α) (W : World), w.heap.size ≤ D → Sp pre → Ix c pre W → W.heap[D]? = some (.deferred (some [])) → CW none 10 P n ({ target := .collected D, args := #[] } :: ds) c Q l W) :
    CW none 10 P n ds (.rangeFunc g ps assign body) Q l w := fun a ha =>
  wpIn_rangeFunc_ownH (F := FR none) (n := 10) (N := N) (S := S) (Sp := Sp) (w0 := w) rfl (by decide) (ha.ev hx) trivial en (show SeqStopsK (FR none) (10 - 1) P gf lb encs (Kx w.heap.size X Y) _ _ _ w from hit)
    (fun h k => h.trans k) (fun W lp o o' hlp h ho hw => ⟨rfl, rfl, rfl, by simp, fun k o'' hk hko => by
      by_cases e : k = lp
      · subst e
        rw [h] at hk; cases hk
        rcases hko with hko | ⟨_, _, hko | hko⟩
        · rw [hko.1] at ho; cases ho
        · omega
        · rw [hko] at hw; cases hw
      · rw [World.putObj_heap_other e]; exact hk⟩) (Below.refl _ _) hps I Ix hI hIx h0 Ax hAx
    (fun lp pre x W K hi hk => hassign lp pre x W K hi hk a (ha.world hl W))
    (fun lp pre x a' W _ _ hi hax hlen => hbody lp pre x a' W hi hax hlen)
    (fun D ys W hD hS hi hk => hdone D ys W hD hS hi hk _ ⟨by rw [← ha.defers], ha.size, (ha.world hl W).val⟩)
    (fun D c pre W hD hS hi hk => hstop D c pre W hD hS hi hk _ ⟨by rw [← ha.defers], ha.size, (ha.world hl W).val⟩)

/-! ### beginning, going on, ending -/
/-- block D holds this object -/
def Ob (w : World) (D : Nat) (o : Obj) : Prop := w.heap[D]? = some o
theorem Ob.up {w w' : World} {D : Nat} {o : Obj} (h : Ob w D o) (u : Up w w') : Ob w' D o := (u.block (lt_of_block h)).trans h
theorem Ob.sto {w w' : World} {D B : Nat} {o : Obj} (h : Ob w D o) (k : Sto B w w') (hne : D ≠ B) : Ob w' D o := (k.block D (lt_of_block h) hne).trans h
theorem Ob.lt {w : World} {D : Nat} {o : Obj} (h : Ob w D o) : D < w.heap.size := lt_of_block h
theorem Up.keeps {w w' : World} (h : Up w w') (B : Nat) : KeepsFrom B w w' := ⟨h.size, fun _ _ _ hk _ => (h.block (lt_of_block hk)).trans hk⟩
theorem Keeps.up {B : Nat} {w0 w w' : World} (h : KeepsFrom B w0 w) (u : Up w w') : KeepsFrom B w0 w' := h.trans (u.keeps B)
theorem Keeps.set {B : Nat} {w0 w w' : World} {B' : Nat} {cs old : Array Value} {T TT : TypeId} (h : KeepsFrom B w0 w) (hb : Blk w B' old TT) (k : Set_ w w' B' cs T) : KeepsFrom B w0 w' :=
  h.trans ⟨k.sto.size, fun i o _ hi ho => (k.sto.block i (lt_of_block hi) (fun e => by subst e; rw [show w.heap[i]? = _ from hb] at hi; cases hi; cases ho)).trans hi⟩
/-- the round's own word -/
def Kf (B : Nat) (w0 w : World) : Prop := KeepsFrom B w0 w
theorem Kf.refl (B : Nat) (w : World) : Kf B w w := KeepsFrom.refl B w
theorem Kf.up {B : Nat} {w0 w w' : World} (h : Kf B w0 w) (u : Up w w') : Kf B w0 w' := Keeps.up h u
theorem Kf.sto {B : Nat} {w0 w w' : World} {B' : Nat} (h : Kf B w0 w) (k : Sto B' w w') (hB : B' < B ∨ w0.heap.size ≤ B' ∨ ∃ cs T, Blk w B' cs T) : Kf B w0 w' :=
  ⟨Nat.le_trans h.size k.size, fun i o hBi hi ho => (k.block i (lt_of_block (h.same i o hBi hi ho)) (fun e => by
    have hk1 := h.same i o hBi hi ho
    subst e
    rcases hB with hB | hB | ⟨cs, T, hB⟩
    · omega
    · have := lt_of_block hi; omega
    · rw [show w.heap[i]? = _ from hB] at hk1; cases hk1; cases ho)).trans (h.same i o hBi hi ho)⟩
theorem Up.putObj {w0 w : World} {D : Nat} (h : Up w0 w) (o' : Obj) (hD : w0.heap.size ≤ D) : Up w0 (w.putObj D o') :=
  ⟨h.os, h.tape, h.output, Nat.le_trans h.size (by simp), fun k hk => by
    rw [World.putObj_heap_other (fun e => by omega)]; exact h.block hk⟩
theorem zip1 (p : Tmp) (v : Value) (t : Array Value) : (#[p].zip #[v]).foldl (fun (t : Array Value) (x : Tmp × Value) => t.setIfInBounds x.1 x.2) t = t.setIfInBounds p v := by simp
theorem Ag.zip1 {a : Go.Act} {p : Nat} {v : Value} (h : Ag n ds l a w) (hp : Nat.ble (p + 1) n = true) : Ag n [] ((p, .eq v) :: l) { tmps := (#[p].zip #[v]).foldl (fun t (p, v) => t.setIfInBounds p v) a.tmps, defers := [] } w := by
  have h1 : Ag n [] l { tmps := a.tmps, defers := [] } w := ⟨rfl, h.size, h.val⟩
  have h2 := h1.put (d := p) (ph := .eq v) (v := v) hp rfl
  have e : ({ tmps := (#[p].zip #[v]).foldl (fun t (p, v) => t.setIfInBounds p v) a.tmps, defers := [] } : Go.Act) = ({ tmps := a.tmps, defers := [] } : Go.Act).put (some p) v := by simp [Go.Act.put]
  rw [e]; exact h2
/-- the heap has grown to B at least -/
def Sz (B : Nat) (w : World) : Prop := B ≤ w.heap.size
theorem Sz.le {B : Nat} {w : World} (h : Sz B w) : B ≤ w.heap.size := h
theorem Sz.up {B : Nat} {w w' : World} (h : Sz B w) (u : Up w w') : Sz B w' := Nat.le_trans h u.size
theorem Sz.sto {B B' : Nat} {w w' : World} (h : Sz B w) (k : Sto B' w w') (_ : B = B) : Sz B w' := Nat.le_trans h k.size
theorem Sz.ko {B bq : Nat} {w w' : World} (h : Sz B w) (k : Ko bq w w') : Sz B w' := Nat.le_trans h k.size
/-- the round's first step: the value comes into its slot -/
theorem CW.assign1 {lp : Nat} {c : Code} {p : Nat} {v : Value} (hp : Nat.ble (p + 1) n = true) (h : CW (some lp) m P n [] c Q ((p, .eq v) :: l) w) :
    ∀ a, Ag n ds l a w → c.wpIn (FR (some lp)) m P Q { tmps := (#[p].zip #[v]).foldl (fun t (p, v) => t.setIfInBounds p v) a.tmps, defers := [] } w := fun _ ha => h _ (ha.zip1 hp)
theorem Calls_startM {f : FuncId} {fn : Func} {c : Code} {args : List Value} {RR : Ending → World → Prop} (hf : P.funcs[f]? = some fn) (hb : fn.body = some c) (hn : fn.ntmps = n) (hl : Nat.ble args.length n = true)
    (h : CW none 10 P n [] c (bodyPostM (FR none) 10 P fn RR) (enumEnv args 0) w) : Calls P f args.toArray w RR := by
  subst hn
  exact callsIn_wide.1 (callsIn_of_wp_marks (n := 10) hf hb trivial (h _ (start_ag args hl)))
theorem leavesM_mark {fn : Func} {RR : Ending → World → Prop} {D : Nat} {tm : Array Value} {rest : List Deferred} (hk : Ob w D (.deferred (some []))) (h : LeavesInM (FR none) m P fn tm RR rest .returning (w.putObj D (.deferred none))) :
    LeavesInM (FR none) m P fn tm RR ({ target := .collected D, args := #[] } :: rest) .returning w := ⟨by simp, .inl ⟨_, _, rfl, run_takeDeferred hk, h⟩⟩
theorem leavesM_nil {fn : Func} {RR : Ending → World → Prop} {tm : Array Value} {v : Value} (hr : (results fn tm).run P w = .ok v w) (h : RR (.returned v) w) : LeavesInM (FR none) m P fn tm RR [] .returning w := ⟨v, hr, h⟩
/-- the function is left: the mark goes -/
theorem KW.unmark {fn : Func} {RR : Ending → World → Prop} {D : Nat} (hk : Ob w D (.deferred (some []))) (hl : noPred l = true) (h : KW n [] (bodyPost P fn RR .ret) l (w.putObj D (.deferred none))) : KW n [{ target := .collected D, args := #[] }] (bodyPostM (FR none) m P fn RR .ret) l w := fun a ha => by
  obtain ⟨_, v, h2, h3⟩ := h { tmps := a.tmps, defers := [] } ⟨rfl, ha.size, (ha.world hl _).val⟩
  show LeavesInM (FR none) m P fn a.tmps RR a.defers .returning w
  rw [ha.defers]
  exact leavesM_mark hk (leavesM_nil h2 h3)
/-- the function is left ahead of any loop -/
theorem KW.unmark0 {fn : Func} {RR : Ending → World → Prop} (h : KW n [] (bodyPost P fn RR .ret) l w) : KW n [] (bodyPostM (FR none) m P fn RR .ret) l w := fun a ha => by
  obtain ⟨_, v, h2, h3⟩ := h a ha
  show LeavesInM (FR none) m P fn a.tmps RR a.defers .returning w
  rw [ha.defers]
  exact leavesM_nil h2 h3
end
end Go.Wx
