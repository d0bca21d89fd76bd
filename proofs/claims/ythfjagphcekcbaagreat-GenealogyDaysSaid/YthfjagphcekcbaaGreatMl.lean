/-
  A region that draws its order: what is known of each slot is kept by all its operations, and one law of the state goes with what is listed. Map literals. Nothing of any program stands here.
-/
import Derived.Test.YthfjagphcekcbaaGreatTw
namespace Go.Wx
open Go.RowKit Go.MapKept

/-- no cell has turned -/
structure Cel (w w' : World) : Prop where
  size : w.heap.size ≤ w'.heap.size
  cell : ∀ ad v, w.cell? ad = some v → w'.cell? ad = some v
  blk : ∀ (b : Nat) (cs : Array Value) (T : TypeId) (x : Nat × Nat), w.heap[b]? = some (Obj.cells cs T x) → w'.heap[b]? = some (Obj.cells cs T x)

section
variable (R : Option Nat) (m : Nat) (P : Program) (n : Nat) (ds : List Deferred)
/-- what an operation comes to; one that writes yields nothing -/
def OpG (o : Oper) (a : Go.Act) (w : World) (Post : Value → World → Prop) : Prop := OpY P o a w Post ∨ (∃ w', (execOp a.eval o).run P w = .ok .skip w' ∧ Post undef w')
def TG (ops : Array Oper) (env : Env) (f : Nat → Value) (w : World) (o : Oper) (Post : Value → World → Prop) : Prop := ∀ a, Ag n ds env a w → (∀ t, a.tmps.getD t undef = f t) → if Region.wanted o (yielded ops a.tmps) = true then OpG P o a w Post else Post undef w
def AWF (ops : Array Oper) (Q : Exit → Go.Act → World → Prop) (s : Nat) (l : Env) (f : Nat → Value) (w : World) : Prop := ∀ (fuel : Nat) (listed : Array Bool) (a : Go.Act), ops.size - s ≤ fuel → UpTo ops s listed → Ag n ds l a w → (∀ t, a.tmps.getD t undef = f t) → wpAnyIn (FR R) m P .any ops Q fuel listed a w
end
def dstOK' (n : Nat) (ops : Array Oper) (s k : Nat) : Bool := (List.range k).all fun i => !Nat.ble s i || (match ops[i]? with
  | none => false
  | some o => match o.dst with
    | none => true
    | some d => Nat.ble (d + 1) n && (List.range k).all fun j => !Nat.ble s j || (Nat.beq i j || (match ops[j]? with | none => true | some p => !(p.dst == some d))))
/-- what is known of the slots that an operation asks for -/
def knp (ops : Array Oper) (ph : Nat → Ph) (s : Nat) (o : Oper) : Env := o.after.toList.filterMap fun e => if (Region.binds .any e && Nat.ble s e.on) = true then ((ops[e.on]?).bind (·.dst)).map fun d => (d, ph e.on) else none
def allP (ops : Array Oper) (ph : Nat → Ph) (s k : Nat) : Env := (List.range k).filterMap fun j => if Nat.ble s j = true then ((ops[j]?).bind (·.dst)).map fun d => (d, ph j) else none
def DnL (ops : Array Oper) (L : Nat → Bool) : Prop := ∀ (i : Nat) (o : Oper), ops[i]? = some o → L i = true → ∀ e ∈ o.after, Region.binds .any e = true → L e.on = true
def setL (L : Nat → Bool) (i : Nat) : Nat → Bool := fun j => if j = i then true else L j
def setS (f : Nat → Value) (d : Option Nat) (v : Value) : Nat → Value := fun t => if d = some t then v else f t

section
variable {R : Option Nat} {m : Nat} {P : Program} {n : Nat} {ds : List Deferred} {Q : Exit → Go.Act → World → Prop} {l : Env} {w : World} {ops : Array Oper}

theorem dstOK'_at {s k : Nat} (h : dstOK' n ops s k = true) {i : Nat} {o : Oper} {d : Nat} (hs : s ≤ i) (hk : i < k) (ho : ops[i]? = some o) (hd : o.dst = some d) : d < n ∧ ∀ (j : Nat) (p : Oper), s ≤ j → j < k → j ≠ i → ops[j]? = some p → p.dst ≠ some d := by
  have h1 := List.all_eq_true.1 h i (List.mem_range.2 hk)
  have hb : Nat.ble s i = true := Nat.ble_eq_true_of_le hs
  simp only [hb, Bool.not_true, Bool.false_or, ho, hd] at h1
  simp only [Bool.and_eq_true] at h1
  refine ⟨Nat.le_of_ble_eq_true h1.1, fun j p hj hjk hne hp => ?_⟩
  have h2 := List.all_eq_true.1 h1.2 j (List.mem_range.2 hjk)
  have hb' : Nat.ble s j = true := Nat.ble_eq_true_of_le hj
  have hb2 : Nat.beq i j = false := by
    cases e : Nat.beq i j with
    | false => rfl
    | true => exact absurd (Nat.eq_of_beq_eq_true e).symm hne
  simp only [hb', Bool.not_true, Bool.false_or, hb2, hp] at h2
  intro e
  rw [e] at h2
  simp at h2
theorem knp_at {ph : Nat → Ph} {s : Nat} {o : Oper} {t : Nat} {q : Ph} (h : lk (knp ops ph s o) t = some q) : ∃ e ∈ o.after, Region.binds .any e = true ∧ s ≤ e.on ∧ ∃ p, ops[e.on]? = some p ∧ p.dst = some t ∧ q = ph e.on := by
  have h1 := lk_mem h
  unfold knp at h1
  rw [List.mem_filterMap] at h1
  obtain ⟨e, he, h2⟩ := h1
  split at h2
  · rename_i hc
    simp only [Bool.and_eq_true] at hc
    cases hp : ops[e.on]? with
    | none => rw [hp] at h2; cases h2
    | some p =>
      rw [hp] at h2
      cases hd : p.dst with
      | none => simp [hd] at h2
      | some d =>
        simp [hd] at h2
        obtain ⟨rfl, rfl⟩ := h2
        exact ⟨e, by simpa using he, hc.1, Nat.le_of_ble_eq_true hc.2, p, hp, hd, rfl⟩
  · cases h2
theorem allP_at {ph : Nat → Ph} {s k : Nat} {t : Nat} {q : Ph} (h : lk (allP ops ph s k) t = some q) : ∃ j p, s ≤ j ∧ j < k ∧ ops[j]? = some p ∧ p.dst = some t ∧ q = ph j := by
  have h1 := lk_mem h
  unfold allP at h1
  rw [List.mem_filterMap] at h1
  obtain ⟨j, hj, h2⟩ := h1
  split at h2
  · rename_i hc
    cases hp : ops[j]? with
    | none => rw [hp] at h2; cases h2
    | some p =>
      rw [hp] at h2
      cases hd : p.dst with
      | none => simp [hd] at h2
      | some d =>
        simp [hd] at h2
        obtain ⟨rfl, rfl⟩ := h2
        exact ⟨j, p, Nat.le_of_ble_eq_true hc, List.mem_range.1 hj, hp, hd, rfl⟩
  · cases h2
theorem wpIn_opG {o : Oper} {a : Go.Act} {Post : Value → World → Prop} {K : Go.Act → World → Prop} {w : World} (h : OpG P o a w Post) (hk : ∀ v w', Post v w' → K (a.put o.dst v) w') : o.wpIn (FR R) m P a w K Q := by
  rcases h with h | ⟨w', hr, hp⟩
  · exact wpIn_opY h hk
  · exact wpIn_skipOp hr (hk _ w' hp)

/-- EVERY ORDER: ph: what is known of the slot of each operation; Rel: how worlds turn; Inv: the law of the state. A slot that nothing is written to has no entry. -/
theorem AWF.gen {s k : Nat} {base : Env} (ph : Nat → Ph) (Rel : World → World → Prop) (Inv : (Nat → Bool) → (Nat → Value) → World → Prop) {f0 : Nat → Value}
    (hrefl : ∀ w, Rel w w) (htr : ∀ w w1 w2, Rel w w1 → Rel w1 w2 → Rel w w2) (hph : ∀ i v w w', (ph i).holds v w → Rel w w' → (ph i).holds v w')
    (hA : aheadOK ops = true) (hC : (Nat.beq k ops.size || closOK ops k) = true) (hF : farOK ops k = true) (hks : Nat.ble k ops.size = true) (hsk : Nat.ble s k = true)
    (hD : dstOK' n ops s k = true) (hbp : noPred base = true) (hbd : ∀ i ph, lk base i = some ph → ∀ (j : Nat) (o : Oper), s ≤ j → j < k → ops[j]? = some o → o.dst ≠ some i)
    (hop : ∀ i o, s ≤ i → i < k → ops[i]? = some o → ∀ L f W, Rel w W → DnL ops L → L i = false → (∀ e ∈ o.after, Region.binds .any e = true → L e.on = true) → Inv L f W →
      TG P n ds ops (knp ops ph s o ++ base) f W o (fun v W' => Rel W W' ∧ (∀ d, o.dst = some d → (ph i).holds v W') ∧ Inv (setL L i) (setS f o.dst v) W'))
    (hw : Inv (fun j => decide (j < s)) f0 w) (hend : ∀ f W, Rel w W → Inv (fun j => decide (j < k)) f W → AWF R m P n ds ops Q k (allP ops ph s k ++ base) f W) : AWF R m P n ds ops Q s base f0 w := by
  have hks : k ≤ ops.size := Nat.le_of_ble_eq_true hks
  have hsk : s ≤ k := Nat.le_of_ble_eq_true hsk
  suffices H : ∀ (fuel : Nat) (listed : Array Bool) (a : Go.Act) (f : Nat → Value) (W : World), listed.size = ops.size → listed.toList.countP (· == false) ≤ fuel → (∀ j, j < s → listed.getD j false = true) → (∀ j, k ≤ j → j < ops.size → listed.getD j false = false) → Dn ops listed → Ag n ds base a W → (∀ t, a.tmps.getD t undef = f t) → Rel w W →
      (∀ (j : Nat) (o : Oper) (d : Nat), s ≤ j → j < k → ops[j]? = some o → o.dst = some d → listed.getD j false = true → (ph j).holds (f d) W) → Inv (fun j => listed.getD j false) f W → wpAnyIn (FR R) m P .any ops Q fuel listed a W by
    intro fuel listed a hf hu ha hsl
    have hno : ∀ j, s ≤ j → j < ops.size → listed.getD j false = false := fun j h1 h2 => by rw [hu.2 j h2]; simpa using h1
    have hyes : ∀ j, j < s → listed.getD j false = true := fun j h1 => by rw [hu.2 j (by omega)]; simpa using h1
    refine H fuel listed a f0 w hu.1 ?_ hyes (fun j h1 h2 => hno j (by omega) h2) ?_ ha hsl (hrefl w) ?_ ?_
    · have e : listed.toList = listed.toList.take s ++ listed.toList.drop s := (List.take_append_drop s _).symm
      rw [e, List.countP_append]
      have z1 : (listed.toList.take s).countP (· == false) = 0 := by
        rw [List.countP_eq_zero]
        intro b hb
        obtain ⟨j, hj, he⟩ := List.mem_iff_getElem.1 hb
        rw [List.getElem_take] at he
        have hj' : j < s := by simp at hj; omega
        have hj2 : j < listed.size := by simp at hj; omega
        have := hyes j hj'
        rw [Array.getD_eq_getD_getElem?] at this
        simp only [hj2, Array.getElem?_eq_getElem, Option.getD_some] at this
        rw [← he]
        simp [this]
      have z2 : (listed.toList.drop s).countP (· == false) ≤ (listed.toList.drop s).length := List.countP_le_length
      have z3 : (listed.toList.drop s).length = ops.size - s := by simp [hu.1]
      omega
    · intro i o ho hli e he hb
      have hi : i < ops.size := (Array.getElem?_eq_some_iff.1 ho).1
      have his : i < s := by
        rcases Nat.lt_or_ge i s with h | h
        · exact h
        · rw [hno i h hi] at hli; cases hli
      exact hyes _ (by have := aheadOK_at hA ho e he hb; omega)
    · intro j o d hj hjk ho _ hlj
      rw [hno j hj (by omega)] at hlj
      cases hlj
    · have e : (fun j => listed.getD j false) = fun j => decide (j < s) := by
        funext j
        rcases Nat.lt_or_ge j ops.size with h | h
        · exact hu.2 j h
        · have := hu.1
          rw [Array.getD_eq_getD_getElem?, Array.getElem?_eq_none (by omega), decide_eq_false (by omega)]
          rfl
      rw [e]
      exact hw
  have last : ∀ (fuel : Nat) (listed : Array Bool) (a : Go.Act) (f : Nat → Value) (W : World), listed.size = ops.size → listed.toList.countP (· == false) ≤ fuel → (∀ j, k ≤ j → j < ops.size → listed.getD j false = false) → Ag n ds base a W → (∀ t, a.tmps.getD t undef = f t) → Rel w W →
      (∀ (j : Nat) (o : Oper) (d : Nat), s ≤ j → j < k → ops[j]? = some o → o.dst = some d → listed.getD j false = true → (ph j).holds (f d) W) → Inv (fun j => listed.getD j false) f W → (∀ j, j < k → listed.getD j false = true) → wpAnyIn (FR R) m P .any ops Q fuel listed a W := by
    intro fuel listed a f W hs hc hno ha hsl hR hI hSt hall
    have e : (fun j => listed.getD j false) = fun j => decide (j < k) := by
      funext j
      rcases Nat.lt_or_ge j k with h | h
      · rw [hall j h, decide_eq_true h]
      · rcases Nat.lt_or_ge j ops.size with h' | h'
        · rw [hno j h h', decide_eq_false (by omega)]
        · rw [Array.getD_eq_getD_getElem?, Array.getElem?_eq_none (by omega), decide_eq_false (by omega)]
          rfl
    rw [e] at hSt
    refine hend f W hR hSt fuel listed a (count_drop hs hc hno) ⟨hs, fun j hj => congrFun e j⟩ ⟨ha.defers, ha.size, fun t q ht => ?_⟩ hsl
    rcases lk_append ht with h | h
    · obtain ⟨j, p, hj, hjk, hp, hd, rfl⟩ := allP_at h
      rw [hsl]
      exact hI j p t hj hjk hp hd (hall j hjk)
    · exact ha.val t q h
  intro fuel
  induction fuel with
  | zero =>
    intro listed a f W hs hc hyes hno hDn ha hsl hR hI hSt
    refine last 0 listed a f W hs hc hno ha hsl hR hI hSt (fun j hj => ?_)
    have h0 : listed.toList.countP (· == false) = 0 := by omega
    rw [List.countP_eq_zero] at h0
    have hlt : j < listed.size := by omega
    have := h0 listed[j] (by simp)
    rw [Array.getD_eq_getD_getElem?]
    simp only [hlt, Array.getElem?_eq_getElem, Option.getD_some]
    simpa using this
  | succ fuel ih =>
    intro listed a f W hs hc hyes hno hDn ha hsl hR hI hSt
    by_cases hall : ∀ j, j < k → listed.getD j false = true
    · exact last (fuel + 1) listed a f W hs hc hno ha hsl hR hI hSt hall
    · simp only [Classical.not_forall] at hall
      obtain ⟨c, hck, hcf⟩ := hall
      have hcf : listed.getD c false = false := by simpa using hcf
      refine ⟨fun hr => ?_, fun i hi => ?_⟩
      · exfalso
        obtain ⟨i, hi⟩ := ready_some hA (k := k) (by omega) hs c hck hcf
        rw [hr] at hi
        cases hi
      obtain ⟨o, hio, hbi, hed⟩ := (ready_iff hs).1 hi
      have hi' : i < ops.size := (Array.getElem?_eq_some_iff.1 hio).1
      have hlt : i < listed.size := by omega
      have hsi : s ≤ i := by
        rcases Nat.lt_or_ge i s with h | h
        · rw [hyes i h] at hbi; cases hbi
        · exact h
      have hik : i < k := by
        rcases Nat.lt_or_ge i k with h | h
        · exact h
        · exfalso
          by_cases e : i = k
          · subst e
            rcases Bool.or_eq_true_iff.1 hC with hC | hC
            · have := Nat.eq_of_beq_eq_true hC; omega
            · have := clos_all hC hDn hio hed (i - c) c rfl hck
              rw [hcf] at this; cases this
          · obtain ⟨e', he, hb, hon⟩ := farOK_at hF hio (by omega)
            have h1 := hed e' he hb
            have h2 := aheadOK_at hA hio e' he hb
            rw [hno e'.on hon (by omega)] at h1
            cases h1
      have hag : Ag n ds (knp ops ph s o ++ base) a W := by
        refine ⟨ha.defers, ha.size, fun t q ht => ?_⟩
        rcases lk_append ht with h | h
        · obtain ⟨e, he, hb, hse, p, hp, hpd, rfl⟩ := knp_at h
          rw [hsl]
          exact hI e.on p t hse (by have := aheadOK_at hA hio e he hb; omega) hp hpd (hed e he hb)
        · exact ha.val t q h
      have eL : (fun j => (listed.setIfInBounds i true).getD j false) = setL (fun j => listed.getD j false) i := by
        funext j
        rw [getD_set hlt]
        rfl
      have key : ∀ (v : Value) (W' : World), Rel W W' ∧ (∀ d, o.dst = some d → (ph i).holds v W') ∧ Inv (setL (fun j => listed.getD j false) i) (setS f o.dst v) W' → wpAnyIn (FR R) m P .any ops Q fuel (listed.setIfInBounds i true) (a.put o.dst v) W' := by
        rintro v W' ⟨hRel, hv, hSt'⟩
        refine ih _ _ (setS f o.dst v) W' (by simpa using hs) (fuel_set hlt hbi hc) ?_ ?_ (dn_set hlt hio hed hDn) ?_ ?_ (htr _ _ _ hR hRel) ?_ (by rw [eL]; exact hSt')
        · intro j hj
          rw [getD_set hlt]
          split
          · rfl
          · exact hyes j hj
        · intro j hj hjs
          rw [getD_set hlt, if_neg (by omega)]
          exact hno j hj hjs
        · cases hd : o.dst with
          | none => exact ha.world hbp W'
          | some d =>
            refine ⟨ha.defers, by simp [Go.Act.put, ha.size], fun t q ht => ?_⟩
            have hne' : t ≠ d := fun e => hbd t q ht i o hsi hik hio (by rw [hd, e])
            rw [getD_put_ne hne']
            exact noPred_lk hbp ht (ha.val t q ht)
        · intro t
          cases hd : o.dst with
          | none => exact hsl t
          | some d =>
            by_cases e : t = d
            · subst e
              rw [getD_put_same (by rw [ha.size]; exact (dstOK'_at hD hsi hik hio hd).1)]
              simp [setS]
            · rw [getD_put_ne e, hsl]
              simp [setS, Ne.symm e]
        · intro j p d' hj hjk hp hpd hl
          by_cases e : j = i
          · subst e
            rw [hio] at hp; cases hp
            rw [hpd]
            simp only [setS, if_true]
            exact hv d' hpd
          · rw [getD_set hlt, if_neg e] at hl
            have hne' : o.dst ≠ some d' := fun ee => (dstOK'_at hD hsi hik hio ee).2 j p hj hjk e hp hpd
            simp only [setS, if_neg hne']
            exact hph j _ _ _ (hI j p d' hj hjk hp hpd hl) hRel
      have top := hop i o hsi hik hio _ f W hR (fun i o ho hli e he hb => hDn i o ho hli e he hb) hbi hed hSt
      have top := top a hag hsl
      unfold wpOpIn
      rw [hio]
      dsimp only
      split
      · rename_i hw'
        rw [if_pos hw'] at top
        exact wpIn_opG top key
      · rename_i hw'
        rw [if_neg hw'] at top
        exact ⟨fun _ _ => trivial, key _ W top⟩

/-! ### cells that stay -/
theorem Cel.refl (w : World) : Cel w w := ⟨Nat.le_refl _, fun _ _ h => h, fun _ _ _ _ h => h⟩
theorem Cel.trans {w w1 w2 : World} (h : Cel w w1) (k : Cel w1 w2) : Cel w w2 := ⟨Nat.le_trans h.size k.size, fun ad v hv => k.cell ad v (h.cell ad v hv), fun b cs T x hb => k.blk b cs T x (h.blk b cs T x hb)⟩
theorem Up.cel {w w' : World} (u : Up w w') : Cel w w' := ⟨u.size, fun _ _ h => cell_up h u, fun _ _ _ _ h => (u.block (lt_of_block h)).trans h⟩
theorem Sto.cel {w w' : World} {b : Nat} (u : Sto b w w') (hz : w.heap.size ≤ w'.heap.size) (hb : ∀ ad v, ad.block = b → w.cell? ad ≠ some v) (hk : ∀ (cs : Array Value) (T : TypeId) (x : Nat × Nat), w.heap[b]? ≠ some (Obj.cells cs T x)) : Cel w w' := ⟨hz, fun ad v h => cell_sto h u (fun e => hb ad v e h), fun i cs T x h => (u.block i (lt_of_block h) (fun e => hk cs T x (e ▸ h))).trans h⟩
theorem IMap.nocell {w : World} {b : Nat} {kv : List (Int × Value)} (h : IMap w b kv) : ∀ ad v, ad.block = b → w.cell? ad ≠ some v := by
  intro ad v e hc
  obtain ⟨es, clock, h1, _⟩ := h
  unfold World.cell? at hc
  rw [e, h1] at hc
  cases hc
theorem IMap.noblk {w : World} {b : Nat} {kv : List (Int × Value)} (h : IMap w b kv) : ∀ (cs : Array Value) (T : TypeId) (x : Nat × Nat), w.heap[b]? ≠ some (Obj.cells cs T x) := by
  intro cs T x hc
  obtain ⟨es, clock, h1, _⟩ := h
  rw [h1] at hc
  cases hc
theorem AggAt.cel {w w' : World} {B o : Nat} {cs : Array Value} (h : AggAt w B o cs) (k : Cel w w') : AggAt w' B o cs := fun j v hv => k.cell _ _ (h j v hv)
theorem Els.cel {α : Type} {w w' : World} {ad : Option Addr} {k : Nat} {enc : α → Array Value} {xs : List α} (h : Els w ad k enc xs) (u : Cel w w') : Els w' ad k enc xs := fun i x hx => let ⟨B, o, h1, h2⟩ := h i x hx; ⟨B, o, h1, h2.cel u⟩
theorem Sl.cel {α : Type} {w w' : World} {v : Value} {k : Nat} {enc : α → Array Value} {xs : List α} (h : Sl w v k enc xs) (u : Cel w w') : Sl w' v k enc xs := let ⟨ad, c, h1, h2⟩ := h; ⟨ad, c, h1, Els.cel h2 u⟩

/-! ### m = map[int]T{..}, in any order -/
theorem SEv.insert {ty : TypeId} {ps : String} {af : Array Edge} {g : Option (Nat × Bool)} {T K E : TypeId} {mo x y : Operand} {b : Nat} {k : Int} {v : Value} {kv : List (Int × Value)} (hT : P.underlying T = some (.map K E)) (hK : P.underlying K = some (.int .i64)) (hm : Val l mo (.map (some b))) (hx : Val l x (vi k)) (hy : Val l y v) (h : IMap w b kv) :
    SEv P n ds l w ⟨none, .insert T mo x y, ty, ps, af, g⟩ (fun w' => IMap w' b (mset kv k v) ∧ Sto b w w' ∧ w'.heap.size = w.heap.size) := fun a ha =>
  SEv.mapUpdate (ty := ty) (ps := ps) (af := af) (g := g) hT hK hm hx hy h a ha
def MInv (m0 ms : Nat) (J : List (Nat × Int × Nat)) (w0 : World) (L : Nat → Bool) (f : Nat → Value) (W : World) : Prop :=
  Up w0 W ∧ (L m0 = true → ∃ b kv, f ms = .map (some b) ∧ w0.heap.size ≤ b ∧ IMap W b kv ∧ kv.Perm ((J.filter fun j => L j.1).map fun j => (j.2.1, f j.2.2)))
/-- the inserts of a literal: operation, key, slot of the value -/
def litOK (ops : Array Oper) (m0 : Nat) (J : List (Nat × Int × Nat)) : Bool :=
  J.all fun j => match ops[j.1]? with
    | none => false
    | some o => o.dst.isNone && (o.after.any fun e => Region.binds .any e && Nat.beq e.on m0) && (o.after.any fun e => Region.binds .any e && (match ops[e.on]? with | none => false | some p => p.dst == some j.2.2))
theorem litOK_at {m0 : Nat} {J : List (Nat × Int × Nat)} (h : litOK ops m0 J = true) {j : Nat × Int × Nat} (hj : j ∈ J) : ∃ o, ops[j.1]? = some o ∧ o.dst = none ∧ (∃ e ∈ o.after, Region.binds .any e = true ∧ e.on = m0) ∧ ∃ e ∈ o.after, Region.binds .any e = true ∧ ∃ p, ops[e.on]? = some p ∧ p.dst = some j.2.2 := by
  have h1 := List.all_eq_true.1 h j hj
  cases ho : ops[j.1]? with
  | none => simp [ho] at h1
  | some o =>
    simp only [ho, Bool.and_eq_true] at h1
    obtain ⟨⟨h2, h3⟩, h4⟩ := h1
    obtain ⟨e, he, hh⟩ := Array.any_eq_true.1 h3
    simp only [Bool.and_eq_true] at hh
    obtain ⟨e', he', hh'⟩ := Array.any_eq_true.1 h4
    simp only [Bool.and_eq_true] at hh'
    refine ⟨o, rfl, by simpa using h2, ⟨_, Array.getElem_mem he, hh.1, Nat.eq_of_beq_eq_true hh.2⟩, ⟨_, Array.getElem_mem he', hh'.1, ?_⟩⟩
    have h5 := hh'.2
    split at h5
    · cases h5
    · rename_i p hp
      exact ⟨p, hp, by simpa using h5⟩
theorem filter_set {J : List (Nat × Int × Nat)} {L : Nat → Bool} {i : Nat} (hn : i ∉ J.map (·.1)) : (J.filter fun j => setL L i j.1) = J.filter fun j => L j.1 := by
  apply List.filter_congr
  intro j hj
  have : j.1 ≠ i := fun e => hn (e ▸ List.mem_map.2 ⟨j, hj, rfl⟩)
  simp [setL, this]
theorem filter_add : ∀ {J : List (Nat × Int × Nat)} {L : Nat → Bool} {i : Nat} {k : Int} {s : Nat}, (J.map (·.1)).Nodup → (i, k, s) ∈ J → L i = false → (J.filter fun j => setL L i j.1).Perm ((i, k, s) :: J.filter fun j => L j.1)
  | [], _, _, _, _, _, h, _ => by cases h
  | x :: r, L, i, k, s, hn, h, hL => by
    obtain ⟨h1, h2⟩ := List.nodup_cons.1 (by simpa using hn : (x.1 :: r.map (·.1)).Nodup)
    rcases List.mem_cons.1 h with rfl | h
    · rw [List.filter_cons, List.filter_cons, if_pos (by simp [setL]), if_neg (by simp [hL]), filter_set h1]
    · have hne : x.1 ≠ i := fun e => h1 (e ▸ List.mem_map.2 ⟨_, h, rfl⟩)
      have e : setL L i x.1 = L x.1 := by simp [setL, hne]
      have ih := filter_add h2 h hL
      rw [List.filter_cons, List.filter_cons, e]
      split
      · exact (List.Perm.cons _ ih).trans (List.Perm.swap _ _ _)
      · exact ih
theorem mset_new {kv : List (Int × Value)} {k : Int} {v : Value} (h : k ∉ kv.map (·.1)) : mset kv k v = kv ++ [(k, v)] := by rw [mset, if_neg h]

theorem inj_key {J : List (Nat × Int × Nat)} (hn : (J.map (·.2.1)).Nodup) {x y : Nat × Int × Nat} (hx : x ∈ J) (hy : y ∈ J) (h : x.2.1 = y.2.1) : x = y := by
  obtain ⟨i, hi, rfl⟩ := List.mem_iff_getElem.1 hx
  obtain ⟨j, hj, rfl⟩ := List.mem_iff_getElem.1 hy
  have := (List.getElem_inj (i := i) (j := j) (h₀ := by simpa using hi) (h₁ := by simpa using hj) hn).1 (by simpa using h)
  subst this; rfl
theorem AWF.maplit {k m0 ms T K E : Nat} {base : Env} {J : List (Nat × Int × Nat)} (ph : Nat → Ph) {f0 : Nat → Value} (hT : P.underlying T = some (.map K E)) (hK : P.underlying K = some (.int .i64))
    (hph : ∀ i v w w', (ph i).holds v w → Cel w w' → (ph i).holds v w') (hA : aheadOK ops = true) (hC : (Nat.beq k ops.size || closOK ops k) = true) (hF : farOK ops k = true) (hks : Nat.ble k ops.size = true)
    (hD : dstOK' n ops 0 k = true) (hbp : noPred base = true) (hbd : ∀ i ph, lk base i = some ph → ∀ (j : Nat) (o : Oper), 0 ≤ j → j < k → ops[j]? = some o → o.dst ≠ some i)
    (hlit : litOK ops m0 J = true) (hJi : (J.map (·.1)).Nodup) (hJk : (J.map (·.2.1)).Nodup) (hJl : ∀ j ∈ J, j.1 < k) (hm0k : m0 < k)
    (hm0 : ∃ ty ps, ops[m0]? = some ⟨some ms, .makeMap T none, ty, ps, #[], none⟩)
    (hins : ∀ j ∈ J, ∃ ty ps af, ops[j.1]? = some ⟨none, .insert T (.tmp ms) (.const (vi j.2.1)) (.tmp j.2.2), ty, ps, af, none⟩)
    (hmp : ∀ b W, (ph m0).holds (.map (some b)) W)
    (hop : ∀ i o, i < k → i ≠ m0 → i ∉ J.map (·.1) → ops[i]? = some o → o.guard = none ∧ ∀ W, Cel w W → ∀ a, Ag n ds (knp ops ph 0 o ++ base) a W → OpY P o a W (fun v W' => Up W W' ∧ (ph i).holds v W'))
    (hend : ∀ f W b kv, Up w W → f ms = .map (some b) → IMap W b kv → kv.Perm (J.map fun j => (j.2.1, f j.2.2)) → AWF R m P n ds ops Q k (allP ops ph 0 k ++ base) f W) : AWF R m P n ds ops Q 0 base f0 w := by
  refine AWF.gen ph Cel (MInv m0 ms J w) Cel.refl (fun _ _ _ => Cel.trans) hph hA hC hF hks (by simp) hD hbp hbd ?_ ⟨Up.refl w, fun h => by simp at h⟩ ?_
  · intro i o _ hik hio L f W hRel hDn hLi hed hInv
    obtain ⟨hUp, hInv⟩ := hInv
    by_cases e0 : i = m0
    · subst e0
      obtain ⟨ty, ps, hm0⟩ := hm0
      rw [hio] at hm0; cases hm0
      intro a ha hsl
      rw [if_pos (by simp [Region.wanted])]
      obtain ⟨v, W', hr, b, rfl, hM, hu, hb, hz⟩ := REv.makeMap (P := P) (n := n) (ds := ds) (l := knp ops ph 0 _ ++ base) (w := W) (d := some ms) (ty := ty) (ps := ps) (af := #[]) (g := none) a ha
      refine .inl (.inl ⟨_, W', hr, hu.cel, fun _ _ => hmp b W', hUp.trans hu, fun _ => ⟨b, [], ?_, ?_, hM, ?_⟩⟩)
      · simp [setS]
      · have := hUp.size; omega
      · have : (J.filter fun j => setL L i j.1) = [] := by
          rw [List.filter_eq_nil_iff]
          intro j hj
          obtain ⟨oj, hoj, _, ⟨e, he, hbe, hon⟩, _⟩ := litOK_at hlit hj
          intro hLj
          have hne : j.1 ≠ i := fun e' => by
            have := aheadOK_at hA hoj e he hbe
            omega
          have : L j.1 = true := by simpa [setL, hne] using hLj
          have := hDn _ _ hoj this e he hbe
          rw [hon, hLi] at this; cases this
        rw [this]; exact List.Perm.nil
    · by_cases ej : i ∈ J.map (·.1)
      · obtain ⟨⟨i', key, s⟩, hj, rfl⟩ := List.mem_map.1 ej
        obtain ⟨ty, ps, af, ho⟩ := hins _ hj
        rw [hio] at ho; cases ho
        intro a ha hsl
        rw [if_pos (by simp [Region.wanted])]
        obtain ⟨oj, hoj, _, ⟨e, he, hbe, hon⟩, ⟨e', he', hbe', p, hp, hpd⟩⟩ := litOK_at hlit hj
        rw [hio] at hoj; cases hoj
        obtain ⟨b, kv, h1, hb, hM, hperm⟩ := hInv (by rw [← hon]; exact hed e he hbe)
        have hag : Ag n ds [(s, .eq (f s)), (ms, .eq (.map (some b)))] a W := by
          refine ⟨ha.defers, ha.size, fun t q ht => ?_⟩
          by_cases e1 : t = s
          · subst e1; rw [lk_cons_eq] at ht; cases ht; exact hsl _
          · rw [lk_cons_ne e1] at ht
            by_cases e2 : t = ms
            · subst e2; rw [lk_cons_eq] at ht; cases ht; exact (hsl _).trans h1
            · rw [lk_cons_ne e2] at ht; cases ht
        have vm : Val [(s, .eq (f s)), (ms, .eq (.map (some b)))] (.tmp ms) (.map (some b)) := by
          by_cases e1 : ms = s
          · subst e1; exact .tmp (by rw [lk_cons_eq, h1])
          · exact .tmp (by rw [lk_cons_ne e1, lk_cons_eq])
        obtain ⟨W', hr, hM', hsto, hz⟩ := SEv.insert (P := P) (n := n) (ds := ds) (w := W) (ty := ty) (ps := ps) (af := af) (g := none) hT hK vm (.const (vi key)) (.tmp lk_cons_eq) hM a hag
        have hnk : key ∉ kv.map (·.1) := by
          intro hmem
          have := (hperm.map (·.1)).mem_iff.1 hmem
          rw [List.map_map] at this
          obtain ⟨j', hj', hk'⟩ := List.mem_map.1 this
          obtain ⟨hj1, hj2⟩ := List.mem_filter.1 hj'
          have : j' = (i', key, s) := inj_key hJk hj1 hj hk'
          rw [this, hLi] at hj2
          cases hj2
        rw [mset_new hnk] at hM'
        refine .inr ⟨W', hr, hsto.cel (by omega) hM.nocell hM.noblk, (fun d hd => by cases hd), hUp.sto hsto hb, fun _ => ⟨b, _, h1, hb, hM', ?_⟩⟩
        have := ((filter_add hJi hj hLi).map fun j => (j.2.1, f j.2.2))
        refine List.Perm.trans ?_ this.symm
        rw [List.map_cons]
        exact (List.perm_append_comm).trans (List.Perm.cons _ hperm)
      · obtain ⟨hg, hop⟩ := hop i o hik e0 ej hio
        intro a ha hsl
        rw [if_pos (by simp [Region.wanted, hg])]
        have done : ∀ v W', Up W W' ∧ (ph i).holds v W' → Cel W W' ∧ (∀ d, o.dst = some d → (ph i).holds v W') ∧ MInv m0 ms J w (setL L i) (setS f o.dst v) W' := by
          rintro v W' ⟨hu, hv⟩
          refine ⟨hu.cel, fun _ _ => hv, hUp.trans hu, fun hm => ?_⟩
          have hm' : L m0 = true := by simpa [setL, Ne.symm e0] using hm
          obtain ⟨b, kv, h1, hb, hM, hperm⟩ := hInv hm'
          refine ⟨b, kv, ?_, hb, hM.up hu, ?_⟩
          · obtain ⟨ty, ps, hm0⟩ := hm0
            have : o.dst ≠ some ms := by
              intro ed
              exact (dstOK'_at hD (Nat.zero_le _) hik hio ed).2 m0 _ (Nat.zero_le _) hm0k (Ne.symm e0) hm0 rfl
            simpa [setS, this] using h1
          · rw [filter_set ej]
            have : ((J.filter fun j => L j.1).map fun j => (j.2.1, setS f o.dst v j.2.2)) = (J.filter fun j => L j.1).map fun j => (j.2.1, f j.2.2) := by
              refine List.map_congr_left fun j hj => ?_
              obtain ⟨hj1, hj2⟩ := List.mem_filter.1 hj
              obtain ⟨oj, hoj, _, _, ⟨e', he', hbe', p, hp, hpd⟩⟩ := litOK_at hlit hj1
              have hne : o.dst ≠ some j.2.2 := by
                intro ed
                have h2 := hDn _ _ hoj hj2 e' he' hbe'
                have h3 := aheadOK_at hA hoj e' he' hbe'
                by_cases ee : e'.on = i
                · rw [ee, hLi] at h2; cases h2
                · exact (dstOK'_at hD (Nat.zero_le _) hik hio ed).2 e'.on p (Nat.zero_le _) (by have := hJl j hj1; omega) ee hp hpd
              simp [setS, hne]
            rw [this]
            exact hperm
        rcases hop W hRel a ha with ⟨v, W', hr, hp⟩ | ⟨fn, args, w1, hr, hc⟩
        · exact .inl (.inl ⟨v, W', hr, done v W' hp⟩)
        · exact .inl (.inr ⟨fn, args, w1, hr, hc.mono done⟩)
  · intro f W hRel hInv
    obtain ⟨hUp, hInv⟩ := hInv
    obtain ⟨b, kv, h1, _, h2, h3⟩ := hInv (by simpa using hm0k)
    refine hend f W b kv hUp h1 h2 ?_
    rwa [List.filter_eq_self.2 (fun j hj => by simpa using hJl j hj)] at h3

/-! ### as a printer writes it -/
def PhC (q : Ph) : Prop := ∀ v w w', q.holds v w → Cel w w' → q.holds v w'
theorem PhC.eq (v : Value) : PhC (.eq v) := fun _ _ _ h _ => h
theorem PhC.pred {p : Value → World → Prop} (h : ∀ v w w', p v w → Cel w w' → p v w') : PhC (.pred p) := h
theorem PhC.sl {α : Type} (k : Nat) (enc : α → Array Value) (xs : List α) : PhC (.pred fun v w => Sl w v k enc xs) := fun _ _ _ h u => Sl.cel h u
def allC : List Ph → Prop
  | [] => True
  | q :: r => PhC q ∧ allC r
theorem allC.at : ∀ {l : List Ph}, allC l → ∀ i, PhC (l.getD i (.eq undef))
  | [], _, _ => by simpa using PhC.eq undef
  | _ :: _, h, 0 => by simpa using h.1
  | _ :: _, h, i + 1 => by simpa using allC.at h.2 i
theorem lk_right : ∀ {l r : Env} {t : Nat}, lk l t = none → lk (l ++ r) t = lk r t
  | [], _, _, _ => rfl
  | (j, q) :: l, r, t, h => by
    by_cases e : t = j
    · subst e; rw [lk_cons_eq] at h; cases h
    · rw [lk_cons_ne e] at h
      rw [List.cons_append, lk_cons_ne e]
      exact lk_right h
theorem lk_left : ∀ {l r : Env} {t : Nat} {q : Ph}, lk l t = some q → lk (l ++ r) t = some q
  | [], _, _, _, h => by cases h
  | (j, q') :: l, r, t, q, h => by
    by_cases e : t = j
    · subst e; rw [lk_cons_eq] at h; cases h; rw [List.cons_append, lk_cons_eq]
    · rw [lk_cons_ne e] at h
      rw [List.cons_append, lk_cons_ne e]
      exact lk_left h
theorem lk_of_mem : ∀ {l : Env} {t : Nat} {q : Ph}, (t, q) ∈ l → ∃ q', lk l t = some q'
  | [], _, _, h => by cases h
  | (j, q') :: l, t, q, h => by
    by_cases e : t = j
    · subst e; exact ⟨q', lk_cons_eq⟩
    · rw [lk_cons_ne e]
      rcases List.mem_cons.1 h with h | h
      · cases h; exact absurd rfl e
      · exact lk_of_mem h
/-- an operation of a literal -/
def TU (P : Program) (n : Nat) (ds : List Deferred) (env : Env) (W : World) (o : Oper) (q : Ph) : Prop := ∀ a, Ag n ds env a W → OpY P o a W (fun v W' => Up W W' ∧ q.holds v W')
theorem TU.p {env : Env} {o : Oper} {v : Value} {q : Ph} (h : PEv P n ds env w o v) (hx : q.holds v w) : TU P n ds env w o q := fun a ha => .inl ⟨v, w, h a w ha (Up.refl w), Up.refl w, hx⟩
theorem TU.r {env : Env} {o : Oper} {q : Ph} {Post : Value → World → Prop} (h : REv P n ds env w o Post) (hx : ∀ v W', Post v W' → Up w W' ∧ q.holds v W') : TU P n ds env w o q := fun a ha =>
  let ⟨v, W', hr, hp⟩ := h a ha
  .inl ⟨v, W', hr, hx v W' hp⟩
theorem TU.c {env : Env} {o : Oper} {q : Ph} {f : FuncId} {args : Array Value} {Post : Value → World → Prop} (he : ∀ a, Ag n ds env a w → (execOp a.eval o).run P w = .ok (.enter f args) w) (hc : Ret P f args w Post) (hx : ∀ v W', Post v W' → Up w W' ∧ q.holds v W') : TU P n ds env w o q := fun a ha =>
  .inr ⟨f, args, w, he a ha, hc.mono hx⟩
theorem TU.open {env : Env} {o : Oper} {q : Ph} {d : Nat} {p : Value → World → Prop} (hp : lk env d = some (.pred p)) (h : ∀ v, p v w → TU P n ds ((d, .eq v) :: env) w o q) : TU P n ds env w o q := fun a ha =>
  h _ (ha.val d _ hp) a ⟨ha.defers, ha.size, fun i ph hi => by
    by_cases e : i = d
    · subst e
      rw [lk_cons_eq] at hi
      cases hi
      rfl
    · rw [lk_cons_ne e] at hi
      exact ha.val i ph hi⟩
theorem CW.maplit {id : Nat} {opsL : List Oper} (k m0 ms : Nat) (J : List (Nat × Int × Nat)) (phs : List Ph) {T K E : Nat} (hT : P.underlying T = some (.map K E)) (hK : P.underlying K = some (.int .i64)) (hm : P.follows .mixedOrders = true) (hl : noPred l = true)
    (hA : aheadOK opsL.toArray = true) (hC : (Nat.beq k opsL.toArray.size || closOK opsL.toArray k) = true) (hF : farOK opsL.toArray k = true) (hks : Nat.ble k opsL.toArray.size = true) (hD : dstOK' n opsL.toArray 0 k = true) (hlit : litOK opsL.toArray m0 J = true) (hTl : tailOK opsL.toArray k = true)
    (hfree : freeOK l (opsL.take k) = true) (hJ : (decide (J.map (·.1)).Nodup && (decide (J.map (·.2.1)).Nodup && (J.all fun j => Nat.ble (j.1 + 1) k) && Nat.ble (m0 + 1) k)) = true)
    (hm0 : ∃ ty ps, opsL[m0]? = some ⟨some ms, .makeMap T none, ty, ps, #[], none⟩) (hph : allC phs) (hmp : ∀ b W, (phs.getD m0 (.eq undef)).holds (.map (some b)) W)
    (hop : ∀ W, Cel w.drew W → allL (fun i o => (i = m0 ∨ (J.any fun j => Nat.beq j.1 i) = true ∧ ∀ j ∈ J, j.1 = i → ∃ ty ps af, o = ⟨none, .insert T (.tmp ms) (.const (vi j.2.1)) (.tmp j.2.2), ty, ps, af, none⟩) ∨ (o.guard = none ∧ (J.any fun j => Nat.beq j.1 i) = false ∧ TU P n ds (knp opsL.toArray (fun i => phs.getD i (.eq undef)) 0 o ++ l) W o (phs.getD i (.eq undef)))) 0 (opsL.take k))
    (hend : ∀ W b kv (g : Nat → Value), Up w.drew W → IMap W b kv → kv.Perm (J.map fun j => (j.2.1, g j.2.2)) → (∀ i o d, i < k → opsL[i]? = some o → o.dst = some d → (phs.getD i (.eq undef)).holds (g d) W) → LW R m P n ds opsL.toArray Q (opsL.drop k) ((ms, .eq (.map (some b))) :: l) W) :
    CW R m P n ds (.region id opsL.toArray true) Q l w := by
  simp only [Bool.and_eq_true, decide_eq_true_eq] at hJ
  obtain ⟨hJi, ⟨hJk, hJl⟩, hm0k⟩ := hJ
  have hks' : k ≤ opsL.length := by have := Nat.le_of_ble_eq_true hks; simp at this; omega
  have hJl' : ∀ j ∈ J, j.1 < k := fun j hj => Nat.le_of_ble_eq_true (List.all_eq_true.1 hJl j hj)
  have sub : ∀ j o, j < k → opsL.toArray[j]? = some o → (opsL.take k)[j]? = some o := fun j o hjk ho => by
    rw [List.getElem?_take_of_lt hjk]; simpa using ho
  have hbd : ∀ i ph, lk l i = some ph → ∀ (j : Nat) (o : Oper), 0 ≤ j → j < k → opsL.toArray[j]? = some o → o.dst ≠ some i := fun i ph hi j o _ hjk ho => freeOK_at hfree hi (List.mem_of_getElem? (sub j o hjk ho))
  have any_iff : ∀ i, (J.any fun j => Nat.beq j.1 i) = true ↔ i ∈ J.map (·.1) := fun i => by
    rw [List.any_eq_true, List.mem_map]
    exact ⟨fun ⟨j, hj, h⟩ => ⟨j, hj, Nat.eq_of_beq_eq_true h⟩, fun ⟨j, hj, h⟩ => ⟨j, hj, by rw [h]; simp⟩⟩
  refine CW.draws_up hm hl fun fuel listed a hf hu ha => ?_
  refine AWF.maplit (T := T) (K := K) (E := E) (m0 := m0) (ms := ms) (J := J) (k := k) (fun i => phs.getD i (.eq undef)) (f0 := fun t => a.tmps.getD t undef) hT hK (fun i v w w' h u => (hph.at i) v w w' h u) hA hC hF hks hD hl hbd hlit hJi hJk hJl' (Nat.le_of_ble_eq_true hm0k) (by simpa using hm0) ?_ hmp ?_ ?_ fuel listed a hf hu ha (fun _ => rfl)
  · intro j hj
    obtain ⟨oj, hoj, _⟩ := litOK_at hlit hj
    have := (hop w.drew (Cel.refl _)).at (sub j.1 oj (hJl' j hj) hoj)
    rw [Nat.zero_add] at this
    rcases this with (e | ⟨_, h⟩) | ⟨_, h, _⟩
    · exfalso
      obtain ⟨ty, ps, hm0⟩ := hm0
      obtain ⟨o', ho', hd', _⟩ := litOK_at hlit hj
      rw [e] at ho'
      have : opsL[m0]? = some o' := by simpa using ho'
      rw [hm0] at this; cases this; cases hd'
    · obtain ⟨ty, ps, af, ho⟩ := h j hj rfl
      exact ⟨ty, ps, af, by rw [hoj, ho]⟩
    · rw [(any_iff j.1).2 (List.mem_map.2 ⟨j, hj, rfl⟩)] at h; cases h
  · intro i o hik hne hnj ho
    have h0 := (hop w.drew (Cel.refl _)).at (sub i o hik ho)
    rw [Nat.zero_add] at h0
    rcases h0 with (e | ⟨h, _⟩) | ⟨hg, _, _⟩
    · exact absurd e hne
    · exact absurd ((any_iff i).1 h) hnj
    · refine ⟨hg, fun W hW a ha => ?_⟩
      have h1 := (hop W hW).at (sub i o hik ho)
      rw [Nat.zero_add] at h1
      rcases h1 with (e | ⟨h, _⟩) | ⟨_, _, h⟩
      · exact absurd e hne
      · exact absurd ((any_iff i).1 h) hnj
      · exact h a ha
  · intro f W b kv hUp hfm hM hperm fuel' listed' a' hf' hu' ha' hsl'
    have key : ∀ i o d, i < k → opsL[i]? = some o → o.dst = some d → (phs.getD i (.eq undef)).holds (f d) W := by
      intro i o d hik ho hd
      have ho' : opsL.toArray[i]? = some o := by simpa using ho
      have hmem : (d, phs.getD i (.eq undef)) ∈ allP opsL.toArray (fun i => phs.getD i (.eq undef)) 0 k := by
        unfold allP
        rw [List.mem_filterMap]
        exact ⟨i, List.mem_range.2 hik, by rw [if_pos (by simp), ho']; simp [hd]⟩
      obtain ⟨q', hq⟩ := lk_of_mem hmem
      obtain ⟨j, p, _, hjk, hp, hpd, e⟩ := allP_at hq
      have : j = i := by
        by_cases ee : j = i
        · exact ee
        · exact absurd hpd ((dstOK'_at hD (Nat.zero_le _) hik ho' hd).2 j p (Nat.zero_le _) hjk ee hp)
      subst this
      have := ha'.val d q' (lk_left hq)
      rw [hsl', e] at this
      exact this
    refine tail_order hTl hA (opsL.toArray.size - k) k fuel' listed' a' W rfl (by simp; omega) (Nat.le_refl _) hf' hu' ?_
    have h2 := hend W b kv f hUp hM hperm key
    refine h2 a' ⟨ha'.defers, ha'.size, fun t q ht => ?_⟩
    by_cases e : t = ms
    · subst e; rw [lk_cons_eq] at ht; cases ht
      exact (hsl' _).trans hfm
    · rw [lk_cons_ne e] at ht
      refine ha'.val t q ?_
      rw [lk_right]
      · exact ht
      · cases hq : lk (allP opsL.toArray (fun i => phs.getD i (.eq undef)) 0 k) t with
        | none => rfl
        | some q' =>
          obtain ⟨j, p, _, hjk, hp, hpd, _⟩ := allP_at hq
          exact absurd hpd (hbd t q ht j p (Nat.zero_le _) hjk hp)

/-! ### m[k] -/
theorem PEv.lookupYes {d : Option Tmp} {ty : TypeId} {ps : String} {af : Array Edge} {g : Option (Nat × Bool)} {T K E : TypeId} {mo x : Operand} {b : Nat} {k : Int} {v : Value} {kv : List (Int × Value)} {ok : Bool} (hT : P.underlying T = some (.map K E)) (hK : P.underlying K = some (.int .i64)) (hm : Val l mo (.map (some b))) (hx : Val l x (vi k)) (h : IMap w b kv) (hkv : (k, v) ∈ kv) :
    PEv P n ds l w ⟨d, .lookup T mo x ok, ty, ps, af, g⟩ (if ok then .tuple #[v, .bool true] else v) := fun a w' ha hu => by
  obtain ⟨es, clock, hb, hs, he⟩ := h.up hu
  have hk : IsKey (.int .i64) (vi k) := rfl
  refine run_v ?_
  rw [ha.ev hm, ha.ev hx]
  rcases findNow_spec hk es.toList 0 (isKey_all he) with ⟨h1, h2⟩ | ⟨j, e, h1, h2, h3⟩
  · exfalso
    obtain ⟨x', hx', hkx, _⟩ := key_entry he hkv
    exact h2 x' hx' hkx
  · obtain ⟨x', hx', hkx, hvx⟩ := key_entry he hkv
    have hv : e.val = v := by
      have := entry_eq_of_key' (List.pairwise_map.1 hs.2.2) (List.mem_of_getElem? h2) hx' (by rw [h3, hkx])
      rw [this]; exact hvx
    cases ok <;> simp [Instr.lookup, run_underlying hT, MapKept.run_getObj_map hb, MapKept.run_checkKey hK hk, MapKept.run_findKey hK h1, Result.andThen, hv]
theorem PEv.lookupNo {d : Option Tmp} {ty : TypeId} {ps : String} {af : Array Edge} {g : Option (Nat × Bool)} {T K E : TypeId} {mo x : Operand} {b : Nat} {k : Int} {z : Value} {kv : List (Int × Value)} {ok : Bool} (hT : P.underlying T = some (.map K E)) (hK : P.underlying K = some (.int .i64)) (hz : ∀ w, (zeroValue E).run P w = .ok z w) (hm : Val l mo (.map (some b))) (hx : Val l x (vi k)) (h : IMap w b kv) (hkv : k ∉ kv.map (·.1)) :
    PEv P n ds l w ⟨d, .lookup T mo x ok, ty, ps, af, g⟩ (if ok then .tuple #[z, .bool false] else z) := fun a w' ha hu => by
  obtain ⟨es, clock, hb, hs, he⟩ := h.up hu
  have hk : IsKey (.int .i64) (vi k) := rfl
  refine run_v ?_
  rw [ha.ev hm, ha.ev hx]
  rcases findNow_spec hk es.toList 0 (isKey_all he) with ⟨h1, h2⟩ | ⟨j, e, h1, h2, h3⟩
  · cases ok <;> simp [Instr.lookup, run_underlying hT, MapKept.run_getObj_map hb, MapKept.run_checkKey hK hk, MapKept.run_findKey hK h1, Result.andThen, hz]
  · exfalso
    obtain ⟨k', hk', hkv'⟩ := keys_int he e (List.mem_of_getElem? h2)
    have : k' = k := vi_inj (hk'.symm.trans h3)
    exact hkv (List.mem_map.2 ⟨_, hkv', this⟩)

/-- in any order: a call that hands back something of which p is known -/
theorem HW.cq {base done : Env} {w0 : World} {o : Oper} {rest : List Oper} {K : Env → Prop} {d : Nat} {p : Value → World → Prop} {f : FuncId} {args : Array Value} (hp : ∀ v w w', p v w → Up w w' → p v w') (he : ∀ a w, Up w0 w → Ag n ds (keepSlots (o.looksAt ops) done ++ base) a w → (execOp a.eval o).run P w = .ok (.enter f args) w) (hg : o.guard = none) (hd : o.dst = some d)
    (hc : ∀ w, Up w0 w → Ret P f args w fun v w' => Up w w' ∧ p v w') (k : HW P n ds ops base w0 ((d, .pred p) :: done) rest K) : HW P n ds ops base w0 done (o :: rest) K :=
  ⟨.pred p, d, hd, hp, fun a w hu ha => by
    rw [if_pos (by simp [Region.wanted, hg])]
    exact .inr ⟨f, args, w, he a w hu ha, (hc w hu).mono fun v w' ⟨h1, h2⟩ => ⟨h1, h2⟩⟩, k⟩

/-! ### a slice, with the type of the block it lies in -/
def SlT {α : Type} (e : TypeId) (w : World) (v : Value) (k : Nat) (enc : α → Array Value) (xs : List α) : Prop := Sl w v k enc xs ∧ ∀ B o n c, v = .slice (some ⟨B, o, none⟩) n c → ∃ cs x, w.heap[B]? = some (Obj.cells cs e x)
theorem SlT.cel {α : Type} {e : TypeId} {w w' : World} {v : Value} {k : Nat} {enc : α → Array Value} {xs : List α} (h : SlT e w v k enc xs) (u : Cel w w') : SlT e w' v k enc xs := ⟨h.1.cel u, fun B o n c hv => let ⟨cs, x, hb⟩ := h.2 B o n c hv; ⟨cs, x, u.blk _ _ _ _ hb⟩⟩
theorem SlT.up {α : Type} {e : TypeId} {w w' : World} {v : Value} {k : Nat} {enc : α → Array Value} {xs : List α} (h : SlT e w v k enc xs) (u : Up w w') : SlT e w' v k enc xs := h.cel u.cel
theorem SlT.lit {α : Type} {T : TypeId} {w w' : World} {k : Nat} {enc : α → Array Value} {xs : List α} {v : Value} (h : NewSl w T k enc xs v w') : SlT T w' v k enc xs := by
  have h2 := h.q.2
  obtain ⟨B, cs, rfl, N, _, _⟩ := h
  exact ⟨h2, fun B' o n c hv => by cases hv; exact ⟨cs, _, N.blk⟩⟩
theorem SlT.own {α : Type} {base : Nat} {e : TypeId} {w : World} {v : Value} {k : Nat} {enc : α → Array Value} {xs : List α} (h : OwnS w base e k enc v xs) (hk : ∀ x, (enc x).size = k) : SlT e w v k enc xs := by
  refine ⟨h.sl hk, fun B o n c hv => ?_⟩
  obtain ⟨_, h2⟩ := h
  rcases h2 with ⟨rfl, _⟩ | ⟨g, cap, cur, rfl, hb, hg, _⟩
  · cases hv
  · cases hv; exact ⟨_, _, hg⟩
theorem PhC.slT {α : Type} (e : TypeId) (k : Nat) (enc : α → Array Value) (xs : List α) : PhC (.pred fun v w => SlT e w v k enc xs) := fun _ _ _ h u => SlT.cel h u
end
end Go.Wx
