import Derived.Test.YtdelcaegofkknaaGreatBm5
-- Ba27
namespace Go.Wx

theorem pick_range {c n : Int} (hc : inI c) (hn : 0 < n) : 0 ≤ pickI c n ∧ pickI c n < n := by
  unfold pickI
  obtain ⟨h1, h2⟩ := hc
  split
  · rw [wrap_i64_in (i := c + 1) (by omega) (by omega), wrap_i64_in (by omega) (by omega), Int.tmod_eq_emod_of_nonneg (by omega)]; exact ⟨Int.emod_nonneg _ (by omega), Int.emod_lt_of_pos _ hn⟩
  · rw [Int.tmod_eq_emod_of_nonneg (by omega)]; exact ⟨Int.emod_nonneg _ (by omega), Int.emod_lt_of_pos _ hn⟩
theorem few_day {n : Nat} {l : List Fact} (h : ∀ f ∈ l, FOk f) : ∀ x ∈ fewL n l, inI x.Day := fun x hx => by
  obtain ⟨y, hy, rfl⟩ := List.mem_map.1 hx
  exact (h y (List.mem_of_mem_take hy)).Day
theorem OwnS.els {α : Type} {enc : α → Array Go.Value} {b k n cp : Nat} {e : TypeId} {w : World} {ad : Option Addr} {xs : List α} (h : OwnS w b e k enc (.slice ad n cp) xs) (hk : ∀ x, (enc x).size = k) : Els w ad k enc xs := by
  obtain ⟨ad', cp', e, hE⟩ := h.sl hk
  injection e with e1
  rw [e1]; exact hE
theorem eqb_refl (f : Fact) : Fact.eqb f f = true := by simp [Fact.eqb]
theorem eqFs_refl : ∀ (l : List Fact), eqFs l l = true
  | [] => rfl
  | x :: l => by rw [eqFs, eqb_refl, eqFs_refl l]; rfl
theorem sameB_refl (b : Base) : sameB b b = true := sameB_yes fun _ _ => eqFs_refl _
def late (d : Int) (x : Fact) : Fact := { x with Day := d + 1 + pickI x.Day 100 }
theorem best_app {l m : List Fact} {d : Int} (h : ∀ x ∈ m, d < x.Day) : bestL (l ++ m) d = bestL l d := by
  have key : ∀ (m : List Fact) (a : FMap), (∀ x ∈ m, d < x.Day) → m.foldl (bestStep d) a = a := by
    intro m
    induction m with
    | nil => exact fun _ _ => rfl
    | cons x m ih => exact fun a hx => by rw [List.foldl_cons, best_skip (.inr (hx x List.mem_cons_self))]; exact ih a (fun y hy => hx y (List.mem_cons_of_mem _ hy))
  unfold bestL
  rw [List.foldl_append, key m _ h]
theorem valid_day {f : Fact} (h : validB f = true) : f.Day ≤ 100000 := by
  have := valid_pre h
  simp only [preB, Bool.or_eq_false_iff, decide_eq_false_iff_not] at this
  omega
theorem best_known (l : List Fact) (d : Int) : bestL (l.filter fun f => decide (f.Day ≤ d)) 100000 = bestL l d := by
  have key : ∀ (l : List Fact) (a : FMap), (l.filter fun f => decide (f.Day ≤ d)).foldl (bestStep 100000) a = l.foldl (bestStep d) a := by
    intro l
    induction l with
    | nil => exact fun _ => rfl
    | cons x l ih =>
      intro a
      by_cases hx : x.Day ≤ d
      · rw [List.filter_cons, if_pos (decide_eq_true hx), List.foldl_cons, List.foldl_cons, ih]
        congr 1
        by_cases hk : keyB x = []
        · rw [best_skip (.inl hk), best_skip (.inl hk)]
        · have hv := valid_day (keyB_valid hk)
          unfold bestStep
          rw [if_neg (fun h => h.elim hk (by omega)), if_neg (fun h => h.elim hk (by omega))]
      · rw [List.filter_cons, if_neg (by rw [decide_eq_false hx]; exact Bool.false_ne_true), ih, List.foldl_cons, best_skip (.inr (by omega))]
  exact key l []
theorem late_same {l m : List Fact} {d : Int} (h : ∀ x ∈ m, inI x.Day) : sameB (ofB l d) (ofB (l ++ m.map (late d)) d) = true := by
  rw [show ofB (l ++ m.map (late d)) d = ofB l d from by
    unfold ofB
    rw [best_app fun x hx => by
      obtain ⟨y, hy, rfl⟩ := List.mem_map.1 hx
      have := pick_range (c := y.Day) (n := 100) (h y hy) (by decide)
      show d < d + 1 + pickI y.Day 100
      omega]]
  exact sameB_refl _
theorem known_same (l : List Fact) (d : Int) : sameB (ofB l d) (ofB (l.filter fun f => decide (f.Day ≤ d)) 100000) = true := by
  rw [show ofB (l.filter fun f => decide (f.Day ≤ d)) 100000 = ofB l d from by unfold ofB; rw [best_known]]
  exact sameB_refl _
def BaseV (w : World) (v : Go.Value) (b : Base) : Prop := ∃ bc, v = .agg bc ∧ BaseC w bc b
theorem BaseV.up {w w' : World} {v : Go.Value} {b : Base} (h : BaseV w v b) (u : Up w w') : BaseV w' v b := let ⟨bc, e, hC⟩ := h; ⟨bc, e, hC.up u⟩

end Go.Wx
namespace Go.Proofs.YtdelcaegofkknaaGreat
open Go.Wx Go.RowKit
theorem trBa27 : True := trivial
end Go.Proofs.YtdelcaegofkknaaGreat

-- Ba28
namespace Go.Wx

theorem key_kind {f g : Fact} (hf : validB f = true) (hg : validB g = true) (h : keyB f = keyB g) : f.Kind = g.Kind := by
  have kf := valid_kind hf
  have kg := valid_kind hg
  unfold keyB keyL at h
  rw [if_pos hf, if_pos hg] at h
  exact (encI_cut (r := encIs (valsOf (keyFOf f.Kind) f)) (s := encIs (valsOf (keyFOf g.Kind) g)) (a := f.Kind) (b := g.Kind) ⟨by omega, by omega⟩ ⟨by omega, by omega⟩ h).1
def MKd (k : Int) (m : FMap) : FMap := m.filter fun p => decide (p.2.Kind = k)
theorem MKd_mem {k : Int} {m : FMap} {p : List UInt8 × Fact} : p ∈ MKd k m ↔ p ∈ m ∧ p.2.Kind = k := by unfold MKd; rw [List.mem_filter]; simp
theorem MKd_ok {k : Int} {m : FMap} (h : MOk m) : MOk (MKd k m) := fun p hp => h p (MKd_mem.1 hp).1
theorem kind_of {m : FMap} (h : MOk m) {x : Fact} (hx : validB x = true) {p : List UInt8 × Fact} (hp : p ∈ m) (e : p.1 = keyB x) : p.2.Kind = x.Kind := key_kind (h p hp).2 hx ((h p hp).1.symm.trans e)
theorem MKd_keys {k : Int} {m : FMap} (h : MOk m) {x : Fact} (hx : validB x = true) (hk : x.Kind = k) : keyB x ∈ (MKd k m).map (·.1) ↔ keyB x ∈ m.map (·.1) := by
  constructor
  · intro hm
    obtain ⟨p, hp, e⟩ := List.mem_map.1 hm
    exact List.mem_map.2 ⟨p, (MKd_mem.1 hp).1, e⟩
  · intro hm
    obtain ⟨p, hp, e⟩ := List.mem_map.1 hm
    exact List.mem_map.2 ⟨p, MKd_mem.2 ⟨hp, (kind_of h hx hp e).trans hk⟩, e⟩
theorem MKd_map (k : Int) (x : Fact) (c : List UInt8) : ∀ (m : FMap), (∀ p ∈ m, p.1 = c → p.2.Kind = x.Kind) → MKd k (m.map fun p => if p.1 = c then (c, x) else p) = (MKd k m).map fun p => if p.1 = c then (c, x) else p
  | [], _ => rfl
  | p :: m, h => by
    have ih := MKd_map k x c m (fun q hq => h q (List.mem_cons_of_mem _ hq))
    unfold MKd at ih ⊢
    rw [List.map_cons, List.filter_cons, List.filter_cons, ih]
    by_cases hp : p.1 = c
    · rw [if_pos hp]
      have hk := h p List.mem_cons_self hp
      by_cases hx : x.Kind = k
      · rw [if_pos (decide_eq_true hx), if_pos (decide_eq_true (hk.trans hx)), List.map_cons, if_pos hp]
      · rw [if_neg (by rw [decide_eq_false hx]; exact Bool.false_ne_true), if_neg (by rw [decide_eq_false (fun e => hx (hk.symm.trans e))]; exact Bool.false_ne_true)]
    · rw [if_neg hp]
      by_cases hx : p.2.Kind = k
      · rw [if_pos (decide_eq_true hx), if_pos (decide_eq_true hx), List.map_cons, if_neg hp]
      · rw [if_neg (by rw [decide_eq_false hx]; exact Bool.false_ne_true), if_neg (by rw [decide_eq_false hx]; exact Bool.false_ne_true)]
theorem MKd_same {k : Int} {x : Fact} (c : List UInt8) (hx : x.Kind ≠ k) : ∀ (m : FMap), (∀ p ∈ m, p.1 = c → p.2.Kind = x.Kind) → (MKd k m).map (fun p => if p.1 = c then (c, x) else p) = MKd k m := fun m h => by
  have : ∀ p ∈ MKd k m, (if p.1 = c then (c, x) else p) = p := fun p hp => if_neg fun e => hx ((h p (MKd_mem.1 hp).1 e).symm.trans (MKd_mem.1 hp).2)
  exact (List.map_congr_left this).trans (List.map_id _)
theorem MKd_fset {k : Int} {m : FMap} (h : MOk m) {x : Fact} (hx : validB x = true) : MKd k (fset m (keyB x) x) = if x.Kind = k then fset (MKd k m) (keyB x) x else MKd k m := by
  have hk : ∀ p ∈ m, p.1 = keyB x → p.2.Kind = x.Kind := fun p hp e => kind_of h hx hp e
  by_cases hxk : x.Kind = k
  · rw [if_pos hxk]
    unfold fset
    by_cases hm : keyB x ∈ m.map (·.1)
    · rw [if_pos hm, if_pos ((MKd_keys h hx hxk).2 hm), MKd_map k x (keyB x) m hk]
    · rw [if_neg hm, if_neg (fun e => hm ((MKd_keys h hx hxk).1 e))]
      unfold MKd
      rw [List.filter_append, List.filter_cons, if_pos (decide_eq_true hxk)]; rfl
  · rw [if_neg hxk]
    unfold fset
    by_cases hm : keyB x ∈ m.map (·.1)
    · rw [if_pos hm, MKd_map k x (keyB x) m hk, MKd_same (keyB x) hxk m hk]
    · rw [if_neg hm]
      unfold MKd
      rw [List.filter_append, List.filter_cons, if_neg (by show ¬ decide (x.Kind = k) = true; rw [decide_eq_false hxk]; exact Bool.false_ne_true)]; simp
theorem MKd_get {k : Int} {m : FMap} (h : MOk m) {x : Fact} (hx : validB x = true) (hk : x.Kind = k) : fget (MKd k m) (keyB x) = fget m (keyB x) := by
  unfold fget MKd
  congr 1
  induction m with
  | nil => rfl
  | cons p m ih =>
    have ih := ih (fun q hq => h q (List.mem_cons_of_mem _ hq))
    rw [List.filter_cons]
    by_cases e : p.1 = keyB x
    · have hp := (kind_of h hx List.mem_cons_self e).trans hk
      rw [if_pos (decide_eq_true hp), List.find?_cons, List.find?_cons, show (p.1 == keyB x) = true by simpa using e]
    · by_cases hp : p.2.Kind = k
      · rw [if_pos (decide_eq_true hp), List.find?_cons, List.find?_cons, show (p.1 == keyB x) = false by simpa using e]
        exact ih
      · rw [if_neg (by rw [decide_eq_false hp]; exact Bool.false_ne_true), List.find?_cons, show (p.1 == keyB x) = false by simpa using e]
        exact ih
theorem MKd_step {k d : Int} {m : FMap} (h : MOk m) (x : Fact) : MKd k (bestStep d m x) = if x.Kind = k then bestStep d (MKd k m) x else MKd k m := by
  by_cases hc : keyB x = [] ∨ d < x.Day
  · rw [best_skip hc, best_skip hc]; split <;> rfl
  · have hv := keyB_valid (fun e => hc (.inl e))
    by_cases hk : x.Kind = k
    · rw [if_pos hk]
      unfold bestStep
      rw [if_neg hc, if_neg hc, MKd_get h hv hk]
      cases fget m (keyB x) with
      | none => rw [MKd_fset h hv, if_pos hk]
      | some old =>
        dsimp only
        split
        · rw [MKd_fset h hv, if_pos hk]
        · rfl
    · rw [if_neg hk]
      unfold bestStep
      rw [if_neg hc]
      cases fget m (keyB x) with
      | none => rw [MKd_fset h hv, if_neg hk]
      | some old =>
        dsimp only
        split
        · rw [MKd_fset h hv, if_neg hk]
        · rfl
def isK (k : Int) (f : Fact) : Bool := decide (f.Kind = k)
theorem best_kind (l : List Fact) (k d : Int) : bestL (l.filter (isK k)) d = MKd k (bestL l d) := by
  have key : ∀ (l : List Fact) (m : FMap), MOk m → (l.filter (isK k)).foldl (bestStep d) (MKd k m) = MKd k (l.foldl (bestStep d) m) := by
    intro l
    induction l with
    | nil => exact fun _ _ => rfl
    | cons x l ih =>
      intro m h
      have hs := (h.step d x).1
      rw [List.foldl_cons, ← ih _ hs, MKd_step h, List.filter_cons]
      by_cases hk : x.Kind = k
      · rw [if_pos hk, if_pos (show isK k x = true from decide_eq_true hk), List.foldl_cons]
      · rw [if_neg hk, if_neg (by rw [isK, decide_eq_false hk]; exact Bool.false_ne_true)]
  exact key l [] (fun p hp => by simp at hp)
theorem facts_kind (l : List Fact) (k d : Int) : factsM (bestL (l.filter (isK k)) d) = (factsM (bestL l d)).filter (isK k) := by
  rw [best_kind]
  unfold factsM MKd
  rw [List.filter_map]; rfl
theorem kind_own {l : List Fact} {k d : Int} {i : Nat} (hi : i < 11) (h : (i : Int) = k - 1) : eqFs (lstOf (ofB l d) i) (lstOf (ofB (l.filter (isK k)) d) i) = true := by
  rw [lst_ofB l d hi, lst_ofB _ d hi, facts_kind]
  have : ∀ (X : List Fact), (X.filter (isK k)).filter (fun f => !f.Gone && decide (f.Kind = ((i + 1 : Nat) : Int))) = X.filter (fun f => !f.Gone && decide (f.Kind = ((i + 1 : Nat) : Int))) := fun X => by
    rw [List.filter_filter]
    apply List.filter_congr
    intro x _
    by_cases e : x.Kind = k
    · rw [isK, decide_eq_true e, Bool.and_true]
    · rw [isK, decide_eq_false e, decide_eq_false (show ¬ x.Kind = ((i + 1 : Nat) : Int) by omega)]; simp
  unfold lstAt
  rw [if_pos (List.mem_singleton.2 rfl), if_pos (List.mem_singleton.2 rfl), this]
  exact eqFs_refl _
theorem kind_none {l : List Fact} {k d : Int} {i : Nat} (hi : i < 11) (h : ¬ (i : Int) = k - 1) : lstOf (ofB (l.filter (isK k)) d) i = [] := by
  rw [lst_ofB _ d hi, facts_kind]
  have : ∀ (X : List Fact), (X.filter (isK k)).filter (fun f => !f.Gone && decide (f.Kind = ((i + 1 : Nat) : Int))) = [] := fun X => by
    rw [List.filter_filter, List.filter_eq_nil_iff]
    intro x _ hx
    simp only [isK, Bool.and_eq_true, decide_eq_true_eq] at hx
    omega
  unfold lstAt
  rw [if_pos (List.mem_singleton.2 rfl), this]
  rfl

end Go.Wx
namespace Go.Proofs.YtdelcaegofkknaaGreat
open Go.Wx Go.RowKit
theorem trBa28 : True := trivial
end Go.Proofs.YtdelcaegofkknaaGreat

-- Ba29
namespace Go.Wx

/-! ### which facts a base holds: those over which none prevails -/
theorem cb_swap : ∀ (a b : List UInt8), Go.Lib.compareBytes b a = - Go.Lib.compareBytes a b
  | [], [] => rfl
  | [], _ :: _ => rfl
  | _ :: _, [] => rfl
  | x :: a, y :: b => by
    unfold Go.Lib.compareBytes
    by_cases h1 : x < y
    · have h2 : ¬ y < x := by rw [UInt8.lt_iff_toNat_lt] at *; omega
      rw [if_pos h1, if_neg h2, if_pos h1]; rfl
    · by_cases h2 : y < x
      · rw [if_pos h2, if_neg h1, if_pos h2]
      · rw [if_neg h2, if_neg h1, if_neg h1, if_neg h2]; exact cb_swap a b
theorem cb_zero : ∀ {a b : List UInt8}, Go.Lib.compareBytes a b = 0 → a = b
  | [], [], _ => rfl
  | [], _ :: _, h => by simp [Go.Lib.compareBytes] at h
  | _ :: _, [], h => by simp [Go.Lib.compareBytes] at h
  | x :: a, y :: b, h => by
    unfold Go.Lib.compareBytes at h
    by_cases h1 : x < y
    · rw [if_pos h1] at h; cases h
    · by_cases h2 : y < x
      · rw [if_neg h1, if_pos h2] at h; cases h
      · rw [if_neg h1, if_neg h2] at h
        rw [cb_zero h, show x = y from UInt8.toNat_inj.1 (by rw [UInt8.lt_iff_toNat_lt] at h1 h2; omega)]
theorem cb_refl (a : List UInt8) : Go.Lib.compareBytes a a = 0 := by have := cb_swap a a; omega
theorem cb_trans : ∀ {a b c : List UInt8}, 0 < Go.Lib.compareBytes a b → 0 < Go.Lib.compareBytes b c → 0 < Go.Lib.compareBytes a c
  | [], [], _, h, _ => by simp [Go.Lib.compareBytes] at h
  | [], _ :: _, _, h, _ => by simp [Go.Lib.compareBytes] at h
  | _ :: _, [], [], _, h => by simp [Go.Lib.compareBytes] at h
  | _ :: _, [], _ :: _, _, h => by simp [Go.Lib.compareBytes] at h
  | _ :: _, _ :: _, [], _, _ => by simp [Go.Lib.compareBytes]
  | x :: a, y :: b, z :: c, h, k => by
    unfold Go.Lib.compareBytes at h k ⊢
    by_cases h1 : x < y
    · rw [if_pos h1] at h; omega
    · by_cases k1 : y < z
      · rw [if_pos k1] at k; omega
      · rw [if_neg h1] at h
        rw [if_neg k1] at k
        have e1 : ¬ x < z := by rw [UInt8.lt_iff_toNat_lt] at *; omega
        rw [if_neg e1]
        by_cases h2 : y < x
        · rw [if_pos (show z < x by rw [UInt8.lt_iff_toNat_lt] at *; omega)]; decide
        · by_cases k2 : z < y
          · rw [if_pos (show z < x by rw [UInt8.lt_iff_toNat_lt] at *; omega)]; decide
          · rw [if_neg h2] at h
            rw [if_neg k2] at k
            rw [if_neg (show ¬ z < x by rw [UInt8.lt_iff_toNat_lt] at *; omega)]
            exact cb_trans h k
theorem prev_iff {a b : Fact} : prevB a b = true ↔ validB a = true ∧ validB b = true ∧ keyB a = keyB b ∧ (b.Version < a.Version ∨ (a.Version = b.Version ∧ 0 < Go.Lib.compareBytes (encB a) (encB b))) := by
  unfold prevB
  simp only [Bool.and_eq_true, Bool.or_eq_true, decide_eq_true_eq, beq_iff_eq, and_assoc]
theorem prev_irrefl (a : Fact) : prevB a a = false := by
  rw [Bool.eq_false_iff]
  intro h
  have := (prev_iff.1 h).2.2.2
  rw [cb_refl] at this
  omega
theorem prev_trans {a b c : Fact} (h : prevB a b = true) (k : prevB b c = true) : prevB a c = true := by
  obtain ⟨h1, h2, h3, h4⟩ := prev_iff.1 h
  obtain ⟨k1, k2, k3, k4⟩ := prev_iff.1 k
  refine prev_iff.2 ⟨h1, k2, h3.trans k3, ?_⟩
  rcases h4 with h4 | ⟨h4, h5⟩ <;> rcases k4 with k4 | ⟨k4, k5⟩
  · exact .inl (by omega)
  · exact .inl (by omega)
  · exact .inl (by omega)
  · exact .inr ⟨by omega, cb_trans h5 k5⟩
theorem get_set {f : Fact} {o o' : Nat} {n : Int} (h : okOff o = true) (h' : okOff o' = true) : getF (setF f o n) o' = if o = o' then n else getF f o' := by
  rcases okOff_cases h with rfl | rfl | rfl | rfl | rfl | rfl | rfl | rfl | rfl | rfl | rfl | rfl | rfl | rfl <;> rcases okOff_cases h' with rfl | rfl | rfl | rfl | rfl | rfl | rfl | rfl | rfl | rfl | rfl | rfl | rfl | rfl <;> rfl
theorem set_rest {f : Fact} {o : Nat} {n : Int} (h : okOff o = true) : (setF f o n).Text = f.Text := by
  rcases okOff_cases h with rfl | rfl | rfl | rfl | rfl | rfl | rfl | rfl | rfl | rfl | rfl | rfl | rfl | rfl <;> rfl
theorem runF_get : ∀ {fs : List Fld} {f g : Fact}, (∀ x ∈ fs, okOff x.off = true ∧ inW x.lo ∧ inW x.hi) → runF fs f = some g → (∀ o, okOff o = true → getF g o ≠ 0 → getF f o = getF g o) ∧ (∀ o, okOff o = true → (∀ x ∈ fs, x.off ≠ o) → getF f o = getF g o) ∧ g.Text = f.Text ∧ ∀ x ∈ fs, inW (getF f x.off)
  | [], f, g, _, h => by cases h; exact ⟨fun _ _ _ => rfl, fun _ _ _ => rfl, rfl, fun x hx => by cases hx⟩
  | x :: fs, f, g, hf, h => by
    unfold runF at h
    split at h
    · cases h
    · rename_i hx
      have ok := hf x List.mem_cons_self
      obtain ⟨h1, h2, h3, h4⟩ := runF_get (fun y hy => hf y (List.mem_cons_of_mem _ hy)) h
      refine ⟨fun o ho hne => ?_, fun o ho hn => ?_, h3.trans (set_rest ok.1), fun y hy => ?_⟩
      · have := h1 o ho hne
        rw [get_set ok.1 ho] at this
        by_cases e : x.off = o
        · rw [if_pos e] at this; exact absurd this.symm hne
        · rwa [if_neg e] at this
      · have := h2 o ho (fun y hy => hn y (List.mem_cons_of_mem _ hy))
        rwa [get_set ok.1 ho, if_neg (hn x List.mem_cons_self)] at this
      · have hb : inW (getF f x.off) := by
          have := ok.2.1.1
          have := ok.2.2.2
          exact ⟨by omega, by omega⟩
        rcases List.mem_cons.1 hy with rfl | hy
        · exact hb
        · have := h4 y hy
          rw [get_set ok.1 (hf y (List.mem_cons_of_mem _ hy)).1] at this
          by_cases e : x.off = y.off
          · rw [← e]; exact hb
          · rwa [if_neg e] at this
theorem fields_lim (k : Int) : ∀ x ∈ fieldsOf k, okOff x.off = true ∧ inW x.lo ∧ inW x.hi := by
  intro x hx
  have h : ∀ l ∈ shapeF, ∀ y ∈ l, (okOff y.off && decide (-4611686018427387903 ≤ y.lo) && decide (y.lo ≤ 4611686018427387903) && decide (-4611686018427387903 ≤ y.hi) && decide (y.hi ≤ 4611686018427387903)) = true := by decide
  unfold fieldsOf at hx
  rw [List.getD_eq_getElem?_getD] at hx
  cases hl : shapeF[k.toNat]? with
  | none => rw [hl] at hx; simp at hx
  | some l =>
    rw [hl] at hx
    have := h l (List.mem_of_getElem? hl) x (by simpa using hx)
    simp only [Bool.and_eq_true, decide_eq_true_eq] at this
    exact ⟨this.1.1.1.1, ⟨this.1.1.1.2, this.1.1.2⟩, ⟨this.1.2, this.2⟩⟩
theorem eqb_get {f g : Fact} (h : Fact.eqb f g = true) : (∀ o, okOff o = true → getF f o = getF g o) ∧ f.Text.toList = g.Text.toList := by
  simp only [Fact.eqb, Bool.and_eq_true, beq_iff_eq] at h
  obtain ⟨_, h1, _, _, _, h5, h6, h7, h8, h9, h10, h11, h12, h13, h14, h15, h16, h17, h18⟩ := h
  refine ⟨fun o ho => ?_, h18⟩
  rcases okOff_cases ho with rfl | rfl | rfl | rfl | rfl | rfl | rfl | rfl | rfl | rfl | rfl | rfl | rfl | rfl
  · exact h1
  · exact h5
  · exact h6
  · exact h7
  · exact h8
  · exact h9
  · exact h10
  · exact h11
  · exact h12
  · exact h13
  · exact h14
  · exact h15
  · exact h16
  · exact h17
theorem get_fact0 (k v d : Int) (g : Bool) {o : Nat} (h : okOff o = true) : getF (fact0 k v d g) o = 0 := by
  rcases okOff_cases h with rfl | rfl | rfl | rfl | rfl | rfl | rfl | rfl | rfl | rfl | rfl | rfl | rfl | rfl <;> rfl
theorem get_text (g : Fact) (t : ByteArray) {o : Nat} (h : okOff o = true) : getF { g with Text := t } o = getF g o := by
  rcases okOff_cases h with rfl | rfl | rfl | rfl | rfl | rfl | rfl | rfl | rfl | rfl | rfl | rfl | rfl | rfl <;> rfl
/-- what a valid fact is -/
theorem valid_parts {f : Fact} (h : validB f = true) : (∀ o, okOff o = true → (∀ x ∈ fieldsOf f.Kind, x.off ≠ o) → getF f o = 0) ∧ (∀ x ∈ fieldsOf f.Kind, inW (getF f x.off)) ∧ (textOf f.Kind = false → f.Text.toList = []) := by
  unfold validB at h
  rw [Bool.and_eq_true, Bool.and_eq_true] at h
  have h3 := h.2.2
  cases hr : runF (fieldsOf f.Kind) f with
  | none => rw [hr] at h3; cases h3
  | some g =>
    rw [hr] at h3
    dsimp only at h3
    obtain ⟨r1, r2, r3, r4⟩ := runF_get (fields_lim f.Kind) hr
    obtain ⟨e1, e2⟩ := eqb_get h3
    have z : ∀ o, okOff o = true → getF g o = 0 := fun o ho => by
      have := e1 o ho
      rw [get_fact0 _ _ _ _ ho] at this
      split at this
      · rwa [get_text _ _ ho] at this
      · exact this
    refine ⟨fun o ho hn => (r2 o ho hn).trans (z o ho), r4, fun ht => ?_⟩
    rw [ht] at e2
    rw [← r3]
    rw [if_neg Bool.false_ne_true] at e2
    rw [e2, ByteArray.toList_eq]; rfl
theorem text_inj {a b : ByteArray} (h : a.toList = b.toList) : a = b := by
  rw [ByteArray.toList_eq, ByteArray.toList_eq] at h
  cases a; cases b
  exact congrArg ByteArray.mk (Array.toList_inj.1 h)
theorem fact_ext {a b : Fact} (hk : a.Kind = b.Kind) (hv : a.Version = b.Version) (hd : a.Day = b.Day) (hg : a.Gone = b.Gone) (ht : a.Text = b.Text) (h : ∀ o, okOff o = true → getF a o = getF b o) : a = b := by
  have h1 := h 1 rfl
  have h5 := h 5 rfl
  have h6 := h 6 rfl
  have h7 := h 7 rfl
  have h8 := h 8 rfl
  have h9 := h 9 rfl
  have h10 := h 10 rfl
  have h11 := h 11 rfl
  have h12 := h 12 rfl
  have h13 := h 13 rfl
  have h14 := h 14 rfl
  have h15 := h 15 rfl
  have h16 := h 16 rfl
  have h17 := h 17 rfl
  cases a; cases b
  rw [Fact.mk.injEq]
  exact ⟨hk, h1, hv, hd, hg, h5, h6, h7, h8, h9, h10, h11, h12, h13, h14, h15, h16, h17, ht⟩
theorem encB_inj {a b : Fact} (ha : validB a = true) (hb : validB b = true) (hk : a.Kind = b.Kind) (h : encB a = encB b) : a = b := by
  obtain ⟨a1, a2, a3⟩ := valid_parts ha
  obtain ⟨b1, b2, b3⟩ := valid_parts hb
  have pa := valid_pre ha
  have pb := valid_pre hb
  have ka := valid_kind ha
  have kb := valid_kind hb
  simp only [preB, Bool.or_eq_false_iff, decide_eq_false_iff_not] at pa pb
  have win : ∀ (f : Fact), (1 ≤ f.Kind ∧ f.Kind ≤ 11) → (¬ f.Version < 1 ∧ ¬ 1000000 < f.Version ∧ ¬ f.Day < 0 ∧ ¬ 100000 < f.Day) → (∀ x ∈ fieldsOf f.Kind, inW (getF f x.off)) → ∀ x ∈ encL f, inW x := fun f k p q x hx => by
    unfold encL at hx
    rcases List.mem_append.1 hx with hx | hx
    · simp only [List.mem_cons, List.not_mem_nil, or_false] at hx
      rcases hx with rfl | rfl | rfl | rfl
      · exact ⟨by omega, by omega⟩
      · exact ⟨by omega, by omega⟩
      · exact ⟨by omega, by omega⟩
      · unfold flagI; split <;> exact ⟨by omega, by omega⟩
    · obtain ⟨y, hy, rfl⟩ := List.mem_map.1 hx
      exact q y hy
  unfold encB at h
  obtain ⟨e1, e2⟩ := encIs_cut (win a ka ⟨pa.1.1.1.1, pa.1.1.1.2, pa.1.1.2, pa.1.2⟩ a2) (win b kb ⟨pb.1.1.1.1, pb.1.1.1.2, pb.1.1.2, pb.1.2⟩ b2) (by unfold encL; simp [valsOf, hk]) h
  unfold encL at e1
  simp only [List.cons_append, List.nil_append, List.cons.injEq] at e1
  obtain ⟨_, e3, e4, e5, e6⟩ := e1
  refine fact_ext hk e3 e4 ?_ ?_ fun o ho => ?_
  · revert e5
    unfold flagI
    cases a.Gone <;> cases b.Gone <;> simp
  · by_cases ht : textOf a.Kind = true
    · rw [if_pos ht, if_pos (by rw [← hk]; exact ht)] at e2
      unfold encT at e2
      have sa := valid_text ha
      have sb := valid_text hb
      have := (encI_cut (inW_nat (by simp; omega)) (inW_nat (by simp; omega)) e2).2
      cases ea : a.Text; cases eb : b.Text
      rw [ea, eb] at this
      exact congrArg ByteArray.mk (Array.toList_inj.1 this)
    · have ht := Bool.eq_false_iff.2 ht
      exact text_inj ((a3 ht).trans (b3 (hk ▸ ht)).symm)
  · by_cases hx : ∃ x ∈ fieldsOf a.Kind, x.off = o
    · obtain ⟨x, hx, rfl⟩ := hx
      unfold valsOf at e6
      rw [← hk] at e6
      exact List.map_inj_left.1 e6 x hx
    · have hn : ∀ x ∈ fieldsOf a.Kind, x.off ≠ o := fun x h1 h2 => hx ⟨x, h1, h2⟩
      rw [a1 o ho hn, b1 o ho (hk ▸ hn)]
theorem prev_total {a b : Fact} (ha : validB a = true) (hb : validB b = true) (hk : keyB a = keyB b) (h1 : prevB a b = false) (h2 : prevB b a = false) : a = b := by
  rw [Bool.eq_false_iff] at h1 h2
  have c1 : ¬ (b.Version < a.Version ∨ (a.Version = b.Version ∧ 0 < Go.Lib.compareBytes (encB a) (encB b))) := fun c => h1 (prev_iff.2 ⟨ha, hb, hk, c⟩)
  have c2 : ¬ (a.Version < b.Version ∨ (b.Version = a.Version ∧ 0 < Go.Lib.compareBytes (encB b) (encB a))) := fun c => h2 (prev_iff.2 ⟨hb, ha, hk.symm, c⟩)
  rw [cb_swap (encB a) (encB b)] at c2
  exact encB_inj ha hb (key_kind ha hb hk) (cb_zero (by omega))
/-- in effect among some -/
def eff (l : List Fact) (d : Int) (f : Fact) : Prop := f ∈ l ∧ keyB f ≠ [] ∧ f.Day ≤ d ∧ ∀ g ∈ l, g.Day ≤ d → prevB g f = false
structure EInv (l : List Fact) (d : Int) (m : FMap) : Prop where
  ok : MOk m
  top : ∀ p ∈ m, eff l d p.2
  all : ∀ f ∈ l, keyB f ≠ [] → f.Day ≤ d → keyB f ∈ m.map (·.1)
theorem prevE_key {a b : Fact} (h : prevB a b = true) : keyB a = keyB b := (prev_iff.1 h).2.2.1
theorem mem_fset {m : FMap} {c : List UInt8} {x : Fact} {p : List UInt8 × Fact} (h : p ∈ fset m c x) : p = (c, x) ∨ (p ∈ m ∧ p.1 ≠ c) := by
  unfold fset at h
  split at h
  · obtain ⟨q, hq, e⟩ := List.mem_map.1 h
    split at e
    · exact .inl e.symm
    · rename_i hc; subst e; exact .inr ⟨hq, hc⟩
  · rename_i hn
    rcases List.mem_append.1 h with h | h
    · exact .inr ⟨h, fun e => hn (List.mem_map.2 ⟨p, h, e⟩)⟩
    · exact .inl (List.mem_singleton.1 h)
theorem fset_has {m : FMap} {c : List UInt8} {x : Fact} {k : List UInt8} (h : k ∈ m.map (·.1) ∨ k = c) : k ∈ (fset m c x).map (·.1) := by
  rw [fset_keys]
  split
  · rename_i hc; rcases h with h | rfl
    · exact h
    · exact hc
  · rcases h with h | rfl
    · exact List.mem_append_left _ h
    · simp
theorem eff_snoc {l : List Fact} {d : Int} {x f : Fact} (h : eff l d f) (hx : x.Day ≤ d → prevB x f = false) : eff (l ++ [x]) d f := by
  refine ⟨List.mem_append_left _ h.1, h.2.1, h.2.2.1, fun g hg hd => ?_⟩
  rcases List.mem_append.1 hg with hg | hg
  · exact h.2.2.2 g hg hd
  · cases List.mem_singleton.1 hg; exact hx hd
theorem EInv.step {l : List Fact} {d : Int} {m : FMap} (h : EInv l d m) (x : Fact) : EInv (l ++ [x]) d (bestStep d m x) := by
  have ok' := (h.ok.step d x).1
  by_cases hc : keyB x = [] ∨ d < x.Day
  · rw [best_skip hc]
    refine ⟨h.ok, fun p hp => eff_snoc (h.top p hp) fun hd => ?_, fun f hf hk hd => ?_⟩
    · rw [Bool.eq_false_iff]
      intro e
      rcases hc with hc | hc
      · exact (h.top p hp).2.1 ((prevE_key e).symm.trans hc)
      · omega
    · rcases List.mem_append.1 hf with hf | hf
      · exact h.all f hf hk hd
      · cases List.mem_singleton.1 hf
        rcases hc with hc | hc
        · exact absurd hc hk
        · omega
  · have hk : keyB x ≠ [] := fun e => hc (.inl e)
    have hd : x.Day ≤ d := by
      by_cases hd : x.Day ≤ d
      · exact hd
      · exact absurd (.inr (by omega)) hc
    have others : ∀ p ∈ m, p.1 ≠ keyB x → eff (l ++ [x]) d p.2 := fun p hp hne => eff_snoc (h.top p hp) fun _ => by
      rw [Bool.eq_false_iff]
      intro e
      exact hne ((h.ok p hp).1.trans (prevE_key e).symm)
    have put : (∀ g ∈ l, g.Day ≤ d → prevB g x = false) → EInv (l ++ [x]) d (fset m (keyB x) x) := fun hx => by
      refine ⟨h.ok.set (keyB_valid hk), fun p hp => ?_, fun f hf hkf hdf => ?_⟩
      · rcases mem_fset hp with rfl | ⟨h1, h2⟩
        · refine ⟨by simp, hk, hd, fun g hg hdg => ?_⟩
          rcases List.mem_append.1 hg with hg | hg
          · exact hx g hg hdg
          · cases List.mem_singleton.1 hg; exact prev_irrefl x
        · exact others p h1 h2
      · refine fset_has ?_
        rcases List.mem_append.1 hf with hf | hf
        · exact .inl (h.all f hf hkf hdf)
        · cases List.mem_singleton.1 hf; exact .inr rfl
    cases hg : fget m (keyB x) with
    | none =>
      rw [best_new hc hg]
      refine put fun g hgl hgd => ?_
      rw [Bool.eq_false_iff]
      intro e
      have e1 := prevE_key e
      have := h.all g hgl (by rw [e1]; exact hk) hgd
      rw [e1] at this
      have hno := fget_none hg
      rw [encM_keys] at hno
      exact hno this
    | some old =>
      have hmem : ∃ p ∈ m, p.1 = keyB x ∧ p.2 = old := by
        unfold fget at hg
        rw [Option.map_eq_some_iff] at hg
        obtain ⟨p, hp, e⟩ := hg
        have h2 : (p.1 == keyB x) = true := List.find?_some (p := fun p : List UInt8 × Fact => p.1 == keyB x) hp
        exact ⟨p, List.mem_of_find?_eq_some hp, eq_of_beq h2, e⟩
      obtain ⟨p, hp, hpk, rfl⟩ := hmem
      cases hq : prevB x p.2 with
      | true =>
        rw [best_put hc hg hq]
        refine put fun g hgl hgd => ?_
        rw [Bool.eq_false_iff]
        intro e
        have := (h.top p hp).2.2.2 g hgl hgd
        rw [prev_trans e hq] at this
        cases this
      | false =>
        rw [best_old hc hg hq]
        refine ⟨h.ok, fun q hq' => ?_, fun f hf hkf hdf => ?_⟩
        · refine eff_snoc (h.top q hq') fun _ => ?_
          rw [Bool.eq_false_iff]
          intro e
          have e1 := prevE_key e
          have e2 := (h.ok q hq').1
          have e3 : q.1 = p.1 := by rw [e2, ← e1, hpk]
          have n := best_nodup
          by_cases hqp : q.2 = p.2
          · rw [hqp, hq] at e; cases e
          · exact absurd (prev_total (h.ok q hq').2 (h.ok p hp).2 (by rw [← e2, ← (h.ok p hp).1, e3]) ((h.top p hp).2.2.2 _ (h.top q hq').1 (h.top q hq').2.2.1) ((h.top q hq').2.2.2 _ (h.top p hp).1 (h.top p hp).2.2.1)) hqp
        · rcases List.mem_append.1 hf with hf | hf
          · exact h.all f hf hkf hdf
          · cases List.mem_singleton.1 hf
            exact List.mem_map.2 ⟨p, hp, hpk⟩
theorem best_inv (l : List Fact) (d : Int) : EInv l d (bestL l d) := by
  have key : ∀ (r l : List Fact) (m : FMap), EInv l d m → EInv (l ++ r) d (r.foldl (bestStep d) m) := by
    intro r
    induction r with
    | nil => intro l m h; rw [List.append_nil]; exact h
    | cons x r ih => intro l m h; have := ih (l ++ [x]) _ (h.step x); rwa [List.append_assoc] at this
  exact key l [] [] ⟨fun p hp => (by cases hp), fun p hp => (by cases hp), fun f hf => (by cases hf)⟩
/-- the facts of a base's map are those in effect -/
theorem best_eff {l : List Fact} {d : Int} {f : Fact} : f ∈ factsM (bestL l d) ↔ eff l d f := by
  have h := best_inv l d
  rw [factsM_mem h.ok]
  constructor
  · exact fun hf => h.top _ hf
  · intro hf
    obtain ⟨p, hp, e⟩ := List.mem_map.1 (h.all f hf.1 hf.2.1 hf.2.2.1)
    have e : p.1 = keyB f := e
    have hpe := h.top p hp
    have : p.2 = f := prev_total (h.ok p hp).2 (keyB_valid hf.2.1) ((h.ok p hp).1.symm.trans e) (hf.2.2.2 _ hpe.1 hpe.2.2.1) (hpe.2.2.2 _ hf.1 hf.2.2.1)
    rw [← e, ← this]; exact hp
theorem eff_congr {l m : List Fact} (h : ∀ x, x ∈ l ↔ x ∈ m) (d : Int) (f : Fact) : eff l d f ↔ eff m d f := by
  unfold eff
  rw [h f]
  exact ⟨fun ⟨a, b, c, e⟩ => ⟨a, b, c, fun g hg => e g ((h g).2 hg)⟩, fun ⟨a, b, c, e⟩ => ⟨a, b, c, fun g hg => e g ((h g).1 hg)⟩⟩
theorem factsM_nodup (l : List Fact) (d : Int) : (factsM (bestL l d)).Nodup := nodup_of_map (f := keyB) (by rw [factsM_keys (best_inv l d).ok]; exact best_nodup l d)
/-- order and repetition make no difference -/
theorem ofB_set {l m : List Fact} (h : ∀ x, x ∈ l ↔ x ∈ m) (d : Int) : ofB l d = ofB m d := by
  have hp : (factsM (bestL l d)).Perm (factsM (bestL m d)) := perm_of_mem (factsM_nodup l d) (factsM_nodup m d) fun x => by rw [best_eff, best_eff, eff_congr h]
  have hm := (best_inv m d).ok
  have hn := best_nodup m d
  unfold ofB baseL
  rw [lst_perm hm hn hp [1] 0 (by decide), lst_perm hm hn hp [2] 1 (by decide), lst_perm hm hn hp [3] 2 (by decide), lst_perm hm hn hp [4] 3 (by decide), lst_perm hm hn hp [5] 4 (by decide), lst_perm hm hn hp [6] 5 (by decide), lst_perm hm hn hp [7] 6 (by decide), lst_perm hm hn hp [8] 7 (by decide), lst_perm hm hn hp [9] 8 (by decide), lst_perm hm hn hp [10] 9 (by decide), lst_perm hm hn hp [11] 10 (by decide)]

end Go.Wx
namespace Go.Proofs.YtdelcaegofkknaaGreat
open Go.Wx Go.RowKit
theorem tr29 : True := trivial
end Go.Proofs.YtdelcaegofkknaaGreat

-- Ba30
namespace Go.Wx

theorem quo40 {o : Int} (h : inI o) : inI (o.tdiv 40) ∧ Go.Value.int .i64 (IntKind.i64.wrap (o.tdiv 40)) = vi (o.tdiv 40) := by
  have e : (o.tdiv 40).natAbs = o.natAbs / 40 := Int.natAbs_tdiv o 40
  obtain ⟨h1, h2⟩ := h
  have b : inI (o.tdiv 40) := ⟨by omega, by omega⟩
  exact ⟨b, by rw [wrap_i64_in b.1 b.2]⟩
theorem OwnS.addr {α : Type} {enc : α → Array Go.Value} {b k n cp : Nat} {e : TypeId} {w : World} {ad : Option Addr} {xs : List α} (h : OwnS w b e k enc (.slice ad n cp) xs) (hne : 0 < xs.length) : ∃ g, ad = some ⟨g, 0, none⟩ := by
  obtain ⟨_, ⟨e1, hn⟩ | ⟨g, cap, cur, e1, _⟩⟩ := h
  · omega
  · injection e1 with e2
    exact ⟨g, e2⟩
theorem swap_mem {α : Type} {M : List α} {a b : Nat} {x y : α} (hx : M[a]? = some x) (hy : M[b]? = some y) (z : α) : z ∈ (M.set a y).set b x ↔ z ∈ M := by
  have la := (List.getElem?_eq_some_iff.1 hx).1
  have lb := (List.getElem?_eq_some_iff.1 hy).1
  rw [List.mem_iff_getElem?, List.mem_iff_getElem?]
  constructor
  · rintro ⟨i, hi⟩
    rw [List.getElem?_set, List.getElem?_set] at hi
    split at hi
    · rw [List.length_set, if_pos lb] at hi
      cases hi
      exact ⟨a, hx⟩
    · split at hi
      · first | (rw [if_pos la] at hi; cases hi) | cases hi
        exact ⟨b, hy⟩
      · exact ⟨i, hi⟩
  · rintro ⟨i, hi⟩
    by_cases e1 : i = a
    · subst e1
      rw [hx] at hi
      cases hi
      exact ⟨b, by rw [List.getElem?_set, if_pos rfl, List.length_set, if_pos lb]⟩
    · by_cases e2 : i = b
      · subst e2
        rw [hy] at hi
        cases hi
        exact ⟨a, by rw [List.getElem?_set, if_neg (fun e => e1 e), List.getElem?_set, if_pos rfl, if_pos la]⟩
      · exact ⟨i, by rw [List.getElem?_set, if_neg (fun e => e2 e.symm), List.getElem?_set, if_neg (fun e => e1 e.symm)]; exact hi⟩
theorem order_same {l m : List Fact} (h : ∀ x, x ∈ m ↔ x ∈ l) (d : Int) : sameB (ofB l d) (ofB m d) = true := by
  rw [ofB_set h d]; exact sameB_refl _

end Go.Wx
namespace Go.Proofs.YtdelcaegofkknaaGreat
open Go.Wx Go.RowKit
theorem trBa30 : True := trivial
end Go.Proofs.YtdelcaegofkknaaGreat

-- Ba31
namespace Go.Wx

theorem runF_lim : ∀ {fs : List Fld} {f g : Fact}, (∀ x ∈ fs, okOff x.off = true) → (fs.map (·.off)).Nodup → runF fs f = some g → ∀ x ∈ fs, x.lo ≤ getF f x.off ∧ getF f x.off ≤ x.hi
  | [], _, _, _, _, _ => fun x hx => by cases hx
  | x :: fs, f, g, hf, hn, h => by
    rw [List.map_cons, List.nodup_cons] at hn
    unfold runF at h
    split at h
    · cases h
    · rename_i hx
      intro y hy
      rcases List.mem_cons.1 hy with rfl | hy
      · exact ⟨by omega, by omega⟩
      · have := runF_lim (fun z hz => hf z (List.mem_cons_of_mem _ hz)) hn.2 h y hy
        rw [get_set (hf x List.mem_cons_self) (hf y (List.mem_cons_of_mem _ hy)), if_neg (fun e => hn.1 (List.mem_map.2 ⟨y, hy, e.symm⟩))] at this
        exact this
theorem valid_lim {f : Fact} {k : Int} (h : validB f = true) (hk : f.Kind = k) (hn : ((fieldsOf k).map (·.off)).Nodup) : ∀ x ∈ fieldsOf k, x.lo ≤ getF f x.off ∧ getF f x.off ≤ x.hi := by
  unfold validB at h
  rw [Bool.and_eq_true, Bool.and_eq_true] at h
  have h3 := h.2.2
  subst hk
  cases hr : runF (fieldsOf f.Kind) f with
  | none => rw [hr] at h3; cases h3
  | some g => exact runF_lim (fun x hx => (fields_lim f.Kind x hx).1) hn hr
theorem lst_mem {l : List Fact} {d : Int} {j : Nat} (hj : j < 11) {x : Fact} : x ∈ lstOf (ofB l d) j ↔ eff l d x ∧ x.Gone = false ∧ x.Kind = ((j + 1 : Nat) : Int) := by
  rw [lst_ofB l d hj]
  unfold lstAt
  rw [if_pos (List.mem_singleton.2 rfl), (sortK_sts _).same.mem, List.mem_filter, best_eff]
  simp
theorem eff_valid {l : List Fact} {d : Int} {x : Fact} (h : eff l d x) : validB x = true := keyB_valid h.2.1
theorem eff_key {l : List Fact} {d : Int} {x y : Fact} (hx : eff l d x) (hy : eff l d y) (e : keyB x = keyB y) : x = y := prev_total (eff_valid hx) (eff_valid hy) e (hy.2.2.2 x hx.1 hx.2.2.1) (hx.2.2.2 y hy.1 hy.2.2.1)
theorem proc_place {l : List Fact} {d : Int} {x : Fact} (h : x ∈ (ofB l d).Processes) : (0 ≤ x.Tool ∧ x.Tool < 60) ∧ 0 ≤ x.Chamber ∧ x.Chamber < 4 := by
  have h := (lst_mem (j := 0) (by decide)).1 (show x ∈ lstOf (ofB l d) 0 from h)
  have lim := valid_lim (k := 1) (eff_valid h.1) h.2.2 (by decide)
  have h1 := lim ⟨11, 0, 59⟩ (by simp [fieldsOf, shapeF, fPlace, fIds, num1])
  have h2 := lim ⟨12, 0, 3⟩ (by simp [fieldsOf, shapeF, fPlace, fIds, num1])
  have h1 : 0 ≤ x.Tool ∧ x.Tool ≤ 59 := h1
  have h2 : 0 ≤ x.Chamber ∧ x.Chamber ≤ 3 := h2
  omega
theorem proc_find {l : List Fact} {d : Int} {x : Fact} (h : x ∈ (ofB l d).Processes) : procB (ofB l d) x.ID = some x := by
  unfold procB
  cases e : (ofB l d).Processes.find? (fun f => decide (f.ID = x.ID)) with
  | none =>
    have := List.find?_eq_none.1 e x h
    simp at this
  | some y =>
    have h2 := List.find?_some e
    have h2 : y.ID = x.ID := of_decide_eq_true h2
    have hy := (lst_mem (j := 0) (by decide)).1 (show y ∈ lstOf (ofB l d) 0 from List.mem_of_find?_eq_some e)
    have hx := (lst_mem (j := 0) (by decide)).1 (show x ∈ lstOf (ofB l d) 0 from h)
    rw [eff_key hy.1 hx.1 (key_of_ord (k := 1) (eff_valid hy.1) (eff_valid hx.1) hy.2.2 hx.2.2 (by show (y.ID, (0 : Int)) = (x.ID, 0); rw [h2]))]
theorem runs_mem {b : Base} {t c : Int} {x : Fact} : x ∈ runsB b t c ↔ x ∈ b.Processes ∧ x.Tool = t ∧ x.Chamber = c := by
  unfold runsB
  rw [(sortK_sts _).same.mem, List.mem_filter]
  simp [runP]
theorem runs_len (b : Base) (t c : Int) : (runsB b t c).length = (b.Processes.filter (runP t c)).length := by unfold runsB; exact (sortK_sts _).same.length
theorem runs_order {b : Base} {t c : Int} {i : Nat} {x y : Fact} (hi : 0 < i) (hy : (runsB b t c)[i - 1]? = some y) (hx : (runsB b t c)[i]? = some x) : ¬ x.Time < y.Time := by
  have h : srt runK (runsB b t c) := (sortK_sts (key := runK) (b.Processes.filter (runP t c))).ord
  have h1 := List.pairwise_iff_getElem.1 h
  obtain ⟨l1, e1⟩ := List.getElem?_eq_some_iff.1 hy
  obtain ⟨l2, e2⟩ := List.getElem?_eq_some_iff.1 hx
  have := h1 (i - 1) i l1 l2 (by omega)
  rw [e1, e2] at this
  have := ltK_not.1 this
  unfold runK at this
  dsimp only at this
  omega
def cntP (t c : Int) (f : Fact) : Bool := decide (f.Tool < t) || (decide (f.Tool = t) && decide (f.Chamber < c))
def cnt (l : List Fact) (t c : Nat) : Nat := (l.filter (cntP t c)).length
theorem filter_split {p q r : Fact → Bool} : ∀ {l : List Fact}, (∀ x ∈ l, (r x = (p x || q x)) ∧ (p x && q x) = false) → (l.filter r).length = (l.filter p).length + (l.filter q).length
  | [], _ => rfl
  | x :: l, h => by
    have ih := filter_split (p := p) (q := q) (r := r) (l := l) (fun y hy => h y (List.mem_cons_of_mem _ hy))
    obtain ⟨h1, h2⟩ := h x List.mem_cons_self
    rw [List.filter_cons, List.filter_cons, List.filter_cons, h1]
    cases hp : p x <;> cases hq : q x <;> rw [hp, hq] at h2 <;> simp at h2 ⊢ <;> omega
theorem cnt_step (b : Base) (t c : Nat) : cnt b.Processes t c + (runsB b t c).length = cnt b.Processes t (c + 1) := by
  rw [runs_len]
  unfold cnt
  refine (filter_split fun x _ => ?_).symm
  unfold cntP runP
  constructor
  · rw [Bool.eq_iff_iff]; simp only [Bool.or_eq_true, Bool.and_eq_true, decide_eq_true_eq]; omega
  · rw [Bool.eq_false_iff]; simp only [ne_eq, Bool.or_eq_true, Bool.and_eq_true, decide_eq_true_eq]; omega
theorem filter_len_congr {p q : Fact → Bool} {l : List Fact} (h : ∀ x ∈ l, p x = q x) : (l.filter p).length = (l.filter q).length := by rw [List.filter_congr h]
theorem cnt_row {l : List Fact} {d : Int} (t : Nat) : cnt (ofB l d).Processes t 4 = cnt (ofB l d).Processes (t + 1) 0 := by
  unfold cnt
  refine filter_len_congr fun x hx => ?_
  have := proc_place hx
  unfold cntP
  rw [Bool.eq_iff_iff]; simp only [Bool.or_eq_true, Bool.and_eq_true, decide_eq_true_eq]; omega
theorem cnt_zero {l : List Fact} {d : Int} : cnt (ofB l d).Processes 0 0 = 0 := by
  unfold cnt
  rw [List.length_eq_zero_iff, List.filter_eq_nil_iff]
  intro x hx
  have := proc_place hx
  unfold cntP
  simp only [Bool.or_eq_true, Bool.and_eq_true, decide_eq_true_eq]; omega
theorem cnt_all {l : List Fact} {d : Int} : cnt (ofB l d).Processes 60 0 = (ofB l d).Processes.length := by
  unfold cnt
  rw [List.filter_eq_self.2 fun x hx => ?_]
  have := proc_place hx
  unfold cntP
  simp only [Bool.or_eq_true, Bool.and_eq_true, decide_eq_true_eq]; omega
/-- the loop over the targets -/
def tlStep (r t : Int) (s : Int × Int) (x : Fact) : Int × Int := if decide (x.Recipe = r) && decide (x.Time ≤ t) && decide (s.2 < x.Time) then (x.Value, x.Time) else s
def tlF (r t : Int) (l : List Fact) : Int × Int := l.foldl (tlStep r t) (0, -1)
theorem tl_yes {r t : Int} {s : Int × Int} {x : Fact} (h : (decide (x.Recipe = r) && decide (x.Time ≤ t) && decide (s.2 < x.Time)) = true) : tlStep r t s x = (x.Value, x.Time) := if_pos h
theorem tl_no {r t : Int} {s : Int × Int} {x : Fact} (h : (decide (x.Recipe = r) && decide (x.Time ≤ t) && decide (s.2 < x.Time)) = false) : tlStep r t s x = s := if_neg (by rw [h]; exact Bool.false_ne_true)
theorem tlF_take {r t : Int} {l : List Fact} {k : Nat} {x : Fact} (h : l[k]? = some x) : tlF r t (l.take (k + 1)) = tlStep r t (tlF r t (l.take k)) x := by
  rw [take_succ_of h, tlF, List.foldl_append]; rfl
def TRel (s : Fact × Bool) (u : Int × Int) : Prop := u.1 = s.1.Value ∧ ((s.2 = false ∧ u.2 = -1) ∨ (s.2 = true ∧ u.2 = s.1.Time ∧ 0 ≤ u.2))
theorem tl_rel (r t : Int) : ∀ (l : List Fact) (s : Fact × Bool) (u : Int × Int), (∀ x ∈ l, 0 ≤ x.Time) → TRel s u → TRel (l.foldl (tgStep r t) s) (l.foldl (tlStep r t) u)
  | [], _, _, _, h => h
  | x :: l, s, u, hx, h => by
    rw [List.foldl_cons, List.foldl_cons]
    refine tl_rel r t l _ _ (fun y hy => hx y (List.mem_cons_of_mem _ hy)) ?_
    have h0 := hx x List.mem_cons_self
    obtain ⟨h1, h2⟩ := h
    have e : (!s.2 || decide (s.1.Time < x.Time)) = decide (u.2 < x.Time) := by
      rcases h2 with ⟨a, c⟩ | ⟨a, c, _⟩
      · rw [a, c, decide_eq_true (by omega : (-1 : Int) < x.Time)]; rfl
      · rw [a, c]; rfl
    unfold tgStep tlStep
    rw [e]
    split
    · exact ⟨rfl, .inr ⟨rfl, rfl, h0⟩⟩
    · exact ⟨h1, h2⟩
theorem target_rel (l : List Fact) (d r t : Int) : TRel (tgF r t (ofB l d).Targets) (tlF r t (ofB l d).Targets) := by
  refine tl_rel r t _ _ _ (fun x hx => ?_) ⟨rfl, .inl ⟨rfl, rfl⟩⟩
  have h := (lst_mem (j := 9) (by decide)).1 (show x ∈ lstOf (ofB l d) 9 from hx)
  have lim := valid_lim (k := 10) (eff_valid h.1) h.2.2 (by decide)
  exact (lim ⟨5, 0, 1000000⟩ (by simp [fieldsOf, shapeF, fWhen, fRes, num1])).1

end Go.Wx
namespace Go.Proofs.YtdelcaegofkknaaGreat
open Go.Wx Go.RowKit
theorem trBa31 : True := trivial
end Go.Proofs.YtdelcaegofkknaaGreat

-- Ba32
namespace Go.Wx

def kfL (k : Int) : List Int := if k = 4 then [1, 10] else if k = 5 then [4] else if k = 8 then [2, 13] else if k = 10 then [8, 10] else [0]
def getsL (f : Fact) : List Int := [f.ID, f.Wafer, f.Other, f.Lot, f.Product, f.Tool, f.Chamber, f.Step, f.Recipe, f.Revision, f.Time, f.Until, f.Value, f.Parties]
def getN (f : Fact) (j : Int) : Int := (getsL f).getD j.toNat 0
theorem getN_at {f : Fact} {j : Nat} {y : Int} (h : (getsL f)[j]? = some y) : y = getN f (j : Int) := by
  unfold getN
  rw [Int.toNat_natCast, List.getD_eq_getElem?_getD, h]; rfl
theorem kf_lt {k n : Int} (h : n ∈ kfL k) : 0 ≤ n ∧ n < 14 := by
  unfold kfL at h
  split at h
  · simp at h; omega
  · split at h
    · simp at h; omega
    · split at h
      · simp at h; omega
      · split at h
        · simp at h; omega
        · simp at h; omega
/-- the first difference of two facts, field after field -/
def dStep (a f : Fact) (o n : Int) : Int := if o = 0 then getN f n - getN a n else o
def dF (a f : Fact) (l : List Int) : Int := l.foldl (dStep a f) 0
theorem dF_take {a f : Fact} {l : List Int} {j : Nat} {n : Int} (h : l[j]? = some n) (h0 : dF a f (l.take j) = 0) : dF a f (l.take (j + 1)) = getN f n - getN a n := by
  rw [take_succ_of h, dF, List.foldl_append]
  show dStep a f (dF a f (l.take j)) n = _
  rw [h0]; exact if_pos rfl
theorem dF_stop {a f : Fact} {l : List Int} {j : Nat} (h0 : dF a f (l.take j) ≠ 0) : dF a f (l.take j) = dF a f l := by
  have key : ∀ (r : List Int) (o : Int), o ≠ 0 → r.foldl (dStep a f) o = o := by
    intro r
    induction r with
    | nil => exact fun _ _ => rfl
    | cons x r ih => intro o ho; rw [List.foldl_cons, dStep, if_neg ho]; exact ih o ho
  have e : dF a f l = (l.drop j).foldl (dStep a f) (dF a f (l.take j)) := by
    unfold dF
    rw [← List.foldl_append, List.take_append_drop]
  rw [e, key _ _ h0]
theorem dF_pos {k : Int} {a f : Fact} (h : ltK (ordK k a) (ordK k f) = true) : 0 < dF a f (kfL k) := by
  rw [ltK_iff] at h
  by_cases h4 : k = 4
  · subst h4
    have h : a.Wafer < f.Wafer ∨ (a.Wafer = f.Wafer ∧ a.Time < f.Time) := h
    show 0 < dStep a f (dStep a f 0 1) 10
    have e1 : dStep a f 0 1 = f.Wafer - a.Wafer := rfl
    rw [e1]; unfold dStep
    have e2 : getN f 10 - getN a 10 = f.Time - a.Time := rfl
    rw [e2]; split <;> omega
  · by_cases h5 : k = 5
    · subst h5
      have h : a.Product < f.Product ∨ (a.Product = f.Product ∧ (0 : Int) < 0) := h
      have e1 : dF a f (kfL 5) = f.Product - a.Product := rfl
      rw [e1]; omega
    · by_cases h8 : k = 8
      · subst h8
        have h : a.Other < f.Other ∨ (a.Other = f.Other ∧ a.Parties < f.Parties) := h
        show 0 < dStep a f (dStep a f 0 2) 13
        have e1 : dStep a f 0 2 = f.Other - a.Other := rfl
        rw [e1]; unfold dStep
        have e2 : getN f 13 - getN a 13 = f.Parties - a.Parties := rfl
        rw [e2]; split <;> omega
      · by_cases h10 : k = 10
        · subst h10
          have h : a.Recipe < f.Recipe ∨ (a.Recipe = f.Recipe ∧ a.Time < f.Time) := h
          show 0 < dStep a f (dStep a f 0 8) 10
          have e1 : dStep a f 0 8 = f.Recipe - a.Recipe := rfl
          rw [e1]; unfold dStep
          have e2 : getN f 10 - getN a 10 = f.Time - a.Time := rfl
          rw [e2]; split <;> omega
        · have hk : kfL k = [0] := by unfold kfL; rw [if_neg h4, if_neg h5, if_neg h8, if_neg h10]
          have ho : ∀ g : Fact, ordK k g = (g.ID, 0) := fun g => by unfold ordK; split <;> first | omega | rfl
          rw [ho, ho] at h
          dsimp only at h
          have e1 : dF a f [0] = f.ID - a.ID := rfl
          rw [hk, e1]; omega

end Go.Wx
namespace Go.Proofs.YtdelcaegofkknaaGreat
open Go.Wx Go.RowKit
theorem KeyFields_any (k : Int) (w : World) : Ret Tryz.prog 73 #[vi k] w fun r w' => ∃ ad cp, r = .slice ad (kfL k).length cp ∧ Els w' ad 1 eInt (kfL k) ∧ Up w w' := by
  have hW := Up.refl w
  obtain ⟨w0, rfl⟩ : ∃ w0, w0 = w := ⟨_, rfl⟩
  refine Calls_start (n := 17) (m := 9) Tryz.func73 rfl rfl rfl ?_
  refine CW.seq (CW.region (LW.p (PEv.assign (.const _)) rfl rfl rfl (LW.nil (KW.then (CW.seq (CW.seq (CW.region (LW.p (PEv.move (.tmp rfl)) rfl rfl rfl (LW.nil (KW.then (CW.block (CW.seq (CW.region ?_)))))))))))))
  refine LW.p (PEv.eql (.tmp rfl) (.const _)) rfl rfl rfl ?_
  refine LW.p (PEv.assign (.tmp rfl)) rfl rfl rfl (LW.nil (KW.then ?_))
  refine CW.cond (.tmp rfl) (fun h4 => ?_) (fun h4 => ?_)
  ·first | replace h4 := of_decide_eq_true h4 | replace h4 := of_decide_eq_false h4 | skip
   have hkf : kfL k = [1, 10] := if_pos h4
   refine CW.seq (CW.region ?_)
   refine LW.r (REv.buildSlice (xs := [1, 10]) (enc := eInt) (mk := vi) Tryz.underlying92 Tryz.sizeOf3 Tryz.zeroValue3 rfl (by decide) (fun _ => rfl) (fun _ => rfl) (.cons (.const _) (.cons (.const _) .nil)) rfl) rfl rfl rfl rfl ?_
   rintro _ w1 ⟨B6, cB6, rfl, NB6, yB6, xB6⟩
   have eB6 := NB6.at_
   have zB6 := NB6.size
   replace hW := hW.up NB6.up
   have hB6 := NB6.blk
   have hE6 := xB6
   refine LW.p (PEv.assign (.tmp rfl)) rfl rfl rfl (LW.nil (KW.then (CW.ret (KW.block_ret (KW.then_ret ?_)))))
   refine KW.ret1 rfl rfl ⟨_, rfl, ?_⟩
   rw [hkf]
   first | exact ⟨_, _, rfl, hE6, hW⟩ | exact ⟨_, _, rfl, hE9, hW⟩ | exact ⟨_, _, rfl, hE12, hW⟩ | exact ⟨_, _, rfl, hE15, hW⟩ | exact ⟨_, _, rfl, hE16, hW⟩
  ·first | replace h4 := of_decide_eq_true h4 | replace h4 := of_decide_eq_false h4 | skip
   refine CW.seq (CW.region ?_)
   refine LW.p (PEv.eql (.tmp rfl) (.const _)) rfl rfl rfl ?_
   refine LW.p (PEv.assign (.tmp rfl)) rfl rfl rfl (LW.nil (KW.then ?_))
   refine CW.cond (.tmp rfl) (fun h7 => ?_) (fun h7 => ?_)
   ·first | replace h7 := of_decide_eq_true h7 | replace h7 := of_decide_eq_false h7 | skip
    have hkf : kfL k = [4] := (if_neg h4).trans (if_pos h7)
    refine CW.seq (CW.region ?_)
    refine LW.r (REv.buildSlice (xs := [4]) (enc := eInt) (mk := vi) Tryz.underlying92 Tryz.sizeOf3 Tryz.zeroValue3 rfl (by decide) (fun _ => rfl) (fun _ => rfl) (.cons (.const _) .nil) rfl) rfl rfl rfl rfl ?_
    rintro _ w2 ⟨B9, cB9, rfl, NB9, yB9, xB9⟩
    have eB9 := NB9.at_
    have zB9 := NB9.size
    replace hW := hW.up NB9.up
    have hB9 := NB9.blk
    have hE9 := xB9
    refine LW.p (PEv.assign (.tmp rfl)) rfl rfl rfl (LW.nil (KW.then (CW.ret (KW.block_ret (KW.then_ret ?_)))))
    refine KW.ret1 rfl rfl ⟨_, rfl, ?_⟩
    rw [hkf]
    first | exact ⟨_, _, rfl, hE6, hW⟩ | exact ⟨_, _, rfl, hE9, hW⟩ | exact ⟨_, _, rfl, hE12, hW⟩ | exact ⟨_, _, rfl, hE15, hW⟩ | exact ⟨_, _, rfl, hE16, hW⟩
   ·first | replace h7 := of_decide_eq_true h7 | replace h7 := of_decide_eq_false h7 | skip
    refine CW.seq (CW.region ?_)
    refine LW.p (PEv.eql (.tmp rfl) (.const _)) rfl rfl rfl ?_
    refine LW.p (PEv.assign (.tmp rfl)) rfl rfl rfl (LW.nil (KW.then ?_))
    refine CW.cond (.tmp rfl) (fun h10 => ?_) (fun h10 => ?_)
    ·first | replace h10 := of_decide_eq_true h10 | replace h10 := of_decide_eq_false h10 | skip
     have hkf : kfL k = [2, 13] := (if_neg h4).trans ((if_neg h7).trans (if_pos h10))
     refine CW.seq (CW.region ?_)
     refine LW.r (REv.buildSlice (xs := [2, 13]) (enc := eInt) (mk := vi) Tryz.underlying92 Tryz.sizeOf3 Tryz.zeroValue3 rfl (by decide) (fun _ => rfl) (fun _ => rfl) (.cons (.const _) (.cons (.const _) .nil)) rfl) rfl rfl rfl rfl ?_
     rintro _ w3 ⟨B12, cB12, rfl, NB12, yB12, xB12⟩
     have eB12 := NB12.at_
     have zB12 := NB12.size
     replace hW := hW.up NB12.up
     have hB12 := NB12.blk
     have hE12 := xB12
     refine LW.p (PEv.assign (.tmp rfl)) rfl rfl rfl (LW.nil (KW.then (CW.ret (KW.block_ret (KW.then_ret ?_)))))
     refine KW.ret1 rfl rfl ⟨_, rfl, ?_⟩
     rw [hkf]
     first | exact ⟨_, _, rfl, hE6, hW⟩ | exact ⟨_, _, rfl, hE9, hW⟩ | exact ⟨_, _, rfl, hE12, hW⟩ | exact ⟨_, _, rfl, hE15, hW⟩ | exact ⟨_, _, rfl, hE16, hW⟩
    ·first | replace h10 := of_decide_eq_true h10 | replace h10 := of_decide_eq_false h10 | skip
     refine CW.seq (CW.region ?_)
     refine LW.p (PEv.eql (.tmp rfl) (.const _)) rfl rfl rfl ?_
     refine LW.p (PEv.assign (.tmp rfl)) rfl rfl rfl (LW.nil (KW.then ?_))
     refine CW.cond (.tmp rfl) (fun h13 => ?_) (fun h13 => ?_)
     ·first | replace h13 := of_decide_eq_true h13 | replace h13 := of_decide_eq_false h13 | skip
      have hkf : kfL k = [8, 10] := (if_neg h4).trans ((if_neg h7).trans ((if_neg h10).trans (if_pos h13)))
      refine CW.seq (CW.region ?_)
      refine LW.r (REv.buildSlice (xs := [8, 10]) (enc := eInt) (mk := vi) Tryz.underlying92 Tryz.sizeOf3 Tryz.zeroValue3 rfl (by decide) (fun _ => rfl) (fun _ => rfl) (.cons (.const _) (.cons (.const _) .nil)) rfl) rfl rfl rfl rfl ?_
      rintro _ w4 ⟨B15, cB15, rfl, NB15, yB15, xB15⟩
      have eB15 := NB15.at_
      have zB15 := NB15.size
      replace hW := hW.up NB15.up
      have hB15 := NB15.blk
      have hE15 := xB15
      refine LW.p (PEv.assign (.tmp rfl)) rfl rfl rfl (LW.nil (KW.then (CW.ret (KW.block_ret (KW.then_ret ?_)))))
      refine KW.ret1 rfl rfl ⟨_, rfl, ?_⟩
      rw [hkf]
      first | exact ⟨_, _, rfl, hE6, hW⟩ | exact ⟨_, _, rfl, hE9, hW⟩ | exact ⟨_, _, rfl, hE12, hW⟩ | exact ⟨_, _, rfl, hE15, hW⟩ | exact ⟨_, _, rfl, hE16, hW⟩
     ·first | replace h13 := of_decide_eq_true h13 | replace h13 := of_decide_eq_false h13 | skip
      have hkf : kfL k = [0] := (if_neg h4).trans ((if_neg h7).trans ((if_neg h10).trans (if_neg h13)))
      refine CW.skip (KW.inBlock (KW.then (CW.seq (CW.region ?_))))
      refine LW.r (REv.buildSlice (xs := [0]) (enc := eInt) (mk := vi) Tryz.underlying92 Tryz.sizeOf3 Tryz.zeroValue3 rfl (by decide) (fun _ => rfl) (fun _ => rfl) (.cons (.const _) .nil) rfl) rfl rfl rfl rfl ?_
      rintro _ w5 ⟨B16, cB16, rfl, NB16, yB16, xB16⟩
      have eB16 := NB16.at_
      have zB16 := NB16.size
      replace hW := hW.up NB16.up
      have hB16 := NB16.blk
      have hE16 := xB16
      refine LW.p (PEv.assign (.tmp rfl)) rfl rfl rfl (LW.nil (KW.then (CW.ret ?_)))
      refine KW.ret1 rfl rfl ⟨_, rfl, ?_⟩
      rw [hkf]
      first | exact ⟨_, _, rfl, hE6, hW⟩ | exact ⟨_, _, rfl, hE9, hW⟩ | exact ⟨_, _, rfl, hE12, hW⟩ | exact ⟨_, _, rfl, hE15, hW⟩ | exact ⟨_, _, rfl, hE16, hW⟩

theorem Get_any (f : Fact) (j : Nat) (w : World) (hj : j < 14) : Ret Tryz.prog 77 #[.agg f.cells, vi (j : Int)] w fun r w' => r = vi (getN f (j : Int)) ∧ Up w w' := by
  have hW := Up.refl w
  obtain ⟨w0, rfl⟩ : ∃ w0, w0 = w := ⟨_, rfl⟩
  have hgl : (getsL f).length = 14 := rfl
  refine Calls_start (n := 37) (m := 9) Tryz.func77 rfl rfl rfl ?_
  refine CW.seq (CW.region ?_)
  refine LW.r (REv.boxA (.tmp rfl)) rfl rfl rfl rfl ?_
  rintro _ w1 ⟨B2, rfl, NB2⟩
  have eB2 := NB2.at_
  have zB2 := NB2.size
  replace hW := hW.up NB2.up
  have hB2 := NB2.blk
  refine LW.p (PEv.assign (.const _)) rfl rfl rfl (LW.nil (KW.then (CW.seq (CW.region ?_))))
  refine LW.p (PEv.fieldAddr (off := 1) Tryz.underlying35 rfl rfl Tryz.sizeOf3 rfl (.tmp rfl)) rfl rfl rfl ?_
  refine LW.p (PEv.load Tryz.isAgg3 (.tmp rfl) (hB2.celln rfl)) rfl rfl rfl ?_
  refine LW.p (PEv.fieldAddr (off := 7) Tryz.underlying35 rfl rfl Tryz.sizeOf3 rfl (.tmp rfl)) rfl rfl rfl ?_
  refine LW.p (PEv.load Tryz.isAgg3 (.tmp rfl) (hB2.celln rfl)) rfl rfl rfl ?_
  refine LW.p (PEv.fieldAddr (off := 8) Tryz.underlying35 rfl rfl Tryz.sizeOf3 rfl (.tmp rfl)) rfl rfl rfl ?_
  refine LW.p (PEv.load Tryz.isAgg3 (.tmp rfl) (hB2.celln rfl)) rfl rfl rfl ?_
  refine LW.p (PEv.fieldAddr (off := 9) Tryz.underlying35 rfl rfl Tryz.sizeOf3 rfl (.tmp rfl)) rfl rfl rfl ?_
  refine LW.p (PEv.load Tryz.isAgg3 (.tmp rfl) (hB2.celln rfl)) rfl rfl rfl ?_
  refine LW.p (PEv.fieldAddr (off := 10) Tryz.underlying35 rfl rfl Tryz.sizeOf3 rfl (.tmp rfl)) rfl rfl rfl ?_
  refine LW.p (PEv.load Tryz.isAgg3 (.tmp rfl) (hB2.celln rfl)) rfl rfl rfl ?_
  refine LW.p (PEv.fieldAddr (off := 11) Tryz.underlying35 rfl rfl Tryz.sizeOf3 rfl (.tmp rfl)) rfl rfl rfl ?_
  refine LW.p (PEv.load Tryz.isAgg3 (.tmp rfl) (hB2.celln rfl)) rfl rfl rfl ?_
  refine LW.p (PEv.fieldAddr (off := 12) Tryz.underlying35 rfl rfl Tryz.sizeOf3 rfl (.tmp rfl)) rfl rfl rfl ?_
  refine LW.p (PEv.load Tryz.isAgg3 (.tmp rfl) (hB2.celln rfl)) rfl rfl rfl ?_
  refine LW.p (PEv.fieldAddr (off := 13) Tryz.underlying35 rfl rfl Tryz.sizeOf3 rfl (.tmp rfl)) rfl rfl rfl ?_
  refine LW.p (PEv.load Tryz.isAgg3 (.tmp rfl) (hB2.celln rfl)) rfl rfl rfl ?_
  refine LW.p (PEv.fieldAddr (off := 14) Tryz.underlying35 rfl rfl Tryz.sizeOf3 rfl (.tmp rfl)) rfl rfl rfl ?_
  refine LW.p (PEv.load Tryz.isAgg3 (.tmp rfl) (hB2.celln rfl)) rfl rfl rfl ?_
  refine LW.p (PEv.fieldAddr (off := 15) Tryz.underlying35 rfl rfl Tryz.sizeOf3 rfl (.tmp rfl)) rfl rfl rfl ?_
  refine LW.p (PEv.load Tryz.isAgg3 (.tmp rfl) (hB2.celln rfl)) rfl rfl rfl ?_
  refine LW.p (PEv.fieldAddr (off := 5) Tryz.underlying35 rfl rfl Tryz.sizeOf3 rfl (.tmp rfl)) rfl rfl rfl ?_
  refine LW.p (PEv.load Tryz.isAgg3 (.tmp rfl) (hB2.celln rfl)) rfl rfl rfl ?_
  refine LW.p (PEv.fieldAddr (off := 6) Tryz.underlying35 rfl rfl Tryz.sizeOf3 rfl (.tmp rfl)) rfl rfl rfl ?_
  refine LW.p (PEv.load Tryz.isAgg3 (.tmp rfl) (hB2.celln rfl)) rfl rfl rfl ?_
  refine LW.p (PEv.fieldAddr (off := 16) Tryz.underlying35 rfl rfl Tryz.sizeOf3 rfl (.tmp rfl)) rfl rfl rfl ?_
  refine LW.p (PEv.load Tryz.isAgg3 (.tmp rfl) (hB2.celln rfl)) rfl rfl rfl ?_
  refine LW.p (PEv.fieldAddr (off := 17) Tryz.underlying35 rfl rfl Tryz.sizeOf3 rfl (.tmp rfl)) rfl rfl rfl ?_
  refine LW.p (PEv.load Tryz.isAgg3 (.tmp rfl) (hB2.celln rfl)) rfl rfl rfl ?_
  refine LW.r (REv.buildSlice (xs := getsL f) (enc := eInt) (mk := vi) Tryz.underlying92 Tryz.sizeOf3 Tryz.zeroValue3 rfl (by decide) (fun _ => rfl) (fun _ => rfl) (.cons (.tmp rfl) (.cons (.tmp rfl) (.cons (.tmp rfl) (.cons (.tmp rfl) (.cons (.tmp rfl) (.cons (.tmp rfl) (.cons (.tmp rfl) (.cons (.tmp rfl) (.cons (.tmp rfl) (.cons (.tmp rfl) (.cons (.tmp rfl) (.cons (.tmp rfl) (.cons (.tmp rfl) (.cons (.tmp rfl) .nil)))))))))))))) rfl) rfl rfl rfl rfl ?_
  rintro _ w2 ⟨B33, cB33, rfl, NB33, yB33, xB33⟩
  have eB33 := NB33.at_
  have zB33 := NB33.size
  replace hW := hW.up NB33.up
  replace hB2 := hB2.up NB33.up
  have hB33 := NB33.blk
  have hE33 := xB33
  refine LW.p (PEv.move (.tmp rfl)) rfl rfl rfl ?_
  obtain ⟨y, hy⟩ := getElem?_of_lt (xs := getsL f) (i := j) (by omega)
  obtain ⟨By, oy, ay, hcy⟩ := hE33 _ y hy
  refine LW.p (PEv.indexAddr' Tryz.underlying92 Tryz.sizeOf3 (.tmp rfl) (.tmp rfl) (by omega) ay) rfl rfl rfl ?_
  refine LW.p (PEv.load Tryz.isAgg3 (.tmp rfl) (hcy.nth (j := 0) rfl)) rfl rfl rfl ?_
  refine LW.p (PEv.assign (.tmp rfl)) rfl rfl rfl (LW.nil (KW.then (CW.ret ?_)))
  refine KW.ret1 rfl rfl ⟨_, rfl, ?_⟩
  exact ⟨by rw [getN_at hy], hW⟩

end Go.Proofs.YtdelcaegofkknaaGreat

-- Ba33
namespace Go.Wx

theorem eqb_eq {f g : Fact} (h : Fact.eqb f g = true) : f = g := by
  obtain ⟨h1, h2⟩ := eqb_get h
  simp only [Fact.eqb, Bool.and_eq_true, beq_iff_eq] at h
  obtain ⟨a0, _, a2, a3, a4, _⟩ := h
  exact fact_ext a0 a2 a3 a4 (text_inj h2) h1
theorem eqb_iff {f g : Fact} : Fact.eqb f g = true ↔ f = g := ⟨eqb_eq, fun e => by rw [e]; exact eqb_refl g⟩
theorem lst_nodup (l : List Fact) (d : Int) {j : Nat} (hj : j < 11) : (lstOf (ofB l d) j).Nodup := by
  rw [lst_ofB l d hj]
  unfold lstAt
  rw [if_pos (List.mem_singleton.2 rfl)]
  exact ((sortK_sts _).same.perm.nodup_iff).2 ((factsM_nodup l d).filter _)
theorem lst_mem2 {l : List Fact} {d : Int} {j : Nat} (hj : j < 11) {x : Fact} : x ∈ lstOf (ofB l d) j ↔ eff l d x ∧ x.Gone = false ∧ x.Kind = ((j + 1 : Nat) : Int) := by
  rw [lst_ofB l d hj]
  unfold lstAt
  rw [if_pos (List.mem_singleton.2 rfl), (sortK_sts _).same.mem, List.mem_filter, best_eff]
  simp
theorem effv {l : List Fact} {d : Int} {x : Fact} (h : eff l d x) : validB x = true := keyB_valid h.2.1
theorem effk {l : List Fact} {d : Int} {x y : Fact} (hx : eff l d x) (hy : eff l d y) (e : keyB x = keyB y) : x = y := prev_total (effv hx) (effv hy) e (hy.2.2.2 x hx.1 hx.2.2.1) (hx.2.2.2 y hy.1 hy.2.2.1)
theorem lst_lt {l : List Fact} {d : Int} {j i : Nat} (hj : j < 11) {a f : Fact} (hi : 0 < i) (ha : (lstOf (ofB l d) j)[i - 1]? = some a) (hf : (lstOf (ofB l d) j)[i]? = some f) : ltK (ordK ((j + 1 : Nat) : Int) a) (ordK ((j + 1 : Nat) : Int) f) = true := by
  obtain ⟨l1, e1⟩ := List.getElem?_eq_some_iff.1 ha
  obtain ⟨l2, e2⟩ := List.getElem?_eq_some_iff.1 hf
  have hs : srt (ordK ((j + 1 : Nat) : Int)) (lstOf (ofB l d) j) := by
    rw [lst_ofB l d hj]; unfold lstAt; rw [if_pos (List.mem_singleton.2 rfl)]; exact (sortK_sts _).ord
  have h1 := List.pairwise_iff_getElem.1 hs (i - 1) i l1 l2 (by omega)
  rw [e1, e2] at h1
  have hne := List.pairwise_iff_getElem.1 (lst_nodup l d hj) (i - 1) i l1 l2 (by omega)
  rw [e1, e2] at hne
  cases h : ltK (ordK ((j + 1 : Nat) : Int) a) (ordK ((j + 1 : Nat) : Int) f) with
  | true => rfl
  | false =>
    have ma := (lst_mem2 hj).1 (List.mem_of_getElem? ha)
    have mf := (lst_mem2 hj).1 (List.mem_of_getElem? hf)
    exact absurd (effk ma.1 mf.1 (key_of_ord (effv ma.1) (effv mf.1) ma.2.2 mf.2.2 (eqK_of h h1))) hne
theorem get_in {f : Fact} (h : validB f = true) : ∀ j : Nat, j < 14 → inW (getN f (j : Int)) := by
  obtain ⟨h1, h2, _⟩ := valid_parts h
  have key : ∀ o, okOff o = true → inW (getF f o) := fun o ho => by
    by_cases hx : ∃ x ∈ fieldsOf f.Kind, x.off = o
    · obtain ⟨x, hx, rfl⟩ := hx; exact h2 x hx
    · rw [h1 o ho (fun x a b => hx ⟨x, a, b⟩)]; exact ⟨by omega, by omega⟩
  intro j hj
  have hc : j = 0 ∨ j = 1 ∨ j = 2 ∨ j = 3 ∨ j = 4 ∨ j = 5 ∨ j = 6 ∨ j = 7 ∨ j = 8 ∨ j = 9 ∨ j = 10 ∨ j = 11 ∨ j = 12 ∨ j = 13 := by omega
  rcases hc with rfl | rfl | rfl | rfl | rfl | rfl | rfl | rfl | rfl | rfl | rfl | rfl | rfl | rfl
  · exact key 1 rfl
  · exact key 7 rfl
  · exact key 8 rfl
  · exact key 9 rfl
  · exact key 10 rfl
  · exact key 11 rfl
  · exact key 12 rfl
  · exact key 13 rfl
  · exact key 14 rfl
  · exact key 15 rfl
  · exact key 5 rfl
  · exact key 6 rfl
  · exact key 16 rfl
  · exact key 17 rfl
def cl (b : Base) : Nat → Nat
  | 0 => 0
  | k + 1 => cl b k + (lstOf b k).length
def beats (d : Int) (i : Nat) (f : Fact) (k : Nat) (g : Fact) : Bool := (decide (g.Day ≤ d) && prevB g f) || (decide ((k : Int) < (i : Int)) && Fact.eqb g f)
def bst (L : List Fact) (d : Int) (i : Nat) (f : Fact) : Nat → Bool
  | 0 => true
  | k + 1 => bst L d i f k && !(match L[k]? with | none => false | some g => beats d i f k g)
theorem bst_yes {L : List Fact} {d : Int} {i k : Nat} {f g : Fact} (h : L[k]? = some g) (hb : beats d i f k g = true) : bst L d i f (k + 1) = false := by
  unfold bst; rw [h]; dsimp only; rw [hb]; simp
theorem bst_no {L : List Fact} {d : Int} {i k : Nat} {f g : Fact} (h : L[k]? = some g) (hb : beats d i f k g = false) : bst L d i f (k + 1) = bst L d i f k := by
  rw [bst, h]; dsimp only; rw [hb]; simp
theorem bst_iff {L : List Fact} {d : Int} {i : Nat} {f : Fact} : ∀ {n : Nat}, bst L d i f n = true ↔ ∀ k, k < n → ∀ g, L[k]? = some g → beats d i f k g = false
  | 0 => ⟨fun _ k hk => by omega, fun _ => rfl⟩
  | n + 1 => by
    rw [bst, Bool.and_eq_true, bst_iff]
    constructor
    · rintro ⟨h1, h2⟩ k hk g hg
      by_cases e : k = n
      · subst e; rw [hg] at h2; simpa using h2
      · exact h1 k (by omega) g hg
    · intro h
      refine ⟨fun k hk g hg => h k (by omega) g hg, ?_⟩
      cases e : L[n]? with
      | none => rfl
      | some g => dsimp only; rw [h n (by omega) g e]; rfl
def kSkip (d : Int) (f : Fact) : Bool := (decide (keyB f = []) || decide (d < f.Day)) || f.Gone
def kOk (L : List Fact) (d : Int) (i : Nat) : Bool := match L[i]? with
  | none => false
  | some f => !kSkip d f && bst L d i f L.length
def kc (L : List Fact) (d : Int) : Nat → Nat
  | 0 => 0
  | i + 1 => kc L d i + if kOk L d i then 1 else 0
theorem kc_le (L : List Fact) (d : Int) : ∀ n, kc L d n ≤ n
  | 0 => Nat.le_refl _
  | n + 1 => by have := kc_le L d n; unfold kc; split <;> omega
theorem kc_skip {L : List Fact} {d : Int} {i : Nat} {f : Fact} (h : L[i]? = some f) (hs : kSkip d f = true) : kc L d (i + 1) = kc L d i := by
  have : kOk L d i = false := by unfold kOk; rw [h]; dsimp only; rw [hs]; rfl
  rw [kc, this]; rfl
theorem kc_count {L : List Fact} {d : Int} {i : Nat} {f : Fact} (h : L[i]? = some f) (hs : kSkip d f = false) : kc L d (i + 1) = kc L d i + if bst L d i f L.length then 1 else 0 := by
  have : kOk L d i = bst L d i f L.length := by unfold kOk; rw [h]; dsimp only; rw [hs]; rfl
  rw [kc, this]
def inE (L : List Fact) (d : Int) : List Fact := (factsM (bestL L d)).filter fun f => !f.Gone
theorem inE_mem {L : List Fact} {d : Int} {f : Fact} : f ∈ inE L d ↔ eff L d f ∧ f.Gone = false := by unfold inE; rw [List.mem_filter, best_eff]; simp
theorem fsplit {p q r : Fact → Bool} : ∀ {l : List Fact}, (∀ x ∈ l, (r x = (p x || q x)) ∧ (p x && q x) = false) → (l.filter r).length = (l.filter p).length + (l.filter q).length
  | [], _ => rfl
  | x :: l, h => by
    have ih := fsplit (p := p) (q := q) (r := r) (l := l) (fun y hy => h y (List.mem_cons_of_mem _ hy))
    obtain ⟨h1, h2⟩ := h x List.mem_cons_self
    rw [List.filter_cons, List.filter_cons, List.filter_cons, h1]
    cases hp : p x <;> cases hq : q x <;> rw [hp, hq] at h2 <;> simp at h2 ⊢ <;> omega
theorem cl_eq (L : List Fact) (d : Int) : ∀ n, n ≤ 11 → cl (ofB L d) n = ((inE L d).filter fun f => decide (f.Kind ≤ (n : Int))).length
  | 0, _ => by
    show 0 = _
    rw [eq_comm, List.length_eq_zero_iff, List.filter_eq_nil_iff]
    intro x hx
    have := valid_kind (effv (inE_mem.1 hx).1)
    simp only [decide_eq_true_eq]; omega
  | n + 1, hn => by
    rw [cl, cl_eq L d n (by omega)]
    have e : (lstOf (ofB L d) n).length = ((inE L d).filter fun f => decide (f.Kind = ((n + 1 : Nat) : Int))).length := by
      rw [lst_ofB L d (by omega)]
      unfold lstAt
      rw [if_pos (List.mem_singleton.2 rfl), (sortK_sts _).same.length]
      unfold inE
      rw [List.filter_filter]
      congr 1
      apply List.filter_congr
      intro x _
      rw [Bool.and_comm]
    rw [e]
    refine (fsplit fun x _ => ⟨?_, ?_⟩).symm
    · rw [Bool.eq_iff_iff]; simp only [Bool.or_eq_true, decide_eq_true_eq]; omega
    · rw [Bool.eq_false_iff]; simp only [ne_eq, Bool.and_eq_true, decide_eq_true_eq]; omega
theorem cl_le (L : List Fact) (d : Int) {n : Nat} (h : n ≤ 11) : cl (ofB L d) n ≤ L.length := by
  rw [cl_eq L d n h]
  exact Nat.le_trans (List.length_filter_le _ _) (Nat.le_trans (List.length_filter_le _ _) (factsM_len L d))
theorem kf_len (k : Int) : (kfL k).length ≤ 2 := by
  unfold kfL
  split
  · exact Nat.le_refl _
  · split
    · exact Nat.le_of_ble_eq_true rfl
    · split
      · exact Nat.le_refl _
      · split
        · exact Nat.le_refl _
        · exact Nat.le_of_ble_eq_true rfl
theorem one_of {f : Fact} : ∀ {E : List Fact}, E.Nodup → (E.filter fun x => Fact.eqb x f).length = if E.any (fun x => Fact.eqb x f) then 1 else 0
  | [], _ => rfl
  | x :: E, h => by
    rw [List.nodup_cons] at h
    have ih := one_of (f := f) h.2
    rw [List.filter_cons, List.any_cons]
    by_cases e : Fact.eqb x f = true
    · rw [if_pos e, e, List.length_cons, ih]
      have : E.any (fun x => Fact.eqb x f) = false := by
        rw [List.any_eq_false]
        intro y hy hq
        exact h.1 (by rw [eqb_eq e, ← eqb_eq hq]; exact hy)
      rw [this]; rfl
    · rw [if_neg e, ih, Bool.eq_false_iff.2 e]; rfl
theorem kc_eq (L : List Fact) (d : Int) : ∀ n, n ≤ L.length → kc L d n = ((inE L d).filter fun f => (L.take n).any fun g => Fact.eqb g f).length
  | 0, _ => by
    show 0 = _
    rw [eq_comm, List.length_eq_zero_iff, List.filter_eq_nil_iff]
    intro x _
    simp
  | n + 1, hn => by
    obtain ⟨f, hf⟩ := getElem?_of_lt (xs := L) (i := n) (by omega)
    have nd : (inE L d).Nodup := (factsM_nodup L d).filter _
    rw [kc, kc_eq L d n (by omega)]
    have ht : ∀ x, ((L.take (n + 1)).any fun g => Fact.eqb g x) = (((L.take n).any fun g => Fact.eqb g x) || Fact.eqb f x) := fun x => by
      rw [take_succ_of hf, List.any_append]; simp
    have comm : ∀ x, Fact.eqb f x = Fact.eqb x f := fun x => by rw [Bool.eq_iff_iff, eqb_iff, eqb_iff]; exact eq_comm
    have key : (if kOk L d n then 1 else 0) = ((inE L d).filter fun x => !((L.take n).any fun g => Fact.eqb g x) && Fact.eqb x f).length := by
      by_cases hin : (L.take n).any (fun g => Fact.eqb g f) = true
      · have h0 : kOk L d n = false := by
          obtain ⟨g, hg, e⟩ := List.any_eq_true.1 hin
          obtain ⟨k, hk⟩ := List.mem_iff_getElem?.1 hg
          have hkn : k < n := by
            have := (List.getElem?_eq_some_iff.1 hk).1
            rw [List.length_take] at this; omega
          rw [List.getElem?_take_of_lt hkn] at hk
          unfold kOk; rw [hf]; dsimp only
          rw [Bool.and_eq_false_iff]
          right
          rw [Bool.eq_false_iff]
          intro hb
          have := bst_iff.1 hb k (by omega) g hk
          unfold beats at this
          rw [e, decide_eq_true (by omega : (k : Int) < (n : Int))] at this
          simp at this
        rw [h0, eq_comm]
        rw [if_neg Bool.false_ne_true, List.length_eq_zero_iff, List.filter_eq_nil_iff]
        intro x _ hx
        rw [Bool.and_eq_true] at hx
        rw [eqb_eq hx.2, hin] at hx
        simp at hx
      · have hin := Bool.eq_false_iff.2 hin
        have e1 : ((inE L d).filter fun x => !((L.take n).any fun g => Fact.eqb g x) && Fact.eqb x f) = (inE L d).filter fun x => Fact.eqb x f := by
          apply List.filter_congr
          intro x _
          by_cases e : Fact.eqb x f = true
          · rw [eqb_eq e, hin, eqb_refl]; rfl
          · rw [Bool.eq_false_iff.2 e, Bool.and_false]
        rw [e1, one_of nd]
        have e2 : kOk L d n = (inE L d).any (fun x => Fact.eqb x f) := by
          rw [Bool.eq_iff_iff, List.any_eq_true]
          constructor
          · intro hk
            unfold kOk at hk
            rw [hf] at hk
            dsimp only at hk
            rw [Bool.and_eq_true] at hk
            have h1 : kSkip d f = false := by simpa using hk.1
            unfold kSkip at h1
            rw [Bool.or_eq_false_iff, Bool.or_eq_false_iff] at h1
            have a1 := of_decide_eq_false h1.1.1
            have a2 := of_decide_eq_false h1.1.2
            refine ⟨f, inE_mem.2 ⟨⟨List.mem_of_getElem? hf, a1, by omega, fun g hg hd => ?_⟩, h1.2⟩, eqb_refl f⟩
            obtain ⟨k, hk'⟩ := List.mem_iff_getElem?.1 hg
            have := bst_iff.1 hk.2 k (List.getElem?_eq_some_iff.1 hk').1 g hk'
            unfold beats at this
            rw [Bool.or_eq_false_iff, decide_eq_true hd] at this
            simpa using this.1
          · rintro ⟨x, hx, e⟩
            rw [eqb_eq e] at hx
            obtain ⟨⟨_, b2, b3, b4⟩, b5⟩ := inE_mem.1 hx
            unfold kOk
            rw [hf]
            dsimp only
            rw [Bool.and_eq_true]
            refine ⟨by unfold kSkip; rw [decide_eq_false b2, decide_eq_false (by omega : ¬ d < f.Day), b5]; rfl, bst_iff.2 fun k hk g hg => ?_⟩
            unfold beats
            rw [Bool.or_eq_false_iff]
            constructor
            · by_cases hd : g.Day ≤ d
              · rw [b4 g (List.mem_of_getElem? hg) hd, Bool.and_false]
              · rw [decide_eq_false hd, Bool.false_and]
            · by_cases hkn : (k : Int) < (n : Int)
              · rw [Bool.and_eq_false_iff]; right
                rw [Bool.eq_false_iff]
                intro e'
                have : (L.take n).any (fun g => Fact.eqb g f) = true := List.any_eq_true.2 ⟨g, List.mem_of_getElem? (i := k) (by rw [List.getElem?_take_of_lt (by omega)]; exact hg), e'⟩
                rw [hin] at this; cases this
              · rw [decide_eq_false hkn, Bool.false_and]
        rw [e2]
    rw [key]
    refine (fsplit fun x _ => ⟨?_, ?_⟩).symm
    · rw [ht, comm]
      cases (L.take n).any (fun g => Fact.eqb g x) <;> simp
    · cases (L.take n).any (fun g => Fact.eqb g x) <;> simp
theorem count_eq (L : List Fact) (d : Int) : cl (ofB L d) 11 = kc L d L.length := by
  rw [cl_eq L d 11 (Nat.le_refl _), kc_eq L d _ (Nat.le_refl _), List.take_length]
  congr 1
  apply List.filter_congr
  intro x hx
  have h1 := (inE_mem.1 hx).1
  have h2 := valid_kind (effv h1)
  rw [decide_eq_true (by omega : x.Kind ≤ ((11 : Nat) : Int)), eq_comm, List.any_eq_true]
  exact ⟨x, h1.1, eqb_refl x⟩

end Go.Wx
namespace Go.Proofs.YtdelcaegofkknaaGreat
open Go.Wx Go.RowKit
theorem trBa33 : True := trivial
end Go.Proofs.YtdelcaegofkknaaGreat

-- Ba34
namespace Go.Wx

def allN (b : Base) : Nat → List Fact
  | 0 => []
  | k + 1 => allN b k ++ lstOf b k
theorem allN_len {b : Base} (h : short b) : ∀ k, (allN b k).length ≤ k * 100000
  | 0 => Nat.le_refl _
  | k + 1 => by
    have h1 := allN_len h k
    have h2 := h k
    rw [allN, List.length_append]; omega

end Go.Wx
namespace Go.Proofs.YtdelcaegofkknaaGreat
open Go.Wx Go.RowKit
theorem trBa34 : True := trivial
end Go.Proofs.YtdelcaegofkknaaGreat

-- Ba35
namespace Go.Wx

/-! ### what the reference's Of gathers (for seat .Z: BaseMatchesReference) -/
def qL (L : List Fact) (d : Int) : Nat → List Fact
  | 0 => []
  | i + 1 => qL L d i ++ (match L[i]? with | some f => if kOk L d i then [f] else [] | none => [])
theorem kOk_iff {L : List Fact} {d : Int} {i : Nat} {f : Fact} (hf : L[i]? = some f) : kOk L d i = true ↔ (f ∈ inE L d ∧ ∀ k, k < i → L[k]? ≠ some f) := by
  have hi := (List.getElem?_eq_some_iff.1 hf).1
  unfold kOk
  rw [hf]
  dsimp only
  rw [Bool.and_eq_true, Bool.not_eq_true', bst_iff]
  unfold kSkip
  rw [Bool.or_eq_false_iff, Bool.or_eq_false_iff, decide_eq_false_iff_not, decide_eq_false_iff_not, inE_mem]
  constructor
  · rintro ⟨⟨⟨a, b⟩, c⟩, h⟩
    refine ⟨⟨⟨List.mem_of_getElem? hf, a, by omega, fun g hg hd => ?_⟩, c⟩, fun k hk hkf => ?_⟩
    · obtain ⟨k, hk⟩ := List.mem_iff_getElem?.1 hg
      have := h k (List.getElem?_eq_some_iff.1 hk).1 g hk
      unfold beats at this
      rw [Bool.or_eq_false_iff, decide_eq_true hd, Bool.true_and] at this
      exact this.1
    · have := h k (by omega) f hkf
      unfold beats at this
      rw [Bool.or_eq_false_iff, decide_eq_true (by omega : (k : Int) < (i : Int)), eqb_refl] at this
      exact absurd this.2 (by decide)
  · rintro ⟨⟨⟨_, a, b, h⟩, c⟩, h2⟩
    refine ⟨⟨⟨a, by omega⟩, c⟩, fun k hk g hg => ?_⟩
    unfold beats
    rw [Bool.or_eq_false_iff]
    constructor
    · by_cases hd : g.Day ≤ d
      · rw [h g (List.mem_of_getElem? hg) hd, Bool.and_false]
      · rw [decide_eq_false hd, Bool.false_and]
    · by_cases hki : (k : Int) < (i : Int)
      · rw [Bool.and_eq_false_iff]; right
        rw [Bool.eq_false_iff]
        intro e
        exact h2 k (by omega) (by rw [hg, eqb_eq e])
      · rw [decide_eq_false hki, Bool.false_and]
theorem q_mem {L : List Fact} {d : Int} {x : Fact} : ∀ n, n ≤ L.length → (x ∈ qL L d n ↔ x ∈ inE L d ∧ ∃ k, k < n ∧ L[k]? = some x)
  | 0, _ => ⟨fun h => (by cases h), fun ⟨_, k, hk, _⟩ => (by omega)⟩
  | n + 1, hn => by
    obtain ⟨f, hf⟩ := getElem?_of_lt (xs := L) (i := n) (by omega)
    rw [qL, List.mem_append, q_mem n (by omega), hf]
    dsimp only
    constructor
    · rintro (⟨h1, k, hk, h2⟩ | h)
      · exact ⟨h1, k, by omega, h2⟩
      · split at h
        · rename_i hk
          cases List.mem_singleton.1 h
          exact ⟨((kOk_iff hf).1 hk).1, n, by omega, hf⟩
        · cases h
    · rintro ⟨h1, k, hk, h2⟩
      by_cases hkn : ∃ k', k' < n ∧ L[k']? = some x
      · exact .inl ⟨h1, hkn⟩
      · have e : k = n := by
          by_cases e : k = n
          · exact e
          · exact absurd ⟨k, by omega, h2⟩ hkn
        subst e
        rw [hf] at h2
        cases h2
        right
        rw [if_pos ((kOk_iff hf).2 ⟨h1, fun k' hk' hx => hkn ⟨k', hk', hx⟩⟩)]
        simp
theorem q_nodup (L : List Fact) (d : Int) : ∀ n, n ≤ L.length → (qL L d n).Nodup
  | 0, _ => List.nodup_nil
  | n + 1, hn => by
    obtain ⟨f, hf⟩ := getElem?_of_lt (xs := L) (i := n) (by omega)
    rw [qL, hf]
    dsimp only
    split
    · rename_i hk
      rw [List.nodup_append]
      refine ⟨q_nodup L d n (by omega), by simp, fun a ha c hc => ?_⟩
      cases List.mem_singleton.1 hc
      intro e
      subst e
      obtain ⟨_, k, hkn, hx⟩ := (q_mem n (by omega)).1 ha
      exact ((kOk_iff hf).1 hk).2 k hkn hx
    · rw [List.append_nil]; exact q_nodup L d n (by omega)
/-- sorted by its key fields, a kind's gathered facts are the base's list -/
theorem ref_lst (L : List Fact) (d : Int) {j : Nat} (hj : j < 11) : sortK (ordK ((j + 1 : Nat) : Int)) ((qL L d L.length).filter fun f => decide (f.Kind = ((j + 1 : Nat) : Int))) = lstOf (ofB L d) j := by
  rw [lst_ofB L d hj]
  unfold lstAt
  rw [if_pos (List.mem_singleton.2 rfl)]
  have e : (factsM (bestL L d)).filter (fun f => !f.Gone && decide (f.Kind = ((j + 1 : Nat) : Int))) = (inE L d).filter (fun f => decide (f.Kind = ((j + 1 : Nat) : Int))) := by
    unfold inE
    rw [List.filter_filter]
    apply List.filter_congr
    intro x _
    rw [Bool.and_comm]
  rw [e]
  have hp : (qL L d L.length).Perm (inE L d) := perm_of_mem (q_nodup L d _ (Nat.le_refl _)) ((factsM_nodup L d).filter _) fun x => by
    rw [q_mem _ (Nat.le_refl _)]
    refine ⟨fun h => h.1, fun h => ⟨h, ?_⟩⟩
    obtain ⟨k, hk⟩ := List.mem_iff_getElem?.1 (inE_mem.1 h).1.1
    exact ⟨k, (List.getElem?_eq_some_iff.1 hk).1, hk⟩
  refine sortK_perm (hp.filter _) fun x hx y hy h => ?_
  rw [List.mem_filter] at hx hy
  have ex := (inE_mem.1 (hp.subset hx.1)).1
  have ey := (inE_mem.1 (hp.subset hy.1)).1
  exact effk ex ey (key_of_ord (effv ex) (effv ey) (of_decide_eq_true hx.2) (of_decide_eq_true hy.2) h)

end Go.Wx
namespace Go.Proofs.YtdelcaegofkknaaGreat
open Go.Wx Go.RowKit
theorem tr35 : True := trivial
end Go.Proofs.YtdelcaegofkknaaGreat
