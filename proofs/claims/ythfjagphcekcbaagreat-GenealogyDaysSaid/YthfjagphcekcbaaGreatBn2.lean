import Derived.Test.YthfjagphcekcbaaGreatBm5
-- Ba27
namespace Go.Wx

theorem pick_range {c n : Int} (hc : inI c) (hn : 0 < n) : 0 ≤ pickI c n ∧ pickI c n < n := by
  unfold pickI
  obtain ⟨h1, h2⟩ := hc
  split
  · rw [wrap_i64_in (i := c + 1) (by omega) (by omega), wrap_i64_in (by omega) (by omega), Int.tmod_eq_emod_of_nonneg (by omega)]; exact ⟨Int.emod_nonneg _ (by omega), Int.emod_lt_of_pos _ hn⟩
  · rw [Int.tmod_eq_emod_of_nonneg (by omega)]; exact ⟨Int.emod_nonneg _ (by omega), Int.emod_lt_of_pos _ hn⟩
theorem few_day {n : Nat} {l : List Fact} (h : ∀ f ∈ l, FOk f) : ∀ x ∈ fewL n l, inI x.Day := fun x hx => by
  obtain ⟨y, hy, rfl⟩ := List.mem_map.1 hx
  exact (h y (List.mem_of_mem_take hy)).Day
theorem OwnS.els {α : Type} {enc : α → Array Go.Value} {b k n cp : Nat} {e : TypeId} {w : World} {ad : Option Addr} {xs : List α} (h : OwnS w b e k enc (.slice ad n cp) xs) (hk : ∀ x, (enc x).size = k) : Els w ad k enc xs := by
  obtain ⟨ad', cp', e, hE⟩ := h.sl hk
  injection e with e1
  rw [e1]; exact hE
theorem eqb_refl (f : Fact) : Fact.eqb f f = true := by simp [Fact.eqb]
theorem eqFs_refl : ∀ (l : List Fact), eqFs l l = true
  | [] => rfl
  | x :: l => by rw [eqFs, eqb_refl, eqFs_refl l]; rfl
theorem sameB_refl (b : Base) : sameB b b = true := sameB_yes fun _ _ => eqFs_refl _
def late (d : Int) (x : Fact) : Fact := { x with Day := d + 1 + pickI x.Day 100 }
theorem best_app {l m : List Fact} {d : Int} (h : ∀ x ∈ m, d < x.Day) : bestL (l ++ m) d = bestL l d := by
  have key : ∀ (m : List Fact) (a : FMap), (∀ x ∈ m, d < x.Day) → m.foldl (bestStep d) a = a := by
    intro m
    induction m with
    | nil => exact fun _ _ => rfl
    | cons x m ih => exact fun a hx => by rw [List.foldl_cons, best_skip (.inr (hx x List.mem_cons_self))]; exact ih a (fun y hy => hx y (List.mem_cons_of_mem _ hy))
  unfold bestL
  rw [List.foldl_append, key m _ h]
theorem valid_day {f : Fact} (h : validB f = true) : f.Day ≤ 100000 := by
  have := valid_pre h
  simp only [preB, Bool.or_eq_false_iff, decide_eq_false_iff_not] at this
  omega
theorem best_known (l : List Fact) (d : Int) : bestL (l.filter fun f => decide (f.Day ≤ d)) 100000 = bestL l d := by
  have key : ∀ (l : List Fact) (a : FMap), (l.filter fun f => decide (f.Day ≤ d)).foldl (bestStep 100000) a = l.foldl (bestStep d) a := by
    intro l
    induction l with
    | nil => exact fun _ => rfl
    | cons x l ih =>
      intro a
      by_cases hx : x.Day ≤ d
      · rw [List.filter_cons, if_pos (decide_eq_true hx), List.foldl_cons, List.foldl_cons, ih]
        congr 1
        by_cases hk : keyB x = []
        · rw [best_skip (.inl hk), best_skip (.inl hk)]
        · have hv := valid_day (keyB_valid hk)
          unfold bestStep
          rw [if_neg (fun h => h.elim hk (by omega)), if_neg (fun h => h.elim hk (by omega))]
      · rw [List.filter_cons, if_neg (by rw [decide_eq_false hx]; exact Bool.false_ne_true), ih, List.foldl_cons, best_skip (.inr (by omega))]
  exact key l []
theorem late_same {l m : List Fact} {d : Int} (h : ∀ x ∈ m, inI x.Day) : sameB (ofB l d) (ofB (l ++ m.map (late d)) d) = true := by
  rw [show ofB (l ++ m.map (late d)) d = ofB l d from by
    unfold ofB
    rw [best_app fun x hx => by
      obtain ⟨y, hy, rfl⟩ := List.mem_map.1 hx
      have := pick_range (c := y.Day) (n := 100) (h y hy) (by decide)
      show d < d + 1 + pickI y.Day 100
      omega]]
  exact sameB_refl _
theorem known_same (l : List Fact) (d : Int) : sameB (ofB l d) (ofB (l.filter fun f => decide (f.Day ≤ d)) 100000) = true := by
  rw [show ofB (l.filter fun f => decide (f.Day ≤ d)) 100000 = ofB l d from by unfold ofB; rw [best_known]]
  exact sameB_refl _
def BaseV (w : World) (v : Go.Value) (b : Base) : Prop := ∃ bc, v = .agg bc ∧ BaseC w bc b
theorem BaseV.up {w w' : World} {v : Go.Value} {b : Base} (h : BaseV w v b) (u : Up w w') : BaseV w' v b := let ⟨bc, e, hC⟩ := h; ⟨bc, e, hC.up u⟩

end Go.Wx
namespace Go.Proofs.YthfjagphcekcbaaGreat
open Go.Wx Go.RowKit
theorem trBa27 : True := trivial
end Go.Proofs.YthfjagphcekcbaaGreat

-- Ba28
namespace Go.Wx

theorem key_kind {f g : Fact} (hf : validB f = true) (hg : validB g = true) (h : keyB f = keyB g) : f.Kind = g.Kind := by
  have kf := valid_kind hf
  have kg := valid_kind hg
  unfold keyB keyL at h
  rw [if_pos hf, if_pos hg] at h
  exact (encI_cut (r := encIs (valsOf (keyFOf f.Kind) f)) (s := encIs (valsOf (keyFOf g.Kind) g)) (a := f.Kind) (b := g.Kind) ⟨by omega, by omega⟩ ⟨by omega, by omega⟩ h).1
def MKd (k : Int) (m : FMap) : FMap := m.filter fun p => decide (p.2.Kind = k)
theorem MKd_mem {k : Int} {m : FMap} {p : List UInt8 × Fact} : p ∈ MKd k m ↔ p ∈ m ∧ p.2.Kind = k := by unfold MKd; rw [List.mem_filter]; simp
theorem MKd_ok {k : Int} {m : FMap} (h : MOk m) : MOk (MKd k m) := fun p hp => h p (MKd_mem.1 hp).1
theorem kind_of {m : FMap} (h : MOk m) {x : Fact} (hx : validB x = true) {p : List UInt8 × Fact} (hp : p ∈ m) (e : p.1 = keyB x) : p.2.Kind = x.Kind := key_kind (h p hp).2 hx ((h p hp).1.symm.trans e)
theorem MKd_keys {k : Int} {m : FMap} (h : MOk m) {x : Fact} (hx : validB x = true) (hk : x.Kind = k) : keyB x ∈ (MKd k m).map (·.1) ↔ keyB x ∈ m.map (·.1) := by
  constructor
  · intro hm
    obtain ⟨p, hp, e⟩ := List.mem_map.1 hm
    exact List.mem_map.2 ⟨p, (MKd_mem.1 hp).1, e⟩
  · intro hm
    obtain ⟨p, hp, e⟩ := List.mem_map.1 hm
    exact List.mem_map.2 ⟨p, MKd_mem.2 ⟨hp, (kind_of h hx hp e).trans hk⟩, e⟩
theorem MKd_map (k : Int) (x : Fact) (c : List UInt8) : ∀ (m : FMap), (∀ p ∈ m, p.1 = c → p.2.Kind = x.Kind) → MKd k (m.map fun p => if p.1 = c then (c, x) else p) = (MKd k m).map fun p => if p.1 = c then (c, x) else p
  | [], _ => rfl
  | p :: m, h => by
    have ih := MKd_map k x c m (fun q hq => h q (List.mem_cons_of_mem _ hq))
    unfold MKd at ih ⊢
    rw [List.map_cons, List.filter_cons, List.filter_cons, ih]
    by_cases hp : p.1 = c
    · rw [if_pos hp]
      have hk := h p List.mem_cons_self hp
      by_cases hx : x.Kind = k
      · rw [if_pos (decide_eq_true hx), if_pos (decide_eq_true (hk.trans hx)), List.map_cons, if_pos hp]
      · rw [if_neg (by rw [decide_eq_false hx]; exact Bool.false_ne_true), if_neg (by rw [decide_eq_false (fun e => hx (hk.symm.trans e))]; exact Bool.false_ne_true)]
    · rw [if_neg hp]
      by_cases hx : p.2.Kind = k
      · rw [if_pos (decide_eq_true hx), if_pos (decide_eq_true hx), List.map_cons, if_neg hp]
      · rw [if_neg (by rw [decide_eq_false hx]; exact Bool.false_ne_true), if_neg (by rw [decide_eq_false hx]; exact Bool.false_ne_true)]
theorem MKd_same {k : Int} {x : Fact} (c : List UInt8) (hx : x.Kind ≠ k) : ∀ (m : FMap), (∀ p ∈ m, p.1 = c → p.2.Kind = x.Kind) → (MKd k m).map (fun p => if p.1 = c then (c, x) else p) = MKd k m := fun m h => by
  have : ∀ p ∈ MKd k m, (if p.1 = c then (c, x) else p) = p := fun p hp => if_neg fun e => hx ((h p (MKd_mem.1 hp).1 e).symm.trans (MKd_mem.1 hp).2)
  exact (List.map_congr_left this).trans (List.map_id _)
theorem MKd_fset {k : Int} {m : FMap} (h : MOk m) {x : Fact} (hx : validB x = true) : MKd k (fset m (keyB x) x) = if x.Kind = k then fset (MKd k m) (keyB x) x else MKd k m := by
  have hk : ∀ p ∈ m, p.1 = keyB x → p.2.Kind = x.Kind := fun p hp e => kind_of h hx hp e
  by_cases hxk : x.Kind = k
  · rw [if_pos hxk]
    unfold fset
    by_cases hm : keyB x ∈ m.map (·.1)
    · rw [if_pos hm, if_pos ((MKd_keys h hx hxk).2 hm), MKd_map k x (keyB x) m hk]
    · rw [if_neg hm, if_neg (fun e => hm ((MKd_keys h hx hxk).1 e))]
      unfold MKd
      rw [List.filter_append, List.filter_cons, if_pos (decide_eq_true hxk)]; rfl
  · rw [if_neg hxk]
    unfold fset
    by_cases hm : keyB x ∈ m.map (·.1)
    · rw [if_pos hm, MKd_map k x (keyB x) m hk, MKd_same (keyB x) hxk m hk]
    · rw [if_neg hm]
      unfold MKd
      rw [List.filter_append, List.filter_cons, if_neg (by show ¬ decide (x.Kind = k) = true; rw [decide_eq_false hxk]; exact Bool.false_ne_true)]; simp
theorem MKd_get {k : Int} {m : FMap} (h : MOk m) {x : Fact} (hx : validB x = true) (hk : x.Kind = k) : fget (MKd k m) (keyB x) = fget m (keyB x) := by
  unfold fget MKd
  congr 1
  induction m with
  | nil => rfl
  | cons p m ih =>
    have ih := ih (fun q hq => h q (List.mem_cons_of_mem _ hq))
    rw [List.filter_cons]
    by_cases e : p.1 = keyB x
    · have hp := (kind_of h hx List.mem_cons_self e).trans hk
      rw [if_pos (decide_eq_true hp), List.find?_cons, List.find?_cons, show (p.1 == keyB x) = true by simpa using e]
    · by_cases hp : p.2.Kind = k
      · rw [if_pos (decide_eq_true hp), List.find?_cons, List.find?_cons, show (p.1 == keyB x) = false by simpa using e]
        exact ih
      · rw [if_neg (by rw [decide_eq_false hp]; exact Bool.false_ne_true), List.find?_cons, show (p.1 == keyB x) = false by simpa using e]
        exact ih
theorem MKd_step {k d : Int} {m : FMap} (h : MOk m) (x : Fact) : MKd k (bestStep d m x) = if x.Kind = k then bestStep d (MKd k m) x else MKd k m := by
  by_cases hc : keyB x = [] ∨ d < x.Day
  · rw [best_skip hc, best_skip hc]; split <;> rfl
  · have hv := keyB_valid (fun e => hc (.inl e))
    by_cases hk : x.Kind = k
    · rw [if_pos hk]
      unfold bestStep
      rw [if_neg hc, if_neg hc, MKd_get h hv hk]
      cases fget m (keyB x) with
      | none => rw [MKd_fset h hv, if_pos hk]
      | some old =>
        dsimp only
        split
        · rw [MKd_fset h hv, if_pos hk]
        · rfl
    · rw [if_neg hk]
      unfold bestStep
      rw [if_neg hc]
      cases fget m (keyB x) with
      | none => rw [MKd_fset h hv, if_neg hk]
      | some old =>
        dsimp only
        split
        · rw [MKd_fset h hv, if_neg hk]
        · rfl
def isK (k : Int) (f : Fact) : Bool := decide (f.Kind = k)
theorem best_kind (l : List Fact) (k d : Int) : bestL (l.filter (isK k)) d = MKd k (bestL l d) := by
  have key : ∀ (l : List Fact) (m : FMap), MOk m → (l.filter (isK k)).foldl (bestStep d) (MKd k m) = MKd k (l.foldl (bestStep d) m) := by
    intro l
    induction l with
    | nil => exact fun _ _ => rfl
    | cons x l ih =>
      intro m h
      have hs := (h.step d x).1
      rw [List.foldl_cons, ← ih _ hs, MKd_step h, List.filter_cons]
      by_cases hk : x.Kind = k
      · rw [if_pos hk, if_pos (show isK k x = true from decide_eq_true hk), List.foldl_cons]
      · rw [if_neg hk, if_neg (by rw [isK, decide_eq_false hk]; exact Bool.false_ne_true)]
  exact key l [] (fun p hp => by simp at hp)
theorem facts_kind (l : List Fact) (k d : Int) : factsM (bestL (l.filter (isK k)) d) = (factsM (bestL l d)).filter (isK k) := by
  rw [best_kind]
  unfold factsM MKd
  rw [List.filter_map]; rfl
theorem kind_own {l : List Fact} {k d : Int} {i : Nat} (hi : i < 11) (h : (i : Int) = k - 1) : eqFs (lstOf (ofB l d) i) (lstOf (ofB (l.filter (isK k)) d) i) = true := by
  rw [lst_ofB l d hi, lst_ofB _ d hi, facts_kind]
  have : ∀ (X : List Fact), (X.filter (isK k)).filter (fun f => !f.Gone && decide (f.Kind = ((i + 1 : Nat) : Int))) = X.filter (fun f => !f.Gone && decide (f.Kind = ((i + 1 : Nat) : Int))) := fun X => by
    rw [List.filter_filter]
    apply List.filter_congr
    intro x _
    by_cases e : x.Kind = k
    · rw [isK, decide_eq_true e, Bool.and_true]
    · rw [isK, decide_eq_false e, decide_eq_false (show ¬ x.Kind = ((i + 1 : Nat) : Int) by omega)]; simp
  unfold lstAt
  rw [if_pos (List.mem_singleton.2 rfl), if_pos (List.mem_singleton.2 rfl), this]
  exact eqFs_refl _
theorem kind_none {l : List Fact} {k d : Int} {i : Nat} (hi : i < 11) (h : ¬ (i : Int) = k - 1) : lstOf (ofB (l.filter (isK k)) d) i = [] := by
  rw [lst_ofB _ d hi, facts_kind]
  have : ∀ (X : List Fact), (X.filter (isK k)).filter (fun f => !f.Gone && decide (f.Kind = ((i + 1 : Nat) : Int))) = [] := fun X => by
    rw [List.filter_filter, List.filter_eq_nil_iff]
    intro x _ hx
    simp only [isK, Bool.and_eq_true, decide_eq_true_eq] at hx
    omega
  unfold lstAt
  rw [if_pos (List.mem_singleton.2 rfl), this]
  rfl

end Go.Wx
namespace Go.Proofs.YthfjagphcekcbaaGreat
open Go.Wx Go.RowKit
theorem trBa28 : True := trivial
end Go.Proofs.YthfjagphcekcbaaGreat

-- Ba29
namespace Go.Wx

/-! ### which facts a base holds: those over which none prevails -/
theorem cb_swap : ∀ (a b : List UInt8), Go.Lib.compareBytes b a = - Go.Lib.compareBytes a b
  | [], [] => rfl
  | [], _ :: _ => rfl
  | _ :: _, [] => rfl
  | x :: a, y :: b => by
    unfold Go.Lib.compareBytes
    by_cases h1 : x < y
    · have h2 : ¬ y < x := by rw [UInt8.lt_iff_toNat_lt] at *; omega
      rw [if_pos h1, if_neg h2, if_pos h1]; rfl
    · by_cases h2 : y < x
      · rw [if_pos h2, if_neg h1, if_pos h2]
      · rw [if_neg h2, if_neg h1, if_neg h1, if_neg h2]; exact cb_swap a b
theorem cb_zero : ∀ {a b : List UInt8}, Go.Lib.compareBytes a b = 0 → a = b
  | [], [], _ => rfl
  | [], _ :: _, h => by simp [Go.Lib.compareBytes] at h
  | _ :: _, [], h => by simp [Go.Lib.compareBytes] at h
  | x :: a, y :: b, h => by
    unfold Go.Lib.compareBytes at h
    by_cases h1 : x < y
    · rw [if_pos h1] at h; cases h
    · by_cases h2 : y < x
      · rw [if_neg h1, if_pos h2] at h; cases h
      · rw [if_neg h1, if_neg h2] at h
        rw [cb_zero h, show x = y from UInt8.toNat_inj.1 (by rw [UInt8.lt_iff_toNat_lt] at h1 h2; omega)]
theorem cb_refl (a : List UInt8) : Go.Lib.compareBytes a a = 0 := by have := cb_swap a a; omega
theorem cb_trans : ∀ {a b c : List UInt8}, 0 < Go.Lib.compareBytes a b → 0 < Go.Lib.compareBytes b c → 0 < Go.Lib.compareBytes a c
  | [], [], _, h, _ => by simp [Go.Lib.compareBytes] at h
  | [], _ :: _, _, h, _ => by simp [Go.Lib.compareBytes] at h
  | _ :: _, [], [], _, h => by simp [Go.Lib.compareBytes] at h
  | _ :: _, [], _ :: _, _, h => by simp [Go.Lib.compareBytes] at h
  | _ :: _, _ :: _, [], _, _ => by simp [Go.Lib.compareBytes]
  | x :: a, y :: b, z :: c, h, k => by
    unfold Go.Lib.compareBytes at h k ⊢
    by_cases h1 : x < y
    · rw [if_pos h1] at h; omega
    · by_cases k1 : y < z
      · rw [if_pos k1] at k; omega
      · rw [if_neg h1] at h
        rw [if_neg k1] at k
        have e1 : ¬ x < z := by rw [UInt8.lt_iff_toNat_lt] at *; omega
        rw [if_neg e1]
        by_cases h2 : y < x
        · rw [if_pos (show z < x by rw [UInt8.lt_iff_toNat_lt] at *; omega)]; decide
        · by_cases k2 : z < y
          · rw [if_pos (show z < x by rw [UInt8.lt_iff_toNat_lt] at *; omega)]; decide
          · rw [if_neg h2] at h
            rw [if_neg k2] at k
            rw [if_neg (show ¬ z < x by rw [UInt8.lt_iff_toNat_lt] at *; omega)]
            exact cb_trans h k
theorem prev_iff {a b : Fact} : prevB a b = true ↔ validB a = true ∧ validB b = true ∧ keyB a = keyB b ∧ (b.Version < a.Version ∨ (a.Version = b.Version ∧ 0 < Go.Lib.compareBytes (encB a) (encB b))) := by
  unfold prevB
  simp only [Bool.and_eq_true, Bool.or_eq_true, decide_eq_true_eq, beq_iff_eq, and_assoc]
theorem prev_irrefl (a : Fact) : prevB a a = false := by
  rw [Bool.eq_false_iff]
  intro h
  have := (prev_iff.1 h).2.2.2
  rw [cb_refl] at this
  omega
theorem prev_trans {a b c : Fact} (h : prevB a b = true) (k : prevB b c = true) : prevB a c = true := by
  obtain ⟨h1, h2, h3, h4⟩ := prev_iff.1 h
  obtain ⟨k1, k2, k3, k4⟩ := prev_iff.1 k
  refine prev_iff.2 ⟨h1, k2, h3.trans k3, ?_⟩
  rcases h4 with h4 | ⟨h4, h5⟩ <;> rcases k4 with k4 | ⟨k4, k5⟩
  · exact .inl (by omega)
  · exact .inl (by omega)
  · exact .inl (by omega)
  · exact .inr ⟨by omega, cb_trans h5 k5⟩
theorem get_set {f : Fact} {o o' : Nat} {n : Int} (h : okOff o = true) (h' : okOff o' = true) : getF (setF f o n) o' = if o = o' then n else getF f o' := by
  rcases okOff_cases h with rfl | rfl | rfl | rfl | rfl | rfl | rfl | rfl | rfl | rfl | rfl | rfl | rfl | rfl <;> rcases okOff_cases h' with rfl | rfl | rfl | rfl | rfl | rfl | rfl | rfl | rfl | rfl | rfl | rfl | rfl | rfl <;> rfl
theorem set_rest {f : Fact} {o : Nat} {n : Int} (h : okOff o = true) : (setF f o n).Text = f.Text := by
  rcases okOff_cases h with rfl | rfl | rfl | rfl | rfl | rfl | rfl | rfl | rfl | rfl | rfl | rfl | rfl | rfl <;> rfl
theorem runF_get : ∀ {fs : List Fld} {f g : Fact}, (∀ x ∈ fs, okOff x.off = true ∧ inW x.lo ∧ inW x.hi) → runF fs f = some g → (∀ o, okOff o = true → getF g o ≠ 0 → getF f o = getF g o) ∧ (∀ o, okOff o = true → (∀ x ∈ fs, x.off ≠ o) → getF f o = getF g o) ∧ g.Text = f.Text ∧ ∀ x ∈ fs, inW (getF f x.off)
  | [], f, g, _, h => by cases h; exact ⟨fun _ _ _ => rfl, fun _ _ _ => rfl, rfl, fun x hx => by cases hx⟩
  | x :: fs, f, g, hf, h => by
    unfold runF at h
    split at h
    · cases h
    · rename_i hx
      have ok := hf x List.mem_cons_self
      obtain ⟨h1, h2, h3, h4⟩ := runF_get (fun y hy => hf y (List.mem_cons_of_mem _ hy)) h
      refine ⟨fun o ho hne => ?_, fun o ho hn => ?_, h3.trans (set_rest ok.1), fun y hy => ?_⟩
      · have := h1 o ho hne
        rw [get_set ok.1 ho] at this
        by_cases e : x.off = o
        · rw [if_pos e] at this; exact absurd this.symm hne
        · rwa [if_neg e] at this
      · have := h2 o ho (fun y hy => hn y (List.mem_cons_of_mem _ hy))
        rwa [get_set ok.1 ho, if_neg (hn x List.mem_cons_self)] at this
      · have hb : inW (getF f x.off) := by
          have := ok.2.1.1
          have := ok.2.2.2
          exact ⟨by omega, by omega⟩
        rcases List.mem_cons.1 hy with rfl | hy
        · exact hb
        · have := h4 y hy
          rw [get_set ok.1 (hf y (List.mem_cons_of_mem _ hy)).1] at this
          by_cases e : x.off = y.off
          · rw [← e]; exact hb
          · rwa [if_neg e] at this
theorem fields_lim (k : Int) : ∀ x ∈ fieldsOf k, okOff x.off = true ∧ inW x.lo ∧ inW x.hi := by
  intro x hx
  have h : ∀ l ∈ shapeF, ∀ y ∈ l, (okOff y.off && decide (-4611686018427387903 ≤ y.lo) && decide (y.lo ≤ 4611686018427387903) && decide (-4611686018427387903 ≤ y.hi) && decide (y.hi ≤ 4611686018427387903)) = true := by decide
  unfold fieldsOf at hx
  rw [List.getD_eq_getElem?_getD] at hx
  cases hl : shapeF[k.toNat]? with
  | none => rw [hl] at hx; simp at hx
  | some l =>
    rw [hl] at hx
    have := h l (List.mem_of_getElem? hl) x (by simpa using hx)
    simp only [Bool.and_eq_true, decide_eq_true_eq] at this
    exact ⟨this.1.1.1.1, ⟨this.1.1.1.2, this.1.1.2⟩, ⟨this.1.2, this.2⟩⟩
theorem eqb_get {f g : Fact} (h : Fact.eqb f g = true) : (∀ o, okOff o = true → getF f o = getF g o) ∧ f.Text.toList = g.Text.toList := by
  simp only [Fact.eqb, Bool.and_eq_true, beq_iff_eq] at h
  obtain ⟨_, h1, _, _, _, h5, h6, h7, h8, h9, h10, h11, h12, h13, h14, h15, h16, h17, h18⟩ := h
  refine ⟨fun o ho => ?_, h18⟩
  rcases okOff_cases ho with rfl | rfl | rfl | rfl | rfl | rfl | rfl | rfl | rfl | rfl | rfl | rfl | rfl | rfl
  · exact h1
  · exact h5
  · exact h6
  · exact h7
  · exact h8
  · exact h9
  · exact h10
  · exact h11
  · exact h12
  · exact h13
  · exact h14
  · exact h15
  · exact h16
  · exact h17
theorem get_fact0 (k v d : Int) (g : Bool) {o : Nat} (h : okOff o = true) : getF (fact0 k v d g) o = 0 := by
  rcases okOff_cases h with rfl | rfl | rfl | rfl | rfl | rfl | rfl | rfl | rfl | rfl | rfl | rfl | rfl | rfl <;> rfl
theorem get_text (g : Fact) (t : ByteArray) {o : Nat} (h : okOff o = true) : getF { g with Text := t } o = getF g o := by
  rcases okOff_cases h with rfl | rfl | rfl | rfl | rfl | rfl | rfl | rfl | rfl | rfl | rfl | rfl | rfl | rfl <;> rfl
/-- what a valid fact is -/
theorem valid_parts {f : Fact} (h : validB f = true) : (∀ o, okOff o = true → (∀ x ∈ fieldsOf f.Kind, x.off ≠ o) → getF f o = 0) ∧ (∀ x ∈ fieldsOf f.Kind, inW (getF f x.off)) ∧ (textOf f.Kind = false → f.Text.toList = []) := by
  unfold validB at h
  rw [Bool.and_eq_true, Bool.and_eq_true] at h
  have h3 := h.2.2
  cases hr : runF (fieldsOf f.Kind) f with
  | none => rw [hr] at h3; cases h3
  | some g =>
    rw [hr] at h3
    dsimp only at h3
    obtain ⟨r1, r2, r3, r4⟩ := runF_get (fields_lim f.Kind) hr
    obtain ⟨e1, e2⟩ := eqb_get h3
    have z : ∀ o, okOff o = true → getF g o = 0 := fun o ho => by
      have := e1 o ho
      rw [get_fact0 _ _ _ _ ho] at this
      split at this
      · rwa [get_text _ _ ho] at this
      · exact this
    refine ⟨fun o ho hn => (r2 o ho hn).trans (z o ho), r4, fun ht => ?_⟩
    rw [ht] at e2
    rw [← r3]
    rw [if_neg Bool.false_ne_true] at e2
    rw [e2, ByteArray.toList_eq]; rfl
theorem text_inj {a b : ByteArray} (h : a.toList = b.toList) : a = b := by
  rw [ByteArray.toList_eq, ByteArray.toList_eq] at h
  cases a; cases b
  exact congrArg ByteArray.mk (Array.toList_inj.1 h)
theorem fact_ext {a b : Fact} (hk : a.Kind = b.Kind) (hv : a.Version = b.Version) (hd : a.Day = b.Day) (hg : a.Gone = b.Gone) (ht : a.Text = b.Text) (h : ∀ o, okOff o = true → getF a o = getF b o) : a = b := by
  have h1 := h 1 rfl
  have h5 := h 5 rfl
  have h6 := h 6 rfl
  have h7 := h 7 rfl
  have h8 := h 8 rfl
  have h9 := h 9 rfl
  have h10 := h 10 rfl
  have h11 := h 11 rfl
  have h12 := h 12 rfl
  have h13 := h 13 rfl
  have h14 := h 14 rfl
  have h15 := h 15 rfl
  have h16 := h 16 rfl
  have h17 := h 17 rfl
  cases a; cases b
  rw [Fact.mk.injEq]
  exact ⟨hk, h1, hv, hd, hg, h5, h6, h7, h8, h9, h10, h11, h12, h13, h14, h15, h16, h17, ht⟩
theorem encB_inj {a b : Fact} (ha : validB a = true) (hb : validB b = true) (hk : a.Kind = b.Kind) (h : encB a = encB b) : a = b := by
  obtain ⟨a1, a2, a3⟩ := valid_parts ha
  obtain ⟨b1, b2, b3⟩ := valid_parts hb
  have pa := valid_pre ha
  have pb := valid_pre hb
  have ka := valid_kind ha
  have kb := valid_kind hb
  simp only [preB, Bool.or_eq_false_iff, decide_eq_false_iff_not] at pa pb
  have win : ∀ (f : Fact), (1 ≤ f.Kind ∧ f.Kind ≤ 11) → (¬ f.Version < 1 ∧ ¬ 1000000 < f.Version ∧ ¬ f.Day < 0 ∧ ¬ 100000 < f.Day) → (∀ x ∈ fieldsOf f.Kind, inW (getF f x.off)) → ∀ x ∈ encL f, inW x := fun f k p q x hx => by
    unfold encL at hx
    rcases List.mem_append.1 hx with hx | hx
    · simp only [List.mem_cons, List.not_mem_nil, or_false] at hx
      rcases hx with rfl | rfl | rfl | rfl
      · exact ⟨by omega, by omega⟩
      · exact ⟨by omega, by omega⟩
      · exact ⟨by omega, by omega⟩
      · unfold flagI; split <;> exact ⟨by omega, by omega⟩
    · obtain ⟨y, hy, rfl⟩ := List.mem_map.1 hx
      exact q y hy
  unfold encB at h
  obtain ⟨e1, e2⟩ := encIs_cut (win a ka ⟨pa.1.1.1.1, pa.1.1.1.2, pa.1.1.2, pa.1.2⟩ a2) (win b kb ⟨pb.1.1.1.1, pb.1.1.1.2, pb.1.1.2, pb.1.2⟩ b2) (by unfold encL; simp [valsOf, hk]) h
  unfold encL at e1
  simp only [List.cons_append, List.nil_append, List.cons.injEq] at e1
  obtain ⟨_, e3, e4, e5, e6⟩ := e1
  refine fact_ext hk e3 e4 ?_ ?_ fun o ho => ?_
  · revert e5
    unfold flagI
    cases a.Gone <;> cases b.Gone <;> simp
  · by_cases ht : textOf a.Kind = true
    · rw [if_pos ht, if_pos (by rw [← hk]; exact ht)] at e2
      unfold encT at e2
      have sa := valid_text ha
      have sb := valid_text hb
      have := (encI_cut (inW_nat (by simp; omega)) (inW_nat (by simp; omega)) e2).2
      cases ea : a.Text; cases eb : b.Text
      rw [ea, eb] at this
      exact congrArg ByteArray.mk (Array.toList_inj.1 this)
    · have ht := Bool.eq_false_iff.2 ht
      exact text_inj ((a3 ht).trans (b3 (hk ▸ ht)).symm)
  · by_cases hx : ∃ x ∈ fieldsOf a.Kind, x.off = o
    · obtain ⟨x, hx, rfl⟩ := hx
      unfold valsOf at e6
      rw [← hk] at e6
      exact List.map_inj_left.1 e6 x hx
    · have hn : ∀ x ∈ fieldsOf a.Kind, x.off ≠ o := fun x h1 h2 => hx ⟨x, h1, h2⟩
      rw [a1 o ho hn, b1 o ho (hk ▸ hn)]
theorem prev_total {a b : Fact} (ha : validB a = true) (hb : validB b = true) (hk : keyB a = keyB b) (h1 : prevB a b = false) (h2 : prevB b a = false) : a = b := by
  rw [Bool.eq_false_iff] at h1 h2
  have c1 : ¬ (b.Version < a.Version ∨ (a.Version = b.Version ∧ 0 < Go.Lib.compareBytes (encB a) (encB b))) := fun c => h1 (prev_iff.2 ⟨ha, hb, hk, c⟩)
  have c2 : ¬ (a.Version < b.Version ∨ (b.Version = a.Version ∧ 0 < Go.Lib.compareBytes (encB b) (encB a))) := fun c => h2 (prev_iff.2 ⟨hb, ha, hk.symm, c⟩)
  rw [cb_swap (encB a) (encB b)] at c2
  exact encB_inj ha hb (key_kind ha hb hk) (cb_zero (by omega))
/-- in effect among some -/
def eff (l : List Fact) (d : Int) (f : Fact) : Prop := f ∈ l ∧ keyB f ≠ [] ∧ f.Day ≤ d ∧ ∀ g ∈ l, g.Day ≤ d → prevB g f = false
structure EInv (l : List Fact) (d : Int) (m : FMap) : Prop where
  ok : MOk m
  top : ∀ p ∈ m, eff l d p.2
  all : ∀ f ∈ l, keyB f ≠ [] → f.Day ≤ d → keyB f ∈ m.map (·.1)
theorem prevE_key {a b : Fact} (h : prevB a b = true) : keyB a = keyB b := (prev_iff.1 h).2.2.1
theorem mem_fset {m : FMap} {c : List UInt8} {x : Fact} {p : List UInt8 × Fact} (h : p ∈ fset m c x) : p = (c, x) ∨ (p ∈ m ∧ p.1 ≠ c) := by
  unfold fset at h
  split at h
  · obtain ⟨q, hq, e⟩ := List.mem_map.1 h
    split at e
    · exact .inl e.symm
    · rename_i hc; subst e; exact .inr ⟨hq, hc⟩
  · rename_i hn
    rcases List.mem_append.1 h with h | h
    · exact .inr ⟨h, fun e => hn (List.mem_map.2 ⟨p, h, e⟩)⟩
    · exact .inl (List.mem_singleton.1 h)
theorem fset_has {m : FMap} {c : List UInt8} {x : Fact} {k : List UInt8} (h : k ∈ m.map (·.1) ∨ k = c) : k ∈ (fset m c x).map (·.1) := by
  rw [fset_keys]
  split
  · rename_i hc; rcases h with h | rfl
    · exact h
    · exact hc
  · rcases h with h | rfl
    · exact List.mem_append_left _ h
    · simp
theorem eff_snoc {l : List Fact} {d : Int} {x f : Fact} (h : eff l d f) (hx : x.Day ≤ d → prevB x f = false) : eff (l ++ [x]) d f := by
  refine ⟨List.mem_append_left _ h.1, h.2.1, h.2.2.1, fun g hg hd => ?_⟩
  rcases List.mem_append.1 hg with hg | hg
  · exact h.2.2.2 g hg hd
  · cases List.mem_singleton.1 hg; exact hx hd
theorem EInv.step {l : List Fact} {d : Int} {m : FMap} (h : EInv l d m) (x : Fact) : EInv (l ++ [x]) d (bestStep d m x) := by
  have ok' := (h.ok.step d x).1
  by_cases hc : keyB x = [] ∨ d < x.Day
  · rw [best_skip hc]
    refine ⟨h.ok, fun p hp => eff_snoc (h.top p hp) fun hd => ?_, fun f hf hk hd => ?_⟩
    · rw [Bool.eq_false_iff]
      intro e
      rcases hc with hc | hc
      · exact (h.top p hp).2.1 ((prevE_key e).symm.trans hc)
      · omega
    · rcases List.mem_append.1 hf with hf | hf
      · exact h.all f hf hk hd
      · cases List.mem_singleton.1 hf
        rcases hc with hc | hc
        · exact absurd hc hk
        · omega
  · have hk : keyB x ≠ [] := fun e => hc (.inl e)
    have hd : x.Day ≤ d := by
      by_cases hd : x.Day ≤ d
      · exact hd
      · exact absurd (.inr (by omega)) hc
    have others : ∀ p ∈ m, p.1 ≠ keyB x → eff (l ++ [x]) d p.2 := fun p hp hne => eff_snoc (h.top p hp) fun _ => by
      rw [Bool.eq_false_iff]
      intro e
      exact hne ((h.ok p hp).1.trans (prevE_key e).symm)
    have put : (∀ g ∈ l, g.Day ≤ d → prevB g x = false) → EInv (l ++ [x]) d (fset m (keyB x) x) := fun hx => by
      refine ⟨h.ok.set (keyB_valid hk), fun p hp => ?_, fun f hf hkf hdf => ?_⟩
      · rcases mem_fset hp with rfl | ⟨h1, h2⟩
        · refine ⟨by simp, hk, hd, fun g hg hdg => ?_⟩
          rcases List.mem_append.1 hg with hg | hg
          · exact hx g hg hdg
          · cases List.mem_singleton.1 hg; exact prev_irrefl x
        · exact others p h1 h2
      · refine fset_has ?_
        rcases List.mem_append.1 hf with hf | hf
        · exact .inl (h.all f hf hkf hdf)
        · cases List.mem_singleton.1 hf; exact .inr rfl
    cases hg : fget m (keyB x) with
    | none =>
      rw [best_new hc hg]
      refine put fun g hgl hgd => ?_
      rw [Bool.eq_false_iff]
      intro e
      have e1 := prevE_key e
      have := h.all g hgl (by rw [e1]; exact hk) hgd
      rw [e1] at this
      have hno := fget_none hg
      rw [encM_keys] at hno
      exact hno this
    | some old =>
      have hmem : ∃ p ∈ m, p.1 = keyB x ∧ p.2 = old := by
        unfold fget at hg
        rw [Option.map_eq_some_iff] at hg
        obtain ⟨p, hp, e⟩ := hg
        have h2 : (p.1 == keyB x) = true := List.find?_some (p := fun p : List UInt8 × Fact => p.1 == keyB x) hp
        exact ⟨p, List.mem_of_find?_eq_some hp, eq_of_beq h2, e⟩
      obtain ⟨p, hp, hpk, rfl⟩ := hmem
      cases hq : prevB x p.2 with
      | true =>
        rw [best_put hc hg hq]
        refine put fun g hgl hgd => ?_
        rw [Bool.eq_false_iff]
        intro e
        have := (h.top p hp).2.2.2 g hgl hgd
        rw [prev_trans e hq] at this
        cases this
      | false =>
        rw [best_old hc hg hq]
        refine ⟨h.ok, fun q hq' => ?_, fun f hf hkf hdf => ?_⟩
        · refine eff_snoc (h.top q hq') fun _ => ?_
          rw [Bool.eq_false_iff]
          intro e
          have e1 := prevE_key e
          have e2 := (h.ok q hq').1
          have e3 : q.1 = p.1 := by rw [e2, ← e1, hpk]
          have n := best_nodup
          by_cases hqp : q.2 = p.2
          · rw [hqp, hq] at e; cases e
          · exact absurd (prev_total (h.ok q hq').2 (h.ok p hp).2 (by rw [← e2, ← (h.ok p hp).1, e3]) ((h.top p hp).2.2.2 _ (h.top q hq').1 (h.top q hq').2.2.1) ((h.top q hq').2.2.2 _ (h.top p hp).1 (h.top p hp).2.2.1)) hqp
        · rcases List.mem_append.1 hf with hf | hf
          · exact h.all f hf hkf hdf
          · cases List.mem_singleton.1 hf
            exact List.mem_map.2 ⟨p, hp, hpk⟩
theorem best_inv (l : List Fact) (d : Int) : EInv l d (bestL l d) := by
  have key : ∀ (r l : List Fact) (m : FMap), EInv l d m → EInv (l ++ r) d (r.foldl (bestStep d) m) := by
    intro r
    induction r with
    | nil => intro l m h; rw [List.append_nil]; exact h
    | cons x r ih => intro l m h; have := ih (l ++ [x]) _ (h.step x); rwa [List.append_assoc] at this
  exact key l [] [] ⟨fun p hp => (by cases hp), fun p hp => (by cases hp), fun f hf => (by cases hf)⟩
/-- the facts of a base's map are those in effect -/
theorem best_eff {l : List Fact} {d : Int} {f : Fact} : f ∈ factsM (bestL l d) ↔ eff l d f := by
  have h := best_inv l d
  rw [factsM_mem h.ok]
  constructor
  · exact fun hf => h.top _ hf
  · intro hf
    obtain ⟨p, hp, e⟩ := List.mem_map.1 (h.all f hf.1 hf.2.1 hf.2.2.1)
    have e : p.1 = keyB f := e
    have hpe := h.top p hp
    have : p.2 = f := prev_total (h.ok p hp).2 (keyB_valid hf.2.1) ((h.ok p hp).1.symm.trans e) (hf.2.2.2 _ hpe.1 hpe.2.2.1) (hpe.2.2.2 _ hf.1 hf.2.2.1)
    rw [← e, ← this]; exact hp
theorem eff_congr {l m : List Fact} (h : ∀ x, x ∈ l ↔ x ∈ m) (d : Int) (f : Fact) : eff l d f ↔ eff m d f := by
  unfold eff
  rw [h f]
  exact ⟨fun ⟨a, b, c, e⟩ => ⟨a, b, c, fun g hg => e g ((h g).2 hg)⟩, fun ⟨a, b, c, e⟩ => ⟨a, b, c, fun g hg => e g ((h g).1 hg)⟩⟩
theorem factsM_nodup (l : List Fact) (d : Int) : (factsM (bestL l d)).Nodup := nodup_of_map (f := keyB) (by rw [factsM_keys (best_inv l d).ok]; exact best_nodup l d)
/-- order and repetition make no difference -/
theorem ofB_set {l m : List Fact} (h : ∀ x, x ∈ l ↔ x ∈ m) (d : Int) : ofB l d = ofB m d := by
  have hp : (factsM (bestL l d)).Perm (factsM (bestL m d)) := perm_of_mem (factsM_nodup l d) (factsM_nodup m d) fun x => by rw [best_eff, best_eff, eff_congr h]
  have hm := (best_inv m d).ok
  have hn := best_nodup m d
  unfold ofB baseL
  rw [lst_perm hm hn hp [1] 0 (by decide), lst_perm hm hn hp [2] 1 (by decide), lst_perm hm hn hp [3] 2 (by decide), lst_perm hm hn hp [4] 3 (by decide), lst_perm hm hn hp [5] 4 (by decide), lst_perm hm hn hp [6] 5 (by decide), lst_perm hm hn hp [7] 6 (by decide), lst_perm hm hn hp [8] 7 (by decide), lst_perm hm hn hp [9] 8 (by decide), lst_perm hm hn hp [10] 9 (by decide), lst_perm hm hn hp [11] 10 (by decide)]

end Go.Wx
namespace Go.Proofs.YthfjagphcekcbaaGreat
open Go.Wx Go.RowKit
theorem tr29 : True := trivial
end Go.Proofs.YthfjagphcekcbaaGreat
