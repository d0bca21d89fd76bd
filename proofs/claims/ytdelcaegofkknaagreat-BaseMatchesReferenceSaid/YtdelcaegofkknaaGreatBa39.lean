import Derived.Test.YtdelcaegofkknaaGreatBa38
namespace Go.Wx

def fldR (k : Int) : List Int := if k = 1 then [0, 1, 5, 6, 7, 8, 9, 10, 11, 12] else if k = 2 then [0, 10, 12] else if k = 3 then [0, 1, 2, 10] else if k = 4 then [1, 3, 4, 10] else if k = 5 then [4] else if k = 6 then [0, 5, 6, 8, 9, 10, 11] else if k = 7 then [0, 1, 3, 5, 6, 7, 8, 9, 10, 11, 13] else if k = 8 then [2, 13, 10] else if k = 9 then [0, 5, 6, 10] else if k = 10 then [8, 10, 12] else if k = 11 then [0, 5, 6, 10, 11] else []
def limL (k j : Int) : Int × Int := if j = 5 then (0, 59 + (if k = 7 then 1 else 0)) else if j = 6 then (0, 3 + (if k = 7 then 1 else 0)) else if j = 7 then (0, 39 + (if k = 7 then 1 else 0)) else if j = 10 then (0, 1000000) else if j = 11 then (0, 1000000) else if j = 13 then (1, 255) else if j = 12 then (if k = 1 then (-10000000, 10000000) else (-1000000, 1000000)) else if k = 7 ∧ j ≠ 0 then (0, 1000000) else (1, 1000000)
def hasR (l : List Int) (n : Int) : Bool := l.any fun x => decide (x = n)
def preR (f : Fact) : Bool := decide (((fldR f.Kind).length : Int) = 0) || decide (f.Version < 1) || decide (1000000 < f.Version) || decide (f.Day < 0) || decide (100000 < f.Day) || decide (8192 < (f.Text.size : Int)) || (!decide (f.Kind = 5) && !(f.Text.toList == (⟨#[]⟩ : ByteArray).toList))
def badR (f : Fact) (j : Nat) : Bool := (hasR (fldR f.Kind) j && (decide (getN f j < (limL f.Kind j).1) || decide ((limL f.Kind j).2 < getN f j))) || (!hasR (fldR f.Kind) j && !decide (getN f j = 0))
def endR (f : Fact) : Bool := (!hasR (fldR f.Kind) 11 || decide (f.Time ≤ f.Until)) && (!decide (f.Kind = 3) || !decide (f.Wafer = f.Other))
def validR (f : Fact) : Bool := !preR f && ((List.range 14).all fun j => !badR f j) && endR f
theorem hasR_step {l : List Int} {i : Nat} {x n : Int} (hx : l[i]? = some x) (h : ((l.take i).any fun x => decide (x = n)) = false) (hn : ¬ x = n) : ((l.take (i + 1)).any fun x => decide (x = n)) = false := by rw [take_succ_of hx, List.any_append, h]; simp [hn]
theorem validR_pre {f : Fact} (h : preR f = true) : false = validR f := by simp [validR, h]
theorem validR_bad {f : Fact} {j : Nat} (hj : j < 14) (h : badR f j = true) : false = validR f := by
  have : ((List.range 14).all fun j => !badR f j) = false := by
    rw [Bool.eq_false_iff]; intro e
    have := List.all_eq_true.1 e j (List.mem_range.2 hj)
    rw [h] at this; cases this
  simp [validR, this]
theorem validR_end {f : Fact} (h : preR f = false) (hb : ∀ j, j < 14 → badR f j = false) : endR f = validR f := by
  have : ((List.range 14).all fun j => !badR f j) = true := List.all_eq_true.2 fun j hj => by rw [hb j (List.mem_range.1 hj)]; rfl
  simp [validR, h, this]
theorem fldR_lt (k : Int) : ∀ n ∈ fldR k, 0 ≤ n ∧ n < 14 := by
  intro n h
  unfold fldR at h
  (repeat' split at h) <;> simp at h <;> omega
theorem fldR_len (k : Int) : (fldR k).length ≤ 11 := by unfold fldR; (repeat' split) <;> simp
def offN (j : Nat) : Nat := [1, 7, 8, 9, 10, 11, 12, 13, 14, 15, 5, 6, 16, 17].getD j 0
theorem getN_off {f : Fact} {j : Nat} (h : j < 14) : getN f (j : Int) = getF f (offN j) := by
  match j, h with
  | 0, _ | 1, _ | 2, _ | 3, _ | 4, _ | 5, _ | 6, _ | 7, _ | 8, _ | 9, _ | 10, _ | 11, _ | 12, _ | 13, _ => rfl
theorem off_of {o : Nat} (h : okOff o = true) : ∃ j, j < 14 ∧ offN j = o := by
  rcases okOff_cases h with rfl | rfl | rfl | rfl | rfl | rfl | rfl | rfl | rfl | rfl | rfl | rfl | rfl | rfl
  all_goals first | exact ⟨0, by decide, rfl⟩ | exact ⟨1, by decide, rfl⟩ | exact ⟨2, by decide, rfl⟩ | exact ⟨3, by decide, rfl⟩ | exact ⟨4, by decide, rfl⟩ | exact ⟨5, by decide, rfl⟩ | exact ⟨6, by decide, rfl⟩ | exact ⟨7, by decide, rfl⟩ | exact ⟨8, by decide, rfl⟩ | exact ⟨9, by decide, rfl⟩ | exact ⟨10, by decide, rfl⟩ | exact ⟨11, by decide, rfl⟩ | exact ⟨12, by decide, rfl⟩ | exact ⟨13, by decide, rfl⟩
theorem tabR1 : ∀ k ∈ List.range 12, ∀ j ∈ List.range 14, ∀ x ∈ fieldsOf (k : Int), x.off = offN j → hasR (fldR (k : Int)) (j : Int) = true ∧ limL (k : Int) (j : Int) = (x.lo, x.hi) := by decide +kernel
theorem tabR2 : ∀ k ∈ List.range 12, ∀ j ∈ List.range 14, hasR (fldR (k : Int)) (j : Int) = true → ∃ x ∈ fieldsOf (k : Int), x.off = offN j := by decide +kernel
theorem tabR3 : ∀ k ∈ List.range 12, hasR (fldR (k : Int)) 11 = decide (restOf (k : Int) = 1) ∧ (decide ((k : Int) = 3) = decide (restOf (k : Int) = 2)) ∧ textOf (k : Int) = decide ((k : Int) = 5) ∧ ((fieldsOf (k : Int)).map (·.off)).Nodup ∧ (k ≠ 0 → (fldR (k : Int)).length ≠ 0) := by decide +kernel
theorem fldR_kind {k : Int} (h : (fldR k).length ≠ 0) : 1 ≤ k ∧ k ≤ 11 := by
  unfold fldR at h
  (repeat' split at h) <;> first | omega | exact absurd rfl h
theorem runF_some : ∀ {fs : List Fld} {f : Fact}, (∀ x ∈ fs, okOff x.off = true) → (fs.map (·.off)).Nodup → (∀ x ∈ fs, x.lo ≤ getF f x.off ∧ getF f x.off ≤ x.hi) → ∃ g, runF fs f = some g ∧ (g.Kind = f.Kind ∧ g.Version = f.Version ∧ g.Day = f.Day ∧ g.Gone = f.Gone ∧ g.Text = f.Text) ∧ ∀ o, okOff o = true → getF g o = if o ∈ fs.map (·.off) then 0 else getF f o
  | [], f, _, _, _ => ⟨f, rfl, ⟨rfl, rfl, rfl, rfl, rfl⟩, fun o _ => by simp⟩
  | x :: fs, f, ho, hn, hl => by
    rw [List.map_cons, List.nodup_cons] at hn
    have hx := hl x List.mem_cons_self
    have hox := ho x List.mem_cons_self
    obtain ⟨g, h1, h2, h3⟩ := runF_some (fs := fs) (f := setF f x.off 0) (fun y hy => ho y (List.mem_cons_of_mem _ hy)) hn.2 (fun y hy => by
      rw [get_set hox (ho y (List.mem_cons_of_mem _ hy)), if_neg (fun e => hn.1 (List.mem_map.2 ⟨y, hy, e.symm⟩))]
      exact hl y (List.mem_cons_of_mem _ hy))
    refine ⟨g, by unfold runF; rw [if_neg (by omega)]; exact h1, ?_, fun o hoo => ?_⟩
    · have : (setF f x.off 0).Kind = f.Kind ∧ (setF f x.off 0).Version = f.Version ∧ (setF f x.off 0).Day = f.Day ∧ (setF f x.off 0).Gone = f.Gone ∧ (setF f x.off 0).Text = f.Text := by
        rcases okOff_cases hox with e | e | e | e | e | e | e | e | e | e | e | e | e | e <;> rw [e] <;> exact ⟨rfl, rfl, rfl, rfl, rfl⟩
      rw [this.1, this.2.1, this.2.2.1, this.2.2.2.1, this.2.2.2.2] at h2
      exact h2
    · rw [h3 o hoo, get_set hox hoo]
      by_cases e : o = x.off
      · subst e; simp
      · simp [e, Ne.symm e]
theorem text_emp {t : ByteArray} : (t.toList == (⟨#[]⟩ : ByteArray).toList) = decide (t.toList = []) := by rw [Bool.eq_iff_iff]; simp
theorem valid_eq (f : Fact) : validR f = validB f := by
  rw [Bool.eq_iff_iff]
  constructor
  · intro h
    unfold validR endR at h
    rw [Bool.and_eq_true, Bool.and_eq_true, Bool.and_eq_true] at h
    obtain ⟨⟨h1, h2⟩, h3, h4⟩ := h
    have hp : preR f = false := by simpa using h1
    unfold preR at hp
    simp only [Bool.or_eq_false_iff, decide_eq_false_iff_not] at hp
    obtain ⟨⟨⟨⟨⟨⟨p0, p1⟩, p2⟩, p3⟩, p4⟩, p5⟩, p6⟩ := hp
    have hk := fldR_kind (k := f.Kind) (by omega)
    obtain ⟨k, ek⟩ : ∃ k : Nat, f.Kind = (k : Int) := ⟨f.Kind.toNat, by omega⟩
    have hkr : k ∈ List.range 12 := List.mem_range.2 (by omega)
    obtain ⟨t1, t2, t3, t4, _⟩ := tabR3 k hkr
    have hb : ∀ j, j < 14 → badR f j = false := fun j hj => by have := List.all_eq_true.1 h2 j (List.mem_range.2 hj); simpa using this
    have hl : ∀ x ∈ fieldsOf f.Kind, x.lo ≤ getF f x.off ∧ getF f x.off ≤ x.hi := fun x hx => by
      obtain ⟨j, hj, ej⟩ := off_of (fields_ok f.Kind x hx)
      obtain ⟨u1, u2⟩ := tabR1 k hkr j (List.mem_range.2 hj) x (ek ▸ hx) ej.symm
      have := hb j hj
      unfold badR at this
      rw [ek, u1, u2, getN_off hj, ej] at this
      simp at this
      omega
    have hz : ∀ o, okOff o = true → o ∉ (fieldsOf f.Kind).map (·.off) → getF f o = 0 := fun o ho hn => by
      obtain ⟨j, hj, rfl⟩ := off_of ho
      have hh : hasR (fldR f.Kind) j = false := by
        rw [Bool.eq_false_iff]; intro e
        rw [ek] at e
        obtain ⟨x, hx, ex⟩ := tabR2 k hkr j (List.mem_range.2 hj) e
        exact hn (List.mem_map.2 ⟨x, ek ▸ hx, ex⟩)
      have := hb j hj
      unfold badR at this
      rw [hh, getN_off hj] at this
      simpa using this
    obtain ⟨g, hg, ⟨g1, g2, g3, g4, g5⟩, g6⟩ := runF_some (fields_ok f.Kind) (by rw [ek]; exact t4) hl
    unfold validB
    rw [decide_eq_true hk, hg]
    have hpre : preB f = false := by unfold preB; simp [p1, p2, p3, p4, p5]
    have hrest : restB (restOf f.Kind) f = true := by
      rw [ek] at h3 h4 ⊢
      rw [t1] at h3; rw [t2] at h4
      have : restOf (k : Int) = 0 ∨ restOf (k : Int) = 1 ∨ restOf (k : Int) = 2 := (show ∀ k ∈ List.range 12, restOf (k : Int) = 0 ∨ restOf (k : Int) = 1 ∨ restOf (k : Int) = 2 by decide) k hkr
      rcases this with e | e | e <;> rw [e] at h3 h4 ⊢
      · rfl
      · simpa [restB] using h3
      · simpa [restB] using h4
    rw [hpre, hrest]
    show (true && (!(false || !true) && _)) = true
    have e : (if textOf f.Kind then { g with Text := ByteArray.empty } else g) = fact0 f.Kind f.Version f.Day f.Gone := by
      have ht : textOf f.Kind = false → g.Text = ByteArray.empty := fun ht => by
        rw [g5]
        rw [ek, t3] at ht
        rw [ek, ht, text_emp] at p6
        exact text_inj (by simpa using p6)
      cases ht0 : textOf f.Kind with
      | true => exact fact_ext g1 g2 g3 g4 rfl (fun o ho => by
          show getF g o = _
          rw [g6 o ho]
          have : getF (fact0 f.Kind f.Version f.Day f.Gone) o = 0 := by rcases okOff_cases ho with e | e | e | e | e | e | e | e | e | e | e | e | e | e <;> rw [e] <;> rfl
          rw [this]
          split
          · rfl
          · rename_i hno; exact hz o ho hno)
      | false => exact fact_ext g1 g2 g3 g4 (ht ht0) (fun o ho => by
          show getF g o = _
          rw [g6 o ho]
          have : getF (fact0 f.Kind f.Version f.Day f.Gone) o = 0 := by rcases okOff_cases ho with e | e | e | e | e | e | e | e | e | e | e | e | e | e <;> rw [e] <;> rfl
          rw [this]
          split
          · rfl
          · rename_i hno; exact hz o ho hno)
    dsimp only
    rw [e]
    simp [eqb_refl]
  · intro h
    have hk := valid_kind h
    obtain ⟨k, ek⟩ : ∃ k : Nat, f.Kind = (k : Int) := ⟨f.Kind.toNat, by omega⟩
    have hkr : k ∈ List.range 12 := List.mem_range.2 (by omega)
    obtain ⟨t1, t2, t3, t4, t5⟩ := tabR3 k hkr
    have hp := valid_pre h
    obtain ⟨v1, _, v3⟩ := valid_parts h
    have hl := valid_lim h rfl (by rw [ek]; exact t4)
    have hpre : preR f = false := by
      unfold preB at hp
      simp only [Bool.or_eq_false_iff] at hp
      unfold preR
      rw [hp.1.1.1.1, hp.1.1.1.2, hp.1.1.2, hp.1.2, hp.2, text_emp]
      have e1 : decide (((fldR f.Kind).length : Int) = 0) = false := decide_eq_false (by rw [ek]; have := t5 (by omega); omega)
      rw [e1]
      cases e5 : decide (f.Kind = 5) with
      | true => rfl
      | false =>
        have := v3 (by rw [ek, t3, ← ek]; exact e5)
        rw [this]; rfl
    have hb : ∀ j, j < 14 → badR f j = false := fun j hj => by
      unfold badR
      rw [getN_off hj]
      cases hh : hasR (fldR f.Kind) j with
      | true =>
        rw [ek] at hh
        obtain ⟨x, hx, ex⟩ := tabR2 k hkr j (List.mem_range.2 hj) hh
        obtain ⟨_, u2⟩ := tabR1 k hkr j (List.mem_range.2 hj) x hx ex
        have := hl x (ek ▸ hx)
        rw [ek, u2, ← ex]
        simp; omega
      | false =>
        have := v1 (offN j) (by have : ∀ j ∈ List.range 14, okOff (offN j) = true := by decide
                                exact this j (List.mem_range.2 hj)) (fun x hx e => by
          have := (tabR1 k hkr j (List.mem_range.2 hj) x (ek ▸ hx) e).1
          rw [← ek, hh] at this; cases this)
        rw [this]; simp
    rw [← validR_end hpre hb]
    have hrest : restB (restOf f.Kind) f = true := by
      unfold validB at h
      simp only [Bool.and_eq_true] at h
      have := h.2.1
      simp only [Bool.not_eq_true', Bool.or_eq_false_iff] at this
      simpa using this.2
    unfold endR
    rw [ek] at hrest ⊢
    rw [t1, t2]
    have : restOf (k : Int) = 0 ∨ restOf (k : Int) = 1 ∨ restOf (k : Int) = 2 := (show ∀ k ∈ List.range 12, restOf (k : Int) = 0 ∨ restOf (k : Int) = 1 ∨ restOf (k : Int) = 2 by decide) k hkr
    rcases this with e | e | e <;> rw [e] at hrest ⊢
    · rfl
    · simpa [restB] using hrest
    · simpa [restB] using hrest

end Go.Wx
namespace Go.Proofs.YtdelcaegofkknaaGreat
open Go.Wx Go.RowKit
theorem rFields_any (k : Int) (w : World) : Ret Tryz.prog 106 #[vi k] w fun r w' => ∃ ad cp, r = .slice ad (fldR k).length cp ∧ Els w' ad 1 eInt (fldR k) ∧ Up w w' := by
  have hW := Up.refl w
  obtain ⟨w0, rfl⟩ : ∃ w0, w0 = w := ⟨_, rfl⟩
  refine Calls_start (n := 37) (m := 9) Tryz.func106 rfl rfl rfl ?_
  refine CW.seq (CW.region (LW.p (PEv.assign (.const _)) rfl rfl rfl (LW.nil (KW.then (CW.seq (CW.seq (CW.region (LW.p (PEv.move (.tmp rfl)) rfl rfl rfl (LW.nil (KW.then (CW.block (CW.seq (CW.region ?_)))))))))))))
  refine LW.p (PEv.eql (.tmp rfl) (.const _)) rfl rfl rfl ?_
  refine LW.p (PEv.assign (.tmp rfl)) rfl rfl rfl (LW.nil (KW.then ?_))
  refine CW.cond (.tmp rfl) (fun h4 => ?_) (fun h4 => ?_)
  ·first | replace h4 := of_decide_eq_true h4 | replace h4 := of_decide_eq_false h4 | skip
   have hkf : fldR k = [0, 1, 5, 6, 7, 8, 9, 10, 11, 12] := if_pos h4
   refine CW.seq (CW.region ?_)
   refine LW.r (REv.buildSlice (xs := [0, 1, 5, 6, 7, 8, 9, 10, 11, 12]) (enc := eInt) (mk := vi) Tryz.underlying92 Tryz.sizeOf3 Tryz.zeroValue3 rfl (by decide) (fun _ => rfl) (fun _ => rfl) (.cons (.const _) (.cons (.const _) (.cons (.const _) (.cons (.const _) (.cons (.const _) (.cons (.const _) (.cons (.const _) (.cons (.const _) (.cons (.const _) (.cons (.const _) .nil)))))))))) rfl) rfl rfl rfl rfl ?_
   rintro _ w1 ⟨B6, cB6, rfl, NB6, yB6, xB6⟩
   have eB6 := NB6.at_
   have zB6 := NB6.size
   replace hW := hW.up NB6.up
   have hB6 := NB6.blk
   have hE6 := xB6
   refine LW.p (PEv.assign (.tmp rfl)) rfl rfl rfl (LW.nil (KW.then (CW.ret (KW.block_ret (KW.then_ret ?_)))))
   refine KW.ret1 rfl rfl ⟨_, rfl, ?_⟩
   rw [hkf]
   first | exact ⟨_, _, rfl, hE6, hW⟩ | exact ⟨_, _, rfl, hE9, hW⟩ | exact ⟨_, _, rfl, hE12, hW⟩ | exact ⟨_, _, rfl, hE15, hW⟩ | exact ⟨_, _, rfl, hE18, hW⟩ | exact ⟨_, _, rfl, hE21, hW⟩ | exact ⟨_, _, rfl, hE24, hW⟩ | exact ⟨_, _, rfl, hE27, hW⟩ | exact ⟨_, _, rfl, hE30, hW⟩ | exact ⟨_, _, rfl, hE33, hW⟩ | exact ⟨_, _, rfl, hE36, hW⟩ | exact ⟨none, 0, rfl, fun i x h => by simp at h, hW⟩
  ·first | replace h4 := of_decide_eq_true h4 | replace h4 := of_decide_eq_false h4 | skip
   refine CW.seq (CW.region ?_)
   refine LW.p (PEv.eql (.tmp rfl) (.const _)) rfl rfl rfl ?_
   refine LW.p (PEv.assign (.tmp rfl)) rfl rfl rfl (LW.nil (KW.then ?_))
   refine CW.cond (.tmp rfl) (fun h7 => ?_) (fun h7 => ?_)
   ·first | replace h7 := of_decide_eq_true h7 | replace h7 := of_decide_eq_false h7 | skip
    have hkf : fldR k = [0, 10, 12] := (if_neg h4).trans (if_pos h7)
    refine CW.seq (CW.region ?_)
    refine LW.r (REv.buildSlice (xs := [0, 10, 12]) (enc := eInt) (mk := vi) Tryz.underlying92 Tryz.sizeOf3 Tryz.zeroValue3 rfl (by decide) (fun _ => rfl) (fun _ => rfl) (.cons (.const _) (.cons (.const _) (.cons (.const _) .nil))) rfl) rfl rfl rfl rfl ?_
    rintro _ w2 ⟨B9, cB9, rfl, NB9, yB9, xB9⟩
    have eB9 := NB9.at_
    have zB9 := NB9.size
    replace hW := hW.up NB9.up
    have hB9 := NB9.blk
    have hE9 := xB9
    refine LW.p (PEv.assign (.tmp rfl)) rfl rfl rfl (LW.nil (KW.then (CW.ret (KW.block_ret (KW.then_ret ?_)))))
    refine KW.ret1 rfl rfl ⟨_, rfl, ?_⟩
    rw [hkf]
    first | exact ⟨_, _, rfl, hE6, hW⟩ | exact ⟨_, _, rfl, hE9, hW⟩ | exact ⟨_, _, rfl, hE12, hW⟩ | exact ⟨_, _, rfl, hE15, hW⟩ | exact ⟨_, _, rfl, hE18, hW⟩ | exact ⟨_, _, rfl, hE21, hW⟩ | exact ⟨_, _, rfl, hE24, hW⟩ | exact ⟨_, _, rfl, hE27, hW⟩ | exact ⟨_, _, rfl, hE30, hW⟩ | exact ⟨_, _, rfl, hE33, hW⟩ | exact ⟨_, _, rfl, hE36, hW⟩ | exact ⟨none, 0, rfl, fun i x h => by simp at h, hW⟩
   ·first | replace h7 := of_decide_eq_true h7 | replace h7 := of_decide_eq_false h7 | skip
    refine CW.seq (CW.region ?_)
    refine LW.p (PEv.eql (.tmp rfl) (.const _)) rfl rfl rfl ?_
    refine LW.p (PEv.assign (.tmp rfl)) rfl rfl rfl (LW.nil (KW.then ?_))
    refine CW.cond (.tmp rfl) (fun h10 => ?_) (fun h10 => ?_)
    ·first | replace h10 := of_decide_eq_true h10 | replace h10 := of_decide_eq_false h10 | skip
     have hkf : fldR k = [0, 1, 2, 10] := (if_neg h4).trans ((if_neg h7).trans (if_pos h10))
     refine CW.seq (CW.region ?_)
     refine LW.r (REv.buildSlice (xs := [0, 1, 2, 10]) (enc := eInt) (mk := vi) Tryz.underlying92 Tryz.sizeOf3 Tryz.zeroValue3 rfl (by decide) (fun _ => rfl) (fun _ => rfl) (.cons (.const _) (.cons (.const _) (.cons (.const _) (.cons (.const _) .nil)))) rfl) rfl rfl rfl rfl ?_
     rintro _ w3 ⟨B12, cB12, rfl, NB12, yB12, xB12⟩
     have eB12 := NB12.at_
     have zB12 := NB12.size
     replace hW := hW.up NB12.up
     have hB12 := NB12.blk
     have hE12 := xB12
     refine LW.p (PEv.assign (.tmp rfl)) rfl rfl rfl (LW.nil (KW.then (CW.ret (KW.block_ret (KW.then_ret ?_)))))
     refine KW.ret1 rfl rfl ⟨_, rfl, ?_⟩
     rw [hkf]
     first | exact ⟨_, _, rfl, hE6, hW⟩ | exact ⟨_, _, rfl, hE9, hW⟩ | exact ⟨_, _, rfl, hE12, hW⟩ | exact ⟨_, _, rfl, hE15, hW⟩ | exact ⟨_, _, rfl, hE18, hW⟩ | exact ⟨_, _, rfl, hE21, hW⟩ | exact ⟨_, _, rfl, hE24, hW⟩ | exact ⟨_, _, rfl, hE27, hW⟩ | exact ⟨_, _, rfl, hE30, hW⟩ | exact ⟨_, _, rfl, hE33, hW⟩ | exact ⟨_, _, rfl, hE36, hW⟩ | exact ⟨none, 0, rfl, fun i x h => by simp at h, hW⟩
    ·first | replace h10 := of_decide_eq_true h10 | replace h10 := of_decide_eq_false h10 | skip
     refine CW.seq (CW.region ?_)
     refine LW.p (PEv.eql (.tmp rfl) (.const _)) rfl rfl rfl ?_
     refine LW.p (PEv.assign (.tmp rfl)) rfl rfl rfl (LW.nil (KW.then ?_))
     refine CW.cond (.tmp rfl) (fun h13 => ?_) (fun h13 => ?_)
     ·first | replace h13 := of_decide_eq_true h13 | replace h13 := of_decide_eq_false h13 | skip
      have hkf : fldR k = [1, 3, 4, 10] := (if_neg h4).trans ((if_neg h7).trans ((if_neg h10).trans (if_pos h13)))
      refine CW.seq (CW.region ?_)
      refine LW.r (REv.buildSlice (xs := [1, 3, 4, 10]) (enc := eInt) (mk := vi) Tryz.underlying92 Tryz.sizeOf3 Tryz.zeroValue3 rfl (by decide) (fun _ => rfl) (fun _ => rfl) (.cons (.const _) (.cons (.const _) (.cons (.const _) (.cons (.const _) .nil)))) rfl) rfl rfl rfl rfl ?_
      rintro _ w4 ⟨B15, cB15, rfl, NB15, yB15, xB15⟩
      have eB15 := NB15.at_
      have zB15 := NB15.size
      replace hW := hW.up NB15.up
      have hB15 := NB15.blk
      have hE15 := xB15
      refine LW.p (PEv.assign (.tmp rfl)) rfl rfl rfl (LW.nil (KW.then (CW.ret (KW.block_ret (KW.then_ret ?_)))))
      refine KW.ret1 rfl rfl ⟨_, rfl, ?_⟩
      rw [hkf]
      first | exact ⟨_, _, rfl, hE6, hW⟩ | exact ⟨_, _, rfl, hE9, hW⟩ | exact ⟨_, _, rfl, hE12, hW⟩ | exact ⟨_, _, rfl, hE15, hW⟩ | exact ⟨_, _, rfl, hE18, hW⟩ | exact ⟨_, _, rfl, hE21, hW⟩ | exact ⟨_, _, rfl, hE24, hW⟩ | exact ⟨_, _, rfl, hE27, hW⟩ | exact ⟨_, _, rfl, hE30, hW⟩ | exact ⟨_, _, rfl, hE33, hW⟩ | exact ⟨_, _, rfl, hE36, hW⟩ | exact ⟨none, 0, rfl, fun i x h => by simp at h, hW⟩
     ·first | replace h13 := of_decide_eq_true h13 | replace h13 := of_decide_eq_false h13 | skip
      refine CW.seq (CW.region ?_)
      refine LW.p (PEv.eql (.tmp rfl) (.const _)) rfl rfl rfl ?_
      refine LW.p (PEv.assign (.tmp rfl)) rfl rfl rfl (LW.nil (KW.then ?_))
      refine CW.cond (.tmp rfl) (fun h16 => ?_) (fun h16 => ?_)
      ·first | replace h16 := of_decide_eq_true h16 | replace h16 := of_decide_eq_false h16 | skip
       have hkf : fldR k = [4] := (if_neg h4).trans ((if_neg h7).trans ((if_neg h10).trans ((if_neg h13).trans (if_pos h16))))
       refine CW.seq (CW.region ?_)
       refine LW.r (REv.buildSlice (xs := [4]) (enc := eInt) (mk := vi) Tryz.underlying92 Tryz.sizeOf3 Tryz.zeroValue3 rfl (by decide) (fun _ => rfl) (fun _ => rfl) (.cons (.const _) .nil) rfl) rfl rfl rfl rfl ?_
       rintro _ w5 ⟨B18, cB18, rfl, NB18, yB18, xB18⟩
       have eB18 := NB18.at_
       have zB18 := NB18.size
       replace hW := hW.up NB18.up
       have hB18 := NB18.blk
       have hE18 := xB18
       refine LW.p (PEv.assign (.tmp rfl)) rfl rfl rfl (LW.nil (KW.then (CW.ret (KW.block_ret (KW.then_ret ?_)))))
       refine KW.ret1 rfl rfl ⟨_, rfl, ?_⟩
       rw [hkf]
       first | exact ⟨_, _, rfl, hE6, hW⟩ | exact ⟨_, _, rfl, hE9, hW⟩ | exact ⟨_, _, rfl, hE12, hW⟩ | exact ⟨_, _, rfl, hE15, hW⟩ | exact ⟨_, _, rfl, hE18, hW⟩ | exact ⟨_, _, rfl, hE21, hW⟩ | exact ⟨_, _, rfl, hE24, hW⟩ | exact ⟨_, _, rfl, hE27, hW⟩ | exact ⟨_, _, rfl, hE30, hW⟩ | exact ⟨_, _, rfl, hE33, hW⟩ | exact ⟨_, _, rfl, hE36, hW⟩ | exact ⟨none, 0, rfl, fun i x h => by simp at h, hW⟩
      ·first | replace h16 := of_decide_eq_true h16 | replace h16 := of_decide_eq_false h16 | skip
       refine CW.seq (CW.region ?_)
       refine LW.p (PEv.eql (.tmp rfl) (.const _)) rfl rfl rfl ?_
       refine LW.p (PEv.assign (.tmp rfl)) rfl rfl rfl (LW.nil (KW.then ?_))
       refine CW.cond (.tmp rfl) (fun h19 => ?_) (fun h19 => ?_)
       ·first | replace h19 := of_decide_eq_true h19 | replace h19 := of_decide_eq_false h19 | skip
        have hkf : fldR k = [0, 5, 6, 8, 9, 10, 11] := (if_neg h4).trans ((if_neg h7).trans ((if_neg h10).trans ((if_neg h13).trans ((if_neg h16).trans (if_pos h19)))))
        refine CW.seq (CW.region ?_)
        refine LW.r (REv.buildSlice (xs := [0, 5, 6, 8, 9, 10, 11]) (enc := eInt) (mk := vi) Tryz.underlying92 Tryz.sizeOf3 Tryz.zeroValue3 rfl (by decide) (fun _ => rfl) (fun _ => rfl) (.cons (.const _) (.cons (.const _) (.cons (.const _) (.cons (.const _) (.cons (.const _) (.cons (.const _) (.cons (.const _) .nil))))))) rfl) rfl rfl rfl rfl ?_
        rintro _ w6 ⟨B21, cB21, rfl, NB21, yB21, xB21⟩
        have eB21 := NB21.at_
        have zB21 := NB21.size
        replace hW := hW.up NB21.up
        have hB21 := NB21.blk
        have hE21 := xB21
        refine LW.p (PEv.assign (.tmp rfl)) rfl rfl rfl (LW.nil (KW.then (CW.ret (KW.block_ret (KW.then_ret ?_)))))
        refine KW.ret1 rfl rfl ⟨_, rfl, ?_⟩
        rw [hkf]
        first | exact ⟨_, _, rfl, hE6, hW⟩ | exact ⟨_, _, rfl, hE9, hW⟩ | exact ⟨_, _, rfl, hE12, hW⟩ | exact ⟨_, _, rfl, hE15, hW⟩ | exact ⟨_, _, rfl, hE18, hW⟩ | exact ⟨_, _, rfl, hE21, hW⟩ | exact ⟨_, _, rfl, hE24, hW⟩ | exact ⟨_, _, rfl, hE27, hW⟩ | exact ⟨_, _, rfl, hE30, hW⟩ | exact ⟨_, _, rfl, hE33, hW⟩ | exact ⟨_, _, rfl, hE36, hW⟩ | exact ⟨none, 0, rfl, fun i x h => by simp at h, hW⟩
       ·first | replace h19 := of_decide_eq_true h19 | replace h19 := of_decide_eq_false h19 | skip
        refine CW.seq (CW.region ?_)
        refine LW.p (PEv.eql (.tmp rfl) (.const _)) rfl rfl rfl ?_
        refine LW.p (PEv.assign (.tmp rfl)) rfl rfl rfl (LW.nil (KW.then ?_))
        refine CW.cond (.tmp rfl) (fun h22 => ?_) (fun h22 => ?_)
        ·first | replace h22 := of_decide_eq_true h22 | replace h22 := of_decide_eq_false h22 | skip
         have hkf : fldR k = [0, 1, 3, 5, 6, 7, 8, 9, 10, 11, 13] := (if_neg h4).trans ((if_neg h7).trans ((if_neg h10).trans ((if_neg h13).trans ((if_neg h16).trans ((if_neg h19).trans (if_pos h22))))))
         refine CW.seq (CW.region ?_)
         refine LW.r (REv.buildSlice (xs := [0, 1, 3, 5, 6, 7, 8, 9, 10, 11, 13]) (enc := eInt) (mk := vi) Tryz.underlying92 Tryz.sizeOf3 Tryz.zeroValue3 rfl (by decide) (fun _ => rfl) (fun _ => rfl) (.cons (.const _) (.cons (.const _) (.cons (.const _) (.cons (.const _) (.cons (.const _) (.cons (.const _) (.cons (.const _) (.cons (.const _) (.cons (.const _) (.cons (.const _) (.cons (.const _) .nil))))))))))) rfl) rfl rfl rfl rfl ?_
         rintro _ w7 ⟨B24, cB24, rfl, NB24, yB24, xB24⟩
         have eB24 := NB24.at_
         have zB24 := NB24.size
         replace hW := hW.up NB24.up
         have hB24 := NB24.blk
         have hE24 := xB24
         refine LW.p (PEv.assign (.tmp rfl)) rfl rfl rfl (LW.nil (KW.then (CW.ret (KW.block_ret (KW.then_ret ?_)))))
         refine KW.ret1 rfl rfl ⟨_, rfl, ?_⟩
         rw [hkf]
         first | exact ⟨_, _, rfl, hE6, hW⟩ | exact ⟨_, _, rfl, hE9, hW⟩ | exact ⟨_, _, rfl, hE12, hW⟩ | exact ⟨_, _, rfl, hE15, hW⟩ | exact ⟨_, _, rfl, hE18, hW⟩ | exact ⟨_, _, rfl, hE21, hW⟩ | exact ⟨_, _, rfl, hE24, hW⟩ | exact ⟨_, _, rfl, hE27, hW⟩ | exact ⟨_, _, rfl, hE30, hW⟩ | exact ⟨_, _, rfl, hE33, hW⟩ | exact ⟨_, _, rfl, hE36, hW⟩ | exact ⟨none, 0, rfl, fun i x h => by simp at h, hW⟩
        ·first | replace h22 := of_decide_eq_true h22 | replace h22 := of_decide_eq_false h22 | skip
         refine CW.seq (CW.region ?_)
         refine LW.p (PEv.eql (.tmp rfl) (.const _)) rfl rfl rfl ?_
         refine LW.p (PEv.assign (.tmp rfl)) rfl rfl rfl (LW.nil (KW.then ?_))
         refine CW.cond (.tmp rfl) (fun h25 => ?_) (fun h25 => ?_)
         ·first | replace h25 := of_decide_eq_true h25 | replace h25 := of_decide_eq_false h25 | skip
          have hkf : fldR k = [2, 13, 10] := (if_neg h4).trans ((if_neg h7).trans ((if_neg h10).trans ((if_neg h13).trans ((if_neg h16).trans ((if_neg h19).trans ((if_neg h22).trans (if_pos h25)))))))
          refine CW.seq (CW.region ?_)
          refine LW.r (REv.buildSlice (xs := [2, 13, 10]) (enc := eInt) (mk := vi) Tryz.underlying92 Tryz.sizeOf3 Tryz.zeroValue3 rfl (by decide) (fun _ => rfl) (fun _ => rfl) (.cons (.const _) (.cons (.const _) (.cons (.const _) .nil))) rfl) rfl rfl rfl rfl ?_
          rintro _ w8 ⟨B27, cB27, rfl, NB27, yB27, xB27⟩
          have eB27 := NB27.at_
          have zB27 := NB27.size
          replace hW := hW.up NB27.up
          have hB27 := NB27.blk
          have hE27 := xB27
          refine LW.p (PEv.assign (.tmp rfl)) rfl rfl rfl (LW.nil (KW.then (CW.ret (KW.block_ret (KW.then_ret ?_)))))
          refine KW.ret1 rfl rfl ⟨_, rfl, ?_⟩
          rw [hkf]
          first | exact ⟨_, _, rfl, hE6, hW⟩ | exact ⟨_, _, rfl, hE9, hW⟩ | exact ⟨_, _, rfl, hE12, hW⟩ | exact ⟨_, _, rfl, hE15, hW⟩ | exact ⟨_, _, rfl, hE18, hW⟩ | exact ⟨_, _, rfl, hE21, hW⟩ | exact ⟨_, _, rfl, hE24, hW⟩ | exact ⟨_, _, rfl, hE27, hW⟩ | exact ⟨_, _, rfl, hE30, hW⟩ | exact ⟨_, _, rfl, hE33, hW⟩ | exact ⟨_, _, rfl, hE36, hW⟩ | exact ⟨none, 0, rfl, fun i x h => by simp at h, hW⟩
         ·first | replace h25 := of_decide_eq_true h25 | replace h25 := of_decide_eq_false h25 | skip
          refine CW.seq (CW.region ?_)
          refine LW.p (PEv.eql (.tmp rfl) (.const _)) rfl rfl rfl ?_
          refine LW.p (PEv.assign (.tmp rfl)) rfl rfl rfl (LW.nil (KW.then ?_))
          refine CW.cond (.tmp rfl) (fun h28 => ?_) (fun h28 => ?_)
          ·first | replace h28 := of_decide_eq_true h28 | replace h28 := of_decide_eq_false h28 | skip
           have hkf : fldR k = [0, 5, 6, 10] := (if_neg h4).trans ((if_neg h7).trans ((if_neg h10).trans ((if_neg h13).trans ((if_neg h16).trans ((if_neg h19).trans ((if_neg h22).trans ((if_neg h25).trans (if_pos h28))))))))
           refine CW.seq (CW.region ?_)
           refine LW.r (REv.buildSlice (xs := [0, 5, 6, 10]) (enc := eInt) (mk := vi) Tryz.underlying92 Tryz.sizeOf3 Tryz.zeroValue3 rfl (by decide) (fun _ => rfl) (fun _ => rfl) (.cons (.const _) (.cons (.const _) (.cons (.const _) (.cons (.const _) .nil)))) rfl) rfl rfl rfl rfl ?_
           rintro _ w9 ⟨B30, cB30, rfl, NB30, yB30, xB30⟩
           have eB30 := NB30.at_
           have zB30 := NB30.size
           replace hW := hW.up NB30.up
           have hB30 := NB30.blk
           have hE30 := xB30
           refine LW.p (PEv.assign (.tmp rfl)) rfl rfl rfl (LW.nil (KW.then (CW.ret (KW.block_ret (KW.then_ret ?_)))))
           refine KW.ret1 rfl rfl ⟨_, rfl, ?_⟩
           rw [hkf]
           first | exact ⟨_, _, rfl, hE6, hW⟩ | exact ⟨_, _, rfl, hE9, hW⟩ | exact ⟨_, _, rfl, hE12, hW⟩ | exact ⟨_, _, rfl, hE15, hW⟩ | exact ⟨_, _, rfl, hE18, hW⟩ | exact ⟨_, _, rfl, hE21, hW⟩ | exact ⟨_, _, rfl, hE24, hW⟩ | exact ⟨_, _, rfl, hE27, hW⟩ | exact ⟨_, _, rfl, hE30, hW⟩ | exact ⟨_, _, rfl, hE33, hW⟩ | exact ⟨_, _, rfl, hE36, hW⟩ | exact ⟨none, 0, rfl, fun i x h => by simp at h, hW⟩
          ·first | replace h28 := of_decide_eq_true h28 | replace h28 := of_decide_eq_false h28 | skip
           refine CW.seq (CW.region ?_)
           refine LW.p (PEv.eql (.tmp rfl) (.const _)) rfl rfl rfl ?_
           refine LW.p (PEv.assign (.tmp rfl)) rfl rfl rfl (LW.nil (KW.then ?_))
           refine CW.cond (.tmp rfl) (fun h31 => ?_) (fun h31 => ?_)
           ·first | replace h31 := of_decide_eq_true h31 | replace h31 := of_decide_eq_false h31 | skip
            have hkf : fldR k = [8, 10, 12] := (if_neg h4).trans ((if_neg h7).trans ((if_neg h10).trans ((if_neg h13).trans ((if_neg h16).trans ((if_neg h19).trans ((if_neg h22).trans ((if_neg h25).trans ((if_neg h28).trans (if_pos h31)))))))))
            refine CW.seq (CW.region ?_)
            refine LW.r (REv.buildSlice (xs := [8, 10, 12]) (enc := eInt) (mk := vi) Tryz.underlying92 Tryz.sizeOf3 Tryz.zeroValue3 rfl (by decide) (fun _ => rfl) (fun _ => rfl) (.cons (.const _) (.cons (.const _) (.cons (.const _) .nil))) rfl) rfl rfl rfl rfl ?_
            rintro _ w10 ⟨B33, cB33, rfl, NB33, yB33, xB33⟩
            have eB33 := NB33.at_
            have zB33 := NB33.size
            replace hW := hW.up NB33.up
            have hB33 := NB33.blk
            have hE33 := xB33
            refine LW.p (PEv.assign (.tmp rfl)) rfl rfl rfl (LW.nil (KW.then (CW.ret (KW.block_ret (KW.then_ret ?_)))))
            refine KW.ret1 rfl rfl ⟨_, rfl, ?_⟩
            rw [hkf]
            first | exact ⟨_, _, rfl, hE6, hW⟩ | exact ⟨_, _, rfl, hE9, hW⟩ | exact ⟨_, _, rfl, hE12, hW⟩ | exact ⟨_, _, rfl, hE15, hW⟩ | exact ⟨_, _, rfl, hE18, hW⟩ | exact ⟨_, _, rfl, hE21, hW⟩ | exact ⟨_, _, rfl, hE24, hW⟩ | exact ⟨_, _, rfl, hE27, hW⟩ | exact ⟨_, _, rfl, hE30, hW⟩ | exact ⟨_, _, rfl, hE33, hW⟩ | exact ⟨_, _, rfl, hE36, hW⟩ | exact ⟨none, 0, rfl, fun i x h => by simp at h, hW⟩
           ·first | replace h31 := of_decide_eq_true h31 | replace h31 := of_decide_eq_false h31 | skip
            refine CW.seq (CW.region ?_)
            refine LW.p (PEv.eql (.tmp rfl) (.const _)) rfl rfl rfl ?_
            refine LW.p (PEv.assign (.tmp rfl)) rfl rfl rfl (LW.nil (KW.then ?_))
            refine CW.cond (.tmp rfl) (fun h34 => ?_) (fun h34 => ?_)
            ·first | replace h34 := of_decide_eq_true h34 | replace h34 := of_decide_eq_false h34 | skip
             have hkf : fldR k = [0, 5, 6, 10, 11] := (if_neg h4).trans ((if_neg h7).trans ((if_neg h10).trans ((if_neg h13).trans ((if_neg h16).trans ((if_neg h19).trans ((if_neg h22).trans ((if_neg h25).trans ((if_neg h28).trans ((if_neg h31).trans (if_pos h34))))))))))
             refine CW.seq (CW.region ?_)
             refine LW.r (REv.buildSlice (xs := [0, 5, 6, 10, 11]) (enc := eInt) (mk := vi) Tryz.underlying92 Tryz.sizeOf3 Tryz.zeroValue3 rfl (by decide) (fun _ => rfl) (fun _ => rfl) (.cons (.const _) (.cons (.const _) (.cons (.const _) (.cons (.const _) (.cons (.const _) .nil))))) rfl) rfl rfl rfl rfl ?_
             rintro _ w11 ⟨B36, cB36, rfl, NB36, yB36, xB36⟩
             have eB36 := NB36.at_
             have zB36 := NB36.size
             replace hW := hW.up NB36.up
             have hB36 := NB36.blk
             have hE36 := xB36
             refine LW.p (PEv.assign (.tmp rfl)) rfl rfl rfl (LW.nil (KW.then (CW.ret (KW.block_ret (KW.then_ret ?_)))))
             refine KW.ret1 rfl rfl ⟨_, rfl, ?_⟩
             rw [hkf]
             first | exact ⟨_, _, rfl, hE6, hW⟩ | exact ⟨_, _, rfl, hE9, hW⟩ | exact ⟨_, _, rfl, hE12, hW⟩ | exact ⟨_, _, rfl, hE15, hW⟩ | exact ⟨_, _, rfl, hE18, hW⟩ | exact ⟨_, _, rfl, hE21, hW⟩ | exact ⟨_, _, rfl, hE24, hW⟩ | exact ⟨_, _, rfl, hE27, hW⟩ | exact ⟨_, _, rfl, hE30, hW⟩ | exact ⟨_, _, rfl, hE33, hW⟩ | exact ⟨_, _, rfl, hE36, hW⟩ | exact ⟨none, 0, rfl, fun i x h => by simp at h, hW⟩
            ·first | replace h34 := of_decide_eq_true h34 | replace h34 := of_decide_eq_false h34 | skip
             have hkf : fldR k = [] := (if_neg h4).trans ((if_neg h7).trans ((if_neg h10).trans ((if_neg h13).trans ((if_neg h16).trans ((if_neg h19).trans ((if_neg h22).trans ((if_neg h25).trans ((if_neg h28).trans ((if_neg h31).trans (if_neg h34))))))))))
             refine CW.skip (KW.inBlock (KW.then (CW.seq (CW.region (LW.p (PEv.assign (.const _)) rfl rfl rfl (LW.nil (KW.then (CW.ret ?_))))))))
             refine KW.ret1 rfl rfl ⟨_, rfl, ?_⟩
             rw [hkf]
             first | exact ⟨_, _, rfl, hE6, hW⟩ | exact ⟨_, _, rfl, hE9, hW⟩ | exact ⟨_, _, rfl, hE12, hW⟩ | exact ⟨_, _, rfl, hE15, hW⟩ | exact ⟨_, _, rfl, hE18, hW⟩ | exact ⟨_, _, rfl, hE21, hW⟩ | exact ⟨_, _, rfl, hE24, hW⟩ | exact ⟨_, _, rfl, hE27, hW⟩ | exact ⟨_, _, rfl, hE30, hW⟩ | exact ⟨_, _, rfl, hE33, hW⟩ | exact ⟨_, _, rfl, hE36, hW⟩ | exact ⟨none, 0, rfl, fun i x h => by simp at h, hW⟩

theorem rHas_any (ad : Option Addr) (cp : Nat) (l : List Int) (n : Int) (w : World) (hE : Els w ad 1 eInt l) (hl : l.length ≤ 1000) : Ret Tryz.prog 108 #[.slice ad l.length cp, vi n] w fun r w' => r = .bool (hasR l n) ∧ Up w w' := by
  have hW := Up.refl w
  obtain ⟨w0, rfl⟩ : ∃ w0, w0 = w := ⟨_, rfl⟩
  refine Calls_start (n := 18) (m := 9) Tryz.func108 rfl rfl rfl ?_
  refine CW.seq (CW.region (LW.p (PEv.assign (.const _)) rfl rfl rfl (LW.nil (KW.then (CW.seq (CW.seq (CW.region (LW.p (PEv.assign (.const _)) rfl rfl rfl (LW.nil (KW.then (CW.block ?_)))))))))))
  refine CW.loopB (σ := Nat) (fun s w => (s ≤ l.length) ∧ (((l.take s).any fun x => decide (x = n)) = false) ∧ (Up w0 w)) (fun s => [(5, .eq (vi (s : Int)))]) ([(0, .eq _), (1, .eq _)]) (fun s => l.length - s) 0 ?_ ⟨rfl, rfl, rfl, trivial⟩ ?_
  ·exact ⟨Nat.zero_le _, rfl, hW⟩
  ·rintro i w1 ⟨hi, hq, hW⟩
   refine CW.seq (CW.seq (CW.region (LW.p (PEv.move (.tmp rfl)) rfl rfl rfl (LW.p (PEv.move (.tmp rfl)) rfl rfl rfl ?_))))
   refine LW.p (PEv.lenS Tryz.underlying92 (.tmp rfl)) rfl rfl rfl ?_
   refine LW.p (PEv.lss (.tmp rfl) (.tmp rfl)) rfl rfl rfl ?_
   refine LW.nil (KW.then ?_)
   refine CW.cond (.tmp rfl) (fun h9 => ?_) (fun h9 => ?_)
   ·first | replace h9 := of_decide_eq_true h9 | replace h9 := of_decide_eq_false h9 | skip
    refine CW.skip (KW.then (CW.seq (CW.block (CW.seq ?_))))
    obtain ⟨x, hx⟩ := getElem?_of_lt (xs := l) (i := i) (by omega)
    obtain ⟨Bx, ox, ax, hcx⟩ := (Els.up hE hW) i x hx
    refine CW.region (LW.p (PEv.move (.tmp rfl)) rfl rfl rfl (LW.p (PEv.move (.tmp rfl)) rfl rfl rfl ?_))
    refine LW.p (PEv.indexAddr' Tryz.underlying92 Tryz.sizeOf3 (.tmp rfl) (.tmp rfl) (by omega) ax) rfl rfl rfl ?_
    refine LW.p (PEv.load Tryz.isAgg3 (.tmp rfl) (hcx.nth (j := 0) rfl)) rfl rfl rfl ?_
    refine LW.p (PEv.move (.tmp rfl)) rfl rfl rfl ?_
    refine LW.p (PEv.eql (.tmp rfl) (.tmp rfl)) rfl rfl rfl ?_
    refine LW.nil (KW.then ?_)
    refine CW.cond (.tmp rfl) (fun h17 => ?_) (fun h17 => ?_)
    ·first | replace h17 := of_decide_eq_true h17 | replace h17 := of_decide_eq_false h17 | skip
     refine CW.seq (CW.region (LW.p (PEv.assign (.const _)) rfl rfl rfl (LW.nil (KW.then (CW.ret (KW.block_ret (KW.then_ret (KW.then_ret (KW.block_ret (KW.then_ret ?_))))))))))
     refine KW.ret1 rfl rfl ⟨_, rfl, ?_⟩
     first | exact ⟨by rw [show hasR l n = true from List.any_eq_true.2 ⟨x, List.mem_of_getElem? hx, decide_eq_true h17⟩], hW⟩ | exact ⟨by rw [show i = l.length by omega, List.take_length] at hq; rw [show hasR l n = false from hq], hW⟩
    ·first | replace h17 := of_decide_eq_true h17 | replace h17 := of_decide_eq_false h17 | skip
     refine CW.skip (KW.inBlock (KW.then (CW.region (LW.p (PEv.move (.tmp rfl)) rfl rfl rfl ?_))))
     refine LW.p (PEv.inc (.tmp rfl) (by omega)) rfl rfl rfl ?_
     refine LW.p (PEv.assign (.tmp rfl)) rfl rfl rfl (LW.nil (KW.round ?_))
     exact ⟨i + 1, ⟨by omega, hasR_step hx hq h17, hW⟩, ⟨rfl, rfl, rfl, trivial⟩, by first | omega | (dsimp only; omega)⟩
   ·first | replace h9 := of_decide_eq_true h9 | replace h9 := of_decide_eq_false h9 | skip
    refine CW.exit (KW.then_exit (KW.then_exit (KW.block_hit (KW.then (CW.seq (CW.region (LW.p (PEv.assign (.const _)) rfl rfl rfl (LW.nil (KW.then (CW.ret ?_))))))))))
    refine KW.ret1 rfl rfl ⟨_, rfl, ?_⟩
    first | exact ⟨by rw [show hasR l n = true from List.any_eq_true.2 ⟨x, List.mem_of_getElem? hx, decide_eq_true h17⟩], hW⟩ | exact ⟨by rw [show i = l.length by omega, List.take_length] at hq; rw [show hasR l n = false from hq], hW⟩

set_option maxHeartbeats 2000000 in
theorem rLimits_any (k j : Int) (w : World) : Ret Tryz.prog 107 #[vi k, vi j] w fun r w' => r = .tuple #[vi (limL k j).1, vi (limL k j).2] ∧ Up w w' := by
  have hW := Up.refl w
  obtain ⟨w0, rfl⟩ : ∃ w0, w0 = w := ⟨_, rfl⟩
  refine Calls_start (n := 38) (m := 9) Tryz.func107 rfl rfl rfl ?_
  refine CW.seq (CW.region (LW.p (PEv.assign (.const _)) rfl rfl rfl (LW.p (PEv.assign (.const _)) rfl rfl rfl (LW.nil (KW.then (CW.seq (CW.region (LW.p (PEv.move (.tmp rfl)) rfl rfl rfl ?_))))))))
  refine LW.p (PEv.eql (.tmp rfl) (.const _)) rfl rfl rfl ?_
  refine LW.p (PEv.assign (.tmp rfl)) rfl rfl rfl (LW.nil (KW.then (CW.seq (CW.region (LW.p (PEv.assign (.const _)) rfl rfl rfl (LW.nil (KW.then (CW.seq (CW.seq (CW.region (LW.p (PEv.move (.tmp rfl)) rfl rfl rfl (LW.nil (KW.then ?_)))))))))))))
  refine CW.cond (.tmp rfl) (fun h10 => ?_) (fun h10 => ?_)
  ·first | replace h10 := of_decide_eq_true h10 | replace h10 := of_decide_eq_false h10 | skip
   refine CW.region (LW.p (PEv.assign (.const _)) rfl rfl rfl (LW.nil (KW.then (CW.seq (CW.seq (CW.region (LW.p (PEv.move (.tmp rfl)) rfl rfl rfl (LW.nil (KW.then (CW.block (CW.seq (CW.region ?_))))))))))))
   refine LW.p (PEv.eql (.tmp rfl) (.const _)) rfl rfl rfl ?_
   refine LW.p (PEv.assign (.tmp rfl)) rfl rfl rfl (LW.nil (KW.then ?_))
   refine CW.cond (.tmp rfl) (fun h12 => ?_) (fun h12 => ?_)
   ·first | replace h12 := of_decide_eq_true h12 | replace h12 := of_decide_eq_false h12 | skip
    refine CW.seq (CW.region (LW.p (PEv.move (.tmp rfl)) rfl rfl rfl ?_))
    refine LW.p (PEv.add (.const _) (.tmp rfl) (by omega) (by omega)) rfl rfl rfl ?_
    refine LW.p (PEv.assign (.const _)) rfl rfl rfl (LW.p (PEv.assign (.tmp rfl)) rfl rfl rfl (LW.nil (KW.then (CW.ret (KW.block_ret (KW.then_ret ?_))))))
    refine KW.ret2 rfl rfl rfl ⟨_, rfl, ?_⟩
    refine ⟨?_, hW⟩
    unfold limL
    first | rfl | (simp_all <;> omega) | simp_all
   ·first | replace h12 := of_decide_eq_true h12 | replace h12 := of_decide_eq_false h12 | skip
    refine CW.seq (CW.region ?_)
    refine LW.p (PEv.eql (.tmp rfl) (.const _)) rfl rfl rfl ?_
    refine LW.p (PEv.assign (.tmp rfl)) rfl rfl rfl (LW.nil (KW.then ?_))
    refine CW.cond (.tmp rfl) (fun h16 => ?_) (fun h16 => ?_)
    ·first | replace h16 := of_decide_eq_true h16 | replace h16 := of_decide_eq_false h16 | skip
     refine CW.seq (CW.region (LW.p (PEv.move (.tmp rfl)) rfl rfl rfl ?_))
     refine LW.p (PEv.add (.const _) (.tmp rfl) (by omega) (by omega)) rfl rfl rfl ?_
     refine LW.p (PEv.assign (.const _)) rfl rfl rfl (LW.p (PEv.assign (.tmp rfl)) rfl rfl rfl (LW.nil (KW.then (CW.ret (KW.block_ret (KW.then_ret ?_))))))
     refine KW.ret2 rfl rfl rfl ⟨_, rfl, ?_⟩
     refine ⟨?_, hW⟩
     unfold limL
     first | rfl | (simp_all <;> omega) | simp_all
    ·first | replace h16 := of_decide_eq_true h16 | replace h16 := of_decide_eq_false h16 | skip
     refine CW.seq (CW.region ?_)
     refine LW.p (PEv.eql (.tmp rfl) (.const _)) rfl rfl rfl ?_
     refine LW.p (PEv.assign (.tmp rfl)) rfl rfl rfl (LW.nil (KW.then ?_))
     refine CW.cond (.tmp rfl) (fun h20 => ?_) (fun h20 => ?_)
     ·first | replace h20 := of_decide_eq_true h20 | replace h20 := of_decide_eq_false h20 | skip
      refine CW.seq (CW.region (LW.p (PEv.move (.tmp rfl)) rfl rfl rfl ?_))
      refine LW.p (PEv.add (.const _) (.tmp rfl) (by omega) (by omega)) rfl rfl rfl ?_
      refine LW.p (PEv.assign (.const _)) rfl rfl rfl (LW.p (PEv.assign (.tmp rfl)) rfl rfl rfl (LW.nil (KW.then (CW.ret (KW.block_ret (KW.then_ret ?_))))))
      refine KW.ret2 rfl rfl rfl ⟨_, rfl, ?_⟩
      refine ⟨?_, hW⟩
      unfold limL
      first | rfl | (simp_all <;> omega) | simp_all
     ·first | replace h20 := of_decide_eq_true h20 | replace h20 := of_decide_eq_false h20 | skip
      refine CW.seq (CW.seq (CW.region ?_))
      refine LW.p (PEv.eql (.tmp rfl) (.const _)) rfl rfl rfl ?_
      refine LW.p (PEv.assign (.tmp rfl)) rfl rfl rfl (LW.nil (KW.then ?_))
      refine CW.cond (.tmp rfl) (fun h24 => ?_) (fun h24 => ?_)
      ·first | replace h24 := of_decide_eq_true h24 | replace h24 := of_decide_eq_false h24 | skip
       refine CW.skip (KW.then ?_)
       refine CW.cond (.tmp rfl) (fun h24 => ?_) (fun h24 => ?_)
       ·first | replace h24 := of_decide_eq_true h24 | replace h24 := of_decide_eq_false h24 | skip
        refine CW.seq (CW.region (LW.p (PEv.assign (.const _)) rfl rfl rfl (LW.p (PEv.assign (.const _)) rfl rfl rfl (LW.nil (KW.then (CW.ret (KW.block_ret (KW.then_ret ?_))))))))
        refine KW.ret2 rfl rfl rfl ⟨_, rfl, ?_⟩
        refine ⟨?_, hW⟩
        unfold limL
        first | rfl | (simp_all <;> omega) | simp_all
       ·first | replace h24 := of_decide_eq_true h24 | replace h24 := of_decide_eq_false h24 | skip
        refine CW.seq (CW.region ?_)
        refine LW.p (PEv.eql (.tmp rfl) (.const _)) rfl rfl rfl ?_
        refine LW.p (PEv.assign (.tmp rfl)) rfl rfl rfl (LW.nil (KW.then ?_))
        refine CW.cond (.tmp rfl) (fun h27 => ?_) (fun h27 => ?_)
        ·first | replace h27 := of_decide_eq_true h27 | replace h27 := of_decide_eq_false h27 | skip
         refine CW.seq (CW.region (LW.p (PEv.assign (.const _)) rfl rfl rfl (LW.p (PEv.assign (.const _)) rfl rfl rfl (LW.nil (KW.then (CW.ret (KW.block_ret (KW.then_ret ?_))))))))
         refine KW.ret2 rfl rfl rfl ⟨_, rfl, ?_⟩
         refine ⟨?_, hW⟩
         unfold limL
         first | rfl | (simp_all <;> omega) | simp_all
        ·first | replace h27 := of_decide_eq_true h27 | replace h27 := of_decide_eq_false h27 | skip
         refine CW.seq (CW.region ?_)
         refine LW.p (PEv.eql (.tmp rfl) (.const _)) rfl rfl rfl ?_
         refine LW.p (PEv.assign (.tmp rfl)) rfl rfl rfl (LW.nil (KW.then ?_))
         refine CW.cond (.tmp rfl) (fun h29 => ?_) (fun h29 => ?_)
         ·first | replace h29 := of_decide_eq_true h29 | replace h29 := of_decide_eq_false h29 | skip
          refine CW.seq (CW.seq (CW.region (LW.p (PEv.move (.tmp rfl)) rfl rfl rfl ?_)))
          refine LW.p (PEv.eql (.tmp rfl) (.const _)) rfl rfl rfl ?_
          refine LW.nil (KW.then ?_)
          refine CW.cond (.tmp rfl) (fun h32 => ?_) (fun h32 => ?_)
          ·first | replace h32 := of_decide_eq_true h32 | replace h32 := of_decide_eq_false h32 | skip
           refine CW.seq (CW.region (LW.p (PEv.assign (.const _)) rfl rfl rfl (LW.p (PEv.assign (.const _)) rfl rfl rfl (LW.nil (KW.then (CW.ret (KW.then_ret (KW.block_ret (KW.then_ret ?_)))))))))
           refine KW.ret2 rfl rfl rfl ⟨_, rfl, ?_⟩
           refine ⟨?_, hW⟩
           unfold limL
           first | rfl | (simp_all <;> omega) | simp_all
          ·first | replace h32 := of_decide_eq_true h32 | replace h32 := of_decide_eq_false h32 | skip
           refine CW.skip (KW.then (CW.seq (CW.region (LW.p (PEv.assign (.const _)) rfl rfl rfl (LW.p (PEv.assign (.const _)) rfl rfl rfl (LW.nil (KW.then (CW.ret (KW.block_ret (KW.then_ret ?_))))))))))
           refine KW.ret2 rfl rfl rfl ⟨_, rfl, ?_⟩
           refine ⟨?_, hW⟩
           unfold limL
           first | rfl | (simp_all <;> omega) | simp_all
         ·first | replace h29 := of_decide_eq_true h29 | replace h29 := of_decide_eq_false h29 | skip
          refine CW.skip (KW.inBlock (KW.then (CW.seq (CW.seq (CW.region (LW.p (PEv.move (.tmp rfl)) rfl rfl rfl (LW.p (PEv.move (.tmp rfl)) rfl rfl rfl ?_)))))))
          refine LW.g rfl rfl rfl rfl rfl rfl rfl (fun hc => PEv.move (.tmp rfl)) ?_
          refine LW.g rfl rfl rfl rfl rfl rfl rfl (fun hc => PEv.neq (by first | exact .tmp rfl | exact .cond rfl (by first | assumption | simp_all)) (.const _)) ?_
          refine LW.p (PEv.pick_and (.tmp rfl) (fun hp => (by first | exact .const _ | exact .tmp rfl | exact .cond rfl (by first | assumption | simp_all)))) rfl rfl rfl ?_
          refine LW.nil (KW.then ?_)
          refine CW.cond (.tmp rfl) (fun h37 => ?_) (fun h37 => ?_)
          ·first | replace h37 := of_decide_eq_true h37 | replace h37 := of_decide_eq_false h37 | skip
           refine CW.seq (CW.region (LW.p (PEv.assign (.const _)) rfl rfl rfl (LW.p (PEv.assign (.const _)) rfl rfl rfl (LW.nil (KW.then (CW.ret (KW.then_ret ?_)))))))
           refine KW.ret2 rfl rfl rfl ⟨_, rfl, ?_⟩
           refine ⟨?_, hW⟩
           unfold limL
           first | rfl | (simp_all <;> omega) | simp_all
          ·first | replace h37 := of_decide_eq_true h37 | replace h37 := of_decide_eq_false h37 | skip
           refine CW.skip (KW.then (CW.seq (CW.region (LW.p (PEv.assign (.const _)) rfl rfl rfl (LW.p (PEv.assign (.const _)) rfl rfl rfl (LW.nil (KW.then (CW.ret ?_))))))))
           refine KW.ret2 rfl rfl rfl ⟨_, rfl, ?_⟩
           refine ⟨?_, hW⟩
           unfold limL
           first | rfl | (simp_all <;> omega) | simp_all
      ·first | replace h24 := of_decide_eq_true h24 | replace h24 := of_decide_eq_false h24 | skip
       refine CW.region ?_
       refine LW.p (PEv.eql (.tmp rfl) (.const _)) rfl rfl rfl ?_
       refine LW.p (PEv.assign (.tmp rfl)) rfl rfl rfl (LW.nil (KW.then ?_))
       refine CW.cond (.tmp rfl) (fun h24 => ?_) (fun h24 => ?_)
       ·first | replace h24 := of_decide_eq_true h24 | replace h24 := of_decide_eq_false h24 | skip
        refine CW.seq (CW.region (LW.p (PEv.assign (.const _)) rfl rfl rfl (LW.p (PEv.assign (.const _)) rfl rfl rfl (LW.nil (KW.then (CW.ret (KW.block_ret (KW.then_ret ?_))))))))
        refine KW.ret2 rfl rfl rfl ⟨_, rfl, ?_⟩
        refine ⟨?_, hW⟩
        unfold limL
        first | rfl | (simp_all <;> omega) | simp_all
       ·first | replace h24 := of_decide_eq_true h24 | replace h24 := of_decide_eq_false h24 | skip
        refine CW.seq (CW.region ?_)
        refine LW.p (PEv.eql (.tmp rfl) (.const _)) rfl rfl rfl ?_
        refine LW.p (PEv.assign (.tmp rfl)) rfl rfl rfl (LW.nil (KW.then ?_))
        refine CW.cond (.tmp rfl) (fun h27 => ?_) (fun h27 => ?_)
        ·first | replace h27 := of_decide_eq_true h27 | replace h27 := of_decide_eq_false h27 | skip
         refine CW.seq (CW.region (LW.p (PEv.assign (.const _)) rfl rfl rfl (LW.p (PEv.assign (.const _)) rfl rfl rfl (LW.nil (KW.then (CW.ret (KW.block_ret (KW.then_ret ?_))))))))
         refine KW.ret2 rfl rfl rfl ⟨_, rfl, ?_⟩
         refine ⟨?_, hW⟩
         unfold limL
         first | rfl | (simp_all <;> omega) | simp_all
        ·first | replace h27 := of_decide_eq_true h27 | replace h27 := of_decide_eq_false h27 | skip
         refine CW.seq (CW.region ?_)
         refine LW.p (PEv.eql (.tmp rfl) (.const _)) rfl rfl rfl ?_
         refine LW.p (PEv.assign (.tmp rfl)) rfl rfl rfl (LW.nil (KW.then ?_))
         refine CW.cond (.tmp rfl) (fun h29 => ?_) (fun h29 => ?_)
         ·first | replace h29 := of_decide_eq_true h29 | replace h29 := of_decide_eq_false h29 | skip
          refine CW.seq (CW.seq (CW.region (LW.p (PEv.move (.tmp rfl)) rfl rfl rfl ?_)))
          refine LW.p (PEv.eql (.tmp rfl) (.const _)) rfl rfl rfl ?_
          refine LW.nil (KW.then ?_)
          refine CW.cond (.tmp rfl) (fun h32 => ?_) (fun h32 => ?_)
          ·first | replace h32 := of_decide_eq_true h32 | replace h32 := of_decide_eq_false h32 | skip
           refine CW.seq (CW.region (LW.p (PEv.assign (.const _)) rfl rfl rfl (LW.p (PEv.assign (.const _)) rfl rfl rfl (LW.nil (KW.then (CW.ret (KW.then_ret (KW.block_ret (KW.then_ret ?_)))))))))
           refine KW.ret2 rfl rfl rfl ⟨_, rfl, ?_⟩
           refine ⟨?_, hW⟩
           unfold limL
           first | rfl | (simp_all <;> omega) | simp_all
          ·first | replace h32 := of_decide_eq_true h32 | replace h32 := of_decide_eq_false h32 | skip
           refine CW.skip (KW.then (CW.seq (CW.region (LW.p (PEv.assign (.const _)) rfl rfl rfl (LW.p (PEv.assign (.const _)) rfl rfl rfl (LW.nil (KW.then (CW.ret (KW.block_ret (KW.then_ret ?_))))))))))
           refine KW.ret2 rfl rfl rfl ⟨_, rfl, ?_⟩
           refine ⟨?_, hW⟩
           unfold limL
           first | rfl | (simp_all <;> omega) | simp_all
         ·first | replace h29 := of_decide_eq_true h29 | replace h29 := of_decide_eq_false h29 | skip
          refine CW.skip (KW.inBlock (KW.then (CW.seq (CW.seq (CW.region (LW.p (PEv.move (.tmp rfl)) rfl rfl rfl (LW.p (PEv.move (.tmp rfl)) rfl rfl rfl ?_)))))))
          refine LW.g rfl rfl rfl rfl rfl rfl rfl (fun hc => PEv.move (.tmp rfl)) ?_
          refine LW.g rfl rfl rfl rfl rfl rfl rfl (fun hc => PEv.neq (by first | exact .tmp rfl | exact .cond rfl (by first | assumption | simp_all)) (.const _)) ?_
          refine LW.p (PEv.pick_and (.tmp rfl) (fun hp => (by first | exact .const _ | exact .tmp rfl | exact .cond rfl (by first | assumption | simp_all)))) rfl rfl rfl ?_
          refine LW.nil (KW.then ?_)
          refine CW.cond (.tmp rfl) (fun h37 => ?_) (fun h37 => ?_)
          ·first | replace h37 := of_decide_eq_true h37 | replace h37 := of_decide_eq_false h37 | skip
           refine CW.seq (CW.region (LW.p (PEv.assign (.const _)) rfl rfl rfl (LW.p (PEv.assign (.const _)) rfl rfl rfl (LW.nil (KW.then (CW.ret (KW.then_ret ?_)))))))
           refine KW.ret2 rfl rfl rfl ⟨_, rfl, ?_⟩
           refine ⟨?_, hW⟩
           unfold limL
           first | rfl | (simp_all <;> omega) | simp_all
          ·first | replace h37 := of_decide_eq_true h37 | replace h37 := of_decide_eq_false h37 | skip
           refine CW.skip (KW.then (CW.seq (CW.region (LW.p (PEv.assign (.const _)) rfl rfl rfl (LW.p (PEv.assign (.const _)) rfl rfl rfl (LW.nil (KW.then (CW.ret ?_))))))))
           refine KW.ret2 rfl rfl rfl ⟨_, rfl, ?_⟩
           refine ⟨?_, hW⟩
           unfold limL
           first | rfl | (simp_all <;> omega) | simp_all
  ·first | replace h10 := of_decide_eq_true h10 | replace h10 := of_decide_eq_false h10 | skip
   refine CW.skip (KW.then (CW.seq (CW.seq (CW.region (LW.p (PEv.move (.tmp rfl)) rfl rfl rfl (LW.nil (KW.then (CW.block (CW.seq (CW.region ?_))))))))))
   refine LW.p (PEv.eql (.tmp rfl) (.const _)) rfl rfl rfl ?_
   refine LW.p (PEv.assign (.tmp rfl)) rfl rfl rfl (LW.nil (KW.then ?_))
   refine CW.cond (.tmp rfl) (fun h12 => ?_) (fun h12 => ?_)
   ·first | replace h12 := of_decide_eq_true h12 | replace h12 := of_decide_eq_false h12 | skip
    refine CW.seq (CW.region (LW.p (PEv.move (.tmp rfl)) rfl rfl rfl ?_))
    refine LW.p (PEv.add (.const _) (.tmp rfl) (by omega) (by omega)) rfl rfl rfl ?_
    refine LW.p (PEv.assign (.const _)) rfl rfl rfl (LW.p (PEv.assign (.tmp rfl)) rfl rfl rfl (LW.nil (KW.then (CW.ret (KW.block_ret (KW.then_ret ?_))))))
    refine KW.ret2 rfl rfl rfl ⟨_, rfl, ?_⟩
    refine ⟨?_, hW⟩
    unfold limL
    first | rfl | (simp_all <;> omega) | simp_all
   ·first | replace h12 := of_decide_eq_true h12 | replace h12 := of_decide_eq_false h12 | skip
    refine CW.seq (CW.region ?_)
    refine LW.p (PEv.eql (.tmp rfl) (.const _)) rfl rfl rfl ?_
    refine LW.p (PEv.assign (.tmp rfl)) rfl rfl rfl (LW.nil (KW.then ?_))
    refine CW.cond (.tmp rfl) (fun h16 => ?_) (fun h16 => ?_)
    ·first | replace h16 := of_decide_eq_true h16 | replace h16 := of_decide_eq_false h16 | skip
     refine CW.seq (CW.region (LW.p (PEv.move (.tmp rfl)) rfl rfl rfl ?_))
     refine LW.p (PEv.add (.const _) (.tmp rfl) (by omega) (by omega)) rfl rfl rfl ?_
     refine LW.p (PEv.assign (.const _)) rfl rfl rfl (LW.p (PEv.assign (.tmp rfl)) rfl rfl rfl (LW.nil (KW.then (CW.ret (KW.block_ret (KW.then_ret ?_))))))
     refine KW.ret2 rfl rfl rfl ⟨_, rfl, ?_⟩
     refine ⟨?_, hW⟩
     unfold limL
     first | rfl | (simp_all <;> omega) | simp_all
    ·first | replace h16 := of_decide_eq_true h16 | replace h16 := of_decide_eq_false h16 | skip
     refine CW.seq (CW.region ?_)
     refine LW.p (PEv.eql (.tmp rfl) (.const _)) rfl rfl rfl ?_
     refine LW.p (PEv.assign (.tmp rfl)) rfl rfl rfl (LW.nil (KW.then ?_))
     refine CW.cond (.tmp rfl) (fun h20 => ?_) (fun h20 => ?_)
     ·first | replace h20 := of_decide_eq_true h20 | replace h20 := of_decide_eq_false h20 | skip
      refine CW.seq (CW.region (LW.p (PEv.move (.tmp rfl)) rfl rfl rfl ?_))
      refine LW.p (PEv.add (.const _) (.tmp rfl) (by omega) (by omega)) rfl rfl rfl ?_
      refine LW.p (PEv.assign (.const _)) rfl rfl rfl (LW.p (PEv.assign (.tmp rfl)) rfl rfl rfl (LW.nil (KW.then (CW.ret (KW.block_ret (KW.then_ret ?_))))))
      refine KW.ret2 rfl rfl rfl ⟨_, rfl, ?_⟩
      refine ⟨?_, hW⟩
      unfold limL
      first | rfl | (simp_all <;> omega) | simp_all
     ·first | replace h20 := of_decide_eq_true h20 | replace h20 := of_decide_eq_false h20 | skip
      refine CW.seq (CW.seq (CW.region ?_))
      refine LW.p (PEv.eql (.tmp rfl) (.const _)) rfl rfl rfl ?_
      refine LW.p (PEv.assign (.tmp rfl)) rfl rfl rfl (LW.nil (KW.then ?_))
      refine CW.cond (.tmp rfl) (fun h24 => ?_) (fun h24 => ?_)
      ·first | replace h24 := of_decide_eq_true h24 | replace h24 := of_decide_eq_false h24 | skip
       refine CW.skip (KW.then ?_)
       refine CW.cond (.tmp rfl) (fun h24 => ?_) (fun h24 => ?_)
       ·first | replace h24 := of_decide_eq_true h24 | replace h24 := of_decide_eq_false h24 | skip
        refine CW.seq (CW.region (LW.p (PEv.assign (.const _)) rfl rfl rfl (LW.p (PEv.assign (.const _)) rfl rfl rfl (LW.nil (KW.then (CW.ret (KW.block_ret (KW.then_ret ?_))))))))
        refine KW.ret2 rfl rfl rfl ⟨_, rfl, ?_⟩
        refine ⟨?_, hW⟩
        unfold limL
        first | rfl | (simp_all <;> omega) | simp_all
       ·first | replace h24 := of_decide_eq_true h24 | replace h24 := of_decide_eq_false h24 | skip
        refine CW.seq (CW.region ?_)
        refine LW.p (PEv.eql (.tmp rfl) (.const _)) rfl rfl rfl ?_
        refine LW.p (PEv.assign (.tmp rfl)) rfl rfl rfl (LW.nil (KW.then ?_))
        refine CW.cond (.tmp rfl) (fun h27 => ?_) (fun h27 => ?_)
        ·first | replace h27 := of_decide_eq_true h27 | replace h27 := of_decide_eq_false h27 | skip
         refine CW.seq (CW.region (LW.p (PEv.assign (.const _)) rfl rfl rfl (LW.p (PEv.assign (.const _)) rfl rfl rfl (LW.nil (KW.then (CW.ret (KW.block_ret (KW.then_ret ?_))))))))
         refine KW.ret2 rfl rfl rfl ⟨_, rfl, ?_⟩
         refine ⟨?_, hW⟩
         unfold limL
         first | rfl | (simp_all <;> omega) | simp_all
        ·first | replace h27 := of_decide_eq_true h27 | replace h27 := of_decide_eq_false h27 | skip
         refine CW.seq (CW.region ?_)
         refine LW.p (PEv.eql (.tmp rfl) (.const _)) rfl rfl rfl ?_
         refine LW.p (PEv.assign (.tmp rfl)) rfl rfl rfl (LW.nil (KW.then ?_))
         refine CW.cond (.tmp rfl) (fun h29 => ?_) (fun h29 => ?_)
         ·first | replace h29 := of_decide_eq_true h29 | replace h29 := of_decide_eq_false h29 | skip
          refine CW.seq (CW.seq (CW.region (LW.p (PEv.move (.tmp rfl)) rfl rfl rfl ?_)))
          refine LW.p (PEv.eql (.tmp rfl) (.const _)) rfl rfl rfl ?_
          refine LW.nil (KW.then ?_)
          refine CW.cond (.tmp rfl) (fun h32 => ?_) (fun h32 => ?_)
          ·first | replace h32 := of_decide_eq_true h32 | replace h32 := of_decide_eq_false h32 | skip
           refine CW.seq (CW.region (LW.p (PEv.assign (.const _)) rfl rfl rfl (LW.p (PEv.assign (.const _)) rfl rfl rfl (LW.nil (KW.then (CW.ret (KW.then_ret (KW.block_ret (KW.then_ret ?_)))))))))
           refine KW.ret2 rfl rfl rfl ⟨_, rfl, ?_⟩
           refine ⟨?_, hW⟩
           unfold limL
           first | rfl | (simp_all <;> omega) | simp_all
          ·first | replace h32 := of_decide_eq_true h32 | replace h32 := of_decide_eq_false h32 | skip
           refine CW.skip (KW.then (CW.seq (CW.region (LW.p (PEv.assign (.const _)) rfl rfl rfl (LW.p (PEv.assign (.const _)) rfl rfl rfl (LW.nil (KW.then (CW.ret (KW.block_ret (KW.then_ret ?_))))))))))
           refine KW.ret2 rfl rfl rfl ⟨_, rfl, ?_⟩
           refine ⟨?_, hW⟩
           unfold limL
           first | rfl | (simp_all <;> omega) | simp_all
         ·first | replace h29 := of_decide_eq_true h29 | replace h29 := of_decide_eq_false h29 | skip
          refine CW.skip (KW.inBlock (KW.then (CW.seq (CW.seq (CW.region (LW.p (PEv.move (.tmp rfl)) rfl rfl rfl (LW.p (PEv.move (.tmp rfl)) rfl rfl rfl ?_)))))))
          refine LW.g rfl rfl rfl rfl rfl rfl rfl (fun hc => PEv.move (.tmp rfl)) ?_
          refine LW.g rfl rfl rfl rfl rfl rfl rfl (fun hc => PEv.neq (by first | exact .tmp rfl | exact .cond rfl (by first | assumption | simp_all)) (.const _)) ?_
          refine LW.p (PEv.pick_and (.tmp rfl) (fun hp => (by first | exact .const _ | exact .tmp rfl | exact .cond rfl (by first | assumption | simp_all)))) rfl rfl rfl ?_
          refine LW.nil (KW.then ?_)
          refine CW.cond (.tmp rfl) (fun h37 => ?_) (fun h37 => ?_)
          ·first | replace h37 := of_decide_eq_true h37 | replace h37 := of_decide_eq_false h37 | skip
           refine CW.seq (CW.region (LW.p (PEv.assign (.const _)) rfl rfl rfl (LW.p (PEv.assign (.const _)) rfl rfl rfl (LW.nil (KW.then (CW.ret (KW.then_ret ?_)))))))
           refine KW.ret2 rfl rfl rfl ⟨_, rfl, ?_⟩
           refine ⟨?_, hW⟩
           unfold limL
           first | rfl | (simp_all <;> omega) | simp_all
          ·first | replace h37 := of_decide_eq_true h37 | replace h37 := of_decide_eq_false h37 | skip
           refine CW.skip (KW.then (CW.seq (CW.region (LW.p (PEv.assign (.const _)) rfl rfl rfl (LW.p (PEv.assign (.const _)) rfl rfl rfl (LW.nil (KW.then (CW.ret ?_))))))))
           refine KW.ret2 rfl rfl rfl ⟨_, rfl, ?_⟩
           refine ⟨?_, hW⟩
           unfold limL
           first | rfl | (simp_all <;> omega) | simp_all
      ·first | replace h24 := of_decide_eq_true h24 | replace h24 := of_decide_eq_false h24 | skip
       refine CW.region ?_
       refine LW.p (PEv.eql (.tmp rfl) (.const _)) rfl rfl rfl ?_
       refine LW.p (PEv.assign (.tmp rfl)) rfl rfl rfl (LW.nil (KW.then ?_))
       refine CW.cond (.tmp rfl) (fun h24 => ?_) (fun h24 => ?_)
       ·first | replace h24 := of_decide_eq_true h24 | replace h24 := of_decide_eq_false h24 | skip
        refine CW.seq (CW.region (LW.p (PEv.assign (.const _)) rfl rfl rfl (LW.p (PEv.assign (.const _)) rfl rfl rfl (LW.nil (KW.then (CW.ret (KW.block_ret (KW.then_ret ?_))))))))
        refine KW.ret2 rfl rfl rfl ⟨_, rfl, ?_⟩
        refine ⟨?_, hW⟩
        unfold limL
        first | rfl | (simp_all <;> omega) | simp_all
       ·first | replace h24 := of_decide_eq_true h24 | replace h24 := of_decide_eq_false h24 | skip
        refine CW.seq (CW.region ?_)
        refine LW.p (PEv.eql (.tmp rfl) (.const _)) rfl rfl rfl ?_
        refine LW.p (PEv.assign (.tmp rfl)) rfl rfl rfl (LW.nil (KW.then ?_))
        refine CW.cond (.tmp rfl) (fun h27 => ?_) (fun h27 => ?_)
        ·first | replace h27 := of_decide_eq_true h27 | replace h27 := of_decide_eq_false h27 | skip
         refine CW.seq (CW.region (LW.p (PEv.assign (.const _)) rfl rfl rfl (LW.p (PEv.assign (.const _)) rfl rfl rfl (LW.nil (KW.then (CW.ret (KW.block_ret (KW.then_ret ?_))))))))
         refine KW.ret2 rfl rfl rfl ⟨_, rfl, ?_⟩
         refine ⟨?_, hW⟩
         unfold limL
         first | rfl | (simp_all <;> omega) | simp_all
        ·first | replace h27 := of_decide_eq_true h27 | replace h27 := of_decide_eq_false h27 | skip
         refine CW.seq (CW.region ?_)
         refine LW.p (PEv.eql (.tmp rfl) (.const _)) rfl rfl rfl ?_
         refine LW.p (PEv.assign (.tmp rfl)) rfl rfl rfl (LW.nil (KW.then ?_))
         refine CW.cond (.tmp rfl) (fun h29 => ?_) (fun h29 => ?_)
         ·first | replace h29 := of_decide_eq_true h29 | replace h29 := of_decide_eq_false h29 | skip
          refine CW.seq (CW.seq (CW.region (LW.p (PEv.move (.tmp rfl)) rfl rfl rfl ?_)))
          refine LW.p (PEv.eql (.tmp rfl) (.const _)) rfl rfl rfl ?_
          refine LW.nil (KW.then ?_)
          refine CW.cond (.tmp rfl) (fun h32 => ?_) (fun h32 => ?_)
          ·first | replace h32 := of_decide_eq_true h32 | replace h32 := of_decide_eq_false h32 | skip
           refine CW.seq (CW.region (LW.p (PEv.assign (.const _)) rfl rfl rfl (LW.p (PEv.assign (.const _)) rfl rfl rfl (LW.nil (KW.then (CW.ret (KW.then_ret (KW.block_ret (KW.then_ret ?_)))))))))
           refine KW.ret2 rfl rfl rfl ⟨_, rfl, ?_⟩
           refine ⟨?_, hW⟩
           unfold limL
           first | rfl | (simp_all <;> omega) | simp_all
          ·first | replace h32 := of_decide_eq_true h32 | replace h32 := of_decide_eq_false h32 | skip
           refine CW.skip (KW.then (CW.seq (CW.region (LW.p (PEv.assign (.const _)) rfl rfl rfl (LW.p (PEv.assign (.const _)) rfl rfl rfl (LW.nil (KW.then (CW.ret (KW.block_ret (KW.then_ret ?_))))))))))
           refine KW.ret2 rfl rfl rfl ⟨_, rfl, ?_⟩
           refine ⟨?_, hW⟩
           unfold limL
           first | rfl | (simp_all <;> omega) | simp_all
         ·first | replace h29 := of_decide_eq_true h29 | replace h29 := of_decide_eq_false h29 | skip
          refine CW.skip (KW.inBlock (KW.then (CW.seq (CW.seq (CW.region (LW.p (PEv.move (.tmp rfl)) rfl rfl rfl (LW.p (PEv.move (.tmp rfl)) rfl rfl rfl ?_)))))))
          refine LW.g rfl rfl rfl rfl rfl rfl rfl (fun hc => PEv.move (.tmp rfl)) ?_
          refine LW.g rfl rfl rfl rfl rfl rfl rfl (fun hc => PEv.neq (by first | exact .tmp rfl | exact .cond rfl (by first | assumption | simp_all)) (.const _)) ?_
          refine LW.p (PEv.pick_and (.tmp rfl) (fun hp => (by first | exact .const _ | exact .tmp rfl | exact .cond rfl (by first | assumption | simp_all)))) rfl rfl rfl ?_
          refine LW.nil (KW.then ?_)
          refine CW.cond (.tmp rfl) (fun h37 => ?_) (fun h37 => ?_)
          ·first | replace h37 := of_decide_eq_true h37 | replace h37 := of_decide_eq_false h37 | skip
           refine CW.seq (CW.region (LW.p (PEv.assign (.const _)) rfl rfl rfl (LW.p (PEv.assign (.const _)) rfl rfl rfl (LW.nil (KW.then (CW.ret (KW.then_ret ?_)))))))
           refine KW.ret2 rfl rfl rfl ⟨_, rfl, ?_⟩
           refine ⟨?_, hW⟩
           unfold limL
           first | rfl | (simp_all <;> omega) | simp_all
          ·first | replace h37 := of_decide_eq_true h37 | replace h37 := of_decide_eq_false h37 | skip
           refine CW.skip (KW.then (CW.seq (CW.region (LW.p (PEv.assign (.const _)) rfl rfl rfl (LW.p (PEv.assign (.const _)) rfl rfl rfl (LW.nil (KW.then (CW.ret ?_))))))))
           refine KW.ret2 rfl rfl rfl ⟨_, rfl, ?_⟩
           refine ⟨?_, hW⟩
           unfold limL
           first | rfl | (simp_all <;> omega) | simp_all

set_option maxHeartbeats 4000000 in
theorem rValid_any (f : Fact) (w : World) : Ret Tryz.prog 70 #[.agg f.cells] w fun r w' => r = .bool (validB f) ∧ Up w w' := by
  have hW := Up.refl w
  obtain ⟨w0, rfl⟩ : ∃ w0, w0 = w := ⟨_, rfl⟩
  refine Calls_start (n := 111) (m := 9) Tryz.func70 rfl rfl rfl ?_
  refine CW.seq (CW.region ?_)
  refine LW.r (REv.boxA (.tmp rfl)) rfl rfl rfl rfl ?_
  rintro _ w1 ⟨B1, rfl, NB1⟩
  have eB1 := NB1.at_
  have zB1 := NB1.size
  replace hW := hW.up NB1.up
  have hB1 := NB1.blk
  refine LW.p (PEv.assign (.const _)) rfl rfl rfl (LW.nil (KW.then (CW.seq (CW.region ?_))))
  refine LW.p (PEv.fieldAddr (off := 0) Tryz.underlying35 rfl rfl Tryz.sizeOf3 rfl (.tmp rfl)) rfl rfl rfl ?_
  refine LW.p (PEv.load Tryz.isAgg3 (.tmp rfl) (hB1.celln rfl)) rfl rfl rfl ?_
  refine LW.c (enter_call0 (.cons (.tmp rfl) .nil) (Tryz.en106)) rfl rfl rfl rfl (rFields_any f.Kind _) ?_
  rintro _ w2 ⟨adl, cpl, rfl, hEl, uw2⟩
  have zw2 := uw2.size
  replace hW := hW.up uw2
  replace hB1 := hB1.up uw2
  have hfl := fldR_len f.Kind
  refine LW.p (PEv.assign (.tmp rfl)) rfl rfl rfl (LW.nil (KW.then (CW.seq (CW.seq (CW.region (LW.p (PEv.move (.tmp rfl)) rfl rfl rfl ?_))))))
  refine LW.p (PEv.lenS Tryz.underlying92 (.tmp rfl)) rfl rfl rfl ?_
  refine LW.p (PEv.eql (.tmp rfl) (.const _)) rfl rfl rfl ?_
  refine LW.p (PEv.move (.tmp rfl)) rfl rfl rfl ?_
  refine LW.g rfl rfl rfl rfl rfl rfl rfl (fun hc => PEv.fieldAddr (off := 2) Tryz.underlying35 rfl rfl Tryz.sizeOf3 rfl (.tmp rfl)) ?_
  refine LW.g rfl rfl rfl rfl rfl rfl rfl (fun hc => PEv.load Tryz.isAgg3 (by first | exact .tmp rfl | exact .cond rfl (by first | assumption | simp_all)) (hB1.celln rfl)) ?_
  refine LW.g rfl rfl rfl rfl rfl rfl rfl (fun hc => PEv.lss (by first | exact .tmp rfl | exact .cond rfl (by first | assumption | simp_all)) (.const _)) ?_
  refine LW.p (PEv.pick_or (.tmp rfl) (fun hp => (by first | exact .const _ | exact .tmp rfl | exact .cond rfl (by first | assumption | (rw [hp]; rfl) | simp_all)))) rfl rfl rfl ?_
  refine LW.p (PEv.move (.tmp rfl)) rfl rfl rfl ?_
  refine LW.g rfl rfl rfl rfl rfl rfl rfl (fun hc => PEv.fieldAddr (off := 2) Tryz.underlying35 rfl rfl Tryz.sizeOf3 rfl (.tmp rfl)) ?_
  refine LW.g rfl rfl rfl rfl rfl rfl rfl (fun hc => PEv.load Tryz.isAgg3 (by first | exact .tmp rfl | exact .cond rfl (by first | assumption | simp_all)) (hB1.celln rfl)) ?_
  refine LW.g rfl rfl rfl rfl rfl rfl rfl (fun hc => PEv.gtr (by first | exact .tmp rfl | exact .cond rfl (by first | assumption | simp_all)) (.const _)) ?_
  refine LW.p (PEv.pick_or (.tmp rfl) (fun hp => (by first | exact .const _ | exact .tmp rfl | exact .cond rfl (by first | assumption | (rw [hp]; rfl) | simp_all)))) rfl rfl rfl ?_
  refine LW.p (PEv.move (.tmp rfl)) rfl rfl rfl ?_
  refine LW.g rfl rfl rfl rfl rfl rfl rfl (fun hc => PEv.fieldAddr (off := 3) Tryz.underlying35 rfl rfl Tryz.sizeOf3 rfl (.tmp rfl)) ?_
  refine LW.g rfl rfl rfl rfl rfl rfl rfl (fun hc => PEv.load Tryz.isAgg3 (by first | exact .tmp rfl | exact .cond rfl (by first | assumption | simp_all)) (hB1.celln rfl)) ?_
  refine LW.g rfl rfl rfl rfl rfl rfl rfl (fun hc => PEv.lss (by first | exact .tmp rfl | exact .cond rfl (by first | assumption | simp_all)) (.const _)) ?_
  refine LW.p (PEv.pick_or (.tmp rfl) (fun hp => (by first | exact .const _ | exact .tmp rfl | exact .cond rfl (by first | assumption | (rw [hp]; rfl) | simp_all)))) rfl rfl rfl ?_
  refine LW.p (PEv.move (.tmp rfl)) rfl rfl rfl ?_
  refine LW.g rfl rfl rfl rfl rfl rfl rfl (fun hc => PEv.fieldAddr (off := 3) Tryz.underlying35 rfl rfl Tryz.sizeOf3 rfl (.tmp rfl)) ?_
  refine LW.g rfl rfl rfl rfl rfl rfl rfl (fun hc => PEv.load Tryz.isAgg3 (by first | exact .tmp rfl | exact .cond rfl (by first | assumption | simp_all)) (hB1.celln rfl)) ?_
  refine LW.g rfl rfl rfl rfl rfl rfl rfl (fun hc => PEv.gtr (by first | exact .tmp rfl | exact .cond rfl (by first | assumption | simp_all)) (.const _)) ?_
  refine LW.p (PEv.pick_or (.tmp rfl) (fun hp => (by first | exact .const _ | exact .tmp rfl | exact .cond rfl (by first | assumption | (rw [hp]; rfl) | simp_all)))) rfl rfl rfl ?_
  refine LW.p (PEv.move (.tmp rfl)) rfl rfl rfl ?_
  refine LW.g rfl rfl rfl rfl rfl rfl rfl (fun hc => PEv.fieldAddr (off := 18) Tryz.underlying35 rfl rfl Tryz.sizeOf9 rfl (.tmp rfl)) ?_
  refine LW.g rfl rfl rfl rfl rfl rfl rfl (fun hc => PEv.load Tryz.isAgg9 (by first | exact .tmp rfl | exact .cond rfl (by first | assumption | simp_all)) (hB1.celln rfl)) ?_
  refine LW.g rfl rfl rfl rfl rfl rfl rfl (fun hc => PEv.lenStr Tryz.underlying9 (by first | exact .tmp rfl | exact .cond rfl (by first | assumption | simp_all))) ?_
  refine LW.g rfl rfl rfl rfl rfl rfl rfl (fun hc => PEv.gtr (by first | exact .tmp rfl | exact .cond rfl (by first | assumption | simp_all)) (.const _)) ?_
  refine LW.p (PEv.pick_or (.tmp rfl) (fun hp => (by first | exact .const _ | exact .tmp rfl | exact .cond rfl (by first | assumption | (rw [hp]; rfl) | simp_all)))) rfl rfl rfl ?_
  refine LW.p (PEv.move (.tmp rfl)) rfl rfl rfl ?_
  refine LW.g rfl rfl rfl rfl rfl rfl rfl (fun hc => PEv.fieldAddr (off := 0) Tryz.underlying35 rfl rfl Tryz.sizeOf3 rfl (.tmp rfl)) ?_
  refine LW.g rfl rfl rfl rfl rfl rfl rfl (fun hc => PEv.load Tryz.isAgg3 (by first | exact .tmp rfl | exact .cond rfl (by first | assumption | simp_all)) (hB1.celln rfl)) ?_
  refine LW.g rfl rfl rfl rfl rfl rfl rfl (fun hc => PEv.neq (by first | exact .tmp rfl | exact .cond rfl (by first | assumption | simp_all)) (.const _)) ?_
  refine LW.g rfl rfl rfl rfl rfl rfl rfl (fun hc => PEv.move (by first | exact .tmp rfl | exact .cond rfl (by first | assumption | simp_all))) ?_
  refine LW.gg rfl rfl rfl rfl rfl rfl rfl (fun hc => PEv.fieldAddr (off := 18) Tryz.underlying35 rfl rfl Tryz.sizeOf9 rfl (.tmp rfl)) ?_
  refine LW.gg rfl rfl rfl rfl rfl rfl rfl (fun hc => PEv.load Tryz.isAgg9 (by first | exact .tmp rfl | exact .cond rfl (by first | assumption | simp_all)) (hB1.celln rfl)) ?_
  refine LW.gg rfl rfl rfl rfl rfl rfl rfl (fun hc => PEv.neqStr (by first | exact .tmp rfl | exact .cond rfl (by first | assumption | simp_all)) (.const _)) ?_
  refine LW.g rfl rfl rfl rfl rfl rfl rfl (fun hc => PEv.pick_and (by first | exact .tmp rfl | exact .cond rfl (by first | assumption | simp_all)) (fun hp => (by first | exact .const _ | exact .tmp rfl | exact .cond rfl (by first | assumption | (rw [hp]; rfl) | simp_all)))) ?_
  refine LW.p (PEv.pick_or (.tmp rfl) (fun hp => (by first | exact .const _ | exact .tmp rfl | exact .cond rfl (by first | assumption | (rw [hp]; rfl) | simp_all)))) rfl rfl rfl ?_
  refine LW.nil (KW.then ?_)
  refine CW.cond (.tmp rfl) (fun h51 => ?_) (fun h51 => ?_)
  ·first | replace h51 := of_decide_eq_true h51 | replace h51 := of_decide_eq_false h51 | skip
   have hc : preR f = true := by unfold preR; simpa [Bool.or_assoc] using h51
   refine CW.seq (CW.region (LW.p (PEv.assign (.const _)) rfl rfl rfl (LW.nil (KW.then (CW.ret (KW.then_ret ?_))))))
   refine KW.ret1 rfl rfl ⟨_, rfl, ?_⟩
   refine ⟨?_, hW⟩
   rw [← valid_eq]
   first | rw [← validR_pre hc] | rw [← validR_bad (by omega) hb] | (rw [← validR_end hc hq]; unfold endR; congr 1)
  ·first | replace h51 := of_decide_eq_true h51 | replace h51 := of_decide_eq_false h51 | skip
   have hc : preR f = false := by unfold preR; rw [← Bool.not_eq_true]; simpa [Bool.or_assoc] using h51
   refine CW.skip (KW.then (CW.seq (CW.seq (CW.region (LW.p (PEv.assign (.const _)) rfl rfl rfl (LW.nil (KW.then (CW.block ?_))))))))
   refine CW.loopB (σ := Nat) (fun s w => (s ≤ 14) ∧ (∀ j, j < s → badR f j = false) ∧ (Up w0 w) ∧ (Els w adl 1 eInt (fldR f.Kind)) ∧ (Blk w B1 f.cells 35)) (fun s => [(4, .eq (vi (s : Int)))]) ([(1, .eq _), (3, .eq _)]) (fun s => 14 - s) 0 ?_ ⟨rfl, rfl, rfl, trivial⟩ ?_
   ·exact ⟨Nat.zero_le _, fun j hj => absurd hj (Nat.not_lt_zero _), hW, hEl, hB1⟩
   ·rintro i w3 ⟨hi, hq, hW, hEl, hB1⟩
    refine CW.seq (CW.seq (CW.region (LW.p (PEv.move (.tmp rfl)) rfl rfl rfl ?_)))
    refine LW.p (PEv.leq (.tmp rfl) (.const _)) rfl rfl rfl ?_
    refine LW.nil (KW.then ?_)
    refine CW.cond (.tmp rfl) (fun h53 => ?_) (fun h53 => ?_)
    ·first | replace h53 := of_decide_eq_true h53 | replace h53 := of_decide_eq_false h53 | skip
     refine CW.skip (KW.then (CW.seq (CW.block (CW.seq (CW.region ?_)))))
     refine LW.p (PEv.loadA Tryz.isAgg35 Tryz.sizeOf35 rfl (.tmp rfl) (hB1.agg)) rfl rfl rfl ?_
     refine LW.p (PEv.move (.tmp rfl)) rfl rfl rfl ?_
     refine LW.c (enter_call0 (.cons (.tmp rfl) (.cons (.tmp rfl) .nil)) (Tryz.en77)) rfl rfl rfl rfl (Get_any f i _ (by omega)) ?_
     rintro _ w4 ⟨rfl, uw4⟩
     have zw4 := uw4.size
     replace hW := hW.up uw4
     replace hEl := hEl.up uw4
     replace hB1 := hB1.up uw4
     refine LW.p (PEv.assign (.tmp rfl)) rfl rfl rfl (LW.nil (KW.then (CW.seq (CW.region ?_))))
     refine LW.p (PEv.fieldAddr (off := 0) Tryz.underlying35 rfl rfl Tryz.sizeOf3 rfl (.tmp rfl)) rfl rfl rfl ?_
     refine LW.p (PEv.load Tryz.isAgg3 (.tmp rfl) (hB1.celln rfl)) rfl rfl rfl ?_
     refine LW.p (PEv.move (.tmp rfl)) rfl rfl rfl ?_
     refine LW.c (enter_call0 (.cons (.tmp rfl) (.cons (.tmp rfl) .nil)) (Tryz.en107)) rfl rfl rfl rfl (rLimits_any f.Kind (i : Int) _) ?_
     rintro _ w5 ⟨rfl, uw5⟩
     have zw5 := uw5.size
     replace hW := hW.up uw5
     replace hEl := hEl.up uw5
     replace hB1 := hB1.up uw5
     refine LW.p (PEv.move (.tmp rfl)) rfl rfl rfl (LW.p (PEv.extract (.tmp rfl) rfl) rfl rfl rfl (LW.p (PEv.extract (.tmp rfl) rfl) rfl rfl rfl (LW.p (PEv.assign (.tmp rfl)) rfl rfl rfl (LW.p (PEv.assign (.tmp rfl)) rfl rfl rfl (LW.nil (KW.then (CW.seq (CW.region (LW.p (PEv.move (.tmp rfl)) rfl rfl rfl (LW.p (PEv.move (.tmp rfl)) rfl rfl rfl ?_))))))))))
     refine LW.c (enter_call0 (.cons (.tmp rfl) (.cons (.tmp rfl) .nil)) (Tryz.en108)) rfl rfl rfl rfl (rHas_any _ _ _ _ _ hEl (by omega)) ?_
     rintro _ w6 ⟨rfl, uw6⟩
     have zw6 := uw6.size
     replace hW := hW.up uw6
     replace hEl := hEl.up uw6
     replace hB1 := hB1.up uw6
     refine LW.p (PEv.assign (.tmp rfl)) rfl rfl rfl (LW.nil (KW.then (CW.seq (CW.region (LW.p (PEv.move (.tmp rfl)) rfl rfl rfl (LW.p (PEv.move (.tmp rfl)) rfl rfl rfl ?_))))))
     refine LW.g rfl rfl rfl rfl rfl rfl rfl (fun hc => PEv.move (.tmp rfl)) ?_
     refine LW.g rfl rfl rfl rfl rfl rfl rfl (fun hc => PEv.move (.tmp rfl)) ?_
     refine LW.g rfl rfl rfl rfl rfl rfl rfl (fun hc => PEv.lss (by first | exact .tmp rfl | exact .cond rfl (by first | assumption | simp_all)) (by first | exact .tmp rfl | exact .cond rfl (by first | assumption | simp_all))) ?_
     refine LW.g rfl rfl rfl rfl rfl rfl rfl (fun hc => PEv.move (by first | exact .tmp rfl | exact .cond rfl (by first | assumption | simp_all))) ?_
     refine LW.gg rfl rfl rfl rfl rfl rfl rfl (fun hc => PEv.move (.tmp rfl)) ?_
     refine LW.gg rfl rfl rfl rfl rfl rfl rfl (fun hc => PEv.move (.tmp rfl)) ?_
     refine LW.gg rfl rfl rfl rfl rfl rfl rfl (fun hc => PEv.gtr (by first | exact .tmp rfl | exact .cond rfl (by first | assumption | simp_all)) (by first | exact .tmp rfl | exact .cond rfl (by first | assumption | simp_all))) ?_
     refine LW.g rfl rfl rfl rfl rfl rfl rfl (fun hc => PEv.pick_or (by first | exact .tmp rfl | exact .cond rfl (by first | assumption | simp_all)) (fun hp => (by first | exact .const _ | exact .tmp rfl | exact .cond rfl (by first | assumption | (rw [hp]; rfl) | simp_all)))) ?_
     refine LW.p (PEv.pick_and (.tmp rfl) (fun hp => (by first | exact .const _ | exact .tmp rfl | exact .cond rfl (by first | assumption | (rw [hp]; rfl) | simp_all)))) rfl rfl rfl ?_
     refine LW.p (PEv.move (.tmp rfl)) rfl rfl rfl ?_
     refine LW.g rfl rfl rfl rfl rfl rfl rfl (fun hc => PEv.move (.tmp rfl)) ?_
     refine LW.g rfl rfl rfl rfl rfl rfl rfl (fun hc => PEv.not (by first | exact .tmp rfl | exact .cond rfl (by first | assumption | simp_all))) ?_
     refine LW.g rfl rfl rfl rfl rfl rfl rfl (fun hc => PEv.move (by first | exact .tmp rfl | exact .cond rfl (by first | assumption | simp_all))) ?_
     refine LW.gg rfl rfl rfl rfl rfl rfl rfl (fun hc => PEv.move (.tmp rfl)) ?_
     refine LW.gg rfl rfl rfl rfl rfl rfl rfl (fun hc => PEv.neq (by first | exact .tmp rfl | exact .cond rfl (by first | assumption | simp_all)) (.const _)) ?_
     refine LW.g rfl rfl rfl rfl rfl rfl rfl (fun hc => PEv.pick_and (by first | exact .tmp rfl | exact .cond rfl (by first | assumption | simp_all)) (fun hp => (by first | exact .const _ | exact .tmp rfl | exact .cond rfl (by first | assumption | (rw [hp]; rfl) | simp_all)))) ?_
     refine LW.p (PEv.pick_or (.tmp rfl) (fun hp => (by first | exact .const _ | exact .tmp rfl | exact .cond rfl (by first | assumption | (rw [hp]; rfl) | simp_all)))) rfl rfl rfl ?_
     refine LW.nil (KW.then ?_)
     refine CW.cond (.tmp rfl) (fun h87 => ?_) (fun h87 => ?_)
     ·first | replace h87 := of_decide_eq_true h87 | replace h87 := of_decide_eq_false h87 | skip
      have hb : badR f i = true := by unfold badR; simpa using h87
      refine CW.seq (CW.region (LW.p (PEv.assign (.const _)) rfl rfl rfl (LW.nil (KW.then (CW.ret (KW.block_ret (KW.then_ret (KW.then_ret (KW.block_ret (KW.then_ret ?_))))))))))
      refine KW.ret1 rfl rfl ⟨_, rfl, ?_⟩
      refine ⟨?_, hW⟩
      rw [← valid_eq]
      first | rw [← validR_pre hc] | rw [← validR_bad (by omega) hb] | (rw [← validR_end hc hq]; unfold endR; congr 1)
     ·first | replace h87 := of_decide_eq_true h87 | replace h87 := of_decide_eq_false h87 | skip
      have hb : badR f i = false := by unfold badR; rw [← Bool.not_eq_true]; simpa using h87
      refine CW.skip (KW.inBlock (KW.then (CW.region (LW.p (PEv.move (.tmp rfl)) rfl rfl rfl ?_))))
      refine LW.p (PEv.inc (.tmp rfl) (by omega)) rfl rfl rfl ?_
      refine LW.p (PEv.assign (.tmp rfl)) rfl rfl rfl (LW.nil (KW.round ?_))
      exact ⟨i + 1, ⟨by omega, fun j hj => by rcases Nat.lt_succ_iff_lt_or_eq.1 hj with h | h; exact hq j h; rw [h]; exact hb, hW, hEl, hB1⟩, ⟨rfl, rfl, rfl, trivial⟩, by first | omega | (dsimp only; omega)⟩
    ·first | replace h53 := of_decide_eq_true h53 | replace h53 := of_decide_eq_false h53 | skip
     have hi14 : i = 14 := by omega
     subst hi14
     refine CW.exit (KW.then_exit (KW.then_exit (KW.block_hit (KW.then (CW.seq (CW.region (LW.p (PEv.move (.tmp rfl)) rfl rfl rfl ?_)))))))
     refine LW.c (enter_call0 (.cons (.tmp rfl) (.cons (.const _) .nil)) (Tryz.en108)) rfl rfl rfl rfl (rHas_any _ _ _ _ _ hEl (by omega)) ?_
     rintro _ w7 ⟨rfl, uw7⟩
     have zw7 := uw7.size
     replace hW := hW.up uw7
     replace hEl := hEl.up uw7
     replace hB1 := hB1.up uw7
     refine LW.p (PEv.assign (.tmp rfl)) rfl rfl rfl (LW.nil (KW.then (CW.seq (CW.region (LW.p (PEv.move (.tmp rfl)) rfl rfl rfl ?_)))))
     refine LW.p (PEv.not (.tmp rfl)) rfl rfl rfl ?_
     refine LW.p (PEv.move (.tmp rfl)) rfl rfl rfl ?_
     refine LW.g rfl rfl rfl rfl rfl rfl rfl (fun hc => PEv.fieldAddr (off := 5) Tryz.underlying35 rfl rfl Tryz.sizeOf3 rfl (.tmp rfl)) ?_
     refine LW.g rfl rfl rfl rfl rfl rfl rfl (fun hc => PEv.load Tryz.isAgg3 (by first | exact .tmp rfl | exact .cond rfl (by first | assumption | simp_all)) (hB1.celln rfl)) ?_
     refine LW.g rfl rfl rfl rfl rfl rfl rfl (fun hc => PEv.fieldAddr (off := 6) Tryz.underlying35 rfl rfl Tryz.sizeOf3 rfl (.tmp rfl)) ?_
     refine LW.g rfl rfl rfl rfl rfl rfl rfl (fun hc => PEv.load Tryz.isAgg3 (by first | exact .tmp rfl | exact .cond rfl (by first | assumption | simp_all)) (hB1.celln rfl)) ?_
     refine LW.g rfl rfl rfl rfl rfl rfl rfl (fun hc => PEv.leq (by first | exact .tmp rfl | exact .cond rfl (by first | assumption | simp_all)) (by first | exact .tmp rfl | exact .cond rfl (by first | assumption | simp_all))) ?_
     refine LW.p (PEv.pick_or (.tmp rfl) (fun hp => (by first | exact .const _ | exact .tmp rfl | exact .cond rfl (by first | assumption | (rw [hp]; rfl) | simp_all)))) rfl rfl rfl ?_
     refine LW.p (PEv.move (.tmp rfl)) rfl rfl rfl ?_
     refine LW.g rfl rfl rfl rfl rfl rfl rfl (fun hc => PEv.fieldAddr (off := 0) Tryz.underlying35 rfl rfl Tryz.sizeOf3 rfl (.tmp rfl)) ?_
     refine LW.g rfl rfl rfl rfl rfl rfl rfl (fun hc => PEv.load Tryz.isAgg3 (by first | exact .tmp rfl | exact .cond rfl (by first | assumption | simp_all)) (hB1.celln rfl)) ?_
     refine LW.g rfl rfl rfl rfl rfl rfl rfl (fun hc => PEv.neq (by first | exact .tmp rfl | exact .cond rfl (by first | assumption | simp_all)) (.const _)) ?_
     refine LW.g rfl rfl rfl rfl rfl rfl rfl (fun hc => PEv.move (by first | exact .tmp rfl | exact .cond rfl (by first | assumption | simp_all))) ?_
     refine LW.gg rfl rfl rfl rfl rfl rfl rfl (fun hc => PEv.fieldAddr (off := 7) Tryz.underlying35 rfl rfl Tryz.sizeOf3 rfl (.tmp rfl)) ?_
     refine LW.gg rfl rfl rfl rfl rfl rfl rfl (fun hc => PEv.load Tryz.isAgg3 (by first | exact .tmp rfl | exact .cond rfl (by first | assumption | simp_all)) (hB1.celln rfl)) ?_
     refine LW.gg rfl rfl rfl rfl rfl rfl rfl (fun hc => PEv.fieldAddr (off := 8) Tryz.underlying35 rfl rfl Tryz.sizeOf3 rfl (.tmp rfl)) ?_
     refine LW.gg rfl rfl rfl rfl rfl rfl rfl (fun hc => PEv.load Tryz.isAgg3 (by first | exact .tmp rfl | exact .cond rfl (by first | assumption | simp_all)) (hB1.celln rfl)) ?_
     refine LW.gg rfl rfl rfl rfl rfl rfl rfl (fun hc => PEv.neq (by first | exact .tmp rfl | exact .cond rfl (by first | assumption | simp_all)) (by first | exact .tmp rfl | exact .cond rfl (by first | assumption | simp_all))) ?_
     refine LW.g rfl rfl rfl rfl rfl rfl rfl (fun hc => PEv.pick_or (by first | exact .tmp rfl | exact .cond rfl (by first | assumption | simp_all)) (fun hp => (by first | exact .const _ | exact .tmp rfl | exact .cond rfl (by first | assumption | (rw [hp]; rfl) | simp_all)))) ?_
     refine LW.p (PEv.pick_and (.tmp rfl) (fun hp => (by first | exact .const _ | exact .tmp rfl | exact .cond rfl (by first | assumption | (rw [hp]; rfl) | simp_all)))) rfl rfl rfl ?_
     refine LW.p (PEv.assign (.tmp rfl)) rfl rfl rfl (LW.nil (KW.then (CW.ret ?_)))
     refine KW.ret1 rfl rfl ⟨_, rfl, ?_⟩
     refine ⟨?_, hW⟩
     rw [← valid_eq]
     first | rw [← validR_pre hc] | rw [← validR_bad (by omega) hb] | (rw [← validR_end hc hq]; unfold endR; congr 1)

end Go.Proofs.YtdelcaegofkknaaGreat
