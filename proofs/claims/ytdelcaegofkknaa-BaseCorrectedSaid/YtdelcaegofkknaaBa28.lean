import Derived.Test.YtdelcaegofkknaaBa27
namespace Go.Wx

theorem key_kind {f g : Fact} (hf : validB f = true) (hg : validB g = true) (h : keyB f = keyB g) : f.Kind = g.Kind := by
  have kf := valid_kind hf
  have kg := valid_kind hg
  unfold keyB keyL at h
  rw [if_pos hf, if_pos hg] at h
  exact (encI_cut (r := encIs (valsOf (keyFOf f.Kind) f)) (s := encIs (valsOf (keyFOf g.Kind) g)) (a := f.Kind) (b := g.Kind) ⟨by omega, by omega⟩ ⟨by omega, by omega⟩ h).1
def MKd (k : Int) (m : FMap) : FMap := m.filter fun p => decide (p.2.Kind = k)
theorem MKd_mem {k : Int} {m : FMap} {p : List UInt8 × Fact} : p ∈ MKd k m ↔ p ∈ m ∧ p.2.Kind = k := by unfold MKd; rw [List.mem_filter]; simp
theorem MKd_ok {k : Int} {m : FMap} (h : MOk m) : MOk (MKd k m) := fun p hp => h p (MKd_mem.1 hp).1
theorem kind_of {m : FMap} (h : MOk m) {x : Fact} (hx : validB x = true) {p : List UInt8 × Fact} (hp : p ∈ m) (e : p.1 = keyB x) : p.2.Kind = x.Kind := key_kind (h p hp).2 hx ((h p hp).1.symm.trans e)
theorem MKd_keys {k : Int} {m : FMap} (h : MOk m) {x : Fact} (hx : validB x = true) (hk : x.Kind = k) : keyB x ∈ (MKd k m).map (·.1) ↔ keyB x ∈ m.map (·.1) := by
  constructor
  · intro hm
    obtain ⟨p, hp, e⟩ := List.mem_map.1 hm
    exact List.mem_map.2 ⟨p, (MKd_mem.1 hp).1, e⟩
  · intro hm
    obtain ⟨p, hp, e⟩ := List.mem_map.1 hm
    exact List.mem_map.2 ⟨p, MKd_mem.2 ⟨hp, (kind_of h hx hp e).trans hk⟩, e⟩
theorem MKd_map (k : Int) (x : Fact) (c : List UInt8) : ∀ (m : FMap), (∀ p ∈ m, p.1 = c → p.2.Kind = x.Kind) → MKd k (m.map fun p => if p.1 = c then (c, x) else p) = (MKd k m).map fun p => if p.1 = c then (c, x) else p
  | [], _ => rfl
  | p :: m, h => by
    have ih := MKd_map k x c m (fun q hq => h q (List.mem_cons_of_mem _ hq))
    unfold MKd at ih ⊢
    rw [List.map_cons, List.filter_cons, List.filter_cons, ih]
    by_cases hp : p.1 = c
    · rw [if_pos hp]
      have hk := h p List.mem_cons_self hp
      by_cases hx : x.Kind = k
      · rw [if_pos (decide_eq_true hx), if_pos (decide_eq_true (hk.trans hx)), List.map_cons, if_pos hp]
      · rw [if_neg (by rw [decide_eq_false hx]; exact Bool.false_ne_true), if_neg (by rw [decide_eq_false (fun e => hx (hk.symm.trans e))]; exact Bool.false_ne_true)]
    · rw [if_neg hp]
      by_cases hx : p.2.Kind = k
      · rw [if_pos (decide_eq_true hx), if_pos (decide_eq_true hx), List.map_cons, if_neg hp]
      · rw [if_neg (by rw [decide_eq_false hx]; exact Bool.false_ne_true), if_neg (by rw [decide_eq_false hx]; exact Bool.false_ne_true)]
theorem MKd_same {k : Int} {x : Fact} (c : List UInt8) (hx : x.Kind ≠ k) : ∀ (m : FMap), (∀ p ∈ m, p.1 = c → p.2.Kind = x.Kind) → (MKd k m).map (fun p => if p.1 = c then (c, x) else p) = MKd k m := fun m h => by
  have : ∀ p ∈ MKd k m, (if p.1 = c then (c, x) else p) = p := fun p hp => if_neg fun e => hx ((h p (MKd_mem.1 hp).1 e).symm.trans (MKd_mem.1 hp).2)
  exact (List.map_congr_left this).trans (List.map_id _)
theorem MKd_fset {k : Int} {m : FMap} (h : MOk m) {x : Fact} (hx : validB x = true) : MKd k (fset m (keyB x) x) = if x.Kind = k then fset (MKd k m) (keyB x) x else MKd k m := by
  have hk : ∀ p ∈ m, p.1 = keyB x → p.2.Kind = x.Kind := fun p hp e => kind_of h hx hp e
  by_cases hxk : x.Kind = k
  · rw [if_pos hxk]
    unfold fset
    by_cases hm : keyB x ∈ m.map (·.1)
    · rw [if_pos hm, if_pos ((MKd_keys h hx hxk).2 hm), MKd_map k x (keyB x) m hk]
    · rw [if_neg hm, if_neg (fun e => hm ((MKd_keys h hx hxk).1 e))]
      unfold MKd
      rw [List.filter_append, List.filter_cons, if_pos (decide_eq_true hxk)]; rfl
  · rw [if_neg hxk]
    unfold fset
    by_cases hm : keyB x ∈ m.map (·.1)
    · rw [if_pos hm, MKd_map k x (keyB x) m hk, MKd_same (keyB x) hxk m hk]
    · rw [if_neg hm]
      unfold MKd
      rw [List.filter_append, List.filter_cons, if_neg (by show ¬ decide (x.Kind = k) = true; rw [decide_eq_false hxk]; exact Bool.false_ne_true)]; simp
theorem MKd_get {k : Int} {m : FMap} (h : MOk m) {x : Fact} (hx : validB x = true) (hk : x.Kind = k) : fget (MKd k m) (keyB x) = fget m (keyB x) := by
  unfold fget MKd
  congr 1
  induction m with
  | nil => rfl
  | cons p m ih =>
    have ih := ih (fun q hq => h q (List.mem_cons_of_mem _ hq))
    rw [List.filter_cons]
    by_cases e : p.1 = keyB x
    · have hp := (kind_of h hx List.mem_cons_self e).trans hk
      rw [if_pos (decide_eq_true hp), List.find?_cons, List.find?_cons, show (p.1 == keyB x) = true by simpa using e]
    · by_cases hp : p.2.Kind = k
      · rw [if_pos (decide_eq_true hp), List.find?_cons, List.find?_cons, show (p.1 == keyB x) = false by simpa using e]
        exact ih
      · rw [if_neg (by rw [decide_eq_false hp]; exact Bool.false_ne_true), List.find?_cons, show (p.1 == keyB x) = false by simpa using e]
        exact ih
theorem MKd_step {k d : Int} {m : FMap} (h : MOk m) (x : Fact) : MKd k (bestStep d m x) = if x.Kind = k then bestStep d (MKd k m) x else MKd k m := by
  by_cases hc : keyB x = [] ∨ d < x.Day
  · rw [best_skip hc, best_skip hc]; split <;> rfl
  · have hv := keyB_valid (fun e => hc (.inl e))
    by_cases hk : x.Kind = k
    · rw [if_pos hk]
      unfold bestStep
      rw [if_neg hc, if_neg hc, MKd_get h hv hk]
      cases fget m (keyB x) with
      | none => rw [MKd_fset h hv, if_pos hk]
      | some old =>
        dsimp only
        split
        · rw [MKd_fset h hv, if_pos hk]
        · rfl
    · rw [if_neg hk]
      unfold bestStep
      rw [if_neg hc]
      cases fget m (keyB x) with
      | none => rw [MKd_fset h hv, if_neg hk]
      | some old =>
        dsimp only
        split
        · rw [MKd_fset h hv, if_neg hk]
        · rfl
def isK (k : Int) (f : Fact) : Bool := decide (f.Kind = k)
theorem best_kind (l : List Fact) (k d : Int) : bestL (l.filter (isK k)) d = MKd k (bestL l d) := by
  have key : ∀ (l : List Fact) (m : FMap), MOk m → (l.filter (isK k)).foldl (bestStep d) (MKd k m) = MKd k (l.foldl (bestStep d) m) := by
    intro l
    induction l with
    | nil => exact fun _ _ => rfl
    | cons x l ih =>
      intro m h
      have hs := (h.step d x).1
      rw [List.foldl_cons, ← ih _ hs, MKd_step h, List.filter_cons]
      by_cases hk : x.Kind = k
      · rw [if_pos hk, if_pos (show isK k x = true from decide_eq_true hk), List.foldl_cons]
      · rw [if_neg hk, if_neg (by rw [isK, decide_eq_false hk]; exact Bool.false_ne_true)]
  exact key l [] (fun p hp => by simp at hp)
theorem facts_kind (l : List Fact) (k d : Int) : factsM (bestL (l.filter (isK k)) d) = (factsM (bestL l d)).filter (isK k) := by
  rw [best_kind]
  unfold factsM MKd
  rw [List.filter_map]; rfl
theorem kind_own {l : List Fact} {k d : Int} {i : Nat} (hi : i < 11) (h : (i : Int) = k - 1) : eqFs (lstOf (ofB l d) i) (lstOf (ofB (l.filter (isK k)) d) i) = true := by
  rw [lst_ofB l d hi, lst_ofB _ d hi, facts_kind]
  have : ∀ (X : List Fact), (X.filter (isK k)).filter (fun f => !f.Gone && decide (f.Kind = ((i + 1 : Nat) : Int))) = X.filter (fun f => !f.Gone && decide (f.Kind = ((i + 1 : Nat) : Int))) := fun X => by
    rw [List.filter_filter]
    apply List.filter_congr
    intro x _
    by_cases e : x.Kind = k
    · rw [isK, decide_eq_true e, Bool.and_true]
    · rw [isK, decide_eq_false e, decide_eq_false (show ¬ x.Kind = ((i + 1 : Nat) : Int) by omega)]; simp
  unfold lstAt
  rw [if_pos (List.mem_singleton.2 rfl), if_pos (List.mem_singleton.2 rfl), this]
  exact eqFs_refl _
theorem kind_none {l : List Fact} {k d : Int} {i : Nat} (hi : i < 11) (h : ¬ (i : Int) = k - 1) : lstOf (ofB (l.filter (isK k)) d) i = [] := by
  rw [lst_ofB _ d hi, facts_kind]
  have : ∀ (X : List Fact), (X.filter (isK k)).filter (fun f => !f.Gone && decide (f.Kind = ((i + 1 : Nat) : Int))) = [] := fun X => by
    rw [List.filter_filter, List.filter_eq_nil_iff]
    intro x _ hx
    simp only [isK, Bool.and_eq_true, decide_eq_true_eq] at hx
    omega
  unfold lstAt
  rw [if_pos (List.mem_singleton.2 rfl), this]
  rfl

end Go.Wx
namespace Go.Proofs.Ytdelcaegofkknaa
open Go.Wx Go.RowKit
set_option maxHeartbeats 4000000 in
theorem BaseKinds_any (ad : Option Addr) (cp : Nat) (l : List Fact) (kind day : Int) (w : World) (hE1 : Els w ad 19 Fact.cells l) (hkind : inI kind) (hday : inI day) : Ret Try.prog 7 #[.slice ad l.length cp, vi kind, vi day] w fun r w' => r = .bool true ∧ Up w w' := by
  obtain ⟨w0, rfl⟩ : ∃ w0, w0 = w := ⟨_, rfl⟩
  have hS := Sep.start no w0
  refine Calls_start (n := 88) (m := 9) Try.func7 rfl rfl rfl ?_
  refine CW.seq ?_
  -- region 0
  refine CW.region ?_
  refine LW.p (PEv.assign (.const _)) rfl rfl rfl ?_
  refine LW.nil ?_
  refine KW.then ?_
  refine CW.seq ?_
  -- region 1
  refine CW.region ?_
  refine LW.c (enter_call0 .nil (Try.en9)) rfl rfl rfl rfl (sane_any _) ?_
  rintro _ w1 ⟨rfl, uw1⟩
  have zw1 := uw1.size
  replace hS := hS.up uw1
  refine LW.p (PEv.assign (.tmp rfl)) rfl rfl rfl ?_
  refine LW.nil ?_
  refine KW.then ?_
  refine CW.seq ?_
  -- region 2
  refine CW.region ?_
  refine LW.p (PEv.move (.tmp rfl)) rfl rfl rfl ?_
  refine LW.c (enter_call0 (.cons (.tmp rfl) (.cons (.const _) .nil)) (Try.en10)) rfl rfl rfl rfl (few_any _ _ 40 l _ (Els.up hE1 hS.upd) (by decide)) ?_
  rintro v17 w2 ⟨hO17, uw2⟩
  have zw2 := uw2.size
  replace hS := hS.add uw2 (A' := aOwn 28 19 Fact.cells v17 (fewL 40 l)) (hO17.mono (Nat.zero_le _)) (fun i h => hO17.base i h)
  change Wx.Sep _ _ _ [_] at hS
  clear hO17
  obtain ⟨ad17, cp17, rfl, _⟩ := (hS.own 0 rfl).sl (fun _ => rfl)
  refine LW.p (PEv.assign (.tmp rfl)) rfl rfl rfl ?_
  refine LW.nil ?_
  refine KW.then ?_
  refine CW.seq ?_
  -- region 3
  refine CW.region ?_
  refine LW.p (PEv.move (.tmp rfl)) rfl rfl rfl ?_
  refine LW.c (enter_call0 (.cons (.tmp rfl) (.cons (.const _) .nil)) (Try.en11)) rfl rfl rfl rfl (pick_any _ _ _ (by decide)) ?_
  rintro _ w3 ⟨rfl, uw3⟩
  have zw3 := uw3.size
  replace hS := hS.up uw3
  have hkp := pick_range (c := kind) (n := 11) hkind (by decide)
  obtain ⟨kp, ekp⟩ : ∃ kp, kp = pickI kind 11 := ⟨_, rfl⟩
  rw [← ekp] at hkp ⊢
  refine LW.p (PEv.add (.const _) (.tmp rfl) (by omega) (by omega)) rfl rfl rfl ?_
  refine LW.p (PEv.assign (.tmp rfl)) rfl rfl rfl ?_
  refine LW.nil ?_
  refine KW.then ?_
  refine CW.seq ?_
  -- region 4
  refine CW.region ?_
  refine LW.p (PEv.move (.tmp rfl)) rfl rfl rfl ?_
  refine LW.c (enter_call0 (.cons (.tmp rfl) (.cons (.const _) .nil)) (Try.en11)) rfl rfl rfl rfl (pick_any _ _ _ (by decide)) ?_
  rintro _ w4 ⟨rfl, uw4⟩
  have zw4 := uw4.size
  replace hS := hS.up uw4
  have hd := pick_range (c := day) (n := 10) hday (by decide)
  obtain ⟨d, ed⟩ : ∃ d, d = pickI day 10 := ⟨_, rfl⟩
  rw [← ed] at hd ⊢
  refine LW.p (PEv.assign (.tmp rfl)) rfl rfl rfl ?_
  refine LW.nil ?_
  refine KW.then ?_
  refine CW.seq ?_
  obtain ⟨kk, ekk⟩ : ∃ kk, kk = 1 + kp := ⟨_, rfl⟩
  rw [← ekk]
  replace hS := hS.add (Up.refl _) (A' := aOwn 28 19 Fact.cells (.slice none 0 0) ([] : List Fact)) (OwnS.nil _ _ _ _ _) (fun i h => by cases h)
  change Wx.Sep _ _ _ [_, _] at hS
  -- region 5
  refine CW.region ?_
  refine LW.p (PEv.assign (.const _)) rfl rfl rfl ?_
  refine LW.nil ?_
  refine KW.then ?_
  refine CW.seq ?_
  refine CW.seq ?_
  -- region 6
  refine CW.region ?_
  refine LW.p (PEv.assign (.const _)) rfl rfl rfl ?_
  refine LW.nil ?_
  refine KW.then ?_
  refine CW.block ?_
  refine CW.loopB (σ := Nat × Go.Value) (fun s w => (s.1 ≤ (fewL 40 l).length) ∧ (Wx.Sep no w0 w [aOwn 28 19 Fact.cells (.slice ad17 (fewL 40 l).length cp17) (fewL 40 l), aOwn 28 19 Fact.cells s.2 (((fewL 40 l).take s.1).filter (isK kk))])) (fun s => [(11, .eq (vi (s.1 : Int))), (10, .eq (s.2))]) ([(0, .eq _), (6, .eq _), (7, .eq _), (8, .eq _), (9, .eq _)]) (fun s => (fewL 40 l).length - s.1) (0, .slice none 0 0) ?_ ⟨rfl, rfl, rfl, rfl, rfl, rfl, rfl, trivial⟩ ?_
  · exact ⟨Nat.zero_le _, hS⟩
  · rintro ⟨k, v2⟩ w5 ⟨hk, hS⟩
    dsimp only at hk hS
    change CW _ _ _ _ _ _ _ ([(11, .eq (vi (k : Int))), (10, .eq (v2))] ++ _) _
    refine CW.seq ?_
    refine CW.seq ?_
    -- region 7
    refine CW.region ?_
    refine LW.p (PEv.move (.tmp rfl)) rfl rfl rfl ?_
    refine LW.p (PEv.move (.tmp rfl)) rfl rfl rfl ?_
    refine LW.p (PEv.lenS Try.underlying22 (.tmp rfl)) rfl rfl rfl ?_
    refine LW.p (PEv.lss (.tmp rfl) (.tmp rfl)) rfl rfl rfl ?_
    refine LW.nil ?_
    refine KW.then ?_
    refine CW.cond (.tmp rfl) (fun h26 => ?_) (fun h26 => ?_)
    · first | replace h26 := of_decide_eq_true h26 | replace h26 := of_decide_eq_false h26 | skip
      refine CW.skip ?_
      refine KW.then ?_
      refine CW.seq ?_
      refine CW.block ?_
      refine CW.seq ?_
      have hE := (hS.own 0 rfl).els (fun _ => rfl)
      have hf1 := fewL_length 40 l
      have hlK := Nat.le_trans (filt_len (isK kk) (fewL 40 l) k) (show k ≤ 40 by omega)
      -- region 9
      refine CW.region ?_
      refine LW.p (PEv.move (.tmp rfl)) rfl rfl rfl ?_
      refine LW.p (PEv.move (.tmp rfl)) rfl rfl rfl ?_
      obtain ⟨x, hx⟩ := getElem?_of_lt (xs := fewL 40 l) (i := k) (by omega)
      obtain ⟨Bx, ox, ax, hcx⟩ := hE _ x hx
      refine LW.p (PEv.indexAddr' Try.underlying22 Try.sizeOf28 (.tmp rfl) (.tmp rfl) (by omega) ax) rfl rfl rfl ?_
      refine LW.p (PEv.fieldAddr (off := 0) Try.underlying28 rfl rfl Try.sizeOf3 rfl (.tmp rfl)) rfl rfl rfl ?_
      refine LW.p (PEv.load Try.isAgg3 (.tmp rfl) (hcx.nth (j := 0) rfl)) rfl rfl rfl ?_
      refine LW.p (PEv.move (.tmp rfl)) rfl rfl rfl ?_
      refine LW.p (PEv.eql (.tmp rfl) (.tmp rfl)) rfl rfl rfl ?_
      refine LW.nil ?_
      refine KW.then ?_
      refine CW.cond (.tmp rfl) (fun h35 => ?_) (fun h35 => ?_)
      · first | replace h35 := of_decide_eq_true h35 | replace h35 := of_decide_eq_false h35 | skip
        -- region 10
        refine CW.region ?_
        refine LW.p (PEv.move (.tmp rfl)) rfl rfl rfl ?_
        refine LW.p (PEv.move (.tmp rfl)) rfl rfl rfl ?_
        refine LW.p (PEv.move (.tmp rfl)) rfl rfl rfl ?_
        refine LW.p (PEv.indexAddr' Try.underlying22 Try.sizeOf28 (.tmp rfl) (.tmp rfl) (by omega) ax) rfl rfl rfl ?_
        refine LW.p (PEv.loadA Try.isAgg28 Try.sizeOf28 rfl (.tmp rfl) (hcx)) rfl rfl rfl ?_
        refine LW.r (REv.buildSlice (xs := [x]) (enc := Fact.cells) (mk := fun f : Fact => .agg f.cells) Try.underlying22 Try.sizeOf28 Try.zeroValue28 rfl (by decide) (fun _ => rfl) (fun _ => rfl) (.cons (.tmp rfl) .nil) rfl) rfl rfl rfl rfl ?_
        rintro _ w6 ⟨B41, cB41, rfl, NB41, yB41, xB41⟩
        have eB41 := NB41.at_
        have zB41 := NB41.size
        replace hS := hS.up NB41.up
        have hE41 := xB41
        refine LW.r (REv.appendF (enc := Fact.cells) (bytes := 160) (i := Try.t28) Try.underlying22 (by kernel_rfl) rfl rfl rfl rfl (by decide) (fun _ => rfl) Fact.one (.tmp rfl) (.tmp rfl) (hS.own 1 rfl) (Sl.of_els hE41) (by have := hlK; simp [maxLen]; omega) (by have := hlK; simp; omega)) rfl rfl rfl rfl ?_
        intro v42 w7 Gw7
        have zw7 := Gw7.fr.size
        replace hS := hS.stp 1 rfl Gw7
        change Wx.Sep _ _ _ [_, _] at hS
        refine LW.p (PEv.assign (.tmp rfl)) rfl rfl rfl ?_
        refine LW.nil ?_
        refine KW.inBlock ?_
        refine KW.then ?_
        -- region 8
        refine CW.region ?_
        refine LW.p (PEv.move (.tmp rfl)) rfl rfl rfl ?_
        refine LW.p (PEv.inc (.tmp rfl) (by omega)) rfl rfl rfl ?_
        refine LW.p (PEv.assign (.tmp rfl)) rfl rfl rfl ?_
        refine LW.nil ?_
        refine KW.round ?_
        first | exact ⟨(k + 1, v42), ⟨by show k + 1 ≤ _; omega, by first | (rw [fp_yes hx (decide_eq_true h35)]; exact hS.take 2) | (rw [fp_no hx (decide_eq_false h35)]; exact hS.take 2)⟩, ⟨rfl, rfl, rfl, rfl, rfl, rfl, rfl, trivial⟩, by show (fewL 40 l).length - (k + 1) < (fewL 40 l).length - k; omega⟩ | exact ⟨(k + 1, v2), ⟨by show k + 1 ≤ _; omega, by first | (rw [fp_yes hx (decide_eq_true h35)]; exact hS.take 2) | (rw [fp_no hx (decide_eq_false h35)]; exact hS.take 2)⟩, ⟨rfl, rfl, rfl, rfl, rfl, rfl, rfl, trivial⟩, by show (fewL 40 l).length - (k + 1) < (fewL 40 l).length - k; omega⟩
      · first | replace h35 := of_decide_eq_true h35 | replace h35 := of_decide_eq_false h35 | skip
        refine CW.skip ?_
        refine KW.inBlock ?_
        refine KW.then ?_
        -- region 8
        refine CW.region ?_
        refine LW.p (PEv.move (.tmp rfl)) rfl rfl rfl ?_
        refine LW.p (PEv.inc (.tmp rfl) (by omega)) rfl rfl rfl ?_
        refine LW.p (PEv.assign (.tmp rfl)) rfl rfl rfl ?_
        refine LW.nil ?_
        refine KW.round ?_
        first | exact ⟨(k + 1, v42), ⟨by show k + 1 ≤ _; omega, by first | (rw [fp_yes hx (decide_eq_true h35)]; exact hS.take 2) | (rw [fp_no hx (decide_eq_false h35)]; exact hS.take 2)⟩, ⟨rfl, rfl, rfl, rfl, rfl, rfl, rfl, trivial⟩, by show (fewL 40 l).length - (k + 1) < (fewL 40 l).length - k; omega⟩ | exact ⟨(k + 1, v2), ⟨by show k + 1 ≤ _; omega, by first | (rw [fp_yes hx (decide_eq_true h35)]; exact hS.take 2) | (rw [fp_no hx (decide_eq_false h35)]; exact hS.take 2)⟩, ⟨rfl, rfl, rfl, rfl, rfl, rfl, rfl, trivial⟩, by show (fewL 40 l).length - (k + 1) < (fewL 40 l).length - k; omega⟩
    · first | replace h26 := of_decide_eq_true h26 | replace h26 := of_decide_eq_false h26 | skip
      refine CW.exit ?_
      refine KW.then_exit ?_
      refine KW.then_exit ?_
      refine KW.block_hit ?_
      refine KW.then ?_
      refine CW.seq ?_
      have hf1 := fewL_length 40 l
      have hf2 := List.length_filter_le (isK kk) (fewL 40 l)
      have hkl : k = (fewL 40 l).length := by omega
      rw [hkl, List.take_length] at hS
      obtain ⟨ad0, cp0, rfl, hEo0⟩ := (hS.own 1 rfl).sl (fun _ => rfl)
      have hEo : Els w5 ad0 19 Fact.cells ((fewL 40 l).filter (isK kk)) := hEo0
      clear hEo0
      -- region 11
      refine CW.region ?_
      refine LW.p (PEv.move (.tmp rfl)) rfl rfl rfl ?_
      refine LW.p (PEv.move (.tmp rfl)) rfl rfl rfl ?_
      refine LW.c (enter_call0 (.cons (.tmp rfl) (.cons (.tmp rfl) .nil)) (Try.en13)) rfl rfl rfl rfl (Of_any _ _ (fewL 40 l) d _ ((hS.own 0 rfl).els (fun _ => rfl)) (by omega)) ?_
      rintro _ w8 ⟨bc1, rfl, hC1, uw8⟩
      have zw8 := uw8.size
      replace hS := hS.up uw8
      replace hEo := hEo.up uw8
      refine LW.c (enter_call0 (.cons (.tmp rfl) .nil) (Try.en17)) rfl rfl rfl rfl (Lists_any _ (ofB (fewL 40 l) d) _ hC1) ?_
      rintro _ w9 ⟨ad1, cp1, ss1, rfl, hE1, hL1, uw9⟩
      have zw9 := uw9.size
      replace hS := hS.up uw9
      replace hEo := hEo.up uw9
      replace hC1 := hC1.up uw9
      refine LW.p (PEv.assign (.tmp rfl)) rfl rfl rfl ?_
      refine LW.nil ?_
      refine KW.then ?_
      refine CW.seq ?_
      -- region 12
      refine CW.region ?_
      refine LW.p (PEv.move (.tmp rfl)) rfl rfl rfl ?_
      refine LW.p (PEv.move (.tmp rfl)) rfl rfl rfl ?_
      refine LW.c (enter_call0 (.cons (.tmp rfl) (.cons (.tmp rfl) .nil)) (Try.en13)) rfl rfl rfl rfl (Of_any _ _ ((fewL 40 l).filter (isK kk)) d _ hEo (by omega)) ?_
      rintro _ w10 ⟨bc2, rfl, hC2, uw10⟩
      have zw10 := uw10.size
      replace hS := hS.up uw10
      replace hEo := hEo.up uw10
      replace hC1 := hC1.up uw10
      replace hE1 := hE1.up uw10
      replace hL1 := hL1.up uw10
      refine LW.c (enter_call0 (.cons (.tmp rfl) .nil) (Try.en17)) rfl rfl rfl rfl (Lists_any _ (ofB ((fewL 40 l).filter (isK kk)) d) _ hC2) ?_
      rintro _ w11 ⟨ad2, cp2, ss2, rfl, hE2, hL2, uw11⟩
      have zw11 := uw11.size
      replace hS := hS.up uw11
      replace hEo := hEo.up uw11
      replace hC1 := hC1.up uw11
      replace hE1 := hE1.up uw11
      replace hL1 := hL1.up uw11
      replace hC2 := hC2.up uw11
      refine LW.p (PEv.assign (.tmp rfl)) rfl rfl rfl ?_
      refine LW.nil ?_
      refine KW.then ?_
      refine CW.seq ?_
      refine CW.seq ?_
      -- region 13
      refine CW.region ?_
      refine LW.p (PEv.assign (.const _)) rfl rfl rfl ?_
      refine LW.nil ?_
      refine KW.then ?_
      refine CW.block ?_
      refine CW.loopB (σ := Nat) (fun s w => (s ≤ ss1.length) ∧ (Wx.Sep no w0 w [aOwn 28 19 Fact.cells (.slice ad17 (fewL 40 l).length cp17) (fewL 40 l), aOwn 28 19 Fact.cells (.slice ad0 ((fewL 40 l).filter (isK kk)).length cp0) ((fewL 40 l).filter (isK kk))]) ∧ (Els w ad1 1 eSl ss1) ∧ (LstsE w ss1 (ofB (fewL 40 l) d)) ∧ (Els w ad2 1 eSl ss2) ∧ (LstsE w ss2 (ofB ((fewL 40 l).filter (isK kk)) d))) (fun s => [(14, .eq (vi (s : Int)))]) ([(7, .eq _), (8, .eq _), (12, .eq _), (13, .eq _)]) (fun s => ss1.length - s) 0 ?_ ⟨rfl, rfl, rfl, rfl, rfl, trivial⟩ ?_
      · exact ⟨Nat.zero_le _, hS, hE1, hL1, hE2, hL2⟩
      · rintro i w12 ⟨hi, hS, hE1, hL1, hE2, hL2⟩
        refine CW.seq ?_
        refine CW.seq ?_
        -- region 14
        refine CW.region ?_
        refine LW.p (PEv.move (.tmp rfl)) rfl rfl rfl ?_
        refine LW.p (PEv.move (.tmp rfl)) rfl rfl rfl ?_
        refine LW.p (PEv.lenS Try.underlying39 (.tmp rfl)) rfl rfl rfl ?_
        refine LW.p (PEv.lss (.tmp rfl) (.tmp rfl)) rfl rfl rfl ?_
        refine LW.nil ?_
        refine KW.then ?_
        refine CW.cond (.tmp rfl) (fun h54 => ?_) (fun h54 => ?_)
        · first | replace h54 := of_decide_eq_true h54 | replace h54 := of_decide_eq_false h54 | skip
          refine CW.skip ?_
          refine KW.then ?_
          refine CW.seq ?_
          refine CW.block ?_
          refine CW.seq ?_
          have hi11 : i < 11 := by have := hL1.1; omega
          obtain ⟨⟨a1, n1, c1⟩, hs1, hn1, hx1⟩ := hL1.2 i hi11
          obtain ⟨⟨a2, n2, c2⟩, hs2, hn2, hx2⟩ := hL2.2 i hi11
          dsimp only at hn1 hx1 hn2 hx2
          subst hn1 hn2
          have hl2 := hL2.1
          obtain ⟨By1, oy1, had1, hcy1⟩ := hE1 i _ hs1
          obtain ⟨By2, oy2, had2, hcy2⟩ := hE2 i _ hs2
          cases hq16 : decide ((i : Int) = kk - 1) with
          | true =>
            have hi11 : i < 11 := by have := hL1.1; omega
            obtain ⟨⟨a1, n1, c1⟩, hs1, hn1, hx1⟩ := hL1.2 i hi11
            obtain ⟨⟨a2, n2, c2⟩, hs2, hn2, hx2⟩ := hL2.2 i hi11
            dsimp only at hn1 hx1 hn2 hx2
            subst hn1 hn2
            have hl2 := hL2.1
            obtain ⟨By1, oy1, had1, hcy1⟩ := hE1 i _ hs1
            obtain ⟨By2, oy2, had2, hcy2⟩ := hE2 i _ hs2
            -- region 16 draws its order
            refine CW.draws (by kernel_rfl) (by kernel_rfl) rfl rfl ?_
            refine HW.p (PEv.move (.tmp rfl)) rfl rfl ?_
            refine HW.p (PEv.move (.tmp rfl)) rfl rfl ?_
            refine HW.p (PEv.sub (.tmp rfl) (.const _) (by omega) (by omega)) rfl rfl ?_
            refine HW.p (PEv.tr (PEv.eql (.tmp rfl) (.tmp rfl)) (hq16)) rfl rfl ?_
            refine HW.p (PEv.move (.tmp rfl)) rfl rfl ?_
            refine HW.yp rfl rfl rfl rfl rfl (PEv.move (.tmp rfl)) rfl ?_
            refine HW.yp rfl rfl rfl rfl rfl (PEv.move (.tmp rfl)) rfl ?_
            refine HW.yp rfl rfl rfl rfl rfl (PEv.indexAddr' Try.underlying39 Try.sizeOf22 (.tmp rfl) (.tmp rfl) (by omega) had1) rfl ?_
            refine HW.yp rfl rfl rfl rfl rfl (PEv.load Try.isAgg22 (.tmp rfl) (hcy1.nth (j := 0) rfl)) rfl ?_
            refine HW.yp rfl rfl rfl rfl rfl (PEv.move (.tmp rfl)) rfl ?_
            refine HW.yp rfl rfl rfl rfl rfl (PEv.move (.tmp rfl)) rfl ?_
            refine HW.yp rfl rfl rfl rfl rfl (PEv.indexAddr' Try.underlying39 Try.sizeOf22 (.tmp rfl) (.tmp rfl) (by omega) had2) rfl ?_
            refine HW.yp rfl rfl rfl rfl rfl (PEv.load Try.isAgg22 (.tmp rfl) (hcy2.nth (j := 0) rfl)) rfl ?_
            refine HW.yqc (ph := .eq (.bool true)) (phUp.eq _) rfl rfl rfl rfl rfl (fun a w hu ha => ⟨_, _, enter_call0 (.cons (.tmp rfl) (.cons (.tmp rfl) .nil)) (Try.en16) a ha, (sameFacts_any _ _ _ _ _ _ _ (Els.up hx1 hu) (Els.up hx2 hu) (ofB_short (by omega) d i)).mono fun _ _ h => ⟨h.2, h.1.trans (by rw [kind_own hi11 (of_decide_eq_true hq16)])⟩⟩) rfl ?_
            refine HW.yp rfl rfl rfl rfl rfl (PEv.not (.tmp rfl)) rfl ?_
            refine HW.p (PEv.pick_and (.tmp rfl) (fun hp => (by first | exact .const _ | exact .tmp rfl | exact .cond rfl (by first | assumption | simp_all)))) rfl rfl ?_
            refine HW.p (PEv.move (.tmp rfl)) rfl rfl ?_
            refine HW.yp rfl rfl rfl rfl rfl (PEv.move (.tmp rfl)) rfl ?_
            refine HW.yp rfl rfl rfl rfl rfl (PEv.move (.tmp rfl)) rfl ?_
            refine HW.yp rfl rfl rfl rfl rfl (PEv.sub (.tmp rfl) (.const _) (by omega) (by omega)) rfl ?_
            refine HW.yp rfl rfl rfl rfl rfl (PEv.fa (PEv.neq (.tmp rfl) (.tmp rfl)) (by rw [hq16]; rfl)) rfl ?_
            refine HW.yp rfl rfl rfl rfl rfl (PEv.move (.tmp rfl)) rfl ?_
            refine HW.no rfl rfl rfl rfl rfl rfl rfl ?_
            refine HW.no rfl rfl rfl rfl rfl rfl rfl ?_
            refine HW.no rfl rfl rfl rfl rfl rfl rfl ?_
            refine HW.no rfl rfl rfl rfl rfl rfl rfl ?_
            refine HW.no rfl rfl rfl rfl rfl rfl rfl ?_
            refine HW.no rfl rfl rfl rfl rfl rfl rfl ?_
            refine HW.yp rfl rfl rfl rfl rfl (PEv.pick_and (b := false) (.tmp rfl) (fun hp => absurd (show false = true from hp) (by decide))) rfl ?_
            refine HW.p (PEv.fa (PEv.pick_or (.tmp rfl) (fun hp => (by first | exact .const _ | exact .tmp rfl | exact .cond rfl (by first | assumption | simp_all)))) (rfl)) rfl rfl ?_
            refine HW.nil ?_
            intro w13 uw13
            have zw13 := uw13.size
            replace hS := hS.up uw13
            replace hE1 := hE1.up uw13
            replace hL1 := hL1.up uw13
            replace hE2 := hE2.up uw13
            replace hL2 := hL2.up uw13
            refine KW.then ?_
            refine CW.cond_false (.tmp rfl) ?_
            refine CW.skip ?_
            refine KW.inBlock ?_
            refine KW.then ?_
            -- region 15
            refine CW.region ?_
            refine LW.p (PEv.move (.tmp rfl)) rfl rfl rfl ?_
            refine LW.p (PEv.inc (.tmp rfl) (by omega)) rfl rfl rfl ?_
            refine LW.p (PEv.assign (.tmp rfl)) rfl rfl rfl ?_
            refine LW.nil ?_
            refine KW.round ?_
            exact ⟨i + 1, ⟨by omega, hS, hE1, hL1, hE2, hL2⟩, ⟨rfl, rfl, rfl, rfl, rfl, trivial⟩, by first | omega | (dsimp only; omega)⟩
          | false =>
            have hi11 : i < 11 := by have := hL1.1; omega
            obtain ⟨⟨a1, n1, c1⟩, hs1, hn1, hx1⟩ := hL1.2 i hi11
            obtain ⟨⟨a2, n2, c2⟩, hs2, hn2, hx2⟩ := hL2.2 i hi11
            dsimp only at hn1 hx1 hn2 hx2
            subst hn1 hn2
            have hl2 := hL2.1
            obtain ⟨By1, oy1, had1, hcy1⟩ := hE1 i _ hs1
            obtain ⟨By2, oy2, had2, hcy2⟩ := hE2 i _ hs2
            -- region 16 draws its order
            refine CW.draws (by kernel_rfl) (by kernel_rfl) rfl rfl ?_
            refine HW.p (PEv.move (.tmp rfl)) rfl rfl ?_
            refine HW.p (PEv.move (.tmp rfl)) rfl rfl ?_
            refine HW.p (PEv.sub (.tmp rfl) (.const _) (by omega) (by omega)) rfl rfl ?_
            refine HW.p (PEv.fa (PEv.eql (.tmp rfl) (.tmp rfl)) (hq16)) rfl rfl ?_
            refine HW.p (PEv.move (.tmp rfl)) rfl rfl ?_
            refine HW.no rfl rfl rfl rfl rfl rfl rfl ?_
            refine HW.no rfl rfl rfl rfl rfl rfl rfl ?_
            refine HW.no rfl rfl rfl rfl rfl rfl rfl ?_
            refine HW.no rfl rfl rfl rfl rfl rfl rfl ?_
            refine HW.no rfl rfl rfl rfl rfl rfl rfl ?_
            refine HW.no rfl rfl rfl rfl rfl rfl rfl ?_
            refine HW.no rfl rfl rfl rfl rfl rfl rfl ?_
            refine HW.no rfl rfl rfl rfl rfl rfl rfl ?_
            refine HW.no rfl rfl rfl rfl rfl rfl rfl ?_
            refine HW.no rfl rfl rfl rfl rfl rfl rfl ?_
            refine HW.p (PEv.pick_and (b := false) (.tmp rfl) (fun hp => absurd (show false = true from hp) (by decide))) rfl rfl ?_
            refine HW.p (PEv.move (.tmp rfl)) rfl rfl ?_
            refine HW.yp rfl rfl rfl rfl rfl (PEv.move (.tmp rfl)) rfl ?_
            refine HW.yp rfl rfl rfl rfl rfl (PEv.move (.tmp rfl)) rfl ?_
            refine HW.yp rfl rfl rfl rfl rfl (PEv.sub (.tmp rfl) (.const _) (by omega) (by omega)) rfl ?_
            refine HW.yp rfl rfl rfl rfl rfl (PEv.tr (PEv.neq (.tmp rfl) (.tmp rfl)) (by rw [hq16]; rfl)) rfl ?_
            refine HW.yp rfl rfl rfl rfl rfl (PEv.move (.tmp rfl)) rfl ?_
            refine HW.yp rfl rfl rfl rfl rfl (PEv.move (.tmp rfl)) rfl ?_
            refine HW.yp rfl rfl rfl rfl rfl (PEv.move (.tmp rfl)) rfl ?_
            refine HW.yp rfl rfl rfl rfl rfl (PEv.indexAddr' Try.underlying39 Try.sizeOf22 (.tmp rfl) (.tmp rfl) (by omega) had2) rfl ?_
            refine HW.yp rfl rfl rfl rfl rfl (PEv.load Try.isAgg22 (.tmp rfl) (hcy2.nth (j := 0) rfl)) rfl ?_
            refine HW.yp rfl rfl rfl rfl rfl (PEv.lenS Try.underlying22 (.tmp rfl)) rfl ?_
            refine HW.yp rfl rfl rfl rfl rfl (PEv.fa (PEv.neq (.tmp rfl) (.const _)) (by rw [kind_none hi11 (of_decide_eq_false hq16)]; rfl)) rfl ?_
            refine HW.yp rfl rfl rfl rfl rfl (PEv.pick_and (.tmp rfl) (fun hp => (by first | exact .const _ | exact .tmp rfl | exact .cond rfl (by first | assumption | simp_all)))) rfl ?_
            refine HW.p (PEv.fa (PEv.pick_or (.tmp rfl) (fun hp => (by first | exact .const _ | exact .tmp rfl | exact .cond rfl (by first | assumption | simp_all)))) (rfl)) rfl rfl ?_
            refine HW.nil ?_
            intro w14 uw14
            have zw14 := uw14.size
            replace hS := hS.up uw14
            replace hE1 := hE1.up uw14
            replace hL1 := hL1.up uw14
            replace hE2 := hE2.up uw14
            replace hL2 := hL2.up uw14
            refine KW.then ?_
            refine CW.cond_false (.tmp rfl) ?_
            refine CW.skip ?_
            refine KW.inBlock ?_
            refine KW.then ?_
            -- region 15
            refine CW.region ?_
            refine LW.p (PEv.move (.tmp rfl)) rfl rfl rfl ?_
            refine LW.p (PEv.inc (.tmp rfl) (by omega)) rfl rfl rfl ?_
            refine LW.p (PEv.assign (.tmp rfl)) rfl rfl rfl ?_
            refine LW.nil ?_
            refine KW.round ?_
            exact ⟨i + 1, ⟨by omega, hS, hE1, hL1, hE2, hL2⟩, ⟨rfl, rfl, rfl, rfl, rfl, trivial⟩, by first | omega | (dsimp only; omega)⟩
        · first | replace h54 := of_decide_eq_true h54 | replace h54 := of_decide_eq_false h54 | skip
          refine CW.exit ?_
          refine KW.then_exit ?_
          refine KW.then_exit ?_
          refine KW.block_hit ?_
          refine KW.then ?_
          refine CW.seq ?_
          -- region 18
          refine CW.region ?_
          refine LW.p (PEv.move (.tmp rfl)) rfl rfl rfl ?_
          refine LW.p (PEv.assign (.tmp rfl)) rfl rfl rfl ?_
          refine LW.nil ?_
          refine KW.then ?_
          refine CW.ret ?_
          refine KW.ret1 rfl rfl ⟨_, rfl, ?_⟩
          exact ⟨rfl, hS.upd⟩

end Go.Proofs.Ytdelcaegofkknaa
