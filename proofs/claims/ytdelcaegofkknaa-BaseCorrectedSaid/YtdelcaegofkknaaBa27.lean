import Derived.Test.YtdelcaegofkknaaBm5
namespace Go.Wx

theorem pick_range {c n : Int} (hc : inI c) (hn : 0 < n) : 0 ≤ pickI c n ∧ pickI c n < n := by
  unfold pickI
  obtain ⟨h1, h2⟩ := hc
  split
  · rw [wrap_i64_in (i := c + 1) (by omega) (by omega), wrap_i64_in (by omega) (by omega), Int.tmod_eq_emod_of_nonneg (by omega)]; exact ⟨Int.emod_nonneg _ (by omega), Int.emod_lt_of_pos _ hn⟩
  · rw [Int.tmod_eq_emod_of_nonneg (by omega)]; exact ⟨Int.emod_nonneg _ (by omega), Int.emod_lt_of_pos _ hn⟩
theorem few_day {n : Nat} {l : List Fact} (h : ∀ f ∈ l, FOk f) : ∀ x ∈ fewL n l, inI x.Day := fun x hx => by
  obtain ⟨y, hy, rfl⟩ := List.mem_map.1 hx
  exact (h y (List.mem_of_mem_take hy)).Day
theorem OwnS.els {α : Type} {enc : α → Array Go.Value} {b k n cp : Nat} {e : TypeId} {w : World} {ad : Option Addr} {xs : List α} (h : OwnS w b e k enc (.slice ad n cp) xs) (hk : ∀ x, (enc x).size = k) : Els w ad k enc xs := by
  obtain ⟨ad', cp', e, hE⟩ := h.sl hk
  injection e with e1
  rw [e1]; exact hE
theorem eqb_refl (f : Fact) : Fact.eqb f f = true := by simp [Fact.eqb]
theorem eqFs_refl : ∀ (l : List Fact), eqFs l l = true
  | [] => rfl
  | x :: l => by rw [eqFs, eqb_refl, eqFs_refl l]; rfl
theorem sameB_refl (b : Base) : sameB b b = true := sameB_yes fun _ _ => eqFs_refl _
def late (d : Int) (x : Fact) : Fact := { x with Day := d + 1 + pickI x.Day 100 }
theorem best_app {l m : List Fact} {d : Int} (h : ∀ x ∈ m, d < x.Day) : bestL (l ++ m) d = bestL l d := by
  have key : ∀ (m : List Fact) (a : FMap), (∀ x ∈ m, d < x.Day) → m.foldl (bestStep d) a = a := by
    intro m
    induction m with
    | nil => exact fun _ _ => rfl
    | cons x m ih => exact fun a hx => by rw [List.foldl_cons, best_skip (.inr (hx x List.mem_cons_self))]; exact ih a (fun y hy => hx y (List.mem_cons_of_mem _ hy))
  unfold bestL
  rw [List.foldl_append, key m _ h]
theorem valid_day {f : Fact} (h : validB f = true) : f.Day ≤ 100000 := by
  have := valid_pre h
  simp only [preB, Bool.or_eq_false_iff, decide_eq_false_iff_not] at this
  omega
theorem best_known (l : List Fact) (d : Int) : bestL (l.filter fun f => decide (f.Day ≤ d)) 100000 = bestL l d := by
  have key : ∀ (l : List Fact) (a : FMap), (l.filter fun f => decide (f.Day ≤ d)).foldl (bestStep 100000) a = l.foldl (bestStep d) a := by
    intro l
    induction l with
    | nil => exact fun _ => rfl
    | cons x l ih =>
      intro a
      by_cases hx : x.Day ≤ d
      · rw [List.filter_cons, if_pos (decide_eq_true hx), List.foldl_cons, List.foldl_cons, ih]
        congr 1
        by_cases hk : keyB x = []
        · rw [best_skip (.inl hk), best_skip (.inl hk)]
        · have hv := valid_day (keyB_valid hk)
          unfold bestStep
          rw [if_neg (fun h => h.elim hk (by omega)), if_neg (fun h => h.elim hk (by omega))]
      · rw [List.filter_cons, if_neg (by rw [decide_eq_false hx]; exact Bool.false_ne_true), ih, List.foldl_cons, best_skip (.inr (by omega))]
  exact key l []
theorem late_same {l m : List Fact} {d : Int} (h : ∀ x ∈ m, inI x.Day) : sameB (ofB l d) (ofB (l ++ m.map (late d)) d) = true := by
  rw [show ofB (l ++ m.map (late d)) d = ofB l d from by
    unfold ofB
    rw [best_app fun x hx => by
      obtain ⟨y, hy, rfl⟩ := List.mem_map.1 hx
      have := pick_range (c := y.Day) (n := 100) (h y hy) (by decide)
      show d < d + 1 + pickI y.Day 100
      omega]]
  exact sameB_refl _
theorem known_same (l : List Fact) (d : Int) : sameB (ofB l d) (ofB (l.filter fun f => decide (f.Day ≤ d)) 100000) = true := by
  rw [show ofB (l.filter fun f => decide (f.Day ≤ d)) 100000 = ofB l d from by unfold ofB; rw [best_known]]
  exact sameB_refl _
def BaseV (w : World) (v : Go.Value) (b : Base) : Prop := ∃ bc, v = .agg bc ∧ BaseC w bc b
theorem BaseV.up {w w' : World} {v : Go.Value} {b : Base} (h : BaseV w v b) (u : Up w w') : BaseV w' v b := let ⟨bc, e, hC⟩ := h; ⟨bc, e, hC.up u⟩

end Go.Wx
namespace Go.Proofs.Ytdelcaegofkknaa
open Go.Wx Go.RowKit
theorem refSame_v (v1 v2 : Go.Value) (b c : Base) (w : World) (h1 : BaseV w v1 b) (h2 : BaseV w v2 c) (hlb : short b) : Ret Try.prog 12 #[v1, v2] w fun r w' => r = .bool (sameB b c) ∧ Up w w' := by
  obtain ⟨bc, rfl, hC⟩ := h1
  obtain ⟨bc', rfl, hC'⟩ := h2
  exact refSame_any bc bc' b c w hC hC' hlb

set_option maxHeartbeats 4000000 in
theorem BaseDays_any (ad ad' : Option Addr) (cp cp' : Nat) (l more : List Fact) (day : Int) (w : World) (hE1 : Els w ad 19 Fact.cells l) (hE2 : Els w ad' 19 Fact.cells more) (hm : ∀ f ∈ more, FOk f) (hday : inI day) : Ret Try.prog 4 #[.slice ad l.length cp, .slice ad' more.length cp', vi day] w fun r w' => r = .bool true ∧ Up w w' := by
  obtain ⟨w0, rfl⟩ : ∃ w0, w0 = w := ⟨_, rfl⟩
  have hS := Sep.start no w0
  refine Calls_start (n := 84) (m := 9) Try.func4 rfl rfl rfl ?_
  refine CW.seq ?_
  -- region 0
  refine CW.region ?_
  refine LW.p (PEv.assign (.const _)) rfl rfl rfl ?_
  refine LW.nil ?_
  refine KW.then ?_
  refine CW.seq ?_
  -- region 1
  refine CW.region ?_
  refine LW.c (enter_call0 .nil (Try.en9)) rfl rfl rfl rfl (sane_any _) ?_
  rintro _ w1 ⟨rfl, uw1⟩
  have zw1 := uw1.size
  replace hS := hS.up uw1
  refine LW.p (PEv.assign (.tmp rfl)) rfl rfl rfl ?_
  refine LW.nil ?_
  refine KW.then ?_
  refine CW.seq ?_
  -- region 2
  refine CW.region ?_
  refine LW.p (PEv.move (.tmp rfl)) rfl rfl rfl ?_
  refine LW.c (enter_call0 (.cons (.tmp rfl) (.cons (.const _) .nil)) (Try.en10)) rfl rfl rfl rfl (few_any _ _ 30 l _ (Els.up hE1 hS.upd) (by decide)) ?_
  rintro v18 w2 ⟨hO18, uw2⟩
  have zw2 := uw2.size
  replace hS := hS.add uw2 (A' := aOwn 28 19 Fact.cells v18 (fewL 30 l)) (hO18.mono (Nat.zero_le _)) (fun i h => hO18.base i h)
  change Wx.Sep _ _ _ [_] at hS
  clear hO18
  obtain ⟨ad18, cp18, rfl, _⟩ := (hS.own 0 rfl).sl (fun _ => rfl)
  refine LW.p (PEv.assign (.tmp rfl)) rfl rfl rfl ?_
  refine LW.nil ?_
  refine KW.then ?_
  refine CW.seq ?_
  -- region 3
  refine CW.region ?_
  refine LW.p (PEv.move (.tmp rfl)) rfl rfl rfl ?_
  refine LW.c (enter_call0 (.cons (.tmp rfl) (.cons (.const _) .nil)) (Try.en11)) rfl rfl rfl rfl (pick_any _ _ _ (by decide)) ?_
  rintro _ w3 ⟨rfl, uw3⟩
  have zw3 := uw3.size
  replace hS := hS.up uw3
  have hd := pick_range (c := day) (n := 10) hday (by decide)
  obtain ⟨d, ed⟩ : ∃ d, d = pickI day 10 := ⟨_, rfl⟩
  rw [← ed] at hd ⊢
  refine LW.p (PEv.assign (.tmp rfl)) rfl rfl rfl ?_
  refine LW.nil ?_
  refine KW.then ?_
  refine CW.seq ?_
  -- region 4
  refine CW.region ?_
  refine LW.p (PEv.move (.tmp rfl)) rfl rfl rfl ?_
  refine LW.c (enter_call0 (.cons (.tmp rfl) (.cons (.const _) .nil)) (Try.en10)) rfl rfl rfl rfl (few_any _ _ 15 more _ (Els.up hE2 hS.upd) (by decide)) ?_
  rintro v22 w4 ⟨hO22, uw4⟩
  have zw4 := uw4.size
  replace hS := hS.add uw4 (A' := aOwn 28 19 Fact.cells v22 (fewL 15 more)) (hO22.mono (Nat.zero_le _)) (fun i h => hO22.base i h)
  change Wx.Sep _ _ _ [_, _] at hS
  clear hO22
  obtain ⟨ad22, cp22, rfl, _⟩ := (hS.own 1 rfl).sl (fun _ => rfl)
  refine LW.p (PEv.assign (.tmp rfl)) rfl rfl rfl ?_
  refine LW.nil ?_
  refine KW.then ?_
  refine CW.seq ?_
  -- region 5
  refine CW.region ?_
  refine LW.r (REv.buildSlice (xs := ([] : List Fact)) (enc := Fact.cells) (mk := fun f : Fact => .agg f.cells) Try.underlying22 Try.sizeOf28 Try.zeroValue28 rfl (by decide) (fun _ => rfl) (fun _ => rfl) .nil rfl) rfl rfl rfl rfl ?_
  intro v23 w5 hN23
  obtain ⟨uw5, B23, rfl, hO23⟩ := NewSl.own0 (base := w4.heap.size) hN23 (Nat.le_refl _)
  have zw5 := uw5.size
  replace hS := hS.add uw5 (A' := aOwn 28 19 Fact.cells (.slice (some ⟨B23, 0, none⟩) 0 0) ([] : List Fact)) (hO23.mono (Nat.zero_le _)) (fun i h => hO23.base i h)
  clear hN23 hO23
  change Wx.Sep _ _ _ [_, _, _] at hS
  refine LW.p (PEv.move (.tmp rfl)) rfl rfl rfl ?_
  refine LW.r (REv.appendF (enc := Fact.cells) (bytes := 160) (i := Try.t28) Try.underlying22 (by kernel_rfl) rfl rfl rfl rfl (by decide) (fun _ => rfl) Fact.one (.tmp rfl) (.tmp rfl) (hS.own 2 rfl) ((hS.own 0 rfl).sl (fun _ => rfl)) (by have := fewL_length 30 l; simp [maxLen]; omega) (by have := fewL_length 30 l; simp; omega)) rfl rfl rfl rfl ?_
  intro v25 w6 Gw6
  have zw6 := Gw6.fr.size
  replace hS := hS.stp 2 rfl Gw6
  change Wx.Sep _ _ _ [_, _, _] at hS
  refine LW.p (PEv.assign (.tmp rfl)) rfl rfl rfl ?_
  refine LW.nil ?_
  refine KW.then ?_
  refine CW.seq ?_
  refine CW.seq ?_
  -- region 6
  refine CW.region ?_
  refine LW.p (PEv.assign (.const _)) rfl rfl rfl ?_
  refine LW.nil ?_
  refine KW.then ?_
  refine CW.block ?_
  refine CW.loopB (σ := Nat × Go.Value) (fun s w => (s.1 ≤ (fewL 15 more).length) ∧ (Wx.Sep no w0 w [aOwn 28 19 Fact.cells (.slice ad18 (fewL 30 l).length cp18) (fewL 30 l), aOwn 28 19 Fact.cells (.slice ad22 (fewL 15 more).length cp22) (fewL 15 more), aOwn 28 19 Fact.cells s.2 (fewL 30 l ++ ((fewL 15 more).take s.1).map (late d))])) (fun s => [(11, .eq (vi (s.1 : Int))), (10, .eq (s.2))]) ([(0, .eq _), (6, .eq _), (7, .eq _), (8, .eq _), (9, .eq _)]) (fun s => (fewL 15 more).length - s.1) (0, v25) ?_ ⟨rfl, rfl, rfl, rfl, rfl, rfl, rfl, trivial⟩ ?_
  · exact ⟨Nat.zero_le _, by rw [List.take_zero, List.map_nil, List.append_nil]; exact hS⟩
  · rintro ⟨k, v⟩ w7 ⟨hk, hS⟩
    dsimp only at hk hS
    change CW _ _ _ _ _ _ _ ([(11, .eq (vi (k : Int))), (10, .eq (v))] ++ _) _
    refine CW.seq ?_
    refine CW.seq ?_
    -- region 7
    refine CW.region ?_
    refine LW.p (PEv.move (.tmp rfl)) rfl rfl rfl ?_
    refine LW.p (PEv.move (.tmp rfl)) rfl rfl rfl ?_
    refine LW.p (PEv.lenS Try.underlying22 (.tmp rfl)) rfl rfl rfl ?_
    refine LW.p (PEv.lss (.tmp rfl) (.tmp rfl)) rfl rfl rfl ?_
    refine LW.nil ?_
    refine KW.then ?_
    refine CW.cond (.tmp rfl) (fun h29 => ?_) (fun h29 => ?_)
    · first | replace h29 := of_decide_eq_true h29 | replace h29 := of_decide_eq_false h29 | skip
      refine CW.skip ?_
      refine KW.then ?_
      refine CW.seq ?_
      refine CW.block ?_
      refine CW.seq ?_
      have hE := (hS.own 1 rfl).els (fun _ => rfl)
      have hf1 := fewL_length 30 l
      have hf2 := fewL_length 15 more
      have hlA : (fewL 30 l).length + (List.take k (fewL 15 more)).length ≤ 45 := by rw [List.length_take]; omega
      -- region 9
      refine CW.region ?_
      refine LW.p (PEv.move (.tmp rfl)) rfl rfl rfl ?_
      refine LW.p (PEv.move (.tmp rfl)) rfl rfl rfl ?_
      obtain ⟨x, hx⟩ := getElem?_of_lt (xs := fewL 15 more) (i := k) (by omega)
      obtain ⟨Bx, ox, ax, hcx⟩ := hE _ x hx
      refine LW.p (PEv.indexAddr' Try.underlying22 Try.sizeOf28 (.tmp rfl) (.tmp rfl) (by omega) ax) rfl rfl rfl ?_
      refine LW.p (PEv.loadA Try.isAgg28 Try.sizeOf28 rfl (.tmp rfl) (hcx)) rfl rfl rfl ?_
      refine LW.r (REv.allocA Try.zeroValue28) rfl rfl rfl rfl ?_
      rintro _ w8 ⟨B12, rfl, MB12⟩
      refine LW.s (SEv.storeA Try.sizeOf28 rfl (.tmp rfl) (.tmp rfl) (by first | rfl | exact Fact.one _ | exact GAct.one _ | exact holdCells_one _ _ | exact hold0_one | (simp [Value.oneCell'])) MB12.blk rfl) rfl rfl rfl ?_
      intro w9 LB12
      have NB12 := MB12.set LB12
      clear LB12 MB12
      have eB12 := NB12.at_
      have zB12 := NB12.size
      replace hcx := hcx.up NB12.up
      replace hS := hS.addB NB12
      change Wx.Sep _ _ _ [_, _, _, _] at hS
      refine LW.nil ?_
      refine KW.then ?_
      refine CW.seq ?_
      -- region 10
      refine CW.region ?_
      refine LW.p (PEv.move (.tmp rfl)) rfl rfl rfl ?_
      refine LW.p (PEv.add (.tmp rfl) (.const _) (by omega) (by omega)) rfl rfl rfl ?_
      refine LW.p (PEv.fieldAddr (off := 3) Try.underlying28 rfl rfl Try.sizeOf3 rfl (.tmp rfl)) rfl rfl rfl ?_
      refine LW.p (PEv.load Try.isAgg3 (.tmp rfl) ((hS.blk 3 rfl).celln rfl)) rfl rfl rfl ?_
      refine LW.c (enter_call0 (.cons (.tmp rfl) (.cons (.const _) .nil)) (Try.en11)) rfl rfl rfl rfl (pick_any _ _ _ (by decide)) ?_
      rintro _ w10 ⟨rfl, uw10⟩
      have zw10 := uw10.size
      replace hS := hS.up uw10
      have hp40 := pick_range (c := x.Day) (n := 100) (few_day hm x (List.mem_of_getElem? hx)) (by decide)
      refine LW.p (PEv.add (.tmp rfl) (.tmp rfl) (by omega) (by omega)) rfl rfl rfl ?_
      refine LW.p (PEv.fieldAddr (off := 3) Try.underlying28 rfl rfl Try.sizeOf3 rfl (.tmp rfl)) rfl rfl rfl ?_
      refine LW.s (SEv.store Try.sizeOf3 (.tmp rfl) (.tmp rfl) rfl (hS.blk 3 rfl) (Nat.le_of_ble_eq_true rfl)) rfl rfl rfl ?_
      intro w11 Nw11
      have zw11 := Nw11.size
      replace hS := hS.putB 3 rfl (show Set_ _ w11 _ ((late d x).cells) _ from Nw11)
      change Wx.Sep _ _ _ [_, _, _, _] at hS
      refine LW.nil ?_
      refine KW.then ?_
      -- region 11
      refine CW.region ?_
      refine LW.p (PEv.move (.tmp rfl)) rfl rfl rfl ?_
      refine LW.p (PEv.loadA Try.isAgg28 Try.sizeOf28 rfl (.tmp rfl) ((hS.blk 3 rfl).agg)) rfl rfl rfl ?_
      refine LW.r (REv.buildSlice (xs := [late d x]) (enc := Fact.cells) (mk := fun f : Fact => .agg f.cells) Try.underlying22 Try.sizeOf28 Try.zeroValue28 rfl (by decide) (fun _ => rfl) (fun _ => rfl) (.cons (.tmp rfl) .nil) rfl) rfl rfl rfl rfl ?_
      rintro _ w12 ⟨B45, cB45, rfl, NB45, yB45, xB45⟩
      have eB45 := NB45.at_
      have zB45 := NB45.size
      replace hS := hS.up NB45.up
      have hE45 := xB45
      refine LW.r (REv.appendF (enc := Fact.cells) (bytes := 160) (i := Try.t28) Try.underlying22 (by kernel_rfl) rfl rfl rfl rfl (by decide) (fun _ => rfl) Fact.one (.tmp rfl) (.tmp rfl) (hS.own 2 rfl) (Sl.of_els hE45) (by have := hlA; simp [maxLen]; omega) (by have := hlA; simp; omega)) rfl rfl rfl rfl ?_
      intro v46 w13 Gw13
      have zw13 := Gw13.fr.size
      replace hS := hS.stp 2 rfl Gw13
      change Wx.Sep _ _ _ [_, _, _, _] at hS
      refine LW.p (PEv.assign (.tmp rfl)) rfl rfl rfl ?_
      refine LW.nil ?_
      refine KW.inBlock ?_
      refine KW.then ?_
      -- region 8
      refine CW.region ?_
      refine LW.p (PEv.move (.tmp rfl)) rfl rfl rfl ?_
      refine LW.p (PEv.inc (.tmp rfl) (by omega)) rfl rfl rfl ?_
      refine LW.p (PEv.assign (.tmp rfl)) rfl rfl rfl ?_
      refine LW.nil ?_
      refine KW.round ?_
      exact ⟨(k + 1, v46), ⟨by show k + 1 ≤ _; omega, by rw [take_succ_of hx, List.map_append, ← List.append_assoc]; exact hS.take 3⟩, ⟨rfl, rfl, rfl, rfl, rfl, rfl, rfl, trivial⟩, by show (fewL 15 more).length - (k + 1) < (fewL 15 more).length - k; omega⟩
    · first | replace h29 := of_decide_eq_true h29 | replace h29 := of_decide_eq_false h29 | skip
      obtain ⟨kk, hkk⟩ : ∃ kk, kk = k := ⟨_, rfl⟩
      rw [← hkk] at hS
      have hk1 : kk = (fewL 15 more).length := by omega
      refine CW.exit ?_
      refine KW.then_exit ?_
      refine KW.then_exit ?_
      refine KW.block_hit ?_
      refine KW.then ?_
      refine CW.seq ?_
      -- region 12
      refine CW.region ?_
      refine LW.p (PEv.assign (.const _)) rfl rfl rfl ?_
      refine LW.nil ?_
      refine KW.then ?_
      refine CW.seq ?_
      refine CW.seq ?_
      replace hS := hS.add (Up.refl _) (A' := aOwn 28 19 Fact.cells (.slice none 0 0) ([] : List Fact)) (OwnS.nil _ _ _ _ _) (fun i h => by cases h)
      change Wx.Sep _ _ _ [_, _, _, _] at hS
      -- region 13
      refine CW.region ?_
      refine LW.p (PEv.assign (.const _)) rfl rfl rfl ?_
      refine LW.nil ?_
      refine KW.then ?_
      refine CW.block ?_
      refine CW.loopB (σ := Nat × Go.Value) (fun s w => (s.1 ≤ (fewL 30 l).length) ∧ (Wx.Sep no w0 w [aOwn 28 19 Fact.cells (.slice ad18 (fewL 30 l).length cp18) (fewL 30 l), aOwn 28 19 Fact.cells (.slice ad22 (fewL 15 more).length cp22) (fewL 15 more), aOwn 28 19 Fact.cells v (fewL 30 l ++ ((fewL 15 more).take kk).map (late d)), aOwn 28 19 Fact.cells s.2 (((fewL 30 l).take s.1).filter fun f => decide (f.Day ≤ d))])) (fun s => [(14, .eq (vi (s.1 : Int))), (13, .eq (s.2))]) ([(0, .eq _), (6, .eq _), (7, .eq _), (8, .eq _), (10, .eq _)]) (fun s => (fewL 30 l).length - s.1) (0, .slice none 0 0) ?_ ⟨rfl, rfl, rfl, rfl, rfl, rfl, rfl, trivial⟩ ?_
      · exact ⟨Nat.zero_le _, hS⟩
      · rintro ⟨k, v2⟩ w14 ⟨hk, hS⟩
        dsimp only at hk hS
        change CW _ _ _ _ _ _ _ ([(14, .eq (vi (k : Int))), (13, .eq (v2))] ++ _) _
        refine CW.seq ?_
        refine CW.seq ?_
        -- region 14
        refine CW.region ?_
        refine LW.p (PEv.move (.tmp rfl)) rfl rfl rfl ?_
        refine LW.p (PEv.move (.tmp rfl)) rfl rfl rfl ?_
        refine LW.p (PEv.lenS Try.underlying22 (.tmp rfl)) rfl rfl rfl ?_
        refine LW.p (PEv.lss (.tmp rfl) (.tmp rfl)) rfl rfl rfl ?_
        refine LW.nil ?_
        refine KW.then ?_
        refine CW.cond (.tmp rfl) (fun h50 => ?_) (fun h50 => ?_)
        · first | replace h50 := of_decide_eq_true h50 | replace h50 := of_decide_eq_false h50 | skip
          refine CW.skip ?_
          refine KW.then ?_
          refine CW.seq ?_
          refine CW.block ?_
          refine CW.seq ?_
          have hE := (hS.own 0 rfl).els (fun _ => rfl)
          have hf1 := fewL_length 30 l
          have hlK := Nat.le_trans (filt_len (fun f : Fact => decide (f.Day ≤ d)) (fewL 30 l) k) (show k ≤ 30 by omega)
          -- region 16
          refine CW.region ?_
          refine LW.p (PEv.move (.tmp rfl)) rfl rfl rfl ?_
          refine LW.p (PEv.move (.tmp rfl)) rfl rfl rfl ?_
          obtain ⟨x, hx⟩ := getElem?_of_lt (xs := fewL 30 l) (i := k) (by omega)
          obtain ⟨Bx, ox, ax, hcx⟩ := hE _ x hx
          refine LW.p (PEv.indexAddr' Try.underlying22 Try.sizeOf28 (.tmp rfl) (.tmp rfl) (by omega) ax) rfl rfl rfl ?_
          refine LW.p (PEv.fieldAddr (off := 3) Try.underlying28 rfl rfl Try.sizeOf3 rfl (.tmp rfl)) rfl rfl rfl ?_
          refine LW.p (PEv.load Try.isAgg3 (.tmp rfl) (hcx.nth (j := 3) rfl)) rfl rfl rfl ?_
          refine LW.p (PEv.move (.tmp rfl)) rfl rfl rfl ?_
          refine LW.p (PEv.leq (.tmp rfl) (.tmp rfl)) rfl rfl rfl ?_
          refine LW.nil ?_
          refine KW.then ?_
          refine CW.cond (.tmp rfl) (fun h59 => ?_) (fun h59 => ?_)
          · first | replace h59 := of_decide_eq_true h59 | replace h59 := of_decide_eq_false h59 | skip
            -- region 17
            refine CW.region ?_
            refine LW.p (PEv.move (.tmp rfl)) rfl rfl rfl ?_
            refine LW.p (PEv.move (.tmp rfl)) rfl rfl rfl ?_
            refine LW.p (PEv.move (.tmp rfl)) rfl rfl rfl ?_
            refine LW.p (PEv.indexAddr' Try.underlying22 Try.sizeOf28 (.tmp rfl) (.tmp rfl) (by omega) ax) rfl rfl rfl ?_
            refine LW.p (PEv.loadA Try.isAgg28 Try.sizeOf28 rfl (.tmp rfl) (hcx)) rfl rfl rfl ?_
            refine LW.r (REv.buildSlice (xs := [x]) (enc := Fact.cells) (mk := fun f : Fact => .agg f.cells) Try.underlying22 Try.sizeOf28 Try.zeroValue28 rfl (by decide) (fun _ => rfl) (fun _ => rfl) (.cons (.tmp rfl) .nil) rfl) rfl rfl rfl rfl ?_
            rintro _ w15 ⟨B65, cB65, rfl, NB65, yB65, xB65⟩
            have eB65 := NB65.at_
            have zB65 := NB65.size
            replace hS := hS.up NB65.up
            have hE65 := xB65
            refine LW.r (REv.appendF (enc := Fact.cells) (bytes := 160) (i := Try.t28) Try.underlying22 (by kernel_rfl) rfl rfl rfl rfl (by decide) (fun _ => rfl) Fact.one (.tmp rfl) (.tmp rfl) (hS.own 3 rfl) (Sl.of_els hE65) (by have := hlK; simp [maxLen]; omega) (by have := hlK; simp; omega)) rfl rfl rfl rfl ?_
            intro v66 w16 Gw16
            have zw16 := Gw16.fr.size
            replace hS := hS.stp 3 rfl Gw16
            change Wx.Sep _ _ _ [_, _, _, _] at hS
            refine LW.p (PEv.assign (.tmp rfl)) rfl rfl rfl ?_
            refine LW.nil ?_
            refine KW.inBlock ?_
            refine KW.then ?_
            -- region 15
            refine CW.region ?_
            refine LW.p (PEv.move (.tmp rfl)) rfl rfl rfl ?_
            refine LW.p (PEv.inc (.tmp rfl) (by omega)) rfl rfl rfl ?_
            refine LW.p (PEv.assign (.tmp rfl)) rfl rfl rfl ?_
            refine LW.nil ?_
            refine KW.round ?_
            first | exact ⟨(k + 1, v66), ⟨by show k + 1 ≤ _; omega, by first | (rw [fp_yes hx (decide_eq_true h59)]; exact hS.take 4) | (rw [fp_no hx (decide_eq_false h59)]; exact hS.take 4)⟩, ⟨rfl, rfl, rfl, rfl, rfl, rfl, rfl, trivial⟩, by show (fewL 30 l).length - (k + 1) < (fewL 30 l).length - k; omega⟩ | exact ⟨(k + 1, v2), ⟨by show k + 1 ≤ _; omega, by first | (rw [fp_yes hx (decide_eq_true h59)]; exact hS.take 4) | (rw [fp_no hx (decide_eq_false h59)]; exact hS.take 4)⟩, ⟨rfl, rfl, rfl, rfl, rfl, rfl, rfl, trivial⟩, by show (fewL 30 l).length - (k + 1) < (fewL 30 l).length - k; omega⟩
          · first | replace h59 := of_decide_eq_true h59 | replace h59 := of_decide_eq_false h59 | skip
            refine CW.skip ?_
            refine KW.inBlock ?_
            refine KW.then ?_
            -- region 15
            refine CW.region ?_
            refine LW.p (PEv.move (.tmp rfl)) rfl rfl rfl ?_
            refine LW.p (PEv.inc (.tmp rfl) (by omega)) rfl rfl rfl ?_
            refine LW.p (PEv.assign (.tmp rfl)) rfl rfl rfl ?_
            refine LW.nil ?_
            refine KW.round ?_
            first | exact ⟨(k + 1, v66), ⟨by show k + 1 ≤ _; omega, by first | (rw [fp_yes hx (decide_eq_true h59)]; exact hS.take 4) | (rw [fp_no hx (decide_eq_false h59)]; exact hS.take 4)⟩, ⟨rfl, rfl, rfl, rfl, rfl, rfl, rfl, trivial⟩, by show (fewL 30 l).length - (k + 1) < (fewL 30 l).length - k; omega⟩ | exact ⟨(k + 1, v2), ⟨by show k + 1 ≤ _; omega, by first | (rw [fp_yes hx (decide_eq_true h59)]; exact hS.take 4) | (rw [fp_no hx (decide_eq_false h59)]; exact hS.take 4)⟩, ⟨rfl, rfl, rfl, rfl, rfl, rfl, rfl, trivial⟩, by show (fewL 30 l).length - (k + 1) < (fewL 30 l).length - k; omega⟩
        · first | replace h50 := of_decide_eq_true h50 | replace h50 := of_decide_eq_false h50 | skip
          refine CW.exit ?_
          refine KW.then_exit ?_
          refine KW.then_exit ?_
          refine KW.block_hit ?_
          refine KW.then ?_
          refine CW.seq ?_
          -- region 18
          refine CW.region ?_
          refine LW.p (PEv.move (.tmp rfl)) rfl rfl rfl ?_
          refine LW.p (PEv.move (.tmp rfl)) rfl rfl rfl ?_
          refine LW.c (enter_call0 (.cons (.tmp rfl) (.cons (.tmp rfl) .nil)) (Try.en13)) rfl rfl rfl rfl (Of_any _ _ (fewL 30 l) d _ ((hS.own 0 rfl).els (fun _ => rfl)) (by have := fewL_length 30 l; omega)) ?_
          rintro _ w17 ⟨bc, rfl, hC, uw17⟩
          have zw17 := uw17.size
          replace hS := hS.up uw17
          refine LW.r (REv.allocA Try.zeroValue31) rfl rfl rfl rfl ?_
          rintro _ w18 ⟨B15, rfl, MB15⟩
          refine LW.s (SEv.storeA Try.sizeOf31 (hC.size) (.tmp rfl) (.tmp rfl) (hC.one) MB15.blk rfl) rfl rfl rfl ?_
          intro w19 LB15
          have NB15 := MB15.set LB15
          clear LB15 MB15
          have eB15 := NB15.at_
          have zB15 := NB15.size
          replace hC := hC.up NB15.up
          replace hS := hS.addB NB15
          change Wx.Sep _ _ _ [_, _, _, _, _] at hS
          refine LW.nil ?_
          refine KW.then ?_
          refine CW.seq ?_
          have hf1 := fewL_length 30 l
          have hf2 := fewL_length 15 more
          have hkl : k = (fewL 30 l).length := by omega
          rw [hkl, List.take_length] at hS
          rw [hk1, List.take_length] at hS
          obtain ⟨ad1, cp1, rfl, hEa⟩ := (hS.own 2 rfl).sl (fun _ => rfl)
          obtain ⟨ad2, cp2, rfl, hEk⟩ := (hS.own 3 rfl).sl (fun _ => rfl)
          -- region 19 draws its order
          refine CW.draws (by kernel_rfl) (by kernel_rfl) rfl rfl ?_
          refine HW.p (PEv.move (.tmp rfl)) rfl rfl ?_
          refine HW.p (PEv.move (.tmp rfl)) rfl rfl ?_
          refine HW.yp rfl rfl rfl rfl rfl (PEv.loadA Try.isAgg31 Try.sizeOf31 (hC.size) (.tmp rfl) ((hS.blk 4 rfl).agg)) rfl ?_
          refine HW.yp rfl rfl rfl rfl rfl (PEv.move (.tmp rfl)) rfl ?_
          refine HW.yp rfl rfl rfl rfl rfl (PEv.move (.tmp rfl)) rfl ?_
          refine HW.yqc (ph := .pred fun v w => BaseV w v (ofB (fewL 30 l ++ (fewL 15 more).map (late d)) d)) (fun _ _ _ h u => BaseV.up h u) rfl rfl rfl rfl rfl (fun a w hu ha => ⟨_, _, enter_call0 (.cons (.tmp rfl) (.cons (.tmp rfl) .nil)) (Try.en13) a ha, (Of_any ad1 cp1 (fewL 30 l ++ (fewL 15 more).map (late d)) d w (Els.up hEa hu) (by simp only [List.length_append, List.length_map]; omega)).mono fun v w' h => let ⟨bc', e, hB, u⟩ := h; ⟨u, bc', e, hB⟩⟩) rfl ?_
          refine HW.yqc (ph := .eq (.bool true)) (phUp.eq _) rfl rfl rfl rfl rfl (fun a w hu ha => ⟨_, _, enter_any2 Try.en12 a w, (refSame_v (a.eval (.tmp 72)) (a.eval (.tmp 75)) (ofB (fewL 30 l) d) (ofB (fewL 30 l ++ (fewL 15 more).map (late d)) d) w ⟨bc, ha.ev (.tmp rfl), hC.up hu⟩ (ha.known (p := fun v w => BaseV w v (ofB (fewL 30 l ++ (fewL 15 more).map (late d)) d)) rfl) (ofB_short (by omega) d)).mono fun _ _ h => ⟨h.2, h.1.trans (by rw [late_same (few_day hm)])⟩⟩) rfl ?_
          refine HW.p (PEv.pick_and (.tmp rfl) (fun hp => (by first | exact .const _ | exact .tmp rfl | exact .cond rfl (by first | assumption | simp_all)))) rfl rfl ?_
          refine HW.p (PEv.move (.tmp rfl)) rfl rfl ?_
          refine HW.yp rfl rfl rfl rfl rfl (PEv.loadA Try.isAgg31 Try.sizeOf31 (hC.size) (.tmp rfl) ((hS.blk 4 rfl).agg)) rfl ?_
          refine HW.yp rfl rfl rfl rfl rfl (PEv.move (.tmp rfl)) rfl ?_
          refine HW.yqc (ph := .pred fun v w => BaseV w v (ofB ((fewL 30 l).filter fun f => decide (f.Day ≤ d)) 100000)) (fun _ _ _ h u => BaseV.up h u) rfl rfl rfl rfl rfl (fun a w hu ha => ⟨_, _, enter_call0 (.cons (.tmp rfl) (.cons (.const _) .nil)) (Try.en13) a ha, (Of_any ad2 cp2 ((fewL 30 l).filter fun f => decide (f.Day ≤ d)) 100000 w (Els.up hEk hu) (by have := List.length_filter_le (fun f : Fact => decide (f.Day ≤ d)) (fewL 30 l); omega)).mono fun v w' h => let ⟨bc', e, hB, u⟩ := h; ⟨u, bc', e, hB⟩⟩) rfl ?_
          refine HW.yqc (ph := .eq (.bool true)) (phUp.eq _) rfl rfl rfl rfl rfl (fun a w hu ha => ⟨_, _, enter_any2 Try.en12 a w, (refSame_v (a.eval (.tmp 79)) (a.eval (.tmp 81)) (ofB (fewL 30 l) d) (ofB ((fewL 30 l).filter fun f => decide (f.Day ≤ d)) 100000) w ⟨bc, ha.ev (.tmp rfl), hC.up hu⟩ (ha.known (p := fun v w => BaseV w v (ofB ((fewL 30 l).filter fun f => decide (f.Day ≤ d)) 100000)) rfl) (ofB_short (by omega) d)).mono fun _ _ h => ⟨h.2, h.1.trans (by rw [known_same])⟩⟩) rfl ?_
          refine HW.p (PEv.pick_and (.tmp rfl) (fun hp => (by first | exact .const _ | exact .tmp rfl | exact .cond rfl (by first | assumption | simp_all)))) rfl rfl ?_
          refine HW.p (PEv.assign (.tmp rfl)) rfl rfl ?_
          refine HW.nil ?_
          intro w20 uw20
          have zw20 := uw20.size
          replace hS := hS.up uw20
          replace hC := hC.up uw20
          refine KW.then ?_
          refine CW.ret ?_
          refine KW.ret1 rfl rfl ⟨_, rfl, ?_⟩
          exact ⟨rfl, hS.upd⟩

end Go.Proofs.Ytdelcaegofkknaa
