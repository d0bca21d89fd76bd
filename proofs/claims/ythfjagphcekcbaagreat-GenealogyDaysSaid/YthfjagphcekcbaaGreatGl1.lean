import Derived.Test.YthfjagphcekcbaaGreatGm2
import Derived.Test.YthfjagphcekcbaaGreatBs
namespace Go.Wx

def updL (f : Fact → Fact) (L : List Fact) (k : Nat) : List Fact := (L.take k).map f ++ L.drop k
theorem updL_len (f : Fact → Fact) (L : List Fact) {k : Nat} (h : k ≤ L.length) : (updL f L k).length = L.length := by unfold updL; rw [List.length_append, List.length_map, List.length_take, List.length_drop]; omega
theorem updL_at {f : Fact → Fact} {L : List Fact} {k : Nat} {x : Fact} (h : L[k]? = some x) : (updL f L k)[k]? = some x := by
  have hk := (List.getElem?_eq_some_iff.1 h).1
  unfold updL
  rw [List.getElem?_append_right (by rw [List.length_map, List.length_take]; omega), List.length_map, List.length_take, Nat.min_eq_left (by omega), Nat.sub_self, List.getElem?_drop, Nat.add_zero, h]
theorem updL_set {f : Fact → Fact} {L : List Fact} {k : Nat} {x : Fact} (h : L[k]? = some x) : (updL f L k).set k (f x) = updL f L (k + 1) := by
  have hk := (List.getElem?_eq_some_iff.1 h).1
  have e : L.drop k = x :: L.drop (k + 1) := by
    rw [List.drop_eq_getElem_cons hk]
    congr 1
    exact (List.getElem?_eq_some_iff.1 h).2
  unfold updL
  rw [e, take_succ_of h, List.map_append, List.set_append_right _ _ (by rw [List.length_map, List.length_take]; omega), List.length_map, List.length_take, Nat.min_eq_left (by omega), Nat.sub_self]
  simp
theorem updL_end (f : Fact → Fact) (L : List Fact) {k : Nat} (h : L.length ≤ k) : updL f L k = L.map f := by unfold updL; rw [List.take_of_length_le h, List.drop_eq_nil_of_le h, List.append_nil]
def laterF (d : Int) (x : Fact) : Fact := { x with Day := wI (wI (d + 1) + x.Day) }
theorem someF_day {y : I6} (h : I6Ok y) : 0 ≤ (someF y).Day ∧ (someF y).Day < 10 := by
  have e : (someF y).Day = pickI y.b 10 := by
    unfold someF
    split
    · rfl
    · split
      · rfl
      · rfl
  rw [e]
  exact pick_range h.2.1 (by decide)
theorem days_gen {l m : List Fact} {d : Int} (h : ∀ x ∈ m, d < x.Day) : ofB (m ++ l) d = ofB l d := by
  rw [ofB_set (m := l ++ m) (fun x => by rw [List.mem_append, List.mem_append, or_comm])]
  unfold ofB
  rw [best_app h]
theorem days_some {xs ys : List I6} {d : Int} (hy : ∀ y ∈ ys, I6Ok y) (hd : 0 ≤ d ∧ d < 10) : ofB ((someL ys).map (laterF d) ++ someL xs) d = ofB (someL xs) d := by
  refine days_gen fun x hx => ?_
  obtain ⟨f, hf, rfl⟩ := List.mem_map.1 hx
  unfold someL at hf
  obtain ⟨y, hyy, rfl⟩ := List.mem_map.1 hf
  have h1 := someF_day (hy y (List.mem_of_mem_take hyy))
  show d < wI (wI (d + 1) + (someF y).Day)
  unfold wI
  rw [wrap_i64_in (i := d + 1) (by omega) (by omega), wrap_i64_in (by omega) (by omega)]
  omega

theorem ordG_len0 (p : Fact → Bool) (l : List Fact) : (ordG p l).length ≤ l.length := ordG_len p l
theorem histL_len (ps ss : List Fact) (w : Int) : (histL ps ss w).length ≤ ps.length := by
  unfold histL
  split
  · exact ordG_len _ _
  · exact Nat.zero_le _
theorem sortI_len (ks : List Int) : (sortI ks).length = ks.length := List.length_mergeSort _
theorem wafersL_len (ls ps ss : List Fact) : (wafersL ls ps ss).length ≤ ls.length + ps.length := by
  unfold wafersL
  rw [sortI_len]
  exact Nat.le_trans (List.length_filter_le isIDb _) (Nat.le_trans (proK_len ss (lotK ls) ps) (Nat.add_le_add_right (lotK_len ls) _))

end Go.Wx
namespace Go.Proofs.YthfjagphcekcbaaGreat
open Go.Wx Go.RowKit
theorem OfV_any (v : Go.Value) (l : List Fact) (d : Int) (w : World) (h : Sl w v 19 Fact.cells l) (hl : l.length ≤ 100000) : Ret Tryz.prog 13 #[v, vi d] w fun r w' => ∃ bc, r = .agg bc ∧ BaseC w' bc (ofB l d) ∧ Up w w' := by
  obtain ⟨ad, cp, rfl, hE⟩ := h
  exact Of_any ad cp l d w hE hl
theorem sameFacts_v (v1 v2 : Go.Value) (l m : List Fact) (w : World) (h1 : Sl w v1 19 Fact.cells l) (h2 : Sl w v2 19 Fact.cells m) (hl : l.length ≤ 100000) : Ret Tryz.prog 22 #[v1, v2] w fun r w' => r = .bool (eqFs l m) ∧ Up w w' := by
  obtain ⟨ad, cp, rfl, hE⟩ := h1
  obtain ⟨ad', cp', rfl, hE'⟩ := h2
  exact sameFacts_any ad ad' cp cp' l m w hE hE' hl

set_option maxHeartbeats 4000000 in
theorem GenealogyDays_any (ad ad' : Option Addr) (cp cp' : Nat) (xs ys : List I6) (day wafer time : Int) (w : World) (hE1 : Els w ad 6 I6.cells xs) (hE2 : Els w ad' 6 I6.cells ys) (hy : ∀ y ∈ ys, I6Ok y) (hday : inI day) : Ret Tryz.prog 8 #[.slice ad xs.length cp, .slice ad' ys.length cp', vi day, vi wafer, vi time] w fun r w' => r = .bool true ∧ Up w w' := by
  obtain ⟨w0, rfl⟩ : ∃ w0, w0 = w := ⟨_, rfl⟩
  have hS := Sep.start no w0
  refine Calls_start (n := 113) (m := 9) Tryz.func8 rfl rfl rfl ?_
  refine CW.seq (CW.region (LW.p (PEv.assign (.const _)) rfl rfl rfl (LW.nil (KW.then (CW.seq (CW.region ?_))))))
  refine LW.c (enter_call0 .nil (Tryz.en11)) rfl rfl rfl rfl (sane_any _) ?_
  rintro _ w1 ⟨rfl, uw1⟩
  have zw1 := uw1.size
  replace hS := hS.up uw1
  refine LW.p (PEv.assign (.tmp rfl)) rfl rfl rfl (LW.nil (KW.then (CW.seq (CW.region (LW.p (PEv.move (.tmp rfl)) rfl rfl rfl ?_)))))
  refine LW.c (enter_call0 (.cons (.tmp rfl) (.cons (.const _) .nil)) (Tryz.en15)) rfl rfl rfl rfl (pick_any _ _ _ (by decide)) ?_
  rintro _ w2 ⟨rfl, uw2⟩
  have zw2 := uw2.size
  replace hS := hS.up uw2
  have hd := pick_range (c := day) (n := 10) hday (by decide)
  obtain ⟨d, ed⟩ : ∃ d, d = pickI day 10 := ⟨_, rfl⟩
  rw [← ed] at hd ⊢
  refine LW.p (PEv.assign (.tmp rfl)) rfl rfl rfl (LW.nil (KW.then (CW.seq (CW.region (LW.p (PEv.move (.tmp rfl)) rfl rfl rfl ?_)))))
  refine LW.c (enter_call0 (.cons (.tmp rfl) .nil) (Tryz.en14)) rfl rfl rfl rfl (Some_any ad cp xs _ (Els.up hE1 hS.upd)) ?_
  rintro v25 w3 ⟨hO25, uw3⟩
  have zw3 := uw3.size
  replace hS := hS.add uw3 (A' := aOwn 46 19 Fact.cells v25 (someL xs)) (hO25.mono (Nat.zero_le _)) (fun i h => hO25.base i h)
  change Wx.Sep _ _ _ [_] at hS
  clear hO25
  obtain ⟨ad25, cp25, rfl, _⟩ := (hS.own 0 rfl).sl (fun _ => rfl)
  refine LW.p (PEv.assign (.tmp rfl)) rfl rfl rfl (LW.nil (KW.then (CW.seq (CW.region (LW.p (PEv.move (.tmp rfl)) rfl rfl rfl ?_)))))
  refine LW.c (enter_call0 (.cons (.tmp rfl) .nil) (Tryz.en14)) rfl rfl rfl rfl (Some_any ad' cp' ys _ (Els.up hE2 hS.upd)) ?_
  rintro v27 w4 ⟨hO27, uw4⟩
  have zw4 := uw4.size
  replace hS := hS.add uw4 (A' := aOwn 46 19 Fact.cells v27 (someL ys)) (hO27.mono (Nat.zero_le _)) (fun i h => hO27.base i h)
  change Wx.Sep _ _ _ [_, _] at hS
  clear hO27
  obtain ⟨ad27, cp27, rfl, _⟩ := (hS.own 1 rfl).sl (fun _ => rfl)
  have hlx := someL_len xs
  have hly := someL_len ys
  refine LW.p (PEv.assign (.tmp rfl)) rfl rfl rfl (LW.nil (KW.then (CW.seq (CW.seq (CW.region (LW.p (PEv.assign (.const _)) rfl rfl rfl (LW.nil (KW.then (CW.block ?_)))))))))
  refine CW.loopB (σ := Nat) (fun s w => (s ≤ (someL ys).length) ∧ (Wx.Sep no w0 w [aOwn 46 19 Fact.cells (.slice ad25 (someL xs).length cp25) (someL xs), aOwn 46 19 Fact.cells (.slice ad27 (someL ys).length cp27) (updL (laterF d) (someL ys) s)])) (fun s => [(14, .eq (vi (s : Int)))]) ([(2, .eq _), (3, .eq _), (4, .eq _), (10, .eq _), (11, .eq _), (12, .eq _), (13, .eq _)]) (fun s => (someL ys).length - s) 0 ?_ ⟨rfl, rfl, rfl, rfl, rfl, rfl, rfl, rfl, trivial⟩ ?_
  ·exact ⟨Nat.zero_le _, hS⟩
  ·rintro k w5 ⟨hk, hS⟩
   refine CW.seq (CW.seq (CW.region (LW.p (PEv.move (.tmp rfl)) rfl rfl rfl (LW.p (PEv.move (.tmp rfl)) rfl rfl rfl ?_))))
   refine LW.p (PEv.lenS Tryz.underlying22 (.tmp rfl)) rfl rfl rfl ?_
   refine LW.p (PEv.lss (.tmp rfl) (.tmp rfl)) rfl rfl rfl ?_
   refine LW.nil (KW.then ?_)
   refine CW.cond (.tmp rfl) (fun h31 => ?_) (fun h31 => ?_)
   ·first | replace h31 := of_decide_eq_true h31 | replace h31 := of_decide_eq_false h31 | skip
    refine CW.skip (KW.then (CW.seq (CW.block ?_)))
    obtain ⟨x, hx⟩ := getElem?_of_lt (xs := someL ys) (i := k) (by omega)
    obtain ⟨g, rfl⟩ := (hS.own 1 rfl).adr (by rw [updL_len _ _ (by omega)]; omega)
    obtain ⟨Bx, ox, ax, hcx⟩ := ((hS.own 1 rfl).els (fun _ => rfl)) k x (updL_at hx)
    cases ax
    refine CW.region (LW.p (PEv.move (.tmp rfl)) rfl rfl rfl (LW.p (PEv.move (.tmp rfl)) rfl rfl rfl (LW.p (PEv.move (.tmp rfl)) rfl rfl rfl ?_)))
    refine LW.p (PEv.add_w (.tmp rfl) (.const _)) rfl rfl rfl ?_
    refine LW.p (PEv.move (.tmp rfl)) rfl rfl rfl (LW.p (PEv.move (.tmp rfl)) rfl rfl rfl ?_)
    refine LW.p (PEv.indexAddr' Tryz.underlying22 Tryz.sizeOf46 (.tmp rfl) (.tmp rfl) (by omega) rfl) rfl rfl rfl ?_
    refine LW.p (PEv.fieldAddr (off := 3) Tryz.underlying46 rfl rfl Tryz.sizeOf3 rfl (.tmp rfl)) rfl rfl rfl ?_
    refine LW.p (PEv.load Tryz.isAgg3 (.tmp rfl) (hcx.nth (j := 3) rfl)) rfl rfl rfl ?_
    refine LW.p (PEv.add_w (.tmp rfl) (.tmp rfl)) rfl rfl rfl ?_
    refine LW.p (PEv.indexAddr' Tryz.underlying22 Tryz.sizeOf46 (.tmp rfl) (.tmp rfl) (by omega) rfl) rfl rfl rfl ?_
    refine LW.p (PEv.fieldAddr (off := 3) Tryz.underlying46 rfl rfl Tryz.sizeOf3 rfl (.tmp rfl)) rfl rfl rfl ?_
    refine LW.s (SEv.storeOwnF (enc := Fact.cells) (k := 19) (z := laterF d x) (i := k) (j := 3) Tryz.sizeOf3 (fun _ => rfl) rfl (.tmp rfl) (.tmp rfl) (hS.own 1 rfl) (updL_at hx) (by decide) rfl) rfl rfl rfl ?_
    intro w6 Gw6
    rw [updL_set hx] at Gw6
    have zw6 := Gw6.fr.size
    replace hS := hS.stp 1 rfl Gw6
    change Wx.Sep _ _ _ [_, _] at hS
    refine LW.nil (KW.inBlock (KW.then (CW.region (LW.p (PEv.move (.tmp rfl)) rfl rfl rfl ?_))))
    refine LW.p (PEv.inc (.tmp rfl) (by omega)) rfl rfl rfl ?_
    refine LW.p (PEv.assign (.tmp rfl)) rfl rfl rfl (LW.nil (KW.round ?_))
    exact ⟨k + 1, ⟨by omega, hS⟩, ⟨rfl, rfl, rfl, rfl, rfl, rfl, rfl, rfl, trivial⟩, by first | omega | (dsimp only; omega)⟩
   ·first | replace h31 := of_decide_eq_true h31 | replace h31 := of_decide_eq_false h31 | skip
    refine CW.exit (KW.then_exit (KW.then_exit (KW.block_hit (KW.then (CW.seq ?_)))))
    rw [updL_end _ _ (by omega)] at hS
    have hSh := ofB_short (l := someL xs) (by have := someL_len xs; omega) d
    refine CW.region (LW.p (PEv.move (.tmp rfl)) rfl rfl rfl (LW.p (PEv.move (.tmp rfl)) rfl rfl rfl ?_))
    refine LW.c (enter_call0 (.cons (.tmp rfl) (.cons (.tmp rfl) .nil)) (Tryz.en13)) rfl rfl rfl rfl (Of_any _ _ (someL xs) d _ ((hS.own 0 rfl).els (fun _ => rfl)) (by have := someL_len xs; omega)) ?_
    rintro _ w7 ⟨bc1, rfl, hC1, uw7⟩
    have zw7 := uw7.size
    replace hS := hS.up uw7
    refine LW.r (REv.allocA Tryz.zeroValue24) rfl rfl rfl rfl ?_
    rintro _ w8 ⟨B15, rfl, MB15⟩
    refine LW.s (SEv.storeA Tryz.sizeOf24 (hC1.size) (.tmp rfl) (.tmp rfl) (hC1.one) MB15.blk rfl) rfl rfl rfl ?_
    intro w9 LB15
    have NB15 := MB15.set LB15
    clear LB15 MB15
    have eB15 := NB15.at_
    have zB15 := NB15.size
    replace hC1 := hC1.up NB15.up
    replace hS := hS.addB NB15
    change Wx.Sep _ _ _ [_, _, _] at hS
    refine LW.nil (KW.then (CW.seq ?_))
    have hU0 := hS.upd
    have hB15 := hS.blk 2 rfl
    have hEl := (hS.own 0 rfl).els (fun _ => rfl)
    have hEm0 := (hS.own 1 rfl).els (fun _ => rfl)
    have hEm : Els w9 ad27 19 Fact.cells ((someL ys).map (laterF d)) := hEm0
    replace hS := Sep.start no w9
    refine CW.region ?_
    refine LW.r (REv.buildSlice (xs := ([] : List Fact)) (enc := Fact.cells) (mk := fun f : Fact => .agg f.cells) Tryz.underlying22 Tryz.sizeOf46 Tryz.zeroValue46 rfl (by decide) (fun _ => rfl) (fun _ => rfl) .nil rfl) rfl rfl rfl rfl ?_
    intro v49 w10 hN49
    obtain ⟨uw10, B49, rfl, hO49⟩ := NewSl.own0 (base := w9.heap.size) hN49 (Nat.le_refl _)
    have zw10 := uw10.size
    replace hS := hS.add uw10 (A' := aOwn 46 19 Fact.cells (.slice (some ⟨B49, 0, none⟩) 0 0) ([] : List Fact)) (hO49.mono (Nat.zero_le _)) (fun i h => hO49.base i h)
    clear hN49 hO49
    change Wx.Sep _ _ _ [_] at hS
    refine LW.p (PEv.move (.tmp rfl)) rfl rfl rfl ?_
    refine LW.r (REv.appendF (enc := Fact.cells) (bytes := 160) (i := Tryz.t46) Tryz.underlying22 (by kernel_rfl) rfl rfl rfl rfl (by decide) (fun _ => rfl) Fact.one (.tmp rfl) (.tmp rfl) (hS.own 0 rfl) ⟨ad27, cp27, (by rw [List.length_map]), Els.up hEm hS.upd⟩ (by have := And.intro (someL_len xs) (someL_len ys); simp [maxLen]; omega) (by have := And.intro (someL_len xs) (someL_len ys); simp; omega)) rfl rfl rfl rfl ?_
    intro v51 w11 Gw11
    have zw11 := Gw11.fr.size
    replace hS := hS.stp 0 rfl Gw11
    change Wx.Sep _ _ _ [_] at hS
    refine LW.p (PEv.move (.tmp rfl)) rfl rfl rfl ?_
    refine LW.r (REv.appendF (enc := Fact.cells) (bytes := 160) (i := Tryz.t46) Tryz.underlying22 (by kernel_rfl) rfl rfl rfl rfl (by decide) (fun _ => rfl) Fact.one (.tmp rfl) (.tmp rfl) (hS.own 0 rfl) ⟨_, _, rfl, Els.up hEl hS.upd⟩ (by have := And.intro (someL_len xs) (someL_len ys); simp [maxLen]; omega) (by have := And.intro (someL_len xs) (someL_len ys); simp; omega)) rfl rfl rfl rfl ?_
    intro v53 w12 Gw12
    have zw12 := Gw12.fr.size
    replace hS := hS.stp 0 rfl Gw12
    change Wx.Sep _ _ _ [_] at hS
    refine LW.p (PEv.move (.tmp rfl)) rfl rfl rfl ?_
    refine LW.c (enter_call0 (.cons (.tmp rfl) (.cons (.tmp rfl) .nil)) (Tryz.en13)) rfl rfl rfl rfl (OfV_any _ _ d _ ((hS.own 0 rfl).sl (fun _ => rfl)) (by have := someL_len xs; have := someL_len ys; simp; omega)) ?_
    rintro _ w13 ⟨bc2, rfl, hC2, uw13⟩
    have zw13 := uw13.size
    replace hS := hS.up uw13
    rw [List.nil_append, days_some hy hd] at hC2
    refine LW.r (REv.allocA Tryz.zeroValue24) rfl rfl rfl rfl ?_
    rintro _ w14 ⟨B16, rfl, MB16⟩
    refine LW.s (SEv.storeA Tryz.sizeOf24 (hC2.size) (.tmp rfl) (.tmp rfl) (hC2.one) MB16.blk rfl) rfl rfl rfl ?_
    intro w15 LB16
    have NB16 := MB16.set LB16
    clear LB16 MB16
    have eB16 := NB16.at_
    have zB16 := NB16.size
    replace hC2 := hC2.up NB16.up
    replace hS := hS.addB NB16
    change Wx.Sep _ _ _ [_, _] at hS
    refine LW.nil (KW.then (CW.seq (CW.region (LW.p (PEv.move (.tmp rfl)) rfl rfl rfl ?_))))
    refine LW.c (enter_call0 (.cons (.tmp rfl) (.cons (.const _) .nil)) (Tryz.en15)) rfl rfl rfl rfl (pick_any _ _ _ (by decide)) ?_
    rintro _ w16 ⟨rfl, uw16⟩
    have zw16 := uw16.size
    replace hS := hS.up uw16
    replace hC2 := hC2.up uw16
    refine LW.p (PEv.add_w (.const _) (.tmp rfl)) rfl rfl rfl ?_
    refine LW.p (PEv.assign (.tmp rfl)) rfl rfl rfl (LW.nil (KW.then (CW.seq (CW.region (LW.p (PEv.move (.tmp rfl)) rfl rfl rfl ?_)))))
    refine LW.c (enter_call0 (.cons (.tmp rfl) (.cons (.const _) .nil)) (Tryz.en15)) rfl rfl rfl rfl (pick_any _ _ _ (by decide)) ?_
    rintro _ w17 ⟨rfl, uw17⟩
    have zw17 := uw17.size
    replace hS := hS.up uw17
    replace hC2 := hC2.up uw17
    refine LW.p (PEv.assign (.tmp rfl)) rfl rfl rfl (LW.nil (KW.then (CW.seq (CW.region ?_))))
    refine LW.p (PEv.loadA Tryz.isAgg24 Tryz.sizeOf24 (hC1.size) (.tmp rfl) ((hB15.up hS.upd).agg)) rfl rfl rfl ?_
    refine LW.p (PEv.move (.tmp rfl)) rfl rfl rfl (LW.p (PEv.move (.tmp rfl)) rfl rfl rfl ?_)
    refine LW.c (enter_call0 (.cons (.tmp rfl) (.cons (.tmp rfl) (.cons (.tmp rfl) .nil))) (Tryz.en16)) rfl rfl rfl rfl (lot_any bc1 (ofB (someL xs) d) _ _ _ (hC1.up hS.upd) (Nat.lt_of_le_of_lt (hSh 3) (by decide))) ?_
    rintro _ w18 ⟨rfl, uw18⟩
    have zw18 := uw18.size
    replace hS := hS.up uw18
    replace hC2 := hC2.up uw18
    refine LW.p (PEv.move (.tmp rfl)) rfl rfl rfl (LW.p (PEv.extract (.tmp rfl) rfl) rfl rfl rfl (LW.p (PEv.extract (.tmp rfl) rfl) rfl rfl rfl (LW.p (PEv.assign (.tmp rfl)) rfl rfl rfl (LW.p (PEv.assign (.tmp rfl)) rfl rfl rfl (LW.nil (KW.then (CW.seq (CW.region ?_))))))))
    refine LW.p (PEv.loadA Tryz.isAgg24 Tryz.sizeOf24 (hC2.size) (.tmp rfl) ((hS.blk 1 rfl).agg)) rfl rfl rfl ?_
    refine LW.p (PEv.move (.tmp rfl)) rfl rfl rfl (LW.p (PEv.move (.tmp rfl)) rfl rfl rfl ?_)
    refine LW.c (enter_call0 (.cons (.tmp rfl) (.cons (.tmp rfl) (.cons (.tmp rfl) .nil))) (Tryz.en16)) rfl rfl rfl rfl (lot_any bc2 (ofB (someL xs) d) _ _ _ hC2 (Nat.lt_of_le_of_lt (hSh 3) (by decide))) ?_
    rintro _ w19 ⟨rfl, uw19⟩
    have zw19 := uw19.size
    replace hS := hS.up uw19
    replace hC2 := hC2.up uw19
    refine LW.p (PEv.move (.tmp rfl)) rfl rfl rfl (LW.p (PEv.extract (.tmp rfl) rfl) rfl rfl rfl (LW.p (PEv.extract (.tmp rfl) rfl) rfl rfl rfl (LW.p (PEv.assign (.tmp rfl)) rfl rfl rfl (LW.p (PEv.assign (.tmp rfl)) rfl rfl rfl (LW.nil (KW.then (CW.seq ?_)))))))
    refine CW.draws (by kernel_rfl) (by kernel_rfl) rfl rfl ?_
    refine HW.p (PEv.move (.tmp rfl)) rfl rfl ?_
    refine HW.p (PEv.move (.tmp rfl)) rfl rfl ?_
    refine HW.yp rfl rfl rfl rfl rfl (PEv.loadA Tryz.isAgg24 Tryz.sizeOf24 (hC1.size) (.tmp rfl) ((hB15.up hS.upd).agg)) rfl ?_
    refine HW.yp rfl rfl rfl rfl rfl (PEv.move (.tmp rfl)) rfl ?_
    refine HW.yqc (ph := .pred fun v w => Sl w v 19 Fact.cells (histL (ofB (someL xs) d).Processes (ofB (someL xs) d).Swaps (IntKind.i64.wrap (1 + pickI wafer 6)))) (fun _ _ _ h u => Sl.up h u) rfl rfl rfl rfl rfl (fun a w hu ha => ⟨_, _, enter_call0 (.cons (.tmp rfl) (.cons (.tmp rfl) .nil)) (Tryz.en23) a ha, (History_any bc1 (ofB (someL xs) d) (IntKind.i64.wrap (1 + pickI wafer 6)) w (hC1.up (hS.up hu).upd) (Nat.le_trans (hSh 2) (by decide)) (Nat.le_trans (hSh 0) (by decide))).mono fun v w' h => ⟨h.2, h.1.sl (fun _ => rfl)⟩⟩) rfl ?_
    refine HW.yp rfl rfl rfl rfl rfl (PEv.loadA Tryz.isAgg24 Tryz.sizeOf24 (hC2.size) (.tmp rfl) ((hS.blk 1 rfl).agg)) rfl ?_
    refine HW.yp rfl rfl rfl rfl rfl (PEv.move (.tmp rfl)) rfl ?_
    refine HW.yqc (ph := .pred fun v w => Sl w v 19 Fact.cells (histL (ofB (someL xs) d).Processes (ofB (someL xs) d).Swaps (IntKind.i64.wrap (1 + pickI wafer 6)))) (fun _ _ _ h u => Sl.up h u) rfl rfl rfl rfl rfl (fun a w hu ha => ⟨_, _, enter_call0 (.cons (.tmp rfl) (.cons (.tmp rfl) .nil)) (Tryz.en23) a ha, (History_any bc2 (ofB (someL xs) d) (IntKind.i64.wrap (1 + pickI wafer 6)) w (hC2.up hu) (Nat.le_trans (hSh 2) (by decide)) (Nat.le_trans (hSh 0) (by decide))).mono fun v w' h => ⟨h.2, h.1.sl (fun _ => rfl)⟩⟩) rfl ?_
    refine HW.yqc (ph := .eq (.bool true)) (phUp.eq _) rfl rfl rfl rfl rfl (fun a w hu ha => ⟨_, _, enter_any2 Tryz.en22 a w, (sameFacts_v (a.eval (.tmp 79)) (a.eval (.tmp 82)) (histL (ofB (someL xs) d).Processes (ofB (someL xs) d).Swaps (IntKind.i64.wrap (1 + pickI wafer 6))) (histL (ofB (someL xs) d).Processes (ofB (someL xs) d).Swaps (IntKind.i64.wrap (1 + pickI wafer 6))) w (ha.known (p := fun v w => Sl w v 19 Fact.cells (histL (ofB (someL xs) d).Processes (ofB (someL xs) d).Swaps (IntKind.i64.wrap (1 + pickI wafer 6)))) rfl) (ha.known (p := fun v w => Sl w v 19 Fact.cells (histL (ofB (someL xs) d).Processes (ofB (someL xs) d).Swaps (IntKind.i64.wrap (1 + pickI wafer 6)))) rfl) (Nat.le_trans (histL_len _ _ _) (hSh 0))).mono fun _ _ h => ⟨h.2, h.1.trans (by rw [eqFs_refl])⟩⟩) rfl ?_
    refine HW.p (PEv.pick_and (.tmp rfl) (fun hp => (by first | exact .const _ | exact .tmp rfl | exact .cond rfl (by first | assumption | simp_all)))) rfl rfl ?_
    refine HW.p (PEv.move (.tmp rfl)) rfl rfl ?_
    refine HW.yp rfl rfl rfl rfl rfl (PEv.loadA Tryz.isAgg24 Tryz.sizeOf24 (hC1.size) (.tmp rfl) ((hB15.up hS.upd).agg)) rfl ?_
    refine HW.yp rfl rfl rfl rfl rfl (PEv.move (.tmp rfl)) rfl ?_
    refine HW.yp rfl rfl rfl rfl rfl (PEv.move (.tmp rfl)) rfl ?_
    refine HW.yc rfl rfl rfl rfl rfl (fun a w _ ha => enter_call0 (.cons (.tmp rfl) (.cons (.tmp rfl) (.cons (.tmp rfl) .nil))) (Tryz.en18) a ha) rfl (fun w hu => Who_any bc1 (ofB (someL xs) d) _ _ w (hC1.up (hS.up hu).upd) (Nat.le_trans (hSh 2) (by decide))) ?_
    refine HW.yp rfl rfl rfl rfl rfl (PEv.loadA Tryz.isAgg24 Tryz.sizeOf24 (hC2.size) (.tmp rfl) ((hS.blk 1 rfl).agg)) rfl ?_
    refine HW.yp rfl rfl rfl rfl rfl (PEv.move (.tmp rfl)) rfl ?_
    refine HW.yp rfl rfl rfl rfl rfl (PEv.move (.tmp rfl)) rfl ?_
    refine HW.yc rfl rfl rfl rfl rfl (fun a w _ ha => enter_call0 (.cons (.tmp rfl) (.cons (.tmp rfl) (.cons (.tmp rfl) .nil))) (Tryz.en18) a ha) rfl (fun w hu => Who_any bc2 (ofB (someL xs) d) _ _ w (hC2.up hu) (Nat.le_trans (hSh 2) (by decide))) ?_
    refine HW.yp rfl rfl rfl rfl rfl (PEv.tr (PEv.eql (.tmp rfl) (.tmp rfl)) (decide_eq_true rfl)) rfl ?_
    refine HW.p (PEv.pick_and (.tmp rfl) (fun hp => (by first | exact .const _ | exact .tmp rfl | exact .cond rfl (by first | assumption | simp_all)))) rfl rfl ?_
    refine HW.p (PEv.move (.tmp rfl)) rfl rfl ?_
    refine HW.yp rfl rfl rfl rfl rfl (PEv.move (.tmp rfl)) rfl ?_
    refine HW.yp rfl rfl rfl rfl rfl (PEv.move (.tmp rfl)) rfl ?_
    refine HW.yp rfl rfl rfl rfl rfl (PEv.tr (PEv.eql (.tmp rfl) (.tmp rfl)) (decide_eq_true rfl)) rfl ?_
    refine HW.p (PEv.pick_and (.tmp rfl) (fun hp => (by first | exact .const _ | exact .tmp rfl | exact .cond rfl (by first | assumption | simp_all)))) rfl rfl ?_
    refine HW.p (PEv.move (.tmp rfl)) rfl rfl ?_
    refine HW.yp rfl rfl rfl rfl rfl (PEv.move (.tmp rfl)) rfl ?_
    refine HW.yp rfl rfl rfl rfl rfl (PEv.move (.tmp rfl)) rfl ?_
    refine HW.yp rfl rfl rfl rfl rfl (PEv.tr (PEv.eql (.tmp rfl) (.tmp rfl)) (decide_eq_true rfl)) rfl ?_
    refine HW.p (PEv.pick_and (.tmp rfl) (fun hp => (by first | exact .const _ | exact .tmp rfl | exact .cond rfl (by first | assumption | simp_all)))) rfl rfl ?_
    refine HW.p (PEv.move (.tmp rfl)) rfl rfl ?_
    refine HW.yp rfl rfl rfl rfl rfl (PEv.loadA Tryz.isAgg24 Tryz.sizeOf24 (hC1.size) (.tmp rfl) ((hB15.up hS.upd).agg)) rfl ?_
    refine HW.yqc (ph := .pred fun v w => Sl w v 1 eInt (wafersL (ofB (someL xs) d).Lots (ofB (someL xs) d).Processes (ofB (someL xs) d).Swaps)) (fun _ _ _ h u => Sl.up h u) rfl rfl rfl rfl rfl (fun a w hu ha => ⟨_, _, enter_call0 (.cons (.tmp rfl) .nil) (Tryz.en28) a ha, (Wafers_any bc1 (ofB (someL xs) d) w (hC1.up (hS.up hu).upd) (Nat.le_trans (hSh 2) (by decide)) (by have h1 : (ofB (someL xs) d).Lots.length ≤ 100000 := hSh 3; have h2 : (ofB (someL xs) d).Processes.length ≤ 100000 := hSh 0; omega)).mono fun v w' h => ⟨h.2, h.1.sl (fun _ => rfl)⟩⟩) rfl ?_
    refine HW.yp rfl rfl rfl rfl rfl (PEv.loadA Tryz.isAgg24 Tryz.sizeOf24 (hC2.size) (.tmp rfl) ((hS.blk 1 rfl).agg)) rfl ?_
    refine HW.yqc (ph := .pred fun v w => Sl w v 1 eInt (wafersL (ofB (someL xs) d).Lots (ofB (someL xs) d).Processes (ofB (someL xs) d).Swaps)) (fun _ _ _ h u => Sl.up h u) rfl rfl rfl rfl rfl (fun a w hu ha => ⟨_, _, enter_call0 (.cons (.tmp rfl) .nil) (Tryz.en28) a ha, (Wafers_any bc2 (ofB (someL xs) d) w (hC2.up hu) (Nat.le_trans (hSh 2) (by decide)) (by have h1 : (ofB (someL xs) d).Lots.length ≤ 100000 := hSh 3; have h2 : (ofB (someL xs) d).Processes.length ≤ 100000 := hSh 0; omega)).mono fun v w' h => ⟨h.2, h.1.sl (fun _ => rfl)⟩⟩) rfl ?_
    refine HW.yqc (ph := .eq (.bool true)) (phUp.eq _) rfl rfl rfl rfl rfl (fun a w hu ha => ⟨_, _, enter_any2 Tryz.en25 a w, (sameInts_any (a.eval (.tmp 108)) (a.eval (.tmp 110)) (wafersL (ofB (someL xs) d).Lots (ofB (someL xs) d).Processes (ofB (someL xs) d).Swaps) (wafersL (ofB (someL xs) d).Lots (ofB (someL xs) d).Processes (ofB (someL xs) d).Swaps) w (ha.known (p := fun v w => Sl w v 1 eInt (wafersL (ofB (someL xs) d).Lots (ofB (someL xs) d).Processes (ofB (someL xs) d).Swaps)) rfl) (ha.known (p := fun v w => Sl w v 1 eInt (wafersL (ofB (someL xs) d).Lots (ofB (someL xs) d).Processes (ofB (someL xs) d).Swaps)) rfl) (by have h1 := wafersL_len (ofB (someL xs) d).Lots (ofB (someL xs) d).Processes (ofB (someL xs) d).Swaps; have h2 : (ofB (someL xs) d).Lots.length ≤ 100000 := hSh 3; have h3 : (ofB (someL xs) d).Processes.length ≤ 100000 := hSh 0; omega) (by have h1 := wafersL_len (ofB (someL xs) d).Lots (ofB (someL xs) d).Processes (ofB (someL xs) d).Swaps; have h2 : (ofB (someL xs) d).Lots.length ≤ 100000 := hSh 3; have h3 : (ofB (someL xs) d).Processes.length ≤ 100000 := hSh 0; omega)).mono fun _ _ h => ⟨h.2, h.1.trans (by rw [decide_eq_true rfl])⟩⟩) rfl ?_
    refine HW.p (PEv.pick_and (.tmp rfl) (fun hp => (by first | exact .const _ | exact .tmp rfl | exact .cond rfl (by first | assumption | simp_all)))) rfl rfl ?_
    refine HW.p (PEv.assign (.tmp rfl)) rfl rfl ?_
    refine HW.nil ?_
    intro w20 uw20
    have zw20 := uw20.size
    replace hS := hS.up uw20
    replace hC2 := hC2.up uw20
    refine KW.then (CW.ret ?_)
    refine KW.ret1 rfl rfl ⟨_, rfl, ?_⟩
    exact ⟨rfl, hU0.trans hS.upd⟩

end Go.Proofs.YthfjagphcekcbaaGreat
