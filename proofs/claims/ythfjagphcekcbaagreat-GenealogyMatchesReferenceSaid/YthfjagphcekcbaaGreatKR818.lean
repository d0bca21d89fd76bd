import Derived.Test.YthfjagphcekcbaaGreatKR817
section
namespace Go.Wx
section
variable {P : Program} {n : Nat} {ds : List Deferred} {ops : Array Oper}
theorem HW.qc {base done : Env} {w0 : World} {o : Oper} {rest : List Oper} {K : Env → Prop} {d : Nat} {ph : Ph} (hp : phUp ph) (hg : o.guard = none)
    (h : ∀ a w, Up w0 w → Ag n ds (keepSlots (o.looksAt ops) done ++ base) a w → ∃ f args, (execOp a.eval o).run P w = .ok (.enter f args) w ∧ Ret P f args w fun v w' => Up w w' ∧ ph.holds v w') (hd : o.dst = some d) (k : HW P n ds ops base w0 ((d, ph) :: done) rest K) : HW P n ds ops base w0 done (o :: rest) K :=
  ⟨ph, d, hd, hp, fun a w hu ha => by
    rw [if_pos (by simp [Region.wanted, hg])]
    obtain ⟨f, args, e, r⟩ := h a w hu ha
    exact .inr ⟨f, args, w, e, r⟩, k⟩
end
def fewB (b : Base) : Base := ⟨b.Processes.take 12, [], b.Swaps.take 12, b.Lots.take 12, [], [], [], [], [], [], []⟩
theorem sl_take {w : World} {ad : Option Addr} {xs : List Fact} (cp : Nat) (hE : Els w ad 19 Fact.cells xs) : Sl w (.slice ad (min xs.length 12) cp) 19 Fact.cells (xs.take 12) := ⟨ad, cp, by rw [List.length_take, Nat.min_comm], Els.take hE⟩
theorem fewB_short (b : Base) : short (fewB b) := fun j => by
  have h : ∀ l : List Fact, (l.take 12).length ≤ 100000 := fun l => by rw [List.length_take]; omega
  match j with
  | 0 | 2 | 3 => exact h _
  | 1 | 4 | 5 | 6 | 7 | 8 | 9 | 10 => exact Nat.zero_le _
  | j + 11 => unfold lstOf; simp
def BA : Type := { a : Array Go.Value // a.size = 11 ∧ a.all (·.oneCell') = true }
def BA.cells (a : BA) : Array Go.Value := a.1
end Go.Wx
namespace Go.Proofs.YthfjagphcekcbaaGreat
open Go.Wx Go.RowKit
theorem few17_any (bc : Array Go.Value) (b : Base) (w : World) (hC : BaseC w bc b) (hK : BaseK bc) : Ret Tryz.prog 12 #[.agg bc] w fun r w' => ∃ bc', r = .agg bc' ∧ BaseC w' bc' (fewB b) ∧ Up w w' := by
  obtain ⟨w0, rfl⟩ : ∃ w0, w0 = w := ⟨_, rfl⟩
  have hS := Sep.start no w0
  refine Calls_start (n := 25) (m := 9) Tryz.func12 rfl rfl rfl ?_
  refine CW.seq (CW.region ?_)
  refine LW.r (REv.boxA (.tmp rfl)) rfl rfl rfl rfl ?_
  rintro _ w1 ⟨B1, rfl, NB1⟩
  have eB1 := NB1.at_
  have zB1 := NB1.size
  replace hS := hS.addB NB1
  change Wx.Sep _ _ _ [_] at hS
  refine LW.r (REv.allocA Tryz.zeroValue24) rfl rfl rfl rfl ?_
  rintro _ w2 ⟨B2, rfl, NB2⟩
  have eB2 := NB2.at_
  have zB2 := NB2.size
  replace hS := hS.addB NB2
  change Wx.Sep _ _ _ [_, _] at hS
  refine LW.nil (KW.then (CW.seq ?_))
  obtain ⟨v0, h0, ad0, cp0, rfl, hE0⟩ := hC.at0
  obtain ⟨v2, h2, ad2, cp2, rfl, hE2⟩ := hC.at2
  obtain ⟨v3, h3, ad3, cp3, rfl, hE3⟩ := hC.at3
  have hk0 := hK 0 _ _ _ h0
  have hk2 := hK 2 _ _ _ h2
  have hk3 := hK 3 _ _ _ h3
  refine CW.draws_then 22 (by kernel_rfl) (by kernel_rfl) (by kernel_rfl) (by kernel_rfl) (by kernel_rfl) rfl rfl ?_
  refine HW.p (PEv.fieldAddr (off := 0) Tryz.underlying24 rfl rfl Tryz.sizeOf22 rfl (.tmp rfl)) rfl rfl ?_
  refine HW.p (PEv.load Tryz.isAgg22 (.tmp rfl) ((hS.blk 0 rfl).cell h0)) rfl rfl ?_
  refine HW.p (PEv.fieldAddr (off := 0) Tryz.underlying24 rfl rfl Tryz.sizeOf22 rfl (.tmp rfl)) rfl rfl ?_
  refine HW.p (PEv.load Tryz.isAgg22 (.tmp rfl) ((hS.blk 0 rfl).cell h0)) rfl rfl ?_
  refine HW.p (PEv.lenS Tryz.underlying22 (.tmp rfl)) rfl rfl ?_
  refine HW.p (PEv.min2N (j := 12) (.tmp rfl) (.const _)) rfl rfl ?_
  refine HW.p (PEv.sliceHi Tryz.underlying22 Tryz.sizeOf46 (.tmp rfl) (.tmp rfl) (by have := hk0.1; omega)) rfl rfl ?_
  refine HW.p (PEv.fieldAddr (off := 2) Tryz.underlying24 rfl rfl Tryz.sizeOf22 rfl (.tmp rfl)) rfl rfl ?_
  refine HW.p (PEv.load Tryz.isAgg22 (.tmp rfl) ((hS.blk 0 rfl).cell h2)) rfl rfl ?_
  refine HW.p (PEv.fieldAddr (off := 2) Tryz.underlying24 rfl rfl Tryz.sizeOf22 rfl (.tmp rfl)) rfl rfl ?_
  refine HW.p (PEv.load Tryz.isAgg22 (.tmp rfl) ((hS.blk 0 rfl).cell h2)) rfl rfl ?_
  refine HW.p (PEv.lenS Tryz.underlying22 (.tmp rfl)) rfl rfl ?_
  refine HW.p (PEv.min2N (j := 12) (.tmp rfl) (.const _)) rfl rfl ?_
  refine HW.p (PEv.sliceHi Tryz.underlying22 Tryz.sizeOf46 (.tmp rfl) (.tmp rfl) (by have := hk2.1; omega)) rfl rfl ?_
  refine HW.p (PEv.fieldAddr (off := 3) Tryz.underlying24 rfl rfl Tryz.sizeOf22 rfl (.tmp rfl)) rfl rfl ?_
  refine HW.p (PEv.load Tryz.isAgg22 (.tmp rfl) ((hS.blk 0 rfl).cell h3)) rfl rfl ?_
  refine HW.p (PEv.fieldAddr (off := 3) Tryz.underlying24 rfl rfl Tryz.sizeOf22 rfl (.tmp rfl)) rfl rfl ?_
  refine HW.p (PEv.load Tryz.isAgg22 (.tmp rfl) ((hS.blk 0 rfl).cell h3)) rfl rfl ?_
  refine HW.p (PEv.lenS Tryz.underlying22 (.tmp rfl)) rfl rfl ?_
  refine HW.p (PEv.min2N (j := 12) (.tmp rfl) (.const _)) rfl rfl ?_
  refine HW.p (PEv.sliceHi Tryz.underlying22 Tryz.sizeOf46 (.tmp rfl) (.tmp rfl) (by have := hk3.1; omega)) rfl rfl ?_
  refine HW.p (PEv.build (cs := #[.slice ad0 (min b.Processes.length 12) cp0, .slice none 0 0, .slice ad2 (min b.Swaps.length 12) cp2, .slice ad3 (min b.Lots.length 12) cp3, .slice none 0 0, .slice none 0 0, .slice none 0 0, .slice none 0 0, .slice none 0 0, .slice none 0 0, .slice none 0 0]) Tryz.underlying24 Tryz.zeroValue24 Tryz.places24 (.cons (.tmp rfl) (.cons (.tmp rfl) (.cons (.tmp rfl) .nil))) rfl) rfl rfl ?_
  refine HW.nil ?_
  intro w3 uw3
  have zw3 := uw3.size
  replace hS := hS.up uw3
  refine LW.s (SEv.storeA Tryz.sizeOf24 rfl (.tmp rfl) (.tmp rfl) (by simp [Value.oneCell']) (hS.blk 1 rfl) rfl) rfl rfl rfl ?_
  intro w4 Nw4
  have zw4 := Nw4.size
  replace hS := hS.putB 1 rfl Nw4
  change Wx.Sep _ _ _ [_, _] at hS
  refine LW.nil (KW.then (CW.ret ?_))
  refine KW.retA rfl rfl Tryz.isAgg24 Tryz.sizeOf24 rfl ((hS.blk 1 rfl).agg) ⟨_, rfl, ?_⟩
  exact ⟨_, rfl, ⟨_, _, _, _, _, _, _, _, _, _, _, rfl, sl_take _ (Els.up hE0 hS.upd), Sl.nil _ _ _, sl_take _ (Els.up hE2 hS.upd), sl_take _ (Els.up hE3 hS.upd), Sl.nil _ _ _, Sl.nil _ _ _, Sl.nil _ _ _, Sl.nil _ _ _, Sl.nil _ _ _, Sl.nil _ _ _, Sl.nil _ _ _⟩, hS.upd⟩
set_option maxHeartbeats 4000000 in
theorem GenealogyMatchesReference_any (bc : Array Go.Value) (b0 : Base) (ad : Option Addr) (cp : Nat) (xs : List I6) (day wafer lot time : Int) (w : World) (hC0 : BaseC w bc b0) (hK0 : BaseK bc) (hE1 : Els w ad 6 I6.cells xs) : Ret Tryz.prog 3 #[.agg bc, .slice ad xs.length cp, vi day, vi wafer, vi lot, vi time] w fun r w' => r = .bool true ∧ Up w w' := by
  have hW := Up.refl w
  refine Calls_start (n := 121) (m := 9) Tryz.func3 rfl rfl rfl ?_
  refine CW.seq (CW.region ?_)
  refine LW.r (REv.boxA (.tmp rfl)) rfl rfl rfl rfl ?_
  rintro _ w1 ⟨B6, rfl, NB6⟩
  have eB6 := NB6.at_
  have zB6 := NB6.size
  replace hC0 := hC0.up NB6.up
  replace hW := hW.up NB6.up
  have hB6 := NB6.blk
  refine LW.p (PEv.assign (.const _)) rfl rfl rfl (LW.nil (KW.then (CW.seq (CW.region ?_))))
  refine LW.c (enter_call0 .nil (Tryz.en11)) rfl rfl rfl rfl (sane_any _) ?_
  rintro _ w2 ⟨rfl, uw2⟩
  have zw2 := uw2.size
  replace hC0 := hC0.up uw2
  replace hW := hW.up uw2
  replace hB6 := hB6.up uw2
  refine LW.p (PEv.assign (.tmp rfl)) rfl rfl rfl (LW.nil (KW.then (CW.seq (CW.seq (CW.region ?_)))))
  refine LW.p (PEv.loadA Tryz.isAgg24 Tryz.sizeOf24 (hC0.size) (.tmp rfl) (hB6.agg)) rfl rfl rfl ?_
  refine LW.c (enter_call0 (.cons (.tmp rfl) .nil) (Tryz.en12)) rfl rfl rfl rfl (few17_any bc b0 _ hC0 hK0) ?_
  rintro _ w3 ⟨bc1, rfl, hC1, uw3⟩
  have zw3 := uw3.size
  replace hC0 := hC0.up uw3
  replace hW := hW.up uw3
  replace hB6 := hB6.up uw3
  refine LW.p (PEv.move (.tmp rfl)) rfl rfl rfl ?_
  refine LW.c (enter_call0 (.cons (.tmp rfl) .nil) (Tryz.en14)) rfl rfl rfl rfl (Some_any ad cp xs _ (Els.up hE1 hW)) ?_
  rintro v26 w4 ⟨hO26, uw4⟩
  have zw4 := uw4.size
  replace hC0 := hC0.up uw4
  replace hW := hW.up uw4
  replace hB6 := hB6.up uw4
  replace hC1 := hC1.up uw4
  obtain ⟨ad26, cp26, rfl, hE26⟩ := hO26.sl (fun _ => rfl)
  clear hO26
  replace hE26 : Els w4 ad26 19 Fact.cells (someL xs) := hE26
  have hlx := someL_len xs
  refine LW.p (PEv.move (.tmp rfl)) rfl rfl rfl ?_
  refine LW.c (enter_call0 (.cons (.tmp rfl) (.cons (.const _) .nil)) (Tryz.en15)) rfl rfl rfl rfl (pick_any _ _ _ (by decide)) ?_
  rintro _ w5 ⟨rfl, uw5⟩
  have zw5 := uw5.size
  replace hC0 := hC0.up uw5
  replace hW := hW.up uw5
  replace hB6 := hB6.up uw5
  replace hC1 := hC1.up uw5
  replace hE26 := hE26.up uw5
  refine LW.c (enter_call0 (.cons (.tmp rfl) (.cons (.tmp rfl) .nil)) (Tryz.en13)) rfl rfl rfl rfl (Of_any ad26 cp26 (someL xs) _ _ hE26 (by omega)) ?_
  rintro _ w6 ⟨bc2, rfl, hC2, uw6⟩
  have zw6 := uw6.size
  replace hC0 := hC0.up uw6
  replace hW := hW.up uw6
  replace hB6 := hB6.up uw6
  replace hC1 := hC1.up uw6
  replace hE26 := hE26.up uw6
  have hsz1 := hC1.size
  have hon1 := hC1.one
  have hsz2 := hC2.size
  have hon2 := hC2.one
  refine LW.r (REv.buildSlice (xs := ([⟨bc1, hsz1, hon1⟩, ⟨bc2, hsz2, hon2⟩] : List BA)) (enc := BA.cells) (mk := fun a : BA => .agg a.1) Tryz.underlying31 Tryz.sizeOf24 Tryz.zeroValue24 rfl (by decide) (fun _ => rfl) (fun a => a.2.1) (.cons (.tmp rfl) (.cons (.tmp rfl) .nil)) rfl) rfl rfl rfl rfl ?_
  rintro _ w7 ⟨B30, cB30, rfl, NB30, yB30, xB30⟩
  have eB30 := NB30.at_
  have zB30 := NB30.size
  replace hC0 := hC0.up NB30.up
  replace hW := hW.up NB30.up
  replace hB6 := hB6.up NB30.up
  replace hC1 := hC1.up NB30.up
  replace hE26 := hE26.up NB30.up
  replace hC2 := hC2.up NB30.up
  have hE30 := xB30
  refine LW.p (PEv.lenS Tryz.underlying31 (.tmp rfl)) rfl rfl rfl ?_
  refine LW.p (PEv.move (.const _)) rfl rfl rfl ?_
  refine LW.nil (KW.then (CW.block ?_))
  refine CW.loopB (σ := Nat) (fun s w => (s ≤ 2) ∧ (Up w7 w)) (fun s => [(32, .eq (vi (s : Int)))]) ([(3, .eq _), (4, .eq _), (5, .eq _), (13, .eq _), (30, .eq _), (31, .eq _)]) (fun s => 2 - s) 0 ?_ ⟨rfl, rfl, rfl, rfl, rfl, rfl, rfl, trivial⟩ ?_
  ·exact ⟨Nat.zero_le _, Up.refl _⟩
  ·rintro k w8 ⟨hk, hL1⟩
   have zzw8 := hL1.size
   replace hC0 := hC0.up hL1
   replace hW := hW.up hL1
   replace hB6 := hB6.up hL1
   replace hC1 := hC1.up hL1
   replace hE26 := hE26.up hL1
   replace hC2 := hC2.up hL1
   replace hE30 := hE30.up hL1
   refine CW.seq (CW.region ?_)
   refine LW.p (PEv.lss (.tmp rfl) (.tmp rfl)) rfl rfl rfl ?_
   refine LW.nil (KW.then (CW.seq ?_))
   refine CW.cond (.tmp rfl) (fun h33 => ?_) (fun h33 => ?_)
   ·first | replace h33 := of_decide_eq_true h33 | replace h33 := of_decide_eq_false h33 | skip
    have hk2 : k < 2 := Int.ofNat_lt.1 h33
    refine CW.skip (KW.then (CW.seq (CW.block (CW.seq ?_))))
    obtain ⟨a, ha⟩ := getElem?_of_lt (xs := ([⟨bc1, hsz1, hon1⟩, ⟨bc2, hsz2, hon2⟩] : List BA)) (i := k) hk2
    obtain ⟨Ba, oa, aa, hca⟩ := hE30 k a ha
    obtain ⟨b, hCb, hSh⟩ : ∃ b, BaseC w8 a.1 b ∧ short b := by
     rcases List.mem_cons.1 (List.mem_of_getElem? ha) with e | e
     · rw [e]; exact ⟨_, hC1, fewB_short b0⟩
     · rw [List.mem_singleton.1 e]; exact ⟨_, hC2, ofB_short (by omega) _⟩
    have hsz := a.2.1
    have hone := a.2.2
    replace hca : AggAt w8 Ba (oa + k * 11) a.1 := hca
    obtain ⟨bcx, ebc⟩ : ∃ c, c = a.1 := ⟨_, rfl⟩
    rw [← ebc] at hCb hsz hone hca
    refine CW.region ?_
    refine LW.p (PEv.indexAddr' Tryz.underlying31 Tryz.sizeOf24 (.tmp rfl) (.tmp rfl) (by omega) aa) rfl rfl rfl ?_
    refine LW.p (PEv.loadA Tryz.isAgg24 Tryz.sizeOf24 (hsz) (.tmp rfl) (hca)) rfl rfl rfl ?_
    refine LW.r (REv.allocA Tryz.zeroValue24) rfl rfl rfl rfl ?_
    rintro _ w9 ⟨B15, rfl, MB15⟩
    refine LW.s (SEv.storeA Tryz.sizeOf24 hsz (.tmp rfl) (.tmp rfl) hone MB15.blk rfl) rfl rfl rfl ?_
    intro w10 LB15
    have NB15 := MB15.set LB15
    clear LB15 MB15
    have eB15 := NB15.at_
    have zB15 := NB15.size
    replace hW := hW.up NB15.up
    replace hC1 := hC1.up NB15.up
    replace hC2 := hC2.up NB15.up
    replace hE30 := hE30.up NB15.up
    replace hL1 := hL1.up NB15.up
    replace hCb := hCb.up NB15.up
    replace hca := hca.up NB15.up
    have hB15 := NB15.blk
    refine LW.nil (KW.then (CW.seq (CW.seq ?_)))
    skip
    refine CW.region (LW.p (PEv.move (.tmp rfl)) rfl rfl rfl (LW.p (PEv.move (.tmp rfl)) rfl rfl rfl ?_))
    refine LW.c (enter_call0 (.cons (.tmp rfl) (.cons (.const _) .nil)) (Tryz.en15)) rfl rfl rfl rfl (pick_any _ _ _ (by decide)) ?_
    rintro _ w11 ⟨rfl, uw11⟩
    have zw11 := uw11.size
    replace hW := hW.up uw11
    replace hC1 := hC1.up uw11
    replace hC2 := hC2.up uw11
    replace hE30 := hE30.up uw11
    replace hL1 := hL1.up uw11
    replace hCb := hCb.up uw11
    replace hB15 := hB15.up uw11
    refine LW.p (PEv.add_w (.const _) (.tmp rfl)) rfl rfl rfl ?_
    refine LW.r (REv.buildSlice (xs := ([wafer, wI (1 + pickI wafer 6)] : List Int)) (enc := eInt) (mk := vi) Tryz.underlying32 Tryz.sizeOf3 Tryz.zeroValue3 rfl (by decide) (fun _ => rfl) (fun _ => rfl) (.cons (.tmp rfl) (.cons (.tmp rfl) .nil)) rfl) rfl rfl rfl rfl ?_
    rintro _ w12 ⟨B40, cB40, rfl, NB40, yB40, xB40⟩
    have eB40 := NB40.at_
    have zB40 := NB40.size
    replace hW := hW.up NB40.up
    replace hC1 := hC1.up NB40.up
    replace hC2 := hC2.up NB40.up
    replace hE30 := hE30.up NB40.up
    replace hL1 := hL1.up NB40.up
    replace hCb := hCb.up NB40.up
    replace hB15 := hB15.up NB40.up
    have hB40 := NB40.blk
    have hE40 := xB40
    refine LW.p (PEv.lenS Tryz.underlying32 (.tmp rfl)) rfl rfl rfl ?_
    refine LW.p (PEv.move (.const _)) rfl rfl rfl ?_
    refine LW.nil (KW.then (CW.block ?_))
    refine CW.loopB (σ := Nat) (fun s w => (s ≤ 2) ∧ (Up w12 w)) (fun s => [(42, .eq (vi (s : Int)))]) ([(3, .eq _), (4, .eq _), (5, .eq _), (13, .eq _), (15, .eq _), (30, .eq _), (31, .eq _), (32, .eq _), (40, .eq _), (41, .eq _)]) (fun s => 2 - s) 0 ?_ ⟨rfl, rfl, rfl, rfl, rfl, rfl, rfl, rfl, rfl, rfl, rfl, trivial⟩ ?_
    ·exact ⟨Nat.zero_le _, Up.refl _⟩
    ·rintro j w13 ⟨hj, hL2⟩
     have zzw13 := hL2.size
     replace hW := hW.up hL2
     replace hC1 := hC1.up hL2
     replace hC2 := hC2.up hL2
     replace hE30 := hE30.up hL2
     replace hL1 := hL1.up hL2
     replace hCb := hCb.up hL2
     replace hB15 := hB15.up hL2
     replace hB40 := hB40.up hL2
     replace hE40 := hE40.up hL2
     refine CW.seq (CW.region ?_)
     refine LW.p (PEv.lss (.tmp rfl) (.tmp rfl)) rfl rfl rfl ?_
     refine LW.nil (KW.then (CW.seq ?_))
     refine CW.cond (.tmp rfl) (fun h43 => ?_) (fun h43 => ?_)
     ·first | replace h43 := of_decide_eq_true h43 | replace h43 := of_decide_eq_false h43 | skip
      have hj2 : j < 2 := Int.ofNat_lt.1 h43
      refine CW.skip (KW.then (CW.seq (CW.block (CW.seq ?_))))
      obtain ⟨wf, hf⟩ := getElem?_of_lt (xs := ([wafer, wI (1 + pickI wafer 6)] : List Int)) (i := j) hj2
      obtain ⟨Bf, of, af, hcf⟩ := hE40 j wf hf
      refine CW.region ?_
      refine LW.p (PEv.indexAddr' Tryz.underlying32 Tryz.sizeOf3 (.tmp rfl) (.tmp rfl) (by omega) af) rfl rfl rfl ?_
      refine LW.p (PEv.load Tryz.isAgg3 (.tmp rfl) (hcf.nth (j := 0) rfl)) rfl rfl rfl ?_
      refine LW.p (PEv.assign (.tmp rfl)) rfl rfl rfl (LW.nil (KW.then (CW.seq (CW.region ?_))))
      refine LW.p (PEv.loadA Tryz.isAgg24 Tryz.sizeOf24 (hsz) (.tmp rfl) (hB15.agg)) rfl rfl rfl ?_
      refine LW.p (PEv.move (.tmp rfl)) rfl rfl rfl (LW.p (PEv.move (.tmp rfl)) rfl rfl rfl ?_)
      refine LW.c (enter_call0 (.cons (.tmp rfl) (.cons (.tmp rfl) (.cons (.tmp rfl) .nil))) (Tryz.en16)) rfl rfl rfl rfl (lot_any bcx b wf time _ hCb (Nat.lt_of_le_of_lt (hSh 3) (by decide))) ?_
      rintro _ w14 ⟨rfl, uw14⟩
      have zw14 := uw14.size
      replace hW := hW.up uw14
      replace hC1 := hC1.up uw14
      replace hC2 := hC2.up uw14
      replace hE30 := hE30.up uw14
      replace hL1 := hL1.up uw14
      replace hCb := hCb.up uw14
      replace hB15 := hB15.up uw14
      replace hB40 := hB40.up uw14
      replace hE40 := hE40.up uw14
      replace hL2 := hL2.up uw14
      refine LW.p (PEv.move (.tmp rfl)) rfl rfl rfl (LW.p (PEv.extract (.tmp rfl) rfl) rfl rfl rfl (LW.p (PEv.extract (.tmp rfl) rfl) rfl rfl rfl (LW.p (PEv.assign (.tmp rfl)) rfl rfl rfl (LW.p (PEv.assign (.tmp rfl)) rfl rfl rfl (LW.nil (KW.then (CW.seq (CW.region ?_))))))))
      refine LW.p (PEv.loadA Tryz.isAgg24 Tryz.sizeOf24 (hsz) (.tmp rfl) (hB15.agg)) rfl rfl rfl ?_
      refine LW.p (PEv.move (.tmp rfl)) rfl rfl rfl (LW.p (PEv.move (.tmp rfl)) rfl rfl rfl ?_)
      refine LW.c (enter_call0 (.cons (.tmp rfl) (.cons (.tmp rfl) (.cons (.tmp rfl) .nil))) (Tryz.en17)) rfl rfl rfl rfl (rlot_any bcx b wf time _ hCb (Nat.le_trans (hSh 3) (by decide))) ?_
      rintro _ w15 ⟨rfl, uw15⟩
      have zw15 := uw15.size
      replace hW := hW.up uw15
      replace hC1 := hC1.up uw15
      replace hC2 := hC2.up uw15
      replace hE30 := hE30.up uw15
      replace hL1 := hL1.up uw15
      replace hCb := hCb.up uw15
      replace hB15 := hB15.up uw15
      replace hB40 := hB40.up uw15
      replace hE40 := hE40.up uw15
      replace hL2 := hL2.up uw15
      refine LW.p (PEv.move (.tmp rfl)) rfl rfl rfl (LW.p (PEv.extract (.tmp rfl) rfl) rfl rfl rfl (LW.p (PEv.extract (.tmp rfl) rfl) rfl rfl rfl (LW.p (PEv.assign (.tmp rfl)) rfl rfl rfl (LW.p (PEv.assign (.tmp rfl)) rfl rfl rfl (LW.nil (KW.then (CW.seq ?_)))))))
      refine CW.draws (by kernel_rfl) (by kernel_rfl) rfl rfl ?_
      refine HW.p (PEv.loadA Tryz.isAgg24 Tryz.sizeOf24 (hsz) (.tmp rfl) (hB15.agg)) rfl rfl ?_
      refine HW.p (PEv.move (.tmp rfl)) rfl rfl ?_
      refine HW.p (PEv.move (.tmp rfl)) rfl rfl ?_
      refine HW.c (fun a w _ ha => enter_call0 (.cons (.tmp rfl) (.cons (.tmp rfl) (.cons (.tmp rfl) .nil))) (Tryz.en18) a ha) rfl rfl (fun w hu => Who_any bcx b wf time w (hCb.up hu) (Nat.le_trans (hSh 2) (by decide))) ?_
      refine HW.p (PEv.loadA Tryz.isAgg24 Tryz.sizeOf24 (hsz) (.tmp rfl) (hB15.agg)) rfl rfl ?_
      refine HW.p (PEv.move (.tmp rfl)) rfl rfl ?_
      refine HW.p (PEv.move (.tmp rfl)) rfl rfl ?_
      refine HW.c (fun a w _ ha => enter_call0 (.cons (.tmp rfl) (.cons (.tmp rfl) (.cons (.tmp rfl) .nil))) (Tryz.en19) a ha) rfl rfl (fun w hu => rWho_any bcx b wf time w (hCb.up hu) (Nat.le_trans (hSh 2) (by decide))) ?_
      refine HW.p (PEv.fa (PEv.neq (.tmp rfl) (.tmp rfl)) (by simp)) rfl rfl ?_
      refine HW.p (PEv.move (.tmp rfl)) rfl rfl ?_
      refine HW.yp rfl rfl rfl rfl rfl (PEv.loadA Tryz.isAgg24 Tryz.sizeOf24 (hsz) (.tmp rfl) (hB15.agg)) rfl ?_
      refine HW.yp rfl rfl rfl rfl rfl (PEv.move (.tmp rfl)) rfl ?_
      refine HW.yp rfl rfl rfl rfl rfl (PEv.move (.tmp rfl)) rfl ?_
      refine HW.yc rfl rfl rfl rfl rfl (fun a w _ ha => enter_call0 (.cons (.tmp rfl) (.cons (.tmp rfl) (.cons (.tmp rfl) .nil))) (Tryz.en20) a ha) rfl (fun w hu => Mark_any bcx b wf time w (hCb.up hu) (Nat.le_trans (hSh 2) (by decide))) ?_
      refine HW.yp rfl rfl rfl rfl rfl (PEv.loadA Tryz.isAgg24 Tryz.sizeOf24 (hsz) (.tmp rfl) (hB15.agg)) rfl ?_
      refine HW.yp rfl rfl rfl rfl rfl (PEv.move (.tmp rfl)) rfl ?_
      refine HW.yp rfl rfl rfl rfl rfl (PEv.move (.tmp rfl)) rfl ?_
      refine HW.yc rfl rfl rfl rfl rfl (fun a w _ ha => enter_call0 (.cons (.tmp rfl) (.cons (.tmp rfl) (.cons (.tmp rfl) .nil))) (Tryz.en21) a ha) rfl (fun w hu => rMark_any bcx b wf time w (hCb.up hu) (Nat.le_trans (hSh 2) (by decide))) ?_
      refine HW.yp rfl rfl rfl rfl rfl (PEv.fa (PEv.neq (.tmp rfl) (.tmp rfl)) (by simp)) rfl ?_
      refine HW.p (PEv.pick_or (.tmp rfl) (fun hp => (by first | exact .const _ | exact .tmp rfl | exact .cond rfl (by first | assumption | (rw [hp]; rfl) | (rw [hc, hp]; rfl) | simp_all)))) rfl rfl ?_
      refine HW.p (PEv.move (.tmp rfl)) rfl rfl ?_
      refine HW.yp rfl rfl rfl rfl rfl (PEv.loadA Tryz.isAgg24 Tryz.sizeOf24 (hsz) (.tmp rfl) (hB15.agg)) rfl ?_
      refine HW.yp rfl rfl rfl rfl rfl (PEv.move (.tmp rfl)) rfl ?_
      refine HW.yqc (ph := .pred fun v w => Sl w v 19 Fact.cells (histL b.Processes b.Swaps wf)) (fun _ _ _ h u => Sl.up h u) rfl rfl rfl rfl rfl (fun a w hu ha => ⟨_, _, enter_call0 (.cons (.tmp rfl) (.cons (.tmp rfl) .nil)) (Tryz.en23) a ha, (History_any bcx b wf w (hCb.up hu) (Nat.le_trans (hSh 2) (by decide)) (Nat.le_trans (hSh 0) (by decide))).mono fun v w' h => ⟨h.2, h.1.sl (fun _ => rfl)⟩⟩) rfl ?_
      refine HW.yp rfl rfl rfl rfl rfl (PEv.loadA Tryz.isAgg24 Tryz.sizeOf24 (hsz) (.tmp rfl) (hB15.agg)) rfl ?_
      refine HW.yp rfl rfl rfl rfl rfl (PEv.move (.tmp rfl)) rfl ?_
      refine HW.yqc (ph := .pred fun v w => Sl w v 19 Fact.cells (histL b.Processes b.Swaps wf)) (fun _ _ _ h u => Sl.up h u) rfl rfl rfl rfl rfl (fun a w hu ha => ⟨_, _, enter_call0 (.cons (.tmp rfl) (.cons (.tmp rfl) .nil)) (Tryz.en24) a ha, (rHistory_any bcx b wf w (hCb.up hu) (Nat.le_trans (hSh 2) (by decide)) (Nat.le_trans (hSh 0) (by decide))).mono fun v w' h => ⟨h.2, h.1.sl (fun _ => rfl)⟩⟩) rfl ?_
      refine HW.yqc (ph := .eq (.bool true)) (phUp.eq _) rfl rfl rfl rfl rfl (fun a w hu ha => ⟨_, _, enter_any2 Tryz.en22 a w, (sameFacts_v (a.eval (.tmp 83)) (a.eval (.tmp 86)) (histL b.Processes b.Swaps wf) (histL b.Processes b.Swaps wf) w (ha.known (p := fun v w => Sl w v 19 Fact.cells (histL b.Processes b.Swaps wf)) rfl) (ha.known (p := fun v w => Sl w v 19 Fact.cells (histL b.Processes b.Swaps wf)) rfl) (Nat.le_trans (histL_len _ _ _) (hSh 0))).mono fun _ _ h => ⟨h.2, h.1.trans (by rw [eqFs_refl])⟩⟩) rfl ?_
      refine HW.yp rfl rfl rfl rfl rfl (PEv.fa (PEv.not (.tmp rfl)) (rfl)) rfl ?_
      refine HW.p (PEv.pick_or (.tmp rfl) (fun hp => (by first | exact .const _ | exact .tmp rfl | exact .cond rfl (by first | assumption | (rw [hp]; rfl) | (rw [hc, hp]; rfl) | simp_all)))) rfl rfl ?_
      refine HW.p (PEv.move (.tmp rfl)) rfl rfl ?_
      refine HW.yp rfl rfl rfl rfl rfl (PEv.move (.tmp rfl)) rfl ?_
      refine HW.yp rfl rfl rfl rfl rfl (PEv.move (.tmp rfl)) rfl ?_
      refine HW.yp rfl rfl rfl rfl rfl (PEv.fa (PEv.neq (.tmp rfl) (.tmp rfl)) (by simp)) rfl ?_
      refine HW.p (PEv.pick_or (.tmp rfl) (fun hp => (by first | exact .const _ | exact .tmp rfl | exact .cond rfl (by first | assumption | (rw [hp]; rfl) | (rw [hc, hp]; rfl) | simp_all)))) rfl rfl ?_
      refine HW.p (PEv.move (.tmp rfl)) rfl rfl ?_
      refine HW.yp rfl rfl rfl rfl rfl (PEv.move (.tmp rfl)) rfl ?_
      refine HW.yp rfl rfl rfl rfl rfl (PEv.move (.tmp rfl)) rfl ?_
      refine HW.yp rfl rfl rfl rfl rfl (PEv.fa (PEv.neq (.tmp rfl) (.tmp rfl)) (by simp)) rfl ?_
      refine HW.p (PEv.pick_or (.tmp rfl) (fun hp => (by first | exact .const _ | exact .tmp rfl | exact .cond rfl (by first | assumption | (rw [hp]; rfl) | (rw [hc, hp]; rfl) | simp_all)))) rfl rfl ?_
      refine HW.nil ?_
      intro w16 uw16
      have zw16 := uw16.size
      replace hW := hW.up uw16
      replace hC1 := hC1.up uw16
      replace hC2 := hC2.up uw16
      replace hE30 := hE30.up uw16
      replace hL1 := hL1.up uw16
      replace hCb := hCb.up uw16
      replace hB15 := hB15.up uw16
      replace hB40 := hB40.up uw16
      replace hE40 := hE40.up uw16
      replace hL2 := hL2.up uw16
      refine KW.then ?_
      refine CW.cond_false (.tmp rfl) ?_
      refine CW.skip (KW.inBlock (KW.then (CW.region ?_)))
      refine LW.p (PEv.inc (.tmp rfl) (by omega)) rfl rfl rfl ?_
      refine LW.p (PEv.move (.tmp rfl)) rfl rfl rfl (LW.nil (KW.round ?_))
      exact ⟨j + 1, ⟨by omega, hL2⟩, ⟨rfl, rfl, rfl, rfl, rfl, rfl, rfl, rfl, rfl, rfl, rfl, trivial⟩, by first | omega | (dsimp only; omega)⟩
     ·first | replace h43 := of_decide_eq_true h43 | replace h43 := of_decide_eq_false h43 | skip
      refine CW.exit (KW.then_exit (KW.then_exit (KW.block_hit (KW.then (CW.seq ?_)))))
      refine CW.draws (by kernel_rfl) (by kernel_rfl) rfl rfl ?_
      refine HW.p (PEv.loadA Tryz.isAgg24 Tryz.sizeOf24 (hsz) (.tmp rfl) (hB15.agg)) rfl rfl ?_
      refine HW.p (PEv.move (.tmp rfl)) rfl rfl ?_
      refine HW.p (PEv.move (.tmp rfl)) rfl rfl ?_
      refine HW.qc (ph := .pred fun v w => Sl w v 1 eInt (membersL b.Lots lot time)) (fun _ _ _ h u => Sl.up h u) rfl (fun a w hu ha => ⟨_, _, enter_call0 (.cons (.tmp rfl) (.cons (.tmp rfl) (.cons (.tmp rfl) .nil))) (Tryz.en26) a ha, (Members_any bcx b lot time w (hCb.up hu) (Nat.le_trans (hSh 3) (by decide))).mono fun v w' h => ⟨h.2, h.1.sl (fun _ => rfl)⟩⟩) rfl ?_
      refine HW.p (PEv.loadA Tryz.isAgg24 Tryz.sizeOf24 (hsz) (.tmp rfl) (hB15.agg)) rfl rfl ?_
      refine HW.p (PEv.move (.tmp rfl)) rfl rfl ?_
      refine HW.p (PEv.move (.tmp rfl)) rfl rfl ?_
      refine HW.qc (ph := .pred fun v w => Sl w v 1 eInt (membersL b.Lots lot time)) (fun _ _ _ h u => Sl.up h u) rfl (fun a w hu ha => ⟨_, _, enter_call0 (.cons (.tmp rfl) (.cons (.tmp rfl) (.cons (.tmp rfl) .nil))) (Tryz.en27) a ha, (rMembers_any bcx b lot time w (hCb.up hu) (Nat.le_trans (hSh 3) (by decide))).mono fun v w' h => ⟨h.2, h.1⟩⟩) rfl ?_
      refine HW.qc (ph := .eq (.bool true)) (phUp.eq _) rfl (fun a w hu ha => ⟨_, _, enter_any2 Tryz.en25 a w, (sameInts_any (a.eval (.tmp 104)) (a.eval (.tmp 108)) (membersL b.Lots lot time) (membersL b.Lots lot time) w (ha.known (p := fun v w => Sl w v 1 eInt (membersL b.Lots lot time)) rfl) (ha.known (p := fun v w => Sl w v 1 eInt (membersL b.Lots lot time)) rfl) (by have h1 := memK_len2 b.Lots lot time; have h2 : b.Lots.length ≤ 100000 := hSh 3; omega) (by have h1 := memK_len2 b.Lots lot time; have h2 : b.Lots.length ≤ 100000 := hSh 3; omega)).mono fun _ _ h => ⟨h.2, h.1.trans (by rw [decide_eq_true rfl])⟩⟩) rfl ?_
      refine HW.p (PEv.fa (PEv.not (.tmp rfl)) (rfl)) rfl rfl ?_
      refine HW.p (PEv.move (.tmp rfl)) rfl rfl ?_
      refine HW.yp rfl rfl rfl rfl rfl (PEv.loadA Tryz.isAgg24 Tryz.sizeOf24 (hsz) (.tmp rfl) (hB15.agg)) rfl ?_
      refine HW.yqc (ph := .pred fun v w => Sl w v 1 eInt (wafersL b.Lots b.Processes b.Swaps)) (fun _ _ _ h u => Sl.up h u) rfl rfl rfl rfl rfl (fun a w hu ha => ⟨_, _, enter_call0 (.cons (.tmp rfl) .nil) (Tryz.en28) a ha, (Wafers_any bcx b w (hCb.up hu) (Nat.le_trans (hSh 2) (by decide)) (by have h1 : b.Lots.length ≤ 100000 := hSh 3; have h2 : b.Processes.length ≤ 100000 := hSh 0; omega)).mono fun v w' h => ⟨h.2, h.1.sl (fun _ => rfl)⟩⟩) rfl ?_
      refine HW.yp rfl rfl rfl rfl rfl (PEv.loadA Tryz.isAgg24 Tryz.sizeOf24 (hsz) (.tmp rfl) (hB15.agg)) rfl ?_
      refine HW.yqc (ph := .pred fun v w => Sl w v 1 eInt (wafersL b.Lots b.Processes b.Swaps)) (fun _ _ _ h u => Sl.up h u) rfl rfl rfl rfl rfl (fun a w hu ha => ⟨_, _, enter_call0 (.cons (.tmp rfl) .nil) (Tryz.en29) a ha, (rWafers_any bcx b w (hCb.up hu) (Nat.le_trans (hSh 2) (by decide)) (Nat.le_trans (hSh 3) (by decide)) (Nat.le_trans (hSh 0) (by decide))).mono fun v w' h => ⟨h.2, h.1⟩⟩) rfl ?_
      refine HW.yqc (ph := .eq (.bool true)) (phUp.eq _) rfl rfl rfl rfl rfl (fun a w hu ha => ⟨_, _, enter_any2 Tryz.en25 a w, (sameInts_any (a.eval (.tmp 113)) (a.eval (.tmp 115)) (wafersL b.Lots b.Processes b.Swaps) (wafersL b.Lots b.Processes b.Swaps) w (ha.known (p := fun v w => Sl w v 1 eInt (wafersL b.Lots b.Processes b.Swaps)) rfl) (ha.known (p := fun v w => Sl w v 1 eInt (wafersL b.Lots b.Processes b.Swaps)) rfl) (by have h1 := wafersL_len b.Lots b.Processes b.Swaps; have h2 : b.Lots.length ≤ 100000 := hSh 3; have h3 : b.Processes.length ≤ 100000 := hSh 0; omega) (by have h1 := wafersL_len b.Lots b.Processes b.Swaps; have h2 : b.Lots.length ≤ 100000 := hSh 3; have h3 : b.Processes.length ≤ 100000 := hSh 0; omega)).mono fun _ _ h => ⟨h.2, h.1.trans (by rw [decide_eq_true rfl])⟩⟩) rfl ?_
      refine HW.yp rfl rfl rfl rfl rfl (PEv.fa (PEv.not (.tmp rfl)) (rfl)) rfl ?_
      refine HW.p (PEv.pick_or (.tmp rfl) (fun hp => (by first | exact .const _ | exact .tmp rfl | exact .cond rfl (by first | assumption | (rw [hp]; rfl) | (rw [hc, hp]; rfl) | simp_all)))) rfl rfl ?_
      refine HW.nil ?_
      intro w17 uw17
      have zw17 := uw17.size
      replace hW := hW.up uw17
      replace hC1 := hC1.up uw17
      replace hC2 := hC2.up uw17
      replace hE30 := hE30.up uw17
      replace hL1 := hL1.up uw17
      replace hCb := hCb.up uw17
      replace hB15 := hB15.up uw17
      replace hB40 := hB40.up uw17
      replace hE40 := hE40.up uw17
      replace hL2 := hL2.up uw17
      refine KW.then ?_
      refine CW.cond_false (.tmp rfl) ?_
      refine CW.skip (KW.inBlock (KW.then (CW.region ?_)))
      refine LW.p (PEv.inc (.tmp rfl) (by omega)) rfl rfl rfl ?_
      refine LW.p (PEv.move (.tmp rfl)) rfl rfl rfl (LW.nil (KW.round ?_))
      exact ⟨k + 1, ⟨by omega, hL1⟩, ⟨rfl, rfl, rfl, rfl, rfl, rfl, rfl, trivial⟩, by first | omega | (dsimp only; omega)⟩
   ·first | replace h33 := of_decide_eq_true h33 | replace h33 := of_decide_eq_false h33 | skip
    refine CW.exit (KW.then_exit (KW.then_exit (KW.block_hit (KW.then (CW.seq (CW.region (LW.p (PEv.move (.tmp rfl)) rfl rfl rfl (LW.p (PEv.assign (.tmp rfl)) rfl rfl rfl (LW.nil (KW.then (CW.ret ?_)))))))))))
    refine KW.ret1 rfl rfl ⟨_, rfl, ?_⟩
    exact ⟨rfl, hW⟩
end Go.Proofs.YthfjagphcekcbaaGreat
end
