import Derived.Test.YtdkfjllchhoojaaHo7
namespace Go.Wx
theorem same44 : Value.bool (decide (([4] : List Int) = [4])) = .bool true := by simp

end Go.Wx
namespace Go.Proofs.Ytdkfjllchhoojaa
open Go.Wx Go.RowKit
set_option maxHeartbeats 4000000 in
theorem sane_any (w : World) : Ret Try.prog 5 #[] w fun r w' => r = .bool true ∧ Up w w' := by
  have hW := Up.refl w
  refine Calls_start (n := 93) (m := 9) Try.func5 rfl rfl rfl ?_
  refine CW.seq ?_
  -- region 0
  refine CW.region ?_
  refine LW.p (PEv.assign (.const _)) rfl rfl rfl ?_
  refine LW.nil ?_
  refine KW.then ?_
  refine CW.seq ?_
  -- region 1
  refine CW.region ?_
  refine LW.c (enter_call0 .nil (Try.en12)) rfl rfl rfl rfl (held_any _) ?_
  rintro _ w1 ⟨⟨bc, rfl, hC⟩, uw1⟩
  have zw1 := uw1.size
  replace hW := hW.up uw1
  refine LW.r (REv.allocA Try.zeroValue29) rfl rfl rfl rfl ?_
  rintro _ w2 ⟨B1, rfl, MB1⟩
  refine LW.s (SEv.storeA Try.sizeOf29 hC.size (.tmp rfl) (.tmp rfl) hC.one MB1.blk rfl) rfl rfl rfl ?_
  intro w3 LB1
  have NB1 := MB1.set LB1
  clear LB1 MB1
  have eB1 := NB1.at_
  have zB1 := NB1.size
  replace hW := hW.up NB1.up
  replace hC := hC.up NB1.up
  have hB1 := NB1.blk
  refine LW.nil ?_
  refine KW.then ?_
  refine CW.seq ?_
  have hU1 := Up.refl w3
  have hCs := hC
  -- region 2
  refine CW.region ?_
  refine LW.p (PEv.build (cs := actA.cells) Try.underlying25 Try.zeroValue25 Try.places25 (.cons (.const _) (.cons (.const _) (.cons (.const _) (.cons (.const _) (.cons (.const _) (.cons (.const _) .nil)))))) rfl) rfl rfl rfl ?_
  refine LW.r (REv.allocA Try.zeroValue25) rfl rfl rfl rfl ?_
  rintro _ w4 ⟨B2, rfl, MB2⟩
  refine LW.s (SEv.storeA Try.sizeOf25 rfl (.tmp rfl) (.tmp rfl) (by first | rfl | exact Fact.one _ | exact GAct.one _ | exact holdCells_one _ _ | exact hold0_one | (simp [Value.oneCell'])) MB2.blk rfl) rfl rfl rfl ?_
  intro w5 LB2
  have NB2 := MB2.set LB2
  clear LB2 MB2
  have eB2 := NB2.at_
  have zB2 := NB2.size
  replace hW := hW.up NB2.up
  replace hB1 := hB1.up NB2.up
  replace hU1 := hU1.up NB2.up
  have hB2 := NB2.blk
  refine LW.nil ?_
  refine KW.then ?_
  refine CW.seq ?_
  -- region 3
  refine CW.region ?_
  refine LW.p (PEv.loadA Try.isAgg25 Try.sizeOf25 rfl (.tmp rfl) (hB2.agg)) rfl rfl rfl ?_
  refine LW.r (REv.allocA Try.zeroValue25) rfl rfl rfl rfl ?_
  rintro _ w6 ⟨B3, rfl, MB3⟩
  refine LW.s (SEv.storeA Try.sizeOf25 rfl (.tmp rfl) (.tmp rfl) (by first | rfl | exact Fact.one _ | exact GAct.one _ | exact holdCells_one _ _ | exact hold0_one | (simp [Value.oneCell'])) MB3.blk rfl) rfl rfl rfl ?_
  intro w7 LB3
  have NB3 := MB3.set LB3
  clear LB3 MB3
  have eB3 := NB3.at_
  have zB3 := NB3.size
  replace hW := hW.up NB3.up
  replace hB1 := hB1.up NB3.up
  replace hU1 := hU1.up NB3.up
  replace hB2 := hB2.up NB3.up
  have hB3 := NB3.blk
  refine LW.nil ?_
  refine KW.then ?_
  refine CW.seq ?_
  -- region 4
  refine CW.region ?_
  refine LW.p (PEv.fieldAddr (off := 2) Try.underlying25 rfl rfl Try.sizeOf3 rfl (.tmp rfl)) rfl rfl rfl ?_
  refine LW.s (SEv.store Try.sizeOf3 (.tmp rfl) (.const _) rfl hB3 (Nat.le_of_ble_eq_true rfl)) rfl rfl rfl ?_
  intro w8 Nw8
  have zw8 := Nw8.size
  replace hW := hW.sto Nw8.sto (by omega)
  replace hB1 := hB1.sto Nw8.sto (by omega)
  replace hU1 := hU1.sto Nw8.sto (by omega)
  replace hB2 := hB2.sto Nw8.sto (by omega)
  replace hB3 := Nw8.blk
  replace hB3 : Blk w8 B3 actO.cells _ := hB3
  refine LW.nil ?_
  refine KW.then ?_
  refine CW.seq ?_
  -- region 5
  refine CW.region ?_
  refine LW.p (PEv.loadA Try.isAgg25 Try.sizeOf25 rfl (.tmp rfl) (hB2.agg)) rfl rfl rfl ?_
  refine LW.r (REv.allocA Try.zeroValue25) rfl rfl rfl rfl ?_
  rintro _ w9 ⟨B4, rfl, MB4⟩
  refine LW.s (SEv.storeA Try.sizeOf25 rfl (.tmp rfl) (.tmp rfl) (by first | rfl | exact Fact.one _ | exact GAct.one _ | exact holdCells_one _ _ | exact hold0_one | (simp [Value.oneCell'])) MB4.blk rfl) rfl rfl rfl ?_
  intro w10 LB4
  have NB4 := MB4.set LB4
  clear LB4 MB4
  have eB4 := NB4.at_
  have zB4 := NB4.size
  replace hW := hW.up NB4.up
  replace hB1 := hB1.up NB4.up
  replace hU1 := hU1.up NB4.up
  replace hB2 := hB2.up NB4.up
  replace hB3 := hB3.up NB4.up
  have hB4 := NB4.blk
  refine LW.nil ?_
  refine KW.then ?_
  refine CW.seq ?_
  -- region 6
  refine CW.region ?_
  refine LW.p (PEv.fieldAddr (off := 6) Try.underlying25 rfl rfl Try.sizeOf3 rfl (.tmp rfl)) rfl rfl rfl ?_
  refine LW.s (SEv.store Try.sizeOf3 (.tmp rfl) (.const _) rfl hB4 (Nat.le_of_ble_eq_true rfl)) rfl rfl rfl ?_
  intro w11 Nw11
  have zw11 := Nw11.size
  replace hW := hW.sto Nw11.sto (by omega)
  replace hB1 := hB1.sto Nw11.sto (by omega)
  replace hU1 := hU1.sto Nw11.sto (by omega)
  replace hB2 := hB2.sto Nw11.sto (by omega)
  replace hB3 := hB3.sto Nw11.sto (by omega)
  replace hB4 := Nw11.blk
  replace hB4 : Blk w11 B4 actL.cells _ := hB4
  refine LW.nil ?_
  refine KW.then ?_
  refine CW.seq ?_
  -- region 7
  refine CW.region ?_
  refine LW.p (PEv.loadA Try.isAgg29 Try.sizeOf29 (hCs.size) (.tmp rfl) (hB1.agg)) rfl rfl rfl ?_
  refine LW.c (enter_call0 (.cons (.tmp rfl) (.cons (.const _) (.cons (.const _) .nil))) (Try.en13)) rfl rfl rfl rfl (Released_any _ _ 4 10 _ (hCs.up hU1) (by decide) (by decide)) ?_
  rintro _ w12 ⟨rfl, uw12⟩
  have zw12 := uw12.size
  replace hW := hW.up uw12
  replace hB1 := hB1.up uw12
  replace hU1 := hU1.up uw12
  replace hB2 := hB2.up uw12
  replace hB3 := hB3.up uw12
  replace hB4 := hB4.up uw12
  rw [sane_p10, sane_r10]
  refine LW.p (PEv.move (.tmp rfl)) rfl rfl rfl ?_
  refine LW.p (PEv.extract (.tmp rfl) rfl) rfl rfl rfl ?_
  refine LW.p (PEv.extract (.tmp rfl) rfl) rfl rfl rfl ?_
  refine LW.p (PEv.assign (.tmp rfl)) rfl rfl rfl ?_
  refine LW.p (PEv.assign (.tmp rfl)) rfl rfl rfl ?_
  refine LW.nil ?_
  refine KW.then ?_
  refine CW.seq ?_
  -- region 8
  refine CW.region ?_
  refine LW.p (PEv.loadA Try.isAgg29 Try.sizeOf29 (hCs.size) (.tmp rfl) (hB1.agg)) rfl rfl rfl ?_
  refine LW.c (enter_call0 (.cons (.tmp rfl) (.cons (.const _) (.cons (.const _) .nil))) (Try.en13)) rfl rfl rfl rfl (Released_any _ _ 4 20 _ (hCs.up hU1) (by decide) (by decide)) ?_
  rintro _ w13 ⟨rfl, uw13⟩
  have zw13 := uw13.size
  replace hW := hW.up uw13
  replace hB1 := hB1.up uw13
  replace hU1 := hU1.up uw13
  replace hB2 := hB2.up uw13
  replace hB3 := hB3.up uw13
  replace hB4 := hB4.up uw13
  rw [sane_p20, sane_r20]
  refine LW.p (PEv.move (.tmp rfl)) rfl rfl rfl ?_
  refine LW.p (PEv.extract (.tmp rfl) rfl) rfl rfl rfl ?_
  refine LW.p (PEv.extract (.tmp rfl) rfl) rfl rfl rfl ?_
  refine LW.p (PEv.assign (.tmp rfl)) rfl rfl rfl ?_
  refine LW.p (PEv.assign (.tmp rfl)) rfl rfl rfl ?_
  refine LW.nil ?_
  refine KW.then ?_
  refine CW.seq ?_
  -- region 9
  refine CW.region ?_
  refine LW.p (PEv.loadA Try.isAgg29 Try.sizeOf29 (hCs.size) (.tmp rfl) (hB1.agg)) rfl rfl rfl ?_
  refine LW.c (enter_call0 (.cons (.tmp rfl) (.cons (.const _) (.cons (.const _) .nil))) (Try.en13)) rfl rfl rfl rfl (Released_any _ _ 4 50 _ (hCs.up hU1) (by decide) (by decide)) ?_
  rintro _ w14 ⟨rfl, uw14⟩
  have zw14 := uw14.size
  replace hW := hW.up uw14
  replace hB1 := hB1.up uw14
  replace hU1 := hU1.up uw14
  replace hB2 := hB2.up uw14
  replace hB3 := hB3.up uw14
  replace hB4 := hB4.up uw14
  rw [sane_p50, sane_r50]
  refine LW.p (PEv.move (.tmp rfl)) rfl rfl rfl ?_
  refine LW.p (PEv.extract (.tmp rfl) rfl) rfl rfl rfl ?_
  refine LW.p (PEv.extract (.tmp rfl) rfl) rfl rfl rfl ?_
  refine LW.p (PEv.assign (.tmp rfl)) rfl rfl rfl ?_
  refine LW.p (PEv.assign (.tmp rfl)) rfl rfl rfl ?_
  refine LW.nil ?_
  refine KW.then ?_
  refine CW.seq ?_
  obtain ⟨v6, h6, hr⟩ := hCs.at6
  obtain ⟨ad, cp, rfl, hE⟩ := hr
  obtain ⟨BH, oH, rfl, hcH⟩ := hE 0 heldH rfl
  -- region 10 draws its order
  refine CW.draws (by kernel_rfl) (by kernel_rfl) rfl rfl ?_
  refine HW.p (PEv.loadA Try.isAgg29 Try.sizeOf29 (hCs.size) (.tmp rfl) (hB1.agg)) rfl rfl ?_
  refine HW.p (PEv.fieldAddr (off := 6) Try.underlying29 rfl rfl Try.sizeOf27 rfl (.tmp rfl)) rfl rfl ?_
  refine HW.p (PEv.load Try.isAgg27 (.tmp rfl) (hB1.cell h6)) rfl rfl ?_
  refine HW.p (PEv.indexAddr (j := 0) Try.underlying27 Try.sizeOf23 (.tmp rfl) (.const _) (by decide)) rfl rfl ?_
  refine HW.p (PEv.loadA Try.isAgg23 Try.sizeOf23 rfl (.tmp rfl) (hcH.up hU1)) rfl rfl ?_
  refine HW.p (PEv.loadA Try.isAgg25 Try.sizeOf25 rfl (.tmp rfl) (hB2.agg)) rfl rfl ?_
  refine HW.c (fun a w _ ha => enter_call0 (.cons (.tmp rfl) (.cons (.tmp rfl) (.cons (.tmp rfl) .nil))) (Try.en6) a ha) rfl rfl (fun w hu => (Names_any _ _ heldH actA _ ((hCs.up hU1).up hu) (by decide)).mono fun _ _ h => ⟨h.1.trans (congrArg Go.Value.bool sane_nA), h.2⟩) ?_
  refine HW.p (PEv.move (.tmp rfl)) rfl rfl ?_
  refine HW.yp rfl rfl rfl rfl rfl (PEv.loadA Try.isAgg29 Try.sizeOf29 (hCs.size) (.tmp rfl) (hB1.agg)) rfl ?_
  refine HW.yp rfl rfl rfl rfl rfl (PEv.fieldAddr (off := 6) Try.underlying29 rfl rfl Try.sizeOf27 rfl (.tmp rfl)) rfl ?_
  refine HW.yp rfl rfl rfl rfl rfl (PEv.load Try.isAgg27 (.tmp rfl) (hB1.cell h6)) rfl ?_
  refine HW.yp rfl rfl rfl rfl rfl (PEv.indexAddr (j := 0) Try.underlying27 Try.sizeOf23 (.tmp rfl) (.const _) (by decide)) rfl ?_
  refine HW.yp rfl rfl rfl rfl rfl (PEv.loadA Try.isAgg23 Try.sizeOf23 rfl (.tmp rfl) (hcH.up hU1)) rfl ?_
  refine HW.yp rfl rfl rfl rfl rfl (PEv.loadA Try.isAgg25 Try.sizeOf25 rfl (.tmp rfl) (hB3.agg)) rfl ?_
  refine HW.yc rfl rfl rfl rfl rfl (fun a w _ ha => enter_call0 (.cons (.tmp rfl) (.cons (.tmp rfl) (.cons (.tmp rfl) .nil))) (Try.en6) a ha) rfl (fun w hu => (Names_any _ _ heldH actO _ ((hCs.up hU1).up hu) (by decide)).mono fun _ _ h => ⟨h.1.trans (congrArg Go.Value.bool sane_nO), h.2⟩) ?_
  refine HW.yp rfl rfl rfl rfl rfl (PEv.not (.tmp rfl)) rfl ?_
  refine HW.p (PEv.pick_and (.tmp rfl) (fun hp => (by first | exact .const _ | exact .tmp rfl | exact .cond rfl (by first | assumption | simp_all)))) rfl rfl ?_
  refine HW.p (PEv.move (.tmp rfl)) rfl rfl ?_
  refine HW.yp rfl rfl rfl rfl rfl (PEv.move (.tmp rfl)) rfl ?_
  refine HW.yp rfl rfl rfl rfl rfl (PEv.eql (.tmp rfl) (.const _)) rfl ?_
  refine HW.p (PEv.pick_and (.tmp rfl) (fun hp => (by first | exact .const _ | exact .tmp rfl | exact .cond rfl (by first | assumption | simp_all)))) rfl rfl ?_
  refine HW.p (PEv.move (.tmp rfl)) rfl rfl ?_
  refine HW.yp rfl rfl rfl rfl rfl (PEv.move (.tmp rfl)) rfl ?_
  refine HW.yp rfl rfl rfl rfl rfl (PEv.not (.tmp rfl)) rfl ?_
  refine HW.p (PEv.pick_and (.tmp rfl) (fun hp => (by first | exact .const _ | exact .tmp rfl | exact .cond rfl (by first | assumption | simp_all)))) rfl rfl ?_
  refine HW.p (PEv.move (.tmp rfl)) rfl rfl ?_
  refine HW.yp rfl rfl rfl rfl rfl (PEv.move (.tmp rfl)) rfl ?_
  refine HW.yp rfl rfl rfl rfl rfl (PEv.eql (.tmp rfl) (.const _)) rfl ?_
  refine HW.p (PEv.pick_and (.tmp rfl) (fun hp => (by first | exact .const _ | exact .tmp rfl | exact .cond rfl (by first | assumption | simp_all)))) rfl rfl ?_
  refine HW.p (PEv.move (.tmp rfl)) rfl rfl ?_
  refine HW.yp rfl rfl rfl rfl rfl (PEv.move (.tmp rfl)) rfl ?_
  refine HW.yp rfl rfl rfl rfl rfl (PEv.not (.tmp rfl)) rfl ?_
  refine HW.p (PEv.pick_and (.tmp rfl) (fun hp => (by first | exact .const _ | exact .tmp rfl | exact .cond rfl (by first | assumption | simp_all)))) rfl rfl ?_
  refine HW.p (PEv.move (.tmp rfl)) rfl rfl ?_
  refine HW.yp rfl rfl rfl rfl rfl (PEv.move (.tmp rfl)) rfl ?_
  refine HW.yp rfl rfl rfl rfl rfl (PEv.eql (.tmp rfl) (.const _)) rfl ?_
  refine HW.p (PEv.pick_and (.tmp rfl) (fun hp => (by first | exact .const _ | exact .tmp rfl | exact .cond rfl (by first | assumption | simp_all)))) rfl rfl ?_
  refine HW.p (PEv.move (.tmp rfl)) rfl rfl ?_
  refine HW.yp rfl rfl rfl rfl rfl (PEv.move (.tmp rfl)) rfl ?_
  refine HW.p (PEv.pick_and (.tmp rfl) (fun hp => (by first | exact .const _ | exact .tmp rfl | exact .cond rfl (by first | assumption | simp_all)))) rfl rfl ?_
  refine HW.p (PEv.move (.tmp rfl)) rfl rfl ?_
  refine HW.yp rfl rfl rfl rfl rfl (PEv.loadA Try.isAgg29 Try.sizeOf29 (hCs.size) (.tmp rfl) (hB1.agg)) rfl ?_
  refine HW.yp rfl rfl rfl rfl rfl (PEv.loadA Try.isAgg25 Try.sizeOf25 rfl (.tmp rfl) (hB2.agg)) rfl ?_
  refine HW.yqc (ph := .pred fun v w => Sl w v 1 eInt [4]) (fun _ _ _ h u => Sl.up h u) rfl rfl rfl rfl rfl (fun a w hu ha => ⟨_, _, enter_call0 (.cons (.tmp rfl) (.cons (.tmp rfl) .nil)) (Try.en10) a ha, (Stops_any _ _ actA _ ((hCs.up hU1).up hu) (by decide) (by decide) (by decide)).mono fun v w' h => ⟨h.2, sane_sA ▸ h.1.sl (fun _ => rfl)⟩⟩) rfl ?_
  refine HW.yqr (p := fun v w => Sl w v 1 eInt [4]) (fun _ _ _ h u => Sl.up h u) rfl rfl rfl rfl rfl (fun w hu a ha => let ⟨v, w', h1, h2⟩ := REv.buildSlice (xs := [4]) (enc := eInt) (mk := vi) Try.underlying35 Try.sizeOf3 Try.zeroValue3 rfl (by decide) (fun _ => rfl) (fun _ => rfl) (.cons (.const _) .nil) rfl a ha; ⟨v, w', h1, h2.q⟩) rfl ?_
  refine HW.yqc (ph := .eq (.bool true)) (phUp.eq _) rfl rfl rfl rfl rfl (fun a w hu ha => ⟨_, _, enter_any2 Try.en14 a w, (sameInts_any (a.eval (.tmp 75)) (a.eval (.tmp 76)) [4] [4] w (ha.known (p := fun v w => Sl w v 1 eInt [4]) rfl) (ha.known (p := fun v w => Sl w v 1 eInt [4]) rfl) (by decide) (by decide)).mono fun _ _ h => ⟨h.2, h.1.trans same44⟩⟩) rfl ?_
  refine HW.p (PEv.pick_and (.tmp rfl) (fun hp => (by first | exact .const _ | exact .tmp rfl | exact .cond rfl (by first | assumption | simp_all)))) rfl rfl ?_
  refine HW.p (PEv.move (.tmp rfl)) rfl rfl ?_
  refine HW.yp rfl rfl rfl rfl rfl (PEv.loadA Try.isAgg29 Try.sizeOf29 (hCs.size) (.tmp rfl) (hB1.agg)) rfl ?_
  refine HW.yp rfl rfl rfl rfl rfl (PEv.loadA Try.isAgg25 Try.sizeOf25 rfl (.tmp rfl) (hB4.agg)) rfl ?_
  refine HW.yqc (ph := .pred fun v w => Sl w v 1 eInt []) (fun _ _ _ h u => Sl.up h u) rfl rfl rfl rfl rfl (fun a w hu ha => ⟨_, _, enter_call0 (.cons (.tmp rfl) (.cons (.tmp rfl) .nil)) (Try.en10) a ha, (Stops_any _ _ actL _ ((hCs.up hU1).up hu) (by decide) (by decide) (by decide)).mono fun v w' h => ⟨h.2, sane_sL ▸ h.1.sl (fun _ => rfl)⟩⟩) rfl ?_
  refine HW.yp rfl rfl rfl rfl rfl (PEv.lenQ Try.underlying35 rfl (fun v w h => let ⟨ad, c, e, _⟩ := h; ⟨ad, c, e⟩)) rfl ?_
  refine HW.yp rfl rfl rfl rfl rfl (PEv.eql (.tmp rfl) (.const _)) rfl ?_
  refine HW.p (PEv.pick_and (.tmp rfl) (fun hp => (by first | exact .const _ | exact .tmp rfl | exact .cond rfl (by first | assumption | simp_all)))) rfl rfl ?_
  refine HW.p (PEv.move (.tmp rfl)) rfl rfl ?_
  refine HW.yp rfl rfl rfl rfl rfl (PEv.loadA Try.isAgg29 Try.sizeOf29 (hCs.size) (.tmp rfl) (hB1.agg)) rfl ?_
  refine HW.yp rfl rfl rfl rfl rfl (PEv.loadA Try.isAgg25 Try.sizeOf25 rfl (.tmp rfl) (hB3.agg)) rfl ?_
  refine HW.yqc (ph := .pred fun v w => Sl w v 1 eInt []) (fun _ _ _ h u => Sl.up h u) rfl rfl rfl rfl rfl (fun a w hu ha => ⟨_, _, enter_call0 (.cons (.tmp rfl) (.cons (.tmp rfl) .nil)) (Try.en10) a ha, (Stops_any _ _ actO _ ((hCs.up hU1).up hu) (by decide) (by decide) (by decide)).mono fun v w' h => ⟨h.2, sane_sO ▸ h.1.sl (fun _ => rfl)⟩⟩) rfl ?_
  refine HW.yp rfl rfl rfl rfl rfl (PEv.lenQ Try.underlying35 rfl (fun v w h => let ⟨ad, c, e, _⟩ := h; ⟨ad, c, e⟩)) rfl ?_
  refine HW.yp rfl rfl rfl rfl rfl (PEv.eql (.tmp rfl) (.const _)) rfl ?_
  refine HW.p (PEv.pick_and (.tmp rfl) (fun hp => (by first | exact .const _ | exact .tmp rfl | exact .cond rfl (by first | assumption | simp_all)))) rfl rfl ?_
  refine HW.p (PEv.assign (.tmp rfl)) rfl rfl ?_
  refine HW.nil ?_
  intro w15 uw15
  have zw15 := uw15.size
  replace hW := hW.up uw15
  replace hB1 := hB1.up uw15
  replace hU1 := hU1.up uw15
  replace hB2 := hB2.up uw15
  replace hB3 := hB3.up uw15
  replace hB4 := hB4.up uw15
  refine KW.then ?_
  refine CW.ret ?_
  refine KW.ret1 rfl rfl ⟨_, rfl, ?_⟩
  exact ⟨rfl, hW⟩

end Go.Proofs.Ytdkfjllchhoojaa
