import Derived.Test.YtgffaeachbbjoaaGreatDoorKR415
section
namespace Go.Proofs.YtgffaeachbbjoaaGreatDoor
open Go.Wx Go.RowKit
theorem ex2_any (bc : Array Go.Value) (w : World) (hC : BaseC w bc exB) : Ret Tryz.prog 20 #[.agg bc, vi 2] w fun r w' => ∃ v, r = .tuple #[v, .bool true, vi 0] ∧ DecE w' v ⟨2, rI 98, rI 2, [1]⟩ ∧ Up w w' := by
  have h := Explain_any bc exB 2 w hC (by decide) (by decide) (by decide) (by decide) exV
  rw [ex_e2] at h; exact h
theorem ex3_any (bc : Array Go.Value) (w : World) (hC : BaseC w bc exB) : Ret Tryz.prog 20 #[.agg bc, vi 3] w fun r w' => ∃ v, r = .tuple #[v, .bool false, vi 0] ∧ DecE w' v ⟨3, rI 98, rI 2, [1]⟩ ∧ Up w w' := by
  have h := Explain_any bc exB 3 w hC (by decide) (by decide) (by decide) (by decide) exV
  rw [ex_e3] at h; exact h
theorem ex4_any (bc : Array Go.Value) (w : World) (hC : BaseC w bc exB) : Ret Tryz.prog 20 #[.agg bc, vi 4] w fun r w' => ∃ v, r = .tuple #[v, .bool false, vi 200] ∧ DecE w' v dec0 ∧ Up w w' := by
  have h := Explain_any bc exB 4 w hC (by decide) (by decide) (by decide) (by decide) exV
  rw [ex_e4] at h; exact h
theorem exd12_any (bc : Array Go.Value) (w : World) (hC : BaseC w bc exB) : Ret Tryz.prog 14 #[.agg bc, vi 4, vi 0, vi 9, vi 12] w fun r w' => ∃ ad cp, r = .tuple #[.agg (DP.cells ⟨⟨0, rI 100, rI 0, []⟩, ad, cp⟩), vi 0] ∧ Up w w' := by
  have h := Decide_any bc exB 4 0 9 12 w hC (by decide) (by decide) (by decide) (by decide)
  rw [ex_d12] at h
  exact h.mono fun r w' ⟨v, e, ⟨ad, cp, e2, _⟩, u⟩ => ⟨ad, cp, by rw [e, e2], u⟩
theorem exd15_any (bc : Array Go.Value) (w : World) (hC : BaseC w bc exB) : Ret Tryz.prog 14 #[.agg bc, vi 4, vi 0, vi 9, vi 15] w fun r w' => ∃ ad cp, r = .tuple #[.agg (DP.cells ⟨⟨0, rI 98, rI 2, [1]⟩, ad, cp⟩), vi 0] ∧ Up w w' := by
  have h := Decide_any bc exB 4 0 9 15 w hC (by decide) (by decide) (by decide) (by decide)
  rw [ex_d15] at h
  exact h.mono fun r w' ⟨v, e, ⟨ad, cp, e2, _⟩, u⟩ => ⟨ad, cp, by rw [e, e2], u⟩
set_option maxHeartbeats 4000000 in
theorem sane_any (w : World) : Ret Tryz.prog 10 #[] w fun r w' => r = .bool true ∧ Up w w' := by
  obtain ⟨w0, rfl⟩ : ∃ w0, w0 = w := ⟨_, rfl⟩
  have hS := Sep.start no w0
  refine Calls_start (n := 171) (m := 9) Tryz.func10 rfl rfl rfl ?_
  refine CW.S (LW.C (LW.S (CW.region ?_)))
  refine LW.c (enter_call0 .nil (Tryz.en30)) rfl rfl rfl rfl (example_any _) ?_
  rintro _ w1 ⟨bc, rfl, hC, uw1⟩
  have zw1 := uw1.size
  replace hS := hS.up uw1
  refine LW.r (REv.allocA Tryz.zeroValue24) rfl rfl rfl rfl ?_
  rintro _ w2 ⟨B1, rfl, MB1⟩
  refine LW.s (SEv.storeA Tryz.sizeOf24 hC.size (.tmp rfl) (.tmp rfl) hC.one MB1.blk rfl) rfl rfl rfl ?_
  intro w3 LB1
  have NB1 := MB1.set LB1
  clear LB1 MB1
  have eB1 := NB1.at_
  have zB1 := NB1.size
  replace hC := hC.up NB1.up
  replace hS := hS.addB NB1
  change Wx.Sep _ _ _ [_] at hS
  refine LW.S (CW.region ?_)
  refine LW.pp (PEv.loadA Tryz.isAgg24 Tryz.sizeOf24 (hC.size) (.tmp rfl) ((hS.blk 0 rfl).agg)) ?_
  refine LW.c (enter_call0 (.cons (.tmp rfl) (.cons (.const _) (.cons (.const _) (.cons (.const _) .nil)))) (Tryz.en18)) rfl rfl rfl rfl (Decisions_any bc exB 4 0 9 _ (hC) (by decide) (by decide) (by decide) (by decide)) ?_
  rintro v21 w4 ⟨_, L21, rfl, hm21, hT21⟩
  rw [ex_des] at hm21
  obtain ⟨a1, c1, a2, c2, a3, c3, rfl⟩ := dps3 hm21
  replace hS := hS.join hT21
  replace hC := hC.up hT21.upd
  change Wx.Sep no _ _ [_, _, _] at hS
  obtain ⟨ad21, cp21, rfl, _⟩ := (hS.own 1 rfl).sl (fun _ => rfl)
  clear hT21 hm21
  refine LW.A rfl (LW.S (CW.region ?_))
  refine LW.pp (PEv.loadA Tryz.isAgg24 Tryz.sizeOf24 (hC.size) (.tmp rfl) ((hS.blk 0 rfl).agg)) ?_
  refine LW.c (enter_call0 (.cons (.tmp rfl) (.cons (.const _) (.cons (.const _) (.cons (.const _) (.cons (.const _) .nil))))) (Tryz.en14)) rfl rfl rfl rfl (exd12_any bc _ hC) ?_
  rintro _ w5 ⟨ad12_, cd12_, rfl, uw5⟩
  have zw5 := uw5.size
  replace hC := hC.up uw5
  replace hS := hS.up uw5
  refine LW.M rfl (LW.pp (PEv.extract (.tmp rfl) rfl) (LW.pp (PEv.extract (.tmp rfl) rfl) ?_))
  refine LW.r (REv.allocA Tryz.zeroValue37) rfl rfl rfl rfl ?_
  rintro _ w6 ⟨B3, rfl, MB3⟩
  refine LW.s (SEv.storeA Tryz.sizeOf37 rfl (.tmp rfl) (.tmp rfl) (DP.one _) MB3.blk rfl) rfl rfl rfl ?_
  intro w7 LB3
  have NB3 := MB3.set LB3
  clear LB3 MB3
  have eB3 := NB3.at_
  have zB3 := NB3.size
  replace hC := hC.up NB3.up
  replace hS := hS.addB NB3
  change Wx.Sep _ _ _ [_, _, _, _] at hS
  refine LW.A rfl (LW.S (CW.region ?_))
  refine LW.pp (PEv.loadA Tryz.isAgg24 Tryz.sizeOf24 (hC.size) (.tmp rfl) ((hS.blk 0 rfl).agg)) ?_
  refine LW.c (enter_call0 (.cons (.tmp rfl) (.cons (.const _) (.cons (.const _) (.cons (.const _) (.cons (.const _) .nil))))) (Tryz.en14)) rfl rfl rfl rfl (exd15_any bc _ hC) ?_
  rintro _ w8 ⟨ad15_, cd15_, rfl, uw8⟩
  have zw8 := uw8.size
  replace hC := hC.up uw8
  replace hS := hS.up uw8
  refine LW.M rfl (LW.pp (PEv.extract (.tmp rfl) rfl) (LW.pp (PEv.extract (.tmp rfl) rfl) ?_))
  refine LW.r (REv.allocA Tryz.zeroValue37) rfl rfl rfl rfl ?_
  rintro _ w9 ⟨B5, rfl, MB5⟩
  refine LW.s (SEv.storeA Tryz.sizeOf37 rfl (.tmp rfl) (.tmp rfl) (DP.one _) MB5.blk rfl) rfl rfl rfl ?_
  intro w10 LB5
  have NB5 := MB5.set LB5
  clear LB5 MB5
  have eB5 := NB5.at_
  have zB5 := NB5.size
  replace hC := hC.up NB5.up
  replace hS := hS.addB NB5
  change Wx.Sep _ _ _ [_, _, _, _, _] at hS
  refine LW.A rfl (LW.S (CW.region ?_))
  refine LW.pp (PEv.loadA Tryz.isAgg24 Tryz.sizeOf24 (hC.size) (.tmp rfl) ((hS.blk 0 rfl).agg)) ?_
  refine LW.c (enter_call0 (.cons (.tmp rfl) (.cons (.const _) .nil)) (Tryz.en20)) rfl rfl rfl rfl (ex2_any bc _ hC) ?_
  rintro _ w11 ⟨_, rfl, ⟨ae2, ce2, rfl, _⟩, uw11⟩
  have zw11 := uw11.size
  replace hC := hC.up uw11
  replace hS := hS.up uw11
  refine LW.M rfl (LW.pp (PEv.extract (.tmp rfl) rfl) (LW.pp (PEv.extract (.tmp rfl) rfl) (LW.pp (PEv.extract (.tmp rfl) rfl) ?_)))
  refine LW.r (REv.allocA Tryz.zeroValue37) rfl rfl rfl rfl ?_
  rintro _ w12 ⟨B7, rfl, MB7⟩
  refine LW.s (SEv.storeA Tryz.sizeOf37 rfl (.tmp rfl) (.tmp rfl) (DP.one _) MB7.blk rfl) rfl rfl rfl ?_
  intro w13 LB7
  have NB7 := MB7.set LB7
  clear LB7 MB7
  have eB7 := NB7.at_
  have zB7 := NB7.size
  replace hC := hC.up NB7.up
  replace hS := hS.addB NB7
  change Wx.Sep _ _ _ [_, _, _, _, _, _] at hS
  refine LW.A rfl (LW.A rfl (LW.S (CW.region ?_)))
  refine LW.pp (PEv.loadA Tryz.isAgg24 Tryz.sizeOf24 (hC.size) (.tmp rfl) ((hS.blk 0 rfl).agg)) ?_
  refine LW.c (enter_call0 (.cons (.tmp rfl) (.cons (.const _) .nil)) (Tryz.en20)) rfl rfl rfl rfl (ex3_any bc _ hC) ?_
  rintro _ w14 ⟨_, rfl, ⟨ae3, ce3, rfl, _⟩, uw14⟩
  have zw14 := uw14.size
  replace hC := hC.up uw14
  replace hS := hS.up uw14
  refine LW.M rfl (LW.pp (PEv.extract (.tmp rfl) rfl) (LW.pp (PEv.extract (.tmp rfl) rfl) (LW.pp (PEv.extract (.tmp rfl) rfl) ?_)))
  refine LW.r (REv.allocA Tryz.zeroValue37) rfl rfl rfl rfl ?_
  rintro _ w15 ⟨B10, rfl, MB10⟩
  refine LW.s (SEv.storeA Tryz.sizeOf37 rfl (.tmp rfl) (.tmp rfl) (DP.one _) MB10.blk rfl) rfl rfl rfl ?_
  intro w16 LB10
  have NB10 := MB10.set LB10
  clear LB10 MB10
  have eB10 := NB10.at_
  have zB10 := NB10.size
  replace hC := hC.up NB10.up
  replace hS := hS.addB NB10
  change Wx.Sep _ _ _ [_, _, _, _, _, _, _] at hS
  refine LW.A rfl (LW.A rfl (LW.S (CW.region ?_)))
  refine LW.pp (PEv.loadA Tryz.isAgg24 Tryz.sizeOf24 (hC.size) (.tmp rfl) ((hS.blk 0 rfl).agg)) ?_
  refine LW.c (enter_call0 (.cons (.tmp rfl) (.cons (.const _) .nil)) (Tryz.en20)) rfl rfl rfl rfl (ex4_any bc _ hC) ?_
  rintro _ w17 ⟨_, rfl, ⟨ae4, ce4, rfl, _⟩, uw17⟩
  have zw17 := uw17.size
  replace hC := hC.up uw17
  replace hS := hS.up uw17
  refine LW.M rfl (LW.pp (PEv.extract (.tmp rfl) rfl) (LW.pp (PEv.extract (.tmp rfl) rfl) (LW.pp (PEv.extract (.tmp rfl) rfl) ?_)))
  refine LW.r (REv.allocA Tryz.zeroValue37) rfl rfl rfl rfl ?_
  rintro _ w18 ⟨B13, rfl, MB13⟩
  refine LW.s (SEv.storeA Tryz.sizeOf37 rfl (.tmp rfl) (.tmp rfl) (DP.one _) MB13.blk rfl) rfl rfl rfl ?_
  intro w19 LB13
  have NB13 := MB13.set LB13
  clear LB13 MB13
  have eB13 := NB13.at_
  have zB13 := NB13.size
  replace hC := hC.up NB13.up
  replace hS := hS.addB NB13
  change Wx.Sep _ _ _ [_, _, _, _, _, _, _, _] at hS
  refine LW.A rfl (LW.A rfl (LW.S ?_))
  have hB1o := hS.blk 0 rfl
  refine CW.region ?_
  refine LW.pp (PEv.build (cs := exZ.cells) Tryz.underlying50 Tryz.zeroValue50 Tryz.places50 (.cons (.const _) (.cons (.const _) (.cons (.const _) (.cons (.const _) (.cons (.const _) .nil))))) (by kernel_rfl)) ?_
  refine LW.r (REv.buildSlice (xs := [exZ]) (enc := Fact.cells) (mk := fun f : Fact => .agg f.cells) Tryz.underlying22 Tryz.sizeOf50 Tryz.zeroValue50 rfl (by decide) (fun _ => rfl) (fun _ => rfl) (.cons (.tmp rfl) .nil) rfl) rfl rfl rfl rfl ?_
  rintro _ w20 ⟨B51, cB51, rfl, NB51, yB51, xB51⟩
  have eB51 := NB51.at_
  have zB51 := NB51.size
  replace hC := hC.up NB51.up
  replace hS := hS.up NB51.up
  replace hB1o := hB1o.up NB51.up
  have hE51 := xB51
  refine LW.pp (PEv.fieldAddr (off := 8) Tryz.underlying24 rfl rfl Tryz.sizeOf22 rfl (.tmp rfl)) ?_
  refine LW.s (SEv.store Tryz.sizeOf22 (.tmp rfl) (.tmp rfl) rfl (hS.blk 0 rfl) (by have := hC.size; omega)) rfl rfl rfl ?_
  intro w21 Nw21
  have zw21 := Nw21.size
  replace hS := hS.putB 0 rfl Nw21
  change Wx.Sep _ _ _ [_, _, _, _, _, _, _, _] at hS
  replace hC := (base_sto hC hB1o (fun i n => hC.no i n) Nw21.sto).setResets (sl_stoF (Sl.of_els (c := 1) hE51) hB1o (fun i n => hC.no i n) Nw21.sto)
  clear hB1o
  refine LW.S ?_
  replace hC : BaseC w21 _ exB2 := hC
  refine CW.region ?_
  refine LW.pp (PEv.loadA Tryz.isAgg24 Tryz.sizeOf24 (hC.size) (.tmp rfl) ((hS.blk 0 rfl).agg)) ?_
  refine LW.c (enter_call0 (.cons (.tmp rfl) (.cons (.const _) (.cons (.const _) (.cons (.const _) .nil)))) (Tryz.en18)) rfl rfl rfl rfl (Decisions_any _ exB2 4 0 9 _ (hC) (by decide) (by decide) (by decide) (by decide)) ?_
  rintro v54 w22 ⟨_, L54, rfl, hm54, hT54⟩
  rw [ex_des2] at hm54
  obtain ⟨e1, f1, e2, f2, e3, f3, rfl⟩ := dps3 hm54
  replace hS := hS.join hT54
  change Wx.Sep no _ _ [_, _, _, _, _, _, _, _, _, _] at hS
  obtain ⟨ad54, cp54, rfl, _⟩ := (hS.own 8 rfl).sl (fun _ => rfl)
  clear hT54 hm54
  refine LW.A rfl (LW.S (CW.seq ?_))
  obtain ⟨Bx, ox, ax, hp, hq, hr⟩ := els_p ((hS.own 1 rfl).els (fun _ => rfl))
  obtain ⟨By, oy, ay, hp2, hq2, hr2⟩ := els_p ((hS.own 8 rfl).els (fun _ => rfl))
  obtain ⟨Bu, ou, au, hcu⟩ := sl_hd (usesA_get (hS.get 2 rfl) ⟨⟨3, rI 98, rI 2, [1]⟩, a3, c3⟩ (by simp))
  refine CW.region (LW.M rfl ?_)
  refine LW.pp (PEv.lenS Tryz.underlying43 (.tmp rfl)) ?_
  refine LW.pp (PEv.fa (PEv.neq (.tmp rfl) (.const _)) (rfl)) ?_
  refine LW.M rfl ?_
  refine LW.Y ?_
  refine LW.M rfl ?_
  refine LW.Y ?_
  refine LW.pp (PEv.lenS Tryz.underlying43 (.tmp rfl)) ?_
  refine LW.Y ?_
  refine LW.pp (PEv.fa (PEv.neq (.tmp rfl) (.const _)) (rfl)) ?_
  refine LW.pp (PEv.pick_or (.tmp rfl) (fun hp => (by first | exact .const _ | exact .tmp rfl | exact .cond rfl (by first | assumption | simp_all)))) ?_
  refine LW.M rfl ?_
  refine LW.Y ?_
  refine LW.M rfl ?_
  refine LW.Y ?_
  refine LW.pp (PEv.indexAddr' Tryz.underlying43 Tryz.sizeOf37 (j := 2) (.tmp rfl) (.const _) (Nat.le_of_ble_eq_true rfl) ax) ?_
  refine LW.Y ?_
  refine LW.pp (PEv.fieldAddr (off := 5) Tryz.underlying37 rfl rfl Tryz.sizeOf35 rfl (.tmp rfl)) ?_
  refine LW.Y ?_
  refine LW.pp (PEv.load Tryz.isAgg35 (.tmp rfl) (dp_uses hr)) ?_
  refine LW.Y ?_
  refine LW.pp (PEv.lenS Tryz.underlying35 (.tmp rfl)) ?_
  refine LW.Y ?_
  refine LW.pp (PEv.fa (PEv.neq (.tmp rfl) (.const _)) (rfl)) ?_
  refine LW.pp (PEv.pick_or (.tmp rfl) (fun hp => (by first | exact .const _ | exact .tmp rfl | exact .cond rfl (by first | assumption | simp_all)))) ?_
  refine LW.T ?_
  refine CW.cond_false (.tmp rfl) ?_
  refine CW.skip (KW.then (CW.seq ?_))
  refine CW.draws (by kernel_rfl) (by kernel_rfl) rfl rfl ?_
  refine HW.pp (PEv.move (.tmp rfl)) ?_
  refine HW.pp (PEv.indexAddr' Tryz.underlying43 Tryz.sizeOf37 (j := 0) (.tmp rfl) (.const _) (Nat.le_of_ble_eq_true rfl) ax) ?_
  refine HW.pp (PEv.fieldAddr (off := 1) Tryz.underlying37 rfl rfl Tryz.sizeOf34 rfl (.tmp rfl)) ?_
  refine HW.pp (PEv.loadA Tryz.isAgg34 Tryz.sizeOf34 rfl (.tmp rfl) (dp_par hp)) ?_
  refine HW.c (fun a w _ ha => enter_call0 (.cons (.const _) .nil) (Tryz.en28) a ha) rfl rfl (fun w hu => rwhole_any _ w) ?_
  refine HW.pp (PEv.tr (PEv.eqlA Tryz.eqGuardType34 (Tryz.eqRt _ _) (.tmp rfl) (.tmp rfl)) ((rtB_self _))) ?_
  refine HW.pp (PEv.move (.tmp rfl)) ?_
  refine HW.yp rfl rfl rfl rfl rfl (PEv.move (.tmp rfl)) rfl ?_
  refine HW.yp rfl rfl rfl rfl rfl (PEv.indexAddr' Tryz.underlying43 Tryz.sizeOf37 (j := 1) (.tmp rfl) (.const _) (Nat.le_of_ble_eq_true rfl) ax) rfl ?_
  refine HW.yp rfl rfl rfl rfl rfl (PEv.fieldAddr (off := 1) Tryz.underlying37 rfl rfl Tryz.sizeOf34 rfl (.tmp rfl)) rfl ?_
  refine HW.yp rfl rfl rfl rfl rfl (PEv.loadA Tryz.isAgg34 Tryz.sizeOf34 rfl (.tmp rfl) (dp_par hq)) rfl ?_
  refine HW.yc rfl rfl rfl rfl rfl (fun a w _ ha => enter_call0 (.cons (.const _) .nil) (Tryz.en28) a ha) rfl (fun w hu => rwhole_any _ w) ?_
  refine HW.yp rfl rfl rfl rfl rfl (PEv.tr (PEv.eqlA Tryz.eqGuardType34 (Tryz.eqRt _ _) (.tmp rfl) (.tmp rfl)) ((rtB_self _))) rfl ?_
  refine HW.pp (PEv.pick_and (.tmp rfl) (fun hp => (by first | exact .const _ | exact .tmp rfl | exact .cond rfl (by first | assumption | simp_all)))) ?_
  refine HW.pp (PEv.move (.tmp rfl)) ?_
  refine HW.yp rfl rfl rfl rfl rfl (PEv.move (.tmp rfl)) rfl ?_
  refine HW.yp rfl rfl rfl rfl rfl (PEv.indexAddr' Tryz.underlying43 Tryz.sizeOf37 (j := 1) (.tmp rfl) (.const _) (Nat.le_of_ble_eq_true rfl) ax) rfl ?_
  refine HW.yp rfl rfl rfl rfl rfl (PEv.fieldAddr (off := 3) Tryz.underlying37 rfl rfl Tryz.sizeOf34 rfl (.tmp rfl)) rfl ?_
  refine HW.yp rfl rfl rfl rfl rfl (PEv.loadA Tryz.isAgg34 Tryz.sizeOf34 rfl (.tmp rfl) (dp_est hq)) rfl ?_
  refine HW.yc rfl rfl rfl rfl rfl (fun a w _ ha => enter_call0 (.cons (.const _) .nil) (Tryz.en28) a ha) rfl (fun w hu => rwhole_any _ w) ?_
  refine HW.yp rfl rfl rfl rfl rfl (PEv.tr (PEv.eqlA Tryz.eqGuardType34 (Tryz.eqRt _ _) (.tmp rfl) (.tmp rfl)) ((rtB_self _))) rfl ?_
  refine HW.pp (PEv.pick_and (.tmp rfl) (fun hp => (by first | exact .const _ | exact .tmp rfl | exact .cond rfl (by first | assumption | simp_all)))) ?_
  refine HW.pp (PEv.move (.tmp rfl)) ?_
  refine HW.yp rfl rfl rfl rfl rfl (PEv.move (.tmp rfl)) rfl ?_
  refine HW.yp rfl rfl rfl rfl rfl (PEv.indexAddr' Tryz.underlying43 Tryz.sizeOf37 (j := 2) (.tmp rfl) (.const _) (Nat.le_of_ble_eq_true rfl) ax) rfl ?_
  refine HW.yp rfl rfl rfl rfl rfl (PEv.fieldAddr (off := 1) Tryz.underlying37 rfl rfl Tryz.sizeOf34 rfl (.tmp rfl)) rfl ?_
  refine HW.yp rfl rfl rfl rfl rfl (PEv.loadA Tryz.isAgg34 Tryz.sizeOf34 rfl (.tmp rfl) (dp_par hr)) rfl ?_
  refine HW.yc rfl rfl rfl rfl rfl (fun a w _ ha => enter_call0 (.cons (.const _) .nil) (Tryz.en28) a ha) rfl (fun w hu => rwhole_any _ w) ?_
  refine HW.yp rfl rfl rfl rfl rfl (PEv.tr (PEv.eqlA Tryz.eqGuardType34 (Tryz.eqRt _ _) (.tmp rfl) (.tmp rfl)) ((rtB_self _))) rfl ?_
  refine HW.pp (PEv.pick_and (.tmp rfl) (fun hp => (by first | exact .const _ | exact .tmp rfl | exact .cond rfl (by first | assumption | simp_all)))) ?_
  refine HW.pp (PEv.move (.tmp rfl)) ?_
  refine HW.yp rfl rfl rfl rfl rfl (PEv.move (.tmp rfl)) rfl ?_
  refine HW.yp rfl rfl rfl rfl rfl (PEv.indexAddr' Tryz.underlying43 Tryz.sizeOf37 (j := 2) (.tmp rfl) (.const _) (Nat.le_of_ble_eq_true rfl) ax) rfl ?_
  refine HW.yp rfl rfl rfl rfl rfl (PEv.fieldAddr (off := 5) Tryz.underlying37 rfl rfl Tryz.sizeOf35 rfl (.tmp rfl)) rfl ?_
  refine HW.yp rfl rfl rfl rfl rfl (PEv.load Tryz.isAgg35 (.tmp rfl) (dp_uses hr)) rfl ?_
  refine HW.yp rfl rfl rfl rfl rfl (PEv.indexAddr' Tryz.underlying35 Tryz.sizeOf3 (j := 0) (.tmp rfl) (.const _) (Nat.le_of_ble_eq_true rfl) au) rfl ?_
  refine HW.yp rfl rfl rfl rfl rfl (PEv.load Tryz.isAgg3 (.tmp rfl) (hcu 0 _ rfl)) rfl ?_
  refine HW.yp rfl rfl rfl rfl rfl (PEv.tr (PEv.eql (.tmp rfl) (.const _)) (rfl)) rfl ?_
  refine HW.pp (PEv.pick_and (.tmp rfl) (fun hp => (by first | exact .const _ | exact .tmp rfl | exact .cond rfl (by first | assumption | simp_all)))) ?_
  refine HW.pp (PEv.move (.tmp rfl)) ?_
  refine HW.yp rfl rfl rfl rfl rfl (PEv.move (.tmp rfl)) rfl ?_
  refine HW.yp rfl rfl rfl rfl rfl (PEv.indexAddr' Tryz.underlying43 Tryz.sizeOf37 (j := 2) (.tmp rfl) (.const _) (Nat.le_of_ble_eq_true rfl) ax) rfl ?_
  refine HW.yp rfl rfl rfl rfl rfl (PEv.fieldAddr (off := 0) Tryz.underlying37 rfl rfl Tryz.sizeOf3 rfl (.tmp rfl)) rfl ?_
  refine HW.yp rfl rfl rfl rfl rfl (PEv.load Tryz.isAgg3 (.tmp rfl) (dp_run hr)) rfl ?_
  refine HW.yp rfl rfl rfl rfl rfl (PEv.tr (PEv.eql (.tmp rfl) (.const _)) (rfl)) rfl ?_
  refine HW.pp (PEv.pick_and (.tmp rfl) (fun hp => (by first | exact .const _ | exact .tmp rfl | exact .cond rfl (by first | assumption | simp_all)))) ?_
  refine HW.pp (PEv.assign (.tmp rfl)) ?_
  refine HW.nil ?_
  intro w23 uw23
  have zw23 := uw23.size
  replace hS := hS.up uw23
  replace hp := hp.up uw23
  replace hq := hq.up uw23
  replace hr := hr.up uw23
  replace hr2 := hr2.up uw23
  replace hcu := hcu.up uw23
  refine KW.then (CW.seq ?_)
  refine CW.draws (by kernel_rfl) (by kernel_rfl) rfl rfl ?_
  refine HW.pp (PEv.move (.tmp rfl)) ?_
  refine HW.pp (PEv.tr (PEv.eql (.tmp rfl) (.const _)) (rfl)) ?_
  refine HW.pp (PEv.move (.tmp rfl)) ?_
  refine HW.yp rfl rfl rfl rfl rfl (PEv.fieldAddr (off := 1) Tryz.underlying37 rfl rfl Tryz.sizeOf34 rfl (.tmp rfl)) rfl ?_
  refine HW.yp rfl rfl rfl rfl rfl (PEv.loadA Tryz.isAgg34 Tryz.sizeOf34 rfl (.tmp rfl) (dp_par0 (hS.blk 3 rfl))) rfl ?_
  refine HW.yc rfl rfl rfl rfl rfl (fun a w _ ha => enter_call0 (.cons (.const _) .nil) (Tryz.en28) a ha) rfl (fun w hu => rwhole_any _ w) ?_
  refine HW.yp rfl rfl rfl rfl rfl (PEv.tr (PEv.eqlA Tryz.eqGuardType34 (Tryz.eqRt _ _) (.tmp rfl) (.tmp rfl)) ((rtB_self _))) rfl ?_
  refine HW.pp (PEv.pick_and (.tmp rfl) (fun hp => (by first | exact .const _ | exact .tmp rfl | exact .cond rfl (by first | assumption | simp_all)))) ?_
  refine HW.pp (PEv.move (.tmp rfl)) ?_
  refine HW.yp rfl rfl rfl rfl rfl (PEv.move (.tmp rfl)) rfl ?_
  refine HW.yp rfl rfl rfl rfl rfl (PEv.tr (PEv.eql (.tmp rfl) (.const _)) (rfl)) rfl ?_
  refine HW.pp (PEv.pick_and (.tmp rfl) (fun hp => (by first | exact .const _ | exact .tmp rfl | exact .cond rfl (by first | assumption | simp_all)))) ?_
  refine HW.pp (PEv.move (.tmp rfl)) ?_
  refine HW.yp rfl rfl rfl rfl rfl (PEv.fieldAddr (off := 1) Tryz.underlying37 rfl rfl Tryz.sizeOf34 rfl (.tmp rfl)) rfl ?_
  refine HW.yp rfl rfl rfl rfl rfl (PEv.loadA Tryz.isAgg34 Tryz.sizeOf34 rfl (.tmp rfl) (dp_par0 (hS.blk 4 rfl))) rfl ?_
  refine HW.yc rfl rfl rfl rfl rfl (fun a w _ ha => enter_call0 (.cons (.const _) .nil) (Tryz.en28) a ha) rfl (fun w hu => rwhole_any _ w) ?_
  refine HW.yp rfl rfl rfl rfl rfl (PEv.tr (PEv.eqlA Tryz.eqGuardType34 (Tryz.eqRt _ _) (.tmp rfl) (.tmp rfl)) ((rtB_self _))) rfl ?_
  refine HW.pp (PEv.pick_and (.tmp rfl) (fun hp => (by first | exact .const _ | exact .tmp rfl | exact .cond rfl (by first | assumption | simp_all)))) ?_
  refine HW.pp (PEv.move (.tmp rfl)) ?_
  refine HW.yp rfl rfl rfl rfl rfl (PEv.fieldAddr (off := 0) Tryz.underlying37 rfl rfl Tryz.sizeOf3 rfl (.tmp rfl)) rfl ?_
  refine HW.yp rfl rfl rfl rfl rfl (PEv.load Tryz.isAgg3 (.tmp rfl) ((hS.blk 5 rfl).celln rfl)) rfl ?_
  refine HW.yp rfl rfl rfl rfl rfl (PEv.tr (PEv.eql (.tmp rfl) (.const _)) (rfl)) rfl ?_
  refine HW.pp (PEv.pick_and (.tmp rfl) (fun hp => (by first | exact .const _ | exact .tmp rfl | exact .cond rfl (by first | assumption | simp_all)))) ?_
  refine HW.pp (PEv.move (.tmp rfl)) ?_
  refine HW.yp rfl rfl rfl rfl rfl (PEv.tr (PEv.move (.tmp rfl)) (rfl)) rfl ?_
  refine HW.pp (PEv.pick_and (.tmp rfl) (fun hp => (by first | exact .const _ | exact .tmp rfl | exact .cond rfl (by first | assumption | simp_all)))) ?_
  refine HW.pp (PEv.move (.tmp rfl)) ?_
  refine HW.yp rfl rfl rfl rfl rfl (PEv.move (.tmp rfl)) rfl ?_
  refine HW.yp rfl rfl rfl rfl rfl (PEv.tr (PEv.eql (.tmp rfl) (.const _)) (rfl)) rfl ?_
  refine HW.pp (PEv.pick_and (.tmp rfl) (fun hp => (by first | exact .const _ | exact .tmp rfl | exact .cond rfl (by first | assumption | simp_all)))) ?_
  refine HW.pp (PEv.move (.tmp rfl)) ?_
  refine HW.yp rfl rfl rfl rfl rfl (PEv.move (.tmp rfl)) rfl ?_
  refine HW.yp rfl rfl rfl rfl rfl (PEv.tr (PEv.not (.tmp rfl)) (rfl)) rfl ?_
  refine HW.pp (PEv.pick_and (.tmp rfl) (fun hp => (by first | exact .const _ | exact .tmp rfl | exact .cond rfl (by first | assumption | simp_all)))) ?_
  refine HW.pp (PEv.move (.tmp rfl)) ?_
  refine HW.yp rfl rfl rfl rfl rfl (PEv.move (.tmp rfl)) rfl ?_
  refine HW.yp rfl rfl rfl rfl rfl (PEv.tr (PEv.eql (.tmp rfl) (.const _)) (rfl)) rfl ?_
  refine HW.pp (PEv.pick_and (.tmp rfl) (fun hp => (by first | exact .const _ | exact .tmp rfl | exact .cond rfl (by first | assumption | simp_all)))) ?_
  refine HW.pp (PEv.move (.tmp rfl)) ?_
  refine HW.yp rfl rfl rfl rfl rfl (PEv.move (.tmp rfl)) rfl ?_
  refine HW.yp rfl rfl rfl rfl rfl (PEv.tr (PEv.eql (.tmp rfl) (.const _)) (rfl)) rfl ?_
  refine HW.pp (PEv.pick_and (.tmp rfl) (fun hp => (by first | exact .const _ | exact .tmp rfl | exact .cond rfl (by first | assumption | simp_all)))) ?_
  refine HW.pp (PEv.assign (.tmp rfl)) ?_
  refine HW.nil ?_
  intro w24 uw24
  have zw24 := uw24.size
  replace hS := hS.up uw24
  replace hp := hp.up uw24
  replace hq := hq.up uw24
  replace hr := hr.up uw24
  replace hr2 := hr2.up uw24
  replace hcu := hcu.up uw24
  refine KW.then (CW.seq ?_)
  refine CW.draws (by kernel_rfl) (by kernel_rfl) rfl rfl ?_
  refine HW.pp (PEv.move (.tmp rfl)) ?_
  refine HW.pp (PEv.move (.tmp rfl)) ?_
  refine HW.yp rfl rfl rfl rfl rfl (PEv.move (.tmp rfl)) rfl ?_
  refine HW.pp (PEv.pick_and (.tmp rfl) (fun hp => (by first | exact .const _ | exact .tmp rfl | exact .cond rfl (by first | assumption | simp_all)))) ?_
  refine HW.pp (PEv.move (.tmp rfl)) ?_
  refine HW.yp rfl rfl rfl rfl rfl (PEv.move (.tmp rfl)) rfl ?_
  refine HW.yp rfl rfl rfl rfl rfl (PEv.indexAddr' Tryz.underlying43 Tryz.sizeOf37 (j := 2) (.tmp rfl) (.const _) (Nat.le_of_ble_eq_true rfl) ay) rfl ?_
  refine HW.yp rfl rfl rfl rfl rfl (PEv.fieldAddr (off := 1) Tryz.underlying37 rfl rfl Tryz.sizeOf34 rfl (.tmp rfl)) rfl ?_
  refine HW.yp rfl rfl rfl rfl rfl (PEv.loadA Tryz.isAgg34 Tryz.sizeOf34 rfl (.tmp rfl) (dp_par hr2)) rfl ?_
  refine HW.yc rfl rfl rfl rfl rfl (fun a w _ ha => enter_call0 (.cons (.const _) .nil) (Tryz.en28) a ha) rfl (fun w hu => rwhole_any _ w) ?_
  refine HW.yp rfl rfl rfl rfl rfl (PEv.tr (PEv.eqlA Tryz.eqGuardType34 (Tryz.eqRt _ _) (.tmp rfl) (.tmp rfl)) ((rtB_self _))) rfl ?_
  refine HW.pp (PEv.pick_and (.tmp rfl) (fun hp => (by first | exact .const _ | exact .tmp rfl | exact .cond rfl (by first | assumption | simp_all)))) ?_
  refine HW.pp (PEv.assign (.tmp rfl)) ?_
  refine HW.nil ?_
  intro w25 uw25
  have zw25 := uw25.size
  replace hS := hS.up uw25
  replace hp := hp.up uw25
  replace hq := hq.up uw25
  replace hr := hr.up uw25
  replace hr2 := hr2.up uw25
  replace hcu := hcu.up uw25
  refine KW.then (CW.ret ?_)
  refine KW.ret1 rfl rfl ⟨_, rfl, ?_⟩
  exact ⟨rfl, hS.upd⟩
end Go.Proofs.YtgffaeachbbjoaaGreatDoor
end
section
namespace Go.Wx
theorem lst_mem {l : List Fact} {d : Int} {j : Nat} (hj : j < 11) {x : Fact} : x ∈ lstOf (ofB l d) j ↔ eff l d x ∧ x.Gone = false ∧ x.Kind = ((j + 1 : Nat) : Int) := by
  rw [lst_ofB l d hj]
  unfold lstAt
  rw [if_pos (List.mem_singleton.2 rfl), (sortK_sts _).same.mem, List.mem_filter, best_eff]
  simp
theorem eff_valid {l : List Fact} {d : Int} {x : Fact} (h : eff l d x) : validB x = true := keyB_valid h.2.1
theorem eff_key {l : List Fact} {d : Int} {x y : Fact} (hx : eff l d x) (hy : eff l d y) (e : keyB x = keyB y) : x = y := prev_total (eff_valid hx) (eff_valid hy) e (hy.2.2.2 x hx.1 hx.2.2.1) (hx.2.2.2 y hy.1 hy.2.2.1)
theorem lst_nodup (l : List Fact) (d : Int) {j : Nat} (hj : j < 11) : (lstOf (ofB l d) j).Nodup := by
  rw [lst_ofB l d hj]
  unfold lstAt
  rw [if_pos (List.mem_singleton.2 rfl)]
  exact ((sortK_sts _).same.perm.nodup_iff).2 ((factsM_nodup l d).filter _)
theorem soF_mem {xs : List I6} {f : Fact} (h : f ∈ soL xs) : ∃ y ∈ xs, soF y = some f := by
  unfold soL at h
  obtain ⟨y, hy, e⟩ := List.mem_filterMap.1 h
  exact ⟨y, List.mem_of_mem_take hy, e⟩
theorem so_cases {y : I6} {f : Fact} (h : soF y = some f) : f = soP y ∨ f = soM y ∨ f = soT y ∨ f = soR y := by
  unfold soF at h
  split at h
  · exact .inl (Option.some.inj h).symm
  · split at h
    · exact .inr (.inl (Option.some.inj h).symm)
    · split at h
      · exact .inr (.inr (.inl (Option.some.inj h).symm))
      · split at h
        · cases h
        · exact .inr (.inr (.inr (Option.some.inj h).symm))
theorem desF_uses (b : Base) (t c r : Int) : ∀ D ∈ desF b t c r, D.uses.length ≤ (rnsF b t c r).length := fun D hD => by
  unfold desF at hD
  obtain ⟨i, hi, rfl⟩ := List.mem_map.1 hD
  have hi := List.mem_range.1 hi
  obtain ⟨x, hx⟩ := getElem?_of_lt hi
  rw [decAt_some hx]
  refine Nat.le_trans (decF_uses b t c r x.Time _) ?_
  rw [List.length_take]; omega
def shortN (n : Nat) (b : Base) : Prop := ∀ j, (lstOf b j).length ≤ n
theorem ofB_shortN {l : List Fact} {n : Nat} (h : l.length ≤ n) (d : Int) : shortN n (ofB l d) := fun j => by
  by_cases hj : j < 11
  · rw [lst_ofB l d hj]
    exact Nat.le_trans (lst_len _ _ _) (Nat.le_trans (factsM_len l d) h)
  · rw [lstOf_big _ hj]; simp
end Go.Wx
namespace Go.Proofs.YtgffaeachbbjoaaGreatDoor
open Go.Wx Go.RowKit
theorem DecisionsE_any (bc : Array Go.Value) (b : Base) (t c r : Int) (w : World) (hC : BaseC w bc b) (hlP : b.Processes.length ≤ 400) (hlR : b.Resets.length ≤ 100000) (hlM : b.Measures.length ≤ 100000) (hlT : b.Targets.length ≤ 100000) : Ret Tryz.prog 18 #[.agg bc, vi t, vi c, vi r] w fun r0 w' => DecsE w' r0 (desF b t c r) ∧ Up w w' :=
  (Decisions_any bc b t c r w hC hlP hlR hlM hlT).mono fun r0 w' ⟨v, L, e, hm, hT⟩ => ⟨by rw [e]; exact decsE_of hT hm, hT.upd⟩
end Go.Proofs.YtgffaeachbbjoaaGreatDoor
end
section
namespace Go.Wx
theorem sortK_filter {α : Type} {key : α → K2} (p : α → Bool) (l : List α) : (sortK key l).filter p = sortK key (l.filter p) :=
  StS.unique ⟨(sortK_sts l).ord.sublist List.filter_sublist, fun k => by
    rw [List.filter_filter, List.filter_filter]
    have h := (sortK_sts (key := key) l).same k
    rw [show (fun x => (key x == k) && p x) = fun x => p x && (key x == k) from funext fun x => Bool.and_comm _ _, ← List.filter_filter, ← List.filter_filter, h]⟩ (sortK_sts _)
theorem rnsF_sort (b : Base) (t c r : Int) : rnsF b t c r = sortK runK ((b.Processes.filter (runP t c)).filter fun x => decide (x.Recipe = r)) := by unfold rnsF runsB; rw [sortK_filter]
theorem rns_mem {b : Base} {t c r : Int} {x : Fact} : x ∈ rnsF b t c r ↔ x ∈ b.Processes ∧ x.Tool = t ∧ x.Chamber = c ∧ x.Recipe = r := by
  rw [rnsF_sort, (sortK_sts _).same.mem, List.mem_filter, List.mem_filter]
  unfold runP
  simp only [Bool.and_eq_true, decide_eq_true_eq]
  exact ⟨fun ⟨⟨a, b, c⟩, d⟩ => ⟨a, b, c, d⟩, fun ⟨a, b, c, d⟩ => ⟨⟨a, b, c⟩, d⟩⟩
theorem since_mem : ∀ {rs a : List Fact} {x : Fact}, x ∈ sinceF rs a ↔ x ∈ a ∧ ∀ y ∈ rs, y.Time ≤ x.Time
  | [], a, x => by simp [sinceF]
  | y :: rs, a, x => by
    have e : sinceF (y :: rs) a = sinceF rs (a.filter fun x => decide (y.Time ≤ x.Time)) := rfl
    rw [e, since_mem, List.mem_filter]
    simp only [decide_eq_true_eq, List.forall_mem_cons]
    exact ⟨fun ⟨⟨a, b⟩, c⟩ => ⟨a, b, c⟩, fun ⟨a, b, c⟩ => ⟨⟨a, b⟩, c⟩⟩
structure KnB (b : Base) : Prop where
  sh : shortN 100 b
  nd : b.Processes.Nodup
  uid : ∀ f ∈ b.Processes, ∀ g ∈ b.Processes, f.ID = g.ID → f = g
theorem kn_of {l : List Fact} (h : l.length ≤ 100) (d : Int) : KnB (ofB l d) := by
  refine ⟨ofB_shortN h d, lst_nodup l d (j := 0) (by decide), fun f hf g hg e => ?_⟩
  have h1 := (lst_mem (j := 0) (by decide)).1 hf
  have h2 := (lst_mem (j := 0) (by decide)).1 hg
  exact eff_key h1.1 h2.1 (key_of_ord (k := 1) (eff_valid h1.1) (eff_valid h2.1) h1.2.2 h2.2.2 (by show (f.ID, (0 : Int)) = (g.ID, 0); rw [e]))
theorem KnB.find {b : Base} (h : KnB b) {f : Fact} (hf : f ∈ b.Processes) : procB b f.ID = some f := by
  unfold procB
  cases e : b.Processes.find? fun x => decide (x.ID = f.ID) with
  | none => exact absurd (List.find?_eq_none.1 e f hf) (by simp)
  | some g =>
    have h1 := List.find?_some e
    exact congrArg some (h.uid g (List.mem_of_find?_eq_some e) f hf (of_decide_eq_true h1))
theorem KnB.run {b : Base} (h : KnB b) {t c r : Int} {f : Fact} (hf : f ∈ rnsF b t c r) : procB b f.ID = some f := h.find (rns_mem.1 hf).1
theorem pk10 : pickI 10 11 = 10 := by decide
theorem nil11 (i : Nat) (n : Int) : (#[.slice none 0 0, .slice none 0 0, .slice none 0 0, .slice none 0 0, .slice none 0 0, .slice none 0 0, .slice none 0 0, .slice none 0 0, .slice none 0 0, .slice none 0 0, .slice none 0 0] : Array Value)[i]? ≠ some (vi n) := by
  match i with
  | 0 | 1 | 2 | 3 | 4 | 5 | 6 | 7 | 8 | 9 | 10 => simp
  | i + 11 => simp
end Go.Wx
namespace Go.Proofs.YtgffaeachbbjoaaGreatDoor
open Go.Wx Go.RowKit
theorem known_any (ad : Option Addr) (cp : Nat) (xs : List I6) (day : Int) (w : World) (hE0 : Els w ad 6 I6.cells xs) : Ret Tryz.prog 12 #[.slice ad xs.length cp, vi day] w fun r w' => ∃ bc, r = .agg bc ∧ BaseC w' bc (ofB (soL xs) (pickI day 11)) ∧ Up w w' := by
  obtain ⟨w0, rfl⟩ : ∃ w0, w0 = w := ⟨_, rfl⟩
  have hS := Sep.start no w0
  refine Calls_start (n := 10) (m := 9) Tryz.func12 rfl rfl rfl ?_
  refine CW.S ?_
  refine LW.r (REv.allocA Tryz.zeroValue24) rfl rfl rfl rfl ?_
  rintro _ w1 ⟨B4, rfl, NB4⟩
  have eB4 := NB4.at_
  have zB4 := NB4.size
  replace hS := hS.addB NB4
  change Wx.Sep _ _ _ [_] at hS
  refine LW.S (CW.region (LW.M rfl ?_))
  refine LW.c (enter_call0 (.cons (.tmp rfl) .nil) (Tryz.en22)) rfl rfl rfl rfl (Some_any ad cp xs _ (Els.up hE0 hS.upd)) ?_
  rintro v6 w2 ⟨hO6, uw2⟩
  have zw2 := uw2.size
  replace hS := hS.up uw2
  obtain ⟨ad6, cp6, rfl, hE6_⟩ := hO6.sl (fun _ => rfl)
  have hE6 : Els w2 ad6 19 Fact.cells (soL xs) := hE6_
  clear hO6 hE6_
  refine LW.M rfl ?_
  refine LW.c (enter_call0 (.cons (.tmp rfl) (.cons (.const _) .nil)) (Tryz.en13)) rfl rfl rfl rfl (pick_any _ _ _ (by decide)) ?_
  rintro _ w3 ⟨rfl, uw3⟩
  have zw3 := uw3.size
  replace hS := hS.up uw3
  replace hE6 := hE6.up uw3
  refine LW.c (enter_call0 (.cons (.tmp rfl) (.cons (.tmp rfl) .nil)) (Tryz.en23)) rfl rfl rfl rfl (Of_any ad6 cp6 (soL xs) _ _ hE6 (Nat.le_trans (soL_len xs) (by decide))) ?_
  rintro _ w4 ⟨bc, rfl, hC, uw4⟩
  have zw4 := uw4.size
  replace hS := hS.up uw4
  replace hE6 := hE6.up uw4
  have hB4o := hS.blk 0 rfl
  have hno4 : ∀ (i : Nat) (n : Int), (#[.slice none 0 0, .slice none 0 0, .slice none 0 0, .slice none 0 0, .slice none 0 0, .slice none 0 0, .slice none 0 0, .slice none 0 0, .slice none 0 0, .slice none 0 0, .slice none 0 0] : Array Go.Value)[i]? ≠ some (vi n) := nil11
  refine LW.s (SEv.storeA Tryz.sizeOf24 hC.size (.tmp rfl) (.tmp rfl) hC.one (hS.blk 0 rfl) rfl) rfl rfl rfl ?_
  intro w5 Nw5
  have zw5 := Nw5.size
  replace hS := hS.putB 0 rfl (show Set_ _ w5 _ (bc) _ from Nw5)
  change Wx.Sep _ _ _ [_] at hS
  clear hE6
  replace hC := base_sto hC hB4o hno4 Nw5.sto
  refine LW.T (CW.ret ?_)
  refine KW.retA rfl rfl Tryz.isAgg24 Tryz.sizeOf24 hC.size ((hS.blk 0 rfl).agg) ⟨_, rfl, ?_⟩
  exact ⟨bc, rfl, hC, hS.upd⟩
end Go.Proofs.YtgffaeachbbjoaaGreatDoor
end
section
namespace Go.Wx
def p3 (t c r : Int) (f : Fact) : Bool := decide (f.Tool = t) && decide (f.Chamber = c) && decide (f.Recipe = r)
def rsF (t c tm : Int) : Fact := { zeroF with Kind := 9, Version := 1, ID := 100, Tool := t, Chamber := c, Time := tm }
def resetB (b : Base) (t c tm : Int) : Base := { b with Resets := b.Resets ++ [rsF t c tm] }
theorem sum_mem (M T : List Fact) (r t : Int) : ∀ (l : List Fact) (s : Int × List Int), ∀ u ∈ (l.foldl (sumStep M T r t) s).2, u ∈ s.2 ∨ ∃ x ∈ l, u = x.ID
  | [], _, u, h => .inl h
  | x :: l, s, u, h => by
    rw [List.foldl_cons] at h
    rcases sum_mem M T r t l _ u h with h | ⟨y, hy, e⟩
    · unfold sumStep at h
      split at h
      · rcases List.mem_append.1 h with h | h
        · exact .inl h
        · exact .inr ⟨x, List.mem_cons_self, List.mem_singleton.1 h⟩
      · exact .inl h
    · exact .inr ⟨y, List.mem_cons_of_mem _ hy, e⟩
theorem dec_uses {b : Base} {t c r time : Int} {a : List Fact} {u : Int} (h : u ∈ (decF b t c r time a).uses) : ∃ x ∈ a, u = x.ID ∧ ∀ y ∈ resL b t c time, y.Time ≤ x.Time := by
  rcases sum_mem _ _ _ _ _ _ u (show u ∈ (sumF b.Measures b.Targets r time (sinceF (resL b t c time) a)).2 from h) with h | ⟨x, hx, e⟩
  · cases h
  · exact ⟨x, (since_mem.1 hx).1, e, (since_mem.1 hx).2⟩
theorem reset_in {b : Base} {t c tm time : Int} (h : tm ≤ time) : rsF t c tm ∈ resL (resetB b t c tm) t c time := by
  unfold resL
  refine List.mem_filter.2 ⟨List.mem_append_right _ (List.mem_singleton.2 rfl), ?_⟩
  unfold hereF
  simp [rsF, h]
theorem reset_uses {b : Base} (hk : KnB b) {t c r tm : Int} {i : Nat} {p : Fact} (ha : tm ≤ p.Time) : ∀ u ∈ (decF (resetB b t c tm) t c r p.Time ((rnsF b t c r).take i)).uses, ∃ q, procB b u = some q ∧ tm ≤ q.Time := fun u hu => by
  obtain ⟨x, hx, e, h⟩ := dec_uses hu
  exact ⟨x, by rw [e]; exact hk.run (List.mem_of_mem_take hx), h _ (reset_in ha)⟩
theorem tg_end (r t : Int) (T : List Fact) : ∀ (l : List Fact) (s : Fact × Bool), (∀ x ∈ l, x ∈ T) → (s = (zeroF, false) ∨ (s.1 ∈ T ∧ s.2 = true)) → (l.foldl (tgStep r t) s = (zeroF, false) ∨ ((l.foldl (tgStep r t) s).1 ∈ T ∧ (l.foldl (tgStep r t) s).2 = true))
  | [], _, _, h => h
  | x :: l, s, hl, h => by
    rw [List.foldl_cons]
    refine tg_end r t T l _ (fun y hy => hl y (List.mem_cons_of_mem _ hy)) ?_
    unfold tgStep
    split
    · exact .inr ⟨hl x List.mem_cons_self, rfl⟩
    · exact h
theorem tg_cases (r t : Int) (T : List Fact) : tgF r t T = (zeroF, false) ∨ ((tgF r t T).1 ∈ T ∧ (tgF r t T).2 = true) := tg_end r t T T _ (fun _ h => h) (.inl rfl)
theorem tar_small {T : List Fact} {r t : Int} (h : ∀ f ∈ T, 0 ≤ f.Value ∧ f.Value < 40) : tarF T r t = (tgF r t T).1.Value ∧ 0 ≤ tarF T r t ∧ tarF T r t < 40 := by
  unfold tarF
  rcases tg_cases r t T with e | ⟨h1, h2⟩
  · rw [e]; exact ⟨rfl, by decide, by decide⟩
  · have hv := h _ h1
    rw [h2, show isVal (tgF r t T).1.Value = true by unfold isVal; simp; omega]
    exact ⟨rfl, hv⟩
theorem par_small : ∀ n : Nat, n < 40 → parF (n : Int) 0 = rI n := by
  intro n hn
  have h : (List.range 40).all (fun n => rtB (parF (n : Int) 0) (rI n)) = true := by kernel_rfl
  exact (rtB_iff _ _).1 (List.all_eq_true.1 h n (List.mem_range.2 hn))
theorem reset_now {b : Base} {t c r tm : Int} (hT : ∀ f ∈ b.Targets, 0 ≤ f.Value ∧ f.Value < 40) (hf : ∀ f ∈ b.Processes, (p3 t c r f && decide (f.Time = tm)) = false) : decNow (resetB b t c tm) t c r tm = ⟨0, rI (tgF r tm b.Targets).1.Value, rI 0, []⟩ := by
  have e : sinceF (resL (resetB b t c tm) t c tm) ((rnsF b t c r).filter fun x => decide (x.Time ≤ tm)) = [] := by
    refine List.eq_nil_iff_forall_not_mem.2 fun x hx => ?_
    obtain ⟨h1, h2⟩ := since_mem.1 hx
    have h3 := List.mem_filter.1 h1
    have h4 := rns_mem.1 h3.1
    have h5 := of_decide_eq_true h3.2
    have h6 : tm ≤ x.Time := h2 _ (reset_in (Int.le_refl _))
    have h7 := hf x h4.1
    unfold p3 at h7
    simp [h4.2.1, h4.2.2.1, h4.2.2.2] at h7
    omega
  obtain ⟨h1, h2, h3⟩ := tar_small (r := r) (t := tm) hT
  have h4 : decNow (resetB b t c tm) t c r tm = decF (resetB b t c tm) t c r tm ((rnsF b t c r).filter fun x => decide (x.Time ≤ tm)) := rfl
  rw [h4]
  unfold decF
  rw [e]
  show (⟨0, parF (tarF b.Targets r tm) 0, redF 0 4, []⟩ : Dec) = _
  rw [← h1]
  obtain ⟨n, hn⟩ := Int.eq_ofNat_of_zero_le h2
  rw [hn, par_small n (by omega)]
  rfl
theorem so_value {xs : List I6} (hx : ∀ y ∈ xs, I6Ok y) : ∀ f ∈ soL xs, f.Kind = 10 → 0 ≤ f.Value ∧ f.Value < 40 := fun f hf hk => by
  obtain ⟨y, hy, e⟩ := soF_mem hf
  rcases so_cases e with rfl | rfl | rfl | rfl
  · cases hk
  · cases hk
  · exact pick_range (hx y hy).2.2.2.2.2 (by decide)
  · cases hk
theorem kn_targets {xs : List I6} {d : Int} (hx : ∀ y ∈ xs, I6Ok y) : ∀ f ∈ (ofB (soL xs) d).Targets, 0 ≤ f.Value ∧ f.Value < 40 := fun f hf => by
  have h := (lst_mem (j := 9) (by decide)).1 hf
  exact so_value hx f h.1.1 h.2.2
theorem up_frS {S : Nat → Prop} {w0 w w' : World} (h : Up w0 w) (f : Fr S w w') (hB : ∀ i, S i → w0.heap.size ≤ i) : Up w0 w' := ((h.fr (fun _ => False)).next f (fun i e => .inr (hB i e))).toUp (fun _ h => h)
def UsL (w : World) (L : List DP) : Prop := ∀ p ∈ L, Sl w p.uv 1 eInt p.dec.uses
theorem UsL.up {w w' : World} {L : List DP} (h : UsL w L) (u : Up w w') : UsL w' L := fun p hp => (h p hp).up u
end Go.Wx
namespace Go.Proofs.YtgffaeachbbjoaaGreatDoor
open Go.Wx Go.RowKit
end Go.Proofs.YtgffaeachbbjoaaGreatDoor
end
section
namespace Go.Proofs.YtgffaeachbbjoaaGreatDoor
open Go.Wx Go.RowKit
set_option maxHeartbeats 4000000 in
theorem ControlReset_any (ad : Option Addr) (cp : Nat) (xs : List I6) (tool chamber recipe at_ : Int) (w : World) (hE1 : Els w ad 6 I6.cells xs) (hxs : ∀ y ∈ xs, I6Ok y) (htool : inI tool) (hch : inI chamber) (hrec : inI recipe) (hat : inI at_) : Ret Tryz.prog 6 #[.slice ad xs.length cp, vi tool, vi chamber, vi recipe, vi at_] w fun r0 w' => r0 = .bool true ∧ Up w w' := by
  obtain ⟨w0, rfl⟩ : ∃ w0, w0 = w := ⟨_, rfl⟩
  have hS := Sep.start no w0
  have hTv : ∀ f ∈ (ofB (soL xs) 10).Targets, 0 ≤ f.Value ∧ f.Value < 40 := kn_targets hxs
  refine Calls_start (n := 192) (m := 9) Tryz.func6 rfl rfl rfl ?_
  refine CW.S (LW.C (LW.S (CW.region ?_)))
  refine LW.c (enter_call0 .nil (Tryz.en10)) rfl rfl rfl rfl (sane_any _) ?_
  rintro _ w1 ⟨rfl, uw1⟩
  have zw1 := uw1.size
  replace hS := hS.up uw1
  refine LW.A rfl (LW.S (CW.region (LW.M rfl ?_)))
  refine LW.c (enter_call0 (.cons (.tmp rfl) (.cons (.const _) .nil)) (Tryz.en13)) rfl rfl rfl rfl (pick_any _ _ _ (by decide)) ?_
  rintro _ w2 ⟨rfl, uw2⟩
  have zw2 := uw2.size
  replace hS := hS.up uw2
  have ht := pick_range (c := tool) (n := 2) htool (by decide)
  obtain ⟨t, et⟩ : ∃ t, t = pickI tool 2 := ⟨_, rfl⟩
  rw [← et] at ht ⊢
  refine LW.A rfl (LW.S (CW.region (LW.M rfl ?_)))
  refine LW.c (enter_call0 (.cons (.tmp rfl) (.cons (.const _) .nil)) (Tryz.en13)) rfl rfl rfl rfl (pick_any _ _ _ (by decide)) ?_
  rintro _ w3 ⟨rfl, uw3⟩
  have zw3 := uw3.size
  replace hS := hS.up uw3
  have hc := pick_range (c := chamber) (n := 2) hch (by decide)
  obtain ⟨c, ec⟩ : ∃ c, c = pickI chamber 2 := ⟨_, rfl⟩
  rw [← ec] at hc ⊢
  refine LW.A rfl (LW.S (CW.region (LW.M rfl ?_)))
  refine LW.c (enter_call0 (.cons (.tmp rfl) (.cons (.const _) .nil)) (Tryz.en13)) rfl rfl rfl rfl (pick_any _ _ _ (by decide)) ?_
  rintro _ w4 ⟨rfl, uw4⟩
  have zw4 := uw4.size
  replace hS := hS.up uw4
  have hrp := pick_range (c := recipe) (n := 2) hrec (by decide)
  obtain ⟨rp, erp⟩ : ∃ rp, rp = pickI recipe 2 := ⟨_, rfl⟩
  rw [← erp] at hrp ⊢
  refine LW.pp (PEv.add_w (.const _) (.tmp rfl)) ?_
  refine LW.A rfl (LW.S (CW.region (LW.M rfl ?_)))
  refine LW.c (enter_call0 (.cons (.tmp rfl) (.cons (.const _) .nil)) (Tryz.en13)) rfl rfl rfl rfl (pick_any _ _ _ (by decide)) ?_
  rintro _ w5 ⟨rfl, uw5⟩
  have zw5 := uw5.size
  replace hS := hS.up uw5
  have htm := pick_range (c := at_) (n := 60) hat (by decide)
  obtain ⟨tm, etm⟩ : ∃ tm, tm = pickI at_ 60 := ⟨_, rfl⟩
  rw [← etm] at htm ⊢
  refine LW.A rfl (LW.S (CW.region (LW.M rfl ?_)))
  refine LW.c (enter_call0 (.cons (.tmp rfl) (.cons (.const _) .nil)) (Tryz.en12)) rfl rfl rfl rfl (known_any ad cp xs 10 _ (Els.up hE1 hS.upd)) ?_
  rintro _ w6 ⟨bc, rfl, hC, uw6⟩
  have zw6 := uw6.size
  replace hS := hS.up uw6
  rw [pk10] at hC
  obtain ⟨b, eb⟩ : ∃ b, b = ofB (soL xs) 10 := ⟨_, rfl⟩
  rw [← eb] at hC
  have hk : KnB b := by rw [eb]; exact kn_of (Nat.le_trans (soL_len xs) (by decide)) 10
  refine LW.r (REv.allocA Tryz.zeroValue24) rfl rfl rfl rfl ?_
  rintro _ w7 ⟨B12, rfl, MB12⟩
  refine LW.s (SEv.storeA Tryz.sizeOf24 hC.size (.tmp rfl) (.tmp rfl) hC.one MB12.blk rfl) rfl rfl rfl ?_
  intro w8 LB12
  have NB12 := MB12.set LB12
  clear LB12 MB12
  have eB12 := NB12.at_
  have zB12 := NB12.size
  replace hC := hC.up NB12.up
  replace hS := hS.addB NB12
  change Wx.Sep _ _ _ [_] at hS
  refine LW.S ?_
  obtain ⟨r, er⟩ : ∃ r, r = IntKind.i64.wrap (1 + rp) := ⟨_, rfl⟩
  rw [← er]
  have hC0 := hC
  obtain ⟨v8, h8, adR, cpR, rfl, hER_⟩ := hC0.at8
  have hER : Els w8 adR 19 Fact.cells b.Resets := hER_
  clear hER_
  have hUb := Up.refl w8
  have hC8 := hC
  have hER8 := hER
  refine CW.region ?_
  refine LW.r (REv.buildSlice (xs := ([] : List Fact)) (enc := Fact.cells) (mk := fun f => .agg f.cells) Tryz.underlying22 Tryz.sizeOf50 Tryz.zeroValue50 rfl (by decide) (fun _ => rfl) (fun _ => rfl) .nil rfl) rfl rfl rfl rfl ?_
  intro v39 w9 hN39
  obtain ⟨uw9, B39, rfl, hO39⟩ := NewSl.own0 hN39 (Nat.le_refl _)
  have zw9 := uw9.size
  replace hC := hC.up uw9
  replace hER := hER.up uw9
  replace hUb := hUb.up uw9
  replace hS := hS.add uw9 (A' := aOwn 50 19 Fact.cells (.slice (some ⟨B39, 0, none⟩) 0 0) ([] : List Fact)) (hO39.mono (Nat.zero_le _)) (fun i h => hO39.base i h)
  have hb39 : ∀ i, (aOwn 50 19 Fact.cells (.slice (some ⟨B39, 0, none⟩) 0 0) ([] : List Fact)).foot i → w8.heap.size ≤ i := fun i h => hO39.base i h
  clear hN39 hO39
  change Wx.Sep _ _ _ [_, _] at hS
  refine LW.pp (PEv.fieldAddr (off := 8) Tryz.underlying24 rfl rfl Tryz.sizeOf22 rfl (.tmp rfl)) ?_
  refine LW.pp (PEv.load Tryz.isAgg22 (.tmp rfl) ((hS.blk 0 rfl).cell h8)) ?_
  refine LW.r (REv.appendF (enc := Fact.cells) (bytes := 160) (i := Tryz.t50) Tryz.underlying22 (by kernel_rfl) rfl rfl rfl rfl (by decide) (fun _ => rfl) Fact.one (.tmp rfl) (.tmp rfl) (hS.own 1 rfl) (Sl.of_els hER) (by have : b.Resets.length ≤ 100 := hk.sh 8; simp [maxLen]; omega) (by have : b.Resets.length ≤ 100 := hk.sh 8; simp; omega)) rfl rfl rfl rfl ?_
  intro v42 w10 Gw10
  have zw10 := Gw10.fr.size
  replace hS := hS.stp 1 rfl Gw10
  change Wx.Sep _ _ _ [_, _] at hS
  have hb42 : ∀ i, (aOwn 50 19 Fact.cells v42 ([] ++ b.Resets)).foot i → w8.heap.size ≤ i := fun i hi => (Gw10.sub i hi).elim (hb39 i) (fun h => by omega)
  replace hUb := up_frS hUb Gw10.fr hb39
  replace hC := hC8.up hUb
  replace hER := hER8.up hUb
  refine LW.M rfl (LW.M rfl (LW.M rfl ?_))
  refine LW.pp (PEv.build (cs := (rsF t c tm).cells) Tryz.underlying50 Tryz.zeroValue50 Tryz.places50 (.cons (.const _) (.cons (.const _) (.cons (.const _) (.cons (.tmp rfl) (.cons (.tmp rfl) (.cons (.tmp rfl) .nil)))))) (by kernel_rfl)) ?_
  refine LW.r (REv.buildSlice (xs := [rsF t c tm]) (enc := Fact.cells) (mk := fun f : Fact => .agg f.cells) Tryz.underlying22 Tryz.sizeOf50 Tryz.zeroValue50 rfl (by decide) (fun _ => rfl) (fun _ => rfl) (.cons (.tmp rfl) .nil) rfl) rfl rfl rfl rfl ?_
  rintro _ w11 ⟨B47, cB47, rfl, NB47, yB47, xB47⟩
  have eB47 := NB47.at_
  have zB47 := NB47.size
  replace hS := hS.up NB47.up
  replace hC := hC.up NB47.up
  replace hER := hER.up NB47.up
  replace hUb := hUb.up NB47.up
  have hE47 := xB47
  refine LW.r (REv.appendF (enc := Fact.cells) (bytes := 160) (i := Tryz.t50) Tryz.underlying22 (by kernel_rfl) rfl rfl rfl rfl (by decide) (fun _ => rfl) Fact.one (.tmp rfl) (.tmp rfl) (hS.own 1 rfl) (Sl.of_els hE47) (by have : b.Resets.length ≤ 100 := hk.sh 8; simp [maxLen]; omega) (by have : b.Resets.length ≤ 100 := hk.sh 8; simp; omega)) rfl rfl rfl rfl ?_
  intro v48 w12 Gw12
  have zw12 := Gw12.fr.size
  replace hS := hS.stp 1 rfl Gw12
  change Wx.Sep _ _ _ [_, _] at hS
  replace hUb := up_frS hUb Gw12.fr hb42
  replace hC := hC8.up hUb
  replace hER := hER8.up hUb
  refine LW.pp (PEv.fieldAddr (off := 8) Tryz.underlying24 rfl rfl Tryz.sizeOf22 rfl (.tmp rfl)) ?_
  have hB12o := hS.blk 0 rfl
  refine LW.s (SEv.store Tryz.sizeOf22 (.tmp rfl) (.tmp rfl) ((hS.own 1 rfl).oneV (fun _ => rfl)) (hS.blk 0 rfl) (by have := hC.size; omega)) rfl rfl rfl ?_
  intro w13 Nw13
  have zw13 := Nw13.size
  replace hS := hS.putB 0 rfl Nw13
  change Wx.Sep _ _ _ [_, _] at hS
  replace hC := base_sto hC hB12o (fun i n => hC.no i n) Nw13.sto
  clear hER
  clear hUb
  refine LW.S ?_
  have e8 : ([] : List Fact) ++ b.Resets ++ [rsF t c tm] = b.Resets ++ [rsF t c tm] := rfl
  rw [e8] at hS
  obtain ⟨bc2, ebc2⟩ : ∃ x, x = bc.setIfInBounds 8 v48 := ⟨_, rfl⟩
  have hC2 := hC.setResets ((hS.own 1 rfl).sl (fun _ => rfl))
  rw [← ebc2] at hS hC2
  replace hC : BaseC w13 bc2 (resetB b t c tm) := hC2
  clear hC2
  refine CW.region ?_
  refine LW.pp (PEv.loadA Tryz.isAgg24 Tryz.sizeOf24 (hC.size) (.tmp rfl) ((hS.blk 0 rfl).agg)) ?_
  refine LW.M rfl (LW.M rfl (LW.M rfl ?_))
  refine LW.c (enter_call0 (.cons (.tmp rfl) (.cons (.tmp rfl) (.cons (.tmp rfl) (.cons (.tmp rfl) .nil)))) (Tryz.en18)) rfl rfl rfl rfl (DecisionsE_any bc2 (resetB b t c tm) t c r _ (hC.up (Up.refl _)) (Nat.le_trans (hk.sh 0) (by decide)) (by show (b.Resets ++ [_]).length ≤ _; rw [List.length_append]; exact Nat.le_trans (Nat.add_le_add_right (hk.sh 8) 1) (by decide)) (Nat.le_trans (hk.sh 1) (by decide)) (Nat.le_trans (hk.sh 9) (by decide))) ?_
  rintro v54 w14 ⟨hp54, uw14⟩
  have zw14 := uw14.size
  replace hS := hS.up uw14
  replace hC := hC.up uw14
  obtain ⟨L, ⟨ad54, cp54, rfl, hEL_⟩, hUs_, hm⟩ := hp54
  have hEL : Els _ ad54 6 DP.cells L := hEL_
  have hUs : UsL _ L := hUs_
  clear hEL_ hUs_
  refine LW.A rfl (LW.S (CW.seq ?_))
  have hW := hS.upd
  have hB12 := hS.blk 0 rfl
  have hrl : (rnsF b t c r).length ≤ 100 := Nat.le_trans (rnsF_len _ _ _ _) (hk.sh 0)
  have hLl : L.length = (rnsF b t c r).length := by have h1 := congrArg List.length hm; rwa [List.length_map, desF_len] at h1
  refine CW.region (LW.C (LW.T (CW.block ?_)))
  refine CW.loopB (σ := Nat) (fun s w => (s ≤ L.length) ∧ (Up w14 w)) (fun s => [(14, .eq (vi (s : Int)))]) ([(1, .eq _), (2, .eq _), (3, .eq _), (4, .eq _), (11, .eq _), (12, .eq _), (13, .eq _)]) (fun s => L.length - s) 0 ?_ ⟨rfl, rfl, rfl, rfl, rfl, rfl, rfl, rfl, trivial⟩ ?_
  ·exact ⟨Nat.zero_le _, Up.refl _⟩
  ·rintro k w15 ⟨hkk, hL1⟩
   have zzw15 := hL1.size
   replace hC := hC.up hL1
   replace hEL := hEL.up hL1
   replace hUs := hUs.up hL1
   replace hW := hW.up hL1
   replace hB12 := hB12.up hL1
   refine CW.seq (CW.S (LW.M rfl (LW.M rfl ?_)))
   refine LW.pp (PEv.lenS Tryz.underlying43 (.tmp rfl)) ?_
   refine LW.pp (PEv.lss (.tmp rfl) (.tmp rfl)) ?_
   refine LW.T ?_
   refine CW.cond (.tmp rfl) (fun h58 => ?_) (fun h58 => ?_)
   ·first | replace h58 := dT h58 | replace h58 := dF h58 | skip
    refine CW.skip (KW.then (CW.seq (CW.block (CW.seq ?_))))
    obtain ⟨x, hx⟩ := getElem?_of_lt (xs := L) (i := k) (by omega)
    obtain ⟨p, hp⟩ := getElem?_of_lt (xs := rnsF b t c r) (i := k) (by omega)
    have hxd : x.dec = { decF (resetB b t c tm) t c r p.Time ((rnsF b t c r).take k) with run := p.ID } := Option.some.inj ((dp_at hm hx).symm.trans (desF_at hp))
    have hxr : x.dec.run = p.ID := by rw [hxd]
    have hpf := hk.run (List.mem_of_getElem? hp)
    obtain ⟨Bx, ox, ax, hcx⟩ := hEL k x hx
    have hul : x.dec.uses.length ≤ 100 := Nat.le_trans (desF_uses _ _ _ _ _ (List.mem_of_getElem? (dp_at hm hx))) hrl
    refine CW.boxU 13 10 11 8 15 69 (Fact.cells zeroF) [.eq (.agg bc2), .eq (.slice ad54 L.length cp54), .eq (vi (k : Int)), .eq (.pointer (some ⟨Bx, ox + k * 6, none⟩)), .eq (.pointer (some ⟨Bx, ox + k * 6, none⟩)), .eq (vi p.ID), .eq (.tuple #[.agg p.cells, .bool true]), .eq (.tuple #[.agg p.cells, .bool true]), .eq (.agg p.cells), .eq (.bool true), .pred fun v _ => ∃ B, v = .pointer (some ⟨B, 0, none⟩), .eq (undef), .eq (.bool true)] [16] Tryz.zeroValue50 Tryz.sizeOf50 (by kernel_rfl) rfl (by kernel_rfl) (by kernel_rfl) (by kernel_rfl) (by kernel_rfl) (by kernel_rfl) (by kernel_rfl) (by kernel_rfl) rfl rfl ⟨_, _, _, rfl⟩ _ rfl ⟨_, _, _, rfl⟩ ⟨PhT.eq _ _, PhT.eq _ _, PhT.eq _ _, PhT.eq _ _, PhT.eq _ _, PhT.eq _ _, PhT.eq _ _, PhT.eq _ _, PhT.eq _ _, PhT.eq _ _, PhT.pred fun _ _ _ h _ => h, PhT.eq _ _, PhT.eq _ _, trivial⟩ rfl (fun v W h => ⟨_, h, rfl, Fact.one p⟩) (fun B W => ⟨B, rfl⟩) ?_ ?_
    ·intro W hU0
     have hU := (Up.drew w15).trans hU0
     refine allL.cons (.inr ⟨rfl, TU.p (PEv.loadA Tryz.isAgg24 Tryz.sizeOf24 hC.size (.tmp rfl) (hB12.up hU).agg) rfl⟩) ?_
     refine allL.cons (.inr ⟨rfl, TU.p (PEv.move (.tmp rfl)) rfl⟩) ?_
     refine allL.cons (.inr ⟨rfl, TU.p (PEv.move (.tmp rfl)) rfl⟩) ?_
     refine allL.cons (.inr ⟨rfl, TU.p (PEv.indexAddr' Tryz.underlying43 Tryz.sizeOf37 (.tmp rfl) (.tmp rfl) (by omega) ax) rfl⟩) ?_
     refine allL.cons (.inr ⟨rfl, TU.p (PEv.fieldAddr (off := 0) Tryz.underlying37 rfl rfl Tryz.sizeOf3 rfl (.tmp rfl)) rfl⟩) ?_
     refine allL.cons (.inr ⟨rfl, TU.p (PEv.load Tryz.isAgg3 (.tmp rfl) (by rw [← hxr]; exact dp_run (hcx.up hU))) rfl⟩) ?_
     refine allL.cons (.inr ⟨rfl, TU.c (enter_call0 (.cons (.tmp rfl) (.cons (.tmp rfl) .nil)) (Tryz.en24)) (Process_any bc2 (resetB b t c tm) p.ID W (hC.up hU) (Nat.le_trans (hk.sh 0) (by decide))) (by rintro _ W1 ⟨rfl, u⟩; rw [show procB (resetB b t c tm) p.ID = procB b p.ID from rfl, hpf]; exact ⟨u, rfl⟩)⟩) ?_
     refine allL.cons (.inr ⟨rfl, TU.p (PEv.move (.tmp rfl)) rfl⟩) ?_
     refine allL.cons (.inr ⟨rfl, TU.p (PEv.extract (.tmp rfl) rfl) rfl⟩) ?_
     refine allL.cons (.inr ⟨rfl, TU.p (PEv.extract (.tmp rfl) rfl) rfl⟩) ?_
     refine allL.cons (.inl (.inl rfl)) ?_
     refine allL.cons (.inl (.inr rfl)) ?_
     refine allL.cons (.inr ⟨rfl, TU.p (PEv.assign (.tmp rfl)) rfl⟩) ?_
     exact allL.nil
    ·intro w16 B15 g hU0 zB15_ hB15 hg
     have hU := (Up.drew w15).trans hU0
     have zw16 := hU.size
     have zdr : w15.drew.heap.size = w15.heap.size := rfl
     have g69_ : g 69 = .agg p.cells := hg 8 _ 69 (by decide) rfl rfl
     have g16_ : g 16 = .bool true := hg 12 _ 16 (by decide) rfl rfl
     rw [g69_] at hB15
     replace hB15 : Blk w16 B15 (p.cells) 50 := hB15
     change LW _ _ _ _ _ _ _ _ ((15, _) :: (16, .eq (g 16)) :: _) _
     rw [g16_]
     clear hg
     replace hC := hC.up hU
     replace hEL := hEL.up hU
     replace hUs := hUs.up hU
     replace hW := hW.up hU
     replace hB12 := hB12.up hU
     replace hL1 := hL1.up hU
     replace hcx := hcx.up hU
     refine LW.S (CW.S (LW.M rfl ?_))
     refine LW.pp (PEv.fa (PEv.not (.tmp rfl)) (rfl)) ?_
     refine LW.T ?_
     refine CW.cond_false (.tmp rfl) ?_
     refine CW.skip (KW.then (CW.S (LW.C (LW.T (CW.block ?_)))))
     refine CW.loopB (σ := Nat) (fun s w => (s ≤ x.dec.uses.length) ∧ (Up w16 w)) (fun s => [(17, .eq (vi (s : Int)))]) ([(1, .eq _), (2, .eq _), (3, .eq _), (4, .eq _), (11, .eq _), (12, .eq _), (13, .eq _), (14, .eq _), (15, .eq _)]) (fun s => x.dec.uses.length - s) 0 ?_ ⟨rfl, rfl, rfl, rfl, rfl, rfl, rfl, rfl, rfl, rfl, trivial⟩ ?_
     ·exact ⟨Nat.zero_le _, Up.refl _⟩
     ·rintro j w17 ⟨hjj, hL2⟩
      have zzw17 := hL2.size
      replace hC := hC.up hL2
      replace hEL := hEL.up hL2
      replace hUs := hUs.up hL2
      replace hW := hW.up hL2
      replace hB12 := hB12.up hL2
      replace hL1 := hL1.up hL2
      replace hcx := hcx.up hL2
      replace hB15 := hB15.up hL2
      refine CW.seq (CW.S (LW.M rfl (LW.M rfl (LW.M rfl ?_))))
      refine LW.pp (PEv.indexAddr' Tryz.underlying43 Tryz.sizeOf37 (.tmp rfl) (.tmp rfl) (by omega) ax) ?_
      refine LW.pp (PEv.fieldAddr (off := 5) Tryz.underlying37 rfl rfl Tryz.sizeOf35 rfl (.tmp rfl)) ?_
      refine LW.pp (PEv.load Tryz.isAgg35 (.tmp rfl) (dp_uses hcx)) ?_
      refine LW.pp (PEv.lenS Tryz.underlying35 (.tmp rfl)) ?_
      refine LW.pp (PEv.lss (.tmp rfl) (.tmp rfl)) ?_
      refine LW.M rfl ?_
      refine LW.g rfl rfl rfl rfl rfl rfl rfl (fun hc => PEv.fieldAddr (off := 5) Tryz.underlying50 rfl rfl Tryz.sizeOf3 rfl (.tmp rfl)) ?_
      refine LW.g rfl rfl rfl rfl rfl rfl rfl (fun hc => PEv.load Tryz.isAgg3 (by first | exact .tmp rfl | exact .cond rfl (by first | assumption | simp_all)) (hB15.celln rfl)) ?_
      refine LW.g rfl rfl rfl rfl rfl rfl rfl (fun hc => PEv.move (.tmp rfl)) ?_
      refine LW.g rfl rfl rfl rfl rfl rfl rfl (fun hc => PEv.geq (by first | exact .tmp rfl | exact .cond rfl (by first | assumption | simp_all)) (by first | exact .tmp rfl | exact .cond rfl (by first | assumption | simp_all))) ?_
      refine LW.pp (PEv.pick_and (.tmp rfl) (fun hp => (by first | exact .const _ | exact .tmp rfl | exact .cond rfl (by first | assumption | (rw [hp]; rfl) | (rw [hc, hp]; rfl) | simp_all)))) ?_
      refine LW.T ?_
      refine CW.cond (.tmp rfl) (fun h86 => ?_) (fun h86 => ?_)
      ·first | replace h86 := dT h86 | replace h86 := dF h86 | skip
       have hjk : j < x.dec.uses.length ∧ tm ≤ p.Time := by simp at h86; omega
       refine CW.skip (KW.then (CW.seq (CW.block (CW.seq ?_))))
       obtain ⟨adu, cpu, eu, hEu⟩ := hUs x (List.mem_of_getElem? hx)
       have eu2 : x.ad = adu := by cases eu; rfl
       subst eu2
       obtain ⟨u, hu⟩ := getElem?_of_lt (xs := x.dec.uses) (i := j) (by omega)
       obtain ⟨Bu, ou, au, hcu⟩ := hEu j u hu
       obtain ⟨qf, hqf, hqt⟩ := reset_uses hk hjk.2 u (by have h9 := List.mem_of_getElem? hu; rw [hxd] at h9; exact h9)
       refine CW.boxU 16 13 14 11 18 100 (Fact.cells zeroF) [.eq (.agg bc2), .eq (.slice ad54 L.length cp54), .eq (vi (k : Int)), .eq (.pointer (some ⟨Bx, ox + k * 6, none⟩)), .eq (.pointer (some ⟨Bx, ox + k * 6 + 5, none⟩)), .eq (DP.uv x), .eq (vi (j : Int)), .eq (.pointer (some ⟨Bu, ou + j * 1, none⟩)), .eq (vi u), .eq (.tuple #[.agg qf.cells, .bool true]), .eq (.tuple #[.agg qf.cells, .bool true]), .eq (.agg qf.cells), .eq (.bool true), .pred fun v _ => ∃ B, v = .pointer (some ⟨B, 0, none⟩), .eq (undef), .eq (.bool true)] [19] Tryz.zeroValue50 Tryz.sizeOf50 (by kernel_rfl) rfl (by kernel_rfl) (by kernel_rfl) (by kernel_rfl) (by kernel_rfl) (by kernel_rfl) (by kernel_rfl) (by kernel_rfl) rfl rfl ⟨_, _, _, rfl⟩ _ rfl ⟨_, _, _, rfl⟩ ⟨PhT.eq _ _, PhT.eq _ _, PhT.eq _ _, PhT.eq _ _, PhT.eq _ _, PhT.eq _ _, PhT.eq _ _, PhT.eq _ _, PhT.eq _ _, PhT.eq _ _, PhT.eq _ _, PhT.eq _ _, PhT.eq _ _, PhT.pred fun _ _ _ h _ => h, PhT.eq _ _, PhT.eq _ _, trivial⟩ rfl (fun v W h => ⟨_, h, rfl, Fact.one qf⟩) (fun B W => ⟨B, rfl⟩) ?_ ?_
       ·intro W hU0
        have hU := (Up.drew w17).trans hU0
        refine allL.cons (.inr ⟨rfl, TU.p (PEv.loadA Tryz.isAgg24 Tryz.sizeOf24 hC.size (.tmp rfl) (hB12.up hU).agg) rfl⟩) ?_
        refine allL.cons (.inr ⟨rfl, TU.p (PEv.move (.tmp rfl)) rfl⟩) ?_
        refine allL.cons (.inr ⟨rfl, TU.p (PEv.move (.tmp rfl)) rfl⟩) ?_
        refine allL.cons (.inr ⟨rfl, TU.p (PEv.indexAddr' Tryz.underlying43 Tryz.sizeOf37 (.tmp rfl) (.tmp rfl) (by omega) ax) rfl⟩) ?_
        refine allL.cons (.inr ⟨rfl, TU.p (PEv.fieldAddr (off := 5) Tryz.underlying37 rfl rfl Tryz.sizeOf35 rfl (.tmp rfl)) rfl⟩) ?_
        refine allL.cons (.inr ⟨rfl, TU.p (PEv.load Tryz.isAgg35 (.tmp rfl) (dp_uses (hcx.up hU))) rfl⟩) ?_
        refine allL.cons (.inr ⟨rfl, TU.p (PEv.move (.tmp rfl)) rfl⟩) ?_
        refine allL.cons (.inr ⟨rfl, TU.p (PEv.indexAddr' Tryz.underlying35 Tryz.sizeOf3 (.tmp rfl) (.tmp rfl) (by omega) au) rfl⟩) ?_
        refine allL.cons (.inr ⟨rfl, TU.p (PEv.load Tryz.isAgg3 (.tmp rfl) ((hcu.up hU).nth (j := 0) rfl)) rfl⟩) ?_
        refine allL.cons (.inr ⟨rfl, TU.c (enter_call0 (.cons (.tmp rfl) (.cons (.tmp rfl) .nil)) (Tryz.en24)) (Process_any bc2 (resetB b t c tm) u W (hC.up hU) (Nat.le_trans (hk.sh 0) (by decide))) (by rintro _ W1 ⟨rfl, u_⟩; rw [show procB (resetB b t c tm) u = procB b u from rfl, hqf]; exact ⟨u_, rfl⟩)⟩) ?_
        refine allL.cons (.inr ⟨rfl, TU.p (PEv.move (.tmp rfl)) rfl⟩) ?_
        refine allL.cons (.inr ⟨rfl, TU.p (PEv.extract (.tmp rfl) rfl) rfl⟩) ?_
        refine allL.cons (.inr ⟨rfl, TU.p (PEv.extract (.tmp rfl) rfl) rfl⟩) ?_
        refine allL.cons (.inl (.inl rfl)) ?_
        refine allL.cons (.inl (.inr rfl)) ?_
        refine allL.cons (.inr ⟨rfl, TU.p (PEv.assign (.tmp rfl)) rfl⟩) ?_
        exact allL.nil
       ·intro w18 B18 g hU0 zB18_ hB18 hg
        have hU := (Up.drew w17).trans hU0
        have zw18 := hU.size
        have zdr : w17.drew.heap.size = w17.heap.size := rfl
        have g100_ : g 100 = .agg qf.cells := hg 11 _ 100 (by decide) rfl rfl
        have g19_ : g 19 = .bool true := hg 15 _ 19 (by decide) rfl rfl
        rw [g100_] at hB18
        replace hB18 : Blk w18 B18 (qf.cells) 50 := hB18
        change LW _ _ _ _ _ _ _ _ ((18, _) :: (19, .eq (g 19)) :: _) _
        rw [g19_]
        clear hg
        replace hC := hC.up hU
        replace hEL := hEL.up hU
        replace hUs := hUs.up hU
        replace hW := hW.up hU
        replace hB12 := hB12.up hU
        replace hL1 := hL1.up hU
        replace hcx := hcx.up hU
        replace hB15 := hB15.up hU
        replace hL2 := hL2.up hU
        replace hcu := hcu.up hU
        refine LW.S (CW.region (LW.M rfl ?_))
        refine LW.pp (PEv.fa (PEv.not (.tmp rfl)) (rfl)) ?_
        refine LW.M rfl ?_
        refine LW.Y ?_
        refine LW.pp (PEv.fieldAddr (off := 5) Tryz.underlying50 rfl rfl Tryz.sizeOf3 rfl (.tmp rfl)) ?_
        refine LW.Y ?_
        refine LW.pp (PEv.load Tryz.isAgg3 (.tmp rfl) (hB18.celln rfl)) ?_
        refine LW.Y ?_
        refine LW.M rfl ?_
        refine LW.Y ?_
        refine LW.pp (PEv.fa (PEv.lss (.tmp rfl) (.tmp rfl)) (decide_eq_false (by omega))) ?_
        refine LW.pp (PEv.pick_or (.tmp rfl) (fun hp => (by first | exact .const _ | exact .tmp rfl | exact .cond rfl (by first | assumption | (rw [hp]; rfl) | (rw [hc, hp]; rfl) | simp_all)))) ?_
        refine LW.T ?_
        refine CW.cond_false (.tmp rfl) ?_
        refine CW.skip (KW.inBlock (KW.then (CW.region (LW.M rfl ?_))))
        refine LW.pp (PEv.inc (.tmp rfl) (by omega)) ?_
        refine LW.A rfl (LW.nil (KW.round ?_))
        exact ⟨j + 1, ⟨by omega, hL2⟩, ⟨rfl, rfl, rfl, rfl, rfl, rfl, rfl, rfl, rfl, rfl, trivial⟩, by first | omega | (dsimp only; omega)⟩
      ·first | replace h86 := dT h86 | replace h86 := dF h86 | skip
       refine CW.exit (KW.then_exit (KW.then_exit (KW.block_hit (KW.inBlock (KW.then (CW.region (LW.M rfl ?_)))))))
       refine LW.pp (PEv.inc (.tmp rfl) (by omega)) ?_
       refine LW.A rfl (LW.nil (KW.round ?_))
       exact ⟨k + 1, ⟨by omega, hL1⟩, ⟨rfl, rfl, rfl, rfl, rfl, rfl, rfl, rfl, trivial⟩, by first | omega | (dsimp only; omega)⟩
   ·first | replace h58 := dT h58 | replace h58 := dF h58 | skip
    refine CW.exit (KW.then_exit (KW.then_exit (KW.block_hit (KW.then (CW.S (LW.C (LW.S (CW.seq ?_))))))))
    obtain ⟨v0, h0_, adp, cpp, rfl, hEp_⟩ := hC.at0
    have h0 : bc2[0]? = some (.slice adp b.Processes.length cpp) := h0_
    clear h0_
    have hPl : b.Processes.length ≤ 100 := hk.sh 0
    have hEp : Els w15 adp 19 Fact.cells b.Processes := hEp_
    clear hEp_
    refine CW.region (LW.C (LW.T (CW.block ?_)))
    refine CW.loopB (σ := Bool × Nat) (fun s w => (s.2 ≤ b.Processes.length) ∧ (s.1 = true → ∀ f ∈ b.Processes.take s.2, (p3 t c r f && decide (f.Time = tm)) = false) ∧ (Up w15 w)) (fun s => [(20, .eq (.bool s.1)), (21, .eq (vi (s.2 : Int)))]) ([(1, .eq _), (2, .eq _), (3, .eq _), (4, .eq _), (11, .eq _), (12, .eq _)]) (fun s => b.Processes.length - s.2) (true, 0) ?_ ⟨rfl, rfl, rfl, rfl, rfl, rfl, rfl, rfl, trivial⟩ ?_
    ·exact ⟨Nat.zero_le _, fun _ f h => by simp at h, Up.refl _⟩
    ·rintro ⟨s1, j⟩ w19 ⟨hj, hs1, hL3⟩
     dsimp only at hj hs1
     change CW _ _ _ _ _ _ _ ([(20, .eq (.bool s1)), (21, .eq (vi (j : Int)))] ++ _) _
     have zzw19 := hL3.size
     replace hC := hC.up hL3
     replace hEL := hEL.up hL3
     replace hUs := hUs.up hL3
     replace hW := hW.up hL3
     replace hB12 := hB12.up hL3
     replace hL1 := hL1.up hL3
     replace hEp := hEp.up hL3
     refine CW.seq (CW.S (LW.M rfl ?_))
     refine LW.pp (PEv.fieldAddr (off := 0) Tryz.underlying24 rfl rfl Tryz.sizeOf22 rfl (.tmp rfl)) ?_
     refine LW.pp (PEv.load Tryz.isAgg22 (.tmp rfl) (hB12.cell h0)) ?_
     refine LW.pp (PEv.lenS Tryz.underlying22 (.tmp rfl)) ?_
     refine LW.pp (PEv.lss (.tmp rfl) (.tmp rfl)) ?_
     refine LW.T ?_
     refine CW.cond (.tmp rfl) (fun h114 => ?_) (fun h114 => ?_)
     ·first | replace h114 := dT h114 | replace h114 := dF h114 | skip
      refine CW.skip (KW.then (CW.seq (CW.block (CW.S ?_))))
      refine LW.pp (PEv.fieldAddr (off := 0) Tryz.underlying24 rfl rfl Tryz.sizeOf22 rfl (.tmp rfl)) ?_
      refine LW.pp (PEv.load Tryz.isAgg22 (.tmp rfl) (hB12.cell h0)) ?_
      refine LW.M rfl ?_
      obtain ⟨f, hf⟩ := getElem?_of_lt (xs := b.Processes) (i := j) (by omega)
      obtain ⟨Bf, of, af, hcf⟩ := hEp _ f hf
      refine LW.pp (PEv.indexAddr' Tryz.underlying22 Tryz.sizeOf50 (.tmp rfl) (.tmp rfl) (by omega) af) ?_
      refine LW.pp (PEv.loadA Tryz.isAgg50 Tryz.sizeOf50 rfl (.tmp rfl) (hcf)) ?_
      refine LW.r (REv.allocA Tryz.zeroValue50) rfl rfl rfl rfl ?_
      rintro _ w20 ⟨B22, rfl, MB22⟩
      refine LW.s (SEv.storeA Tryz.sizeOf50 rfl (.tmp rfl) (.tmp rfl) (Fact.one _) MB22.blk rfl) rfl rfl rfl ?_
      intro w21 LB22
      have NB22 := MB22.set LB22
      clear LB22 MB22
      have eB22 := NB22.at_
      have zB22 := NB22.size
      replace hC := hC.up NB22.up
      replace hEL := hEL.up NB22.up
      replace hUs := hUs.up NB22.up
      replace hW := hW.up NB22.up
      replace hB12 := hB12.up NB22.up
      replace hL1 := hL1.up NB22.up
      replace hEp := hEp.up NB22.up
      replace hL3 := hL3.up NB22.up
      replace hcf := hcf.up NB22.up
      have hB22 := NB22.blk
      refine LW.T (CW.region (LW.M rfl (LW.M rfl ?_)))
      refine LW.g rfl rfl rfl rfl rfl rfl rfl (fun hc => PEv.fieldAddr (off := 11) Tryz.underlying50 rfl rfl Tryz.sizeOf3 rfl (.tmp rfl)) ?_
      refine LW.g rfl rfl rfl rfl rfl rfl rfl (fun hc => PEv.load Tryz.isAgg3 (by first | exact .tmp rfl | exact .cond rfl (by first | assumption | simp_all)) (hB22.celln rfl)) ?_
      refine LW.g rfl rfl rfl rfl rfl rfl rfl (fun hc => PEv.move (.tmp rfl)) ?_
      refine LW.g rfl rfl rfl rfl rfl rfl rfl (fun hc => PEv.eql (by first | exact .tmp rfl | exact .cond rfl (by first | assumption | simp_all)) (by first | exact .tmp rfl | exact .cond rfl (by first | assumption | simp_all))) ?_
      refine LW.g rfl rfl rfl rfl rfl rfl rfl (fun hc => PEv.move (by first | exact .tmp rfl | exact .cond rfl (by first | assumption | simp_all))) ?_
      refine LW.gg rfl rfl rfl rfl rfl rfl rfl (fun hc => PEv.fieldAddr (off := 12) Tryz.underlying50 rfl rfl Tryz.sizeOf3 rfl (.tmp rfl)) ?_
      refine LW.gg rfl rfl rfl rfl rfl rfl rfl (fun hc => PEv.load Tryz.isAgg3 (by first | exact .tmp rfl | exact .cond rfl (by first | assumption | simp_all)) (hB22.celln rfl)) ?_
      refine LW.gg rfl rfl rfl rfl rfl rfl rfl (fun hc => PEv.move (.tmp rfl)) ?_
      refine LW.gg rfl rfl rfl rfl rfl rfl rfl (fun hc => PEv.eql (by first | exact .tmp rfl | exact .cond rfl (by first | assumption | simp_all)) (by first | exact .tmp rfl | exact .cond rfl (by first | assumption | simp_all))) ?_
      refine LW.g rfl rfl rfl rfl rfl rfl rfl (fun hc => PEv.pick_and (by first | exact .tmp rfl | exact .cond rfl (by first | assumption | simp_all)) (fun hp => (by first | exact .const _ | exact .tmp rfl | exact .cond rfl (by first | assumption | (rw [hp]; rfl) | (rw [hc, hp]; rfl) | simp_all)))) ?_
      refine LW.g rfl rfl rfl rfl rfl rfl rfl (fun hc => PEv.move (by first | exact .tmp rfl | exact .cond rfl (by first | assumption | simp_all))) ?_
      refine LW.gg rfl rfl rfl rfl rfl rfl rfl (fun hc => PEv.fieldAddr (off := 14) Tryz.underlying50 rfl rfl Tryz.sizeOf3 rfl (.tmp rfl)) ?_
      refine LW.gg rfl rfl rfl rfl rfl rfl rfl (fun hc => PEv.load Tryz.isAgg3 (by first | exact .tmp rfl | exact .cond rfl (by first | assumption | simp_all)) (hB22.celln rfl)) ?_
      refine LW.gg rfl rfl rfl rfl rfl rfl rfl (fun hc => PEv.move (.tmp rfl)) ?_
      refine LW.gg rfl rfl rfl rfl rfl rfl rfl (fun hc => PEv.eql (by first | exact .tmp rfl | exact .cond rfl (by first | assumption | simp_all)) (by first | exact .tmp rfl | exact .cond rfl (by first | assumption | simp_all))) ?_
      refine LW.g rfl rfl rfl rfl rfl rfl rfl (fun hc => PEv.pick_and (by first | exact .tmp rfl | exact .cond rfl (by first | assumption | simp_all)) (fun hp => (by first | exact .const _ | exact .tmp rfl | exact .cond rfl (by first | assumption | (rw [hp]; rfl) | (rw [hc, hp]; rfl) | simp_all)))) ?_
      refine LW.g rfl rfl rfl rfl rfl rfl rfl (fun hc => PEv.move (by first | exact .tmp rfl | exact .cond rfl (by first | assumption | simp_all))) ?_
      refine LW.gg rfl rfl rfl rfl rfl rfl rfl (fun hc => PEv.fieldAddr (off := 5) Tryz.underlying50 rfl rfl Tryz.sizeOf3 rfl (.tmp rfl)) ?_
      refine LW.gg rfl rfl rfl rfl rfl rfl rfl (fun hc => PEv.load Tryz.isAgg3 (by first | exact .tmp rfl | exact .cond rfl (by first | assumption | simp_all)) (hB22.celln rfl)) ?_
      refine LW.gg rfl rfl rfl rfl rfl rfl rfl (fun hc => PEv.move (.tmp rfl)) ?_
      refine LW.gg rfl rfl rfl rfl rfl rfl rfl (fun hc => PEv.eql (by first | exact .tmp rfl | exact .cond rfl (by first | assumption | simp_all)) (by first | exact .tmp rfl | exact .cond rfl (by first | assumption | simp_all))) ?_
      refine LW.g rfl rfl rfl rfl rfl rfl rfl (fun hc => PEv.pick_and (by first | exact .tmp rfl | exact .cond rfl (by first | assumption | simp_all)) (fun hp => (by first | exact .const _ | exact .tmp rfl | exact .cond rfl (by first | assumption | (rw [hp]; rfl) | (rw [hc, hp]; rfl) | simp_all)))) ?_
      refine LW.g rfl rfl rfl rfl rfl rfl rfl (fun hc => PEv.not (by first | exact .tmp rfl | exact .cond rfl (by first | assumption | simp_all))) ?_
      refine LW.pp (PEv.pick_and (.tmp rfl) (fun hp => (by first | exact .const _ | exact .tmp rfl | exact .cond rfl (by first | assumption | (rw [hp]; rfl) | (rw [hc, hp]; rfl) | simp_all)))) ?_
      refine LW.A rfl (LW.nil (KW.inBlock (KW.then (CW.region (LW.M rfl ?_)))))
      refine LW.pp (PEv.inc (.tmp rfl) (by omega)) ?_
      refine LW.A rfl (LW.nil (KW.round ?_))
      exact ⟨(s1 && !(decide (f.Tool = t) && decide (f.Chamber = c) && decide (f.Recipe = r) && decide (f.Time = tm)), j + 1), ⟨by show j + 1 ≤ _; omega, fun h => by have h : (s1 && !(decide (f.Tool = t) && decide (f.Chamber = c) && decide (f.Recipe = r) && decide (f.Time = tm))) = true := h; rw [Bool.and_eq_true, Bool.not_eq_true'] at h; exact take_none hf (hs1 h.1) h.2, hL3⟩, ⟨rfl, rfl, rfl, rfl, rfl, rfl, rfl, rfl, trivial⟩, by show b.Processes.length - (j + 1) < b.Processes.length - j; omega⟩
     ·first | replace h114 := dT h114 | replace h114 := dF h114 | skip
      refine CW.exit (KW.then_exit (KW.then_exit (KW.block_hit (KW.then (CW.S ?_)))))
      refine LW.pp (PEv.loadA Tryz.isAgg24 Tryz.sizeOf24 (hC.size) (.tmp rfl) (hB12.agg)) ?_
      refine LW.M rfl (LW.M rfl (LW.M rfl (LW.M rfl ?_)))
      refine LW.c (enter_call0 (.cons (.tmp rfl) (.cons (.tmp rfl) (.cons (.tmp rfl) (.cons (.tmp rfl) (.cons (.tmp rfl) .nil))))) (Tryz.en14)) rfl rfl rfl rfl (Decide_any bc2 (resetB b t c tm) t c r tm _ (hC.up (Up.refl _)) (Nat.le_trans (hk.sh 0) (by decide)) (by show (b.Resets ++ [_]).length ≤ _; rw [List.length_append]; exact Nat.le_trans (Nat.add_le_add_right (hk.sh 8) 1) (by decide)) (Nat.le_trans (hk.sh 1) (by decide)) (Nat.le_trans (hk.sh 9) (by decide))) ?_
      rintro _ w22 ⟨_, rfl, ⟨ad9, cp9, rfl, hO9⟩, uw22⟩
      have zw22 := uw22.size
      replace hC := hC.up uw22
      replace hEL := hEL.up uw22
      replace hUs := hUs.up uw22
      replace hW := hW.up uw22
      replace hB12 := hB12.up uw22
      replace hL1 := hL1.up uw22
      replace hEp := hEp.up uw22
      replace hL3 := hL3.up uw22
      refine LW.M rfl (LW.pp (PEv.extract (.tmp rfl) rfl) (LW.pp (PEv.extract (.tmp rfl) rfl) ?_))
      refine LW.r (REv.allocA Tryz.zeroValue37) rfl rfl rfl rfl ?_
      rintro _ w23 ⟨B23, rfl, MB23⟩
      refine LW.s (SEv.storeA Tryz.sizeOf37 rfl (.tmp rfl) (.tmp rfl) (DP.one _) MB23.blk rfl) rfl rfl rfl ?_
      intro w24 LB23
      have NB23 := MB23.set LB23
      clear LB23 MB23
      have eB23 := NB23.at_
      have zB23 := NB23.size
      replace hC := hC.up NB23.up
      replace hEL := hEL.up NB23.up
      replace hUs := hUs.up NB23.up
      replace hW := hW.up NB23.up
      replace hB12 := hB12.up NB23.up
      replace hL1 := hL1.up NB23.up
      replace hEp := hEp.up NB23.up
      replace hL3 := hL3.up NB23.up
      have hB23 := NB23.blk
      refine LW.A rfl (LW.S (CW.region ?_))
      refine LW.pp (PEv.loadA Tryz.isAgg24 Tryz.sizeOf24 (hC.size) (.tmp rfl) (hB12.agg)) ?_
      refine LW.M rfl (LW.M rfl ?_)
      refine LW.c (enter_call0 (.cons (.tmp rfl) (.cons (.tmp rfl) (.cons (.tmp rfl) .nil))) (Tryz.en25)) rfl rfl rfl rfl (Target_any bc2 (resetB b t c tm) r tm _ (hC.up (Up.refl _)) (Nat.le_trans (hk.sh 9) (by decide))) ?_
      rintro _ w25 ⟨rfl, uw25⟩
      have zw25 := uw25.size
      replace hC := hC.up uw25
      replace hEL := hEL.up uw25
      replace hUs := hUs.up uw25
      replace hW := hW.up uw25
      replace hB12 := hB12.up uw25
      replace hL1 := hL1.up uw25
      replace hEp := hEp.up uw25
      replace hL3 := hL3.up uw25
      replace hB23 := hB23.up uw25
      refine LW.M rfl (LW.pp (PEv.extract (.tmp rfl) rfl) (LW.pp (PEv.extract (.tmp rfl) rfl) (LW.A rfl (LW.A rfl (LW.S ?_)))))
      cases hq29 : s1 with
      | true =>
       have hjl : j = b.Processes.length := by omega
       have hTb : ∀ f ∈ b.Targets, 0 ≤ f.Value ∧ f.Value < 40 := by rw [eb]; exact hTv
       have hnow := reset_now (r := r) hTb (fun f hf => hs1 hq29 f (by rw [hjl, List.take_length]; exact hf))
       rw [hnow] at hB23
       have huz : (decNow (resetB b t c tm) t c r tm).uses.length = 0 := by rw [hnow]; rfl
       refine CW.draws (by kernel_rfl) (by kernel_rfl) rfl rfl ?_
       refine HW.pp (PEv.move (.tmp rfl)) ?_
       refine HW.pp (PEv.move (.tmp rfl)) ?_
       refine HW.yp rfl rfl rfl rfl rfl (PEv.move (.tmp rfl)) rfl ?_
       refine HW.yp rfl rfl rfl rfl rfl (PEv.tr (PEv.eql (.tmp rfl) (.const _)) (rfl)) rfl ?_
       refine HW.pp (PEv.pick_and (.tmp rfl) (fun hp => (by first | exact .const _ | exact .tmp rfl | exact .cond rfl (by first | assumption | (rw [hp]; rfl) | (rw [hc, hp]; rfl) | simp_all)))) ?_
       refine HW.pp (PEv.move (.tmp rfl)) ?_
       refine HW.yp rfl rfl rfl rfl rfl (PEv.move (.tmp rfl)) rfl ?_
       refine HW.yp rfl rfl rfl rfl rfl (PEv.fa (PEv.not (.tmp rfl)) (rfl)) rfl ?_
       refine HW.yp rfl rfl rfl rfl rfl (PEv.move (.tmp rfl)) rfl ?_
       refine HW.yp rfl rfl rfl rfl rfl (PEv.fieldAddr (off := 3) Tryz.underlying37 rfl rfl Tryz.sizeOf34 rfl (.tmp rfl)) rfl ?_
       refine HW.yp rfl rfl rfl rfl rfl (PEv.loadA Tryz.isAgg34 Tryz.sizeOf34 rfl (.tmp rfl) (dp_est0 hB23)) rfl ?_
       refine HW.yc rfl rfl rfl rfl rfl (fun a w _ ha => enter_call0 (.cons (.const _) .nil) (Tryz.en28) a ha) rfl (fun w hu => rwhole_any _ w) ?_
       refine HW.yp rfl rfl rfl rfl rfl (PEv.tr (PEv.eqlA Tryz.eqGuardType34 (Tryz.eqRt _ _) (.tmp rfl) (.tmp rfl)) ((rtB_self _))) rfl ?_
       refine HW.yp rfl rfl rfl rfl rfl (PEv.move (.tmp rfl)) rfl ?_
       refine HW.yp rfl rfl rfl rfl rfl (PEv.fieldAddr (off := 1) Tryz.underlying37 rfl rfl Tryz.sizeOf34 rfl (.tmp rfl)) rfl ?_
       refine HW.yp rfl rfl rfl rfl rfl (PEv.loadA Tryz.isAgg34 Tryz.sizeOf34 rfl (.tmp rfl) (dp_par0 hB23)) rfl ?_
       refine HW.yp rfl rfl rfl rfl rfl (PEv.move (.tmp rfl)) rfl ?_
       refine HW.yc rfl rfl rfl rfl rfl (fun a w _ ha => enter_call0 (.cons (.tmp rfl) .nil) (Tryz.en28) a ha) rfl (fun w hu => rwhole_any _ w) ?_
       refine HW.yp rfl rfl rfl rfl rfl (PEv.tr (PEv.eqlA Tryz.eqGuardType34 (Tryz.eqRt _ _) (.tmp rfl) (.tmp rfl)) ((rtB_self _))) rfl ?_
       refine HW.yp rfl rfl rfl rfl rfl (PEv.pick_and (.tmp rfl) (fun hp => (by first | exact .const _ | exact .tmp rfl | exact .cond rfl (by first | assumption | (rw [hp]; rfl) | (rw [hc, hp]; rfl) | simp_all)))) rfl ?_
       refine HW.yp rfl rfl rfl rfl rfl (PEv.move (.tmp rfl)) rfl ?_
       refine HW.yp rfl rfl rfl rfl rfl (PEv.fieldAddr (off := 5) Tryz.underlying37 rfl rfl Tryz.sizeOf35 rfl (.tmp rfl)) rfl ?_
       refine HW.yp rfl rfl rfl rfl rfl (PEv.load Tryz.isAgg35 (.tmp rfl) (hB23.celln rfl)) rfl ?_
       refine HW.yp rfl rfl rfl rfl rfl (PEv.lenS Tryz.underlying35 (.tmp rfl)) rfl ?_
       refine HW.yp rfl rfl rfl rfl rfl (PEv.eql (.tmp rfl) (.const _)) rfl ?_
       refine HW.yp rfl rfl rfl rfl rfl (PEv.pick_and (.tmp rfl) (fun hp => (by first | exact .const _ | exact .tmp rfl | exact .cond rfl (by first | assumption | (rw [hp]; rfl) | (rw [hc, hp]; rfl) | simp_all)))) rfl ?_
       refine HW.yp rfl rfl rfl rfl rfl (PEv.pick_or (.tmp rfl) (fun hp => (by first | exact .const _ | exact .tmp rfl | exact .cond rfl (by first | assumption | (rw [hp]; rfl) | (rw [hc, hp]; rfl) | simp_all)))) rfl ?_
       refine HW.pp (PEv.pick_and (.tmp rfl) (fun hp => (by first | exact .const _ | exact .tmp rfl | exact .cond rfl (by first | assumption | (rw [hp]; rfl) | (rw [hc, hp]; rfl) | simp_all)))) ?_
       refine HW.pp (PEv.assign (.tmp rfl)) ?_
       refine HW.nil ?_
       intro w26 uw26
       have zw26 := uw26.size
       replace hC := hC.up uw26
       replace hEL := hEL.up uw26
       replace hUs := hUs.up uw26
       replace hW := hW.up uw26
       replace hB12 := hB12.up uw26
       replace hL1 := hL1.up uw26
       replace hEp := hEp.up uw26
       replace hL3 := hL3.up uw26
       replace hB23 := hB23.up uw26
       refine KW.then (CW.ret ?_)
       refine KW.ret1 rfl rfl ⟨_, rfl, ?_⟩
       exact ⟨rfl, hW⟩
      | false =>
       refine CW.draws (by kernel_rfl) (by kernel_rfl) rfl rfl ?_
       refine HW.pp (PEv.move (.tmp rfl)) ?_
       refine HW.pp (PEv.move (.tmp rfl)) ?_
       refine HW.yp rfl rfl rfl rfl rfl (PEv.move (.tmp rfl)) rfl ?_
       refine HW.yp rfl rfl rfl rfl rfl (PEv.tr (PEv.eql (.tmp rfl) (.const _)) (rfl)) rfl ?_
       refine HW.pp (PEv.pick_and (.tmp rfl) (fun hp => (by first | exact .const _ | exact .tmp rfl | exact .cond rfl (by first | assumption | (rw [hp]; rfl) | (rw [hc, hp]; rfl) | simp_all)))) ?_
       refine HW.pp (PEv.move (.tmp rfl)) ?_
       refine HW.yp rfl rfl rfl rfl rfl (PEv.move (.tmp rfl)) rfl ?_
       refine HW.yp rfl rfl rfl rfl rfl (PEv.tr (PEv.not (.tmp rfl)) (rfl)) rfl ?_
       refine HW.yp rfl rfl rfl rfl rfl (PEv.move (.tmp rfl)) rfl ?_
       refine HW.no rfl rfl rfl rfl rfl rfl rfl ?_
       refine HW.no rfl rfl rfl rfl rfl rfl rfl ?_
       refine HW.no rfl rfl rfl rfl rfl rfl rfl ?_
       refine HW.no rfl rfl rfl rfl rfl rfl rfl ?_
       refine HW.no rfl rfl rfl rfl rfl rfl rfl ?_
       refine HW.no' rfl rfl rfl rfl rfl ?_
       refine HW.no' rfl rfl rfl rfl rfl ?_
       refine HW.no' rfl rfl rfl rfl rfl ?_
       refine HW.no' rfl rfl rfl rfl rfl ?_
       refine HW.no' rfl rfl rfl rfl rfl ?_
       refine HW.no rfl rfl rfl rfl rfl rfl rfl ?_
       refine HW.no rfl rfl rfl rfl rfl rfl rfl ?_
       refine HW.no' rfl rfl rfl rfl rfl ?_
       refine HW.no' rfl rfl rfl rfl rfl ?_
       refine HW.no' rfl rfl rfl rfl rfl ?_
       refine HW.no' rfl rfl rfl rfl rfl ?_
       refine HW.no rfl rfl rfl rfl rfl rfl rfl ?_
       refine HW.yp rfl rfl rfl rfl rfl (PEv.pick_or (b := false) (.tmp rfl) (fun hp => absurd (show true = false from hp) (by decide))) rfl ?_
       refine HW.pp (PEv.pick_and (.tmp rfl) (fun hp => (by first | exact .const _ | exact .tmp rfl | exact .cond rfl (by first | assumption | (rw [hp]; rfl) | (rw [hc, hp]; rfl) | simp_all)))) ?_
       refine HW.pp (PEv.assign (.tmp rfl)) ?_
       refine HW.nil ?_
       intro w27 uw27
       have zw27 := uw27.size
       replace hC := hC.up uw27
       replace hEL := hEL.up uw27
       replace hUs := hUs.up uw27
       replace hW := hW.up uw27
       replace hB12 := hB12.up uw27
       replace hL1 := hL1.up uw27
       replace hEp := hEp.up uw27
       replace hL3 := hL3.up uw27
       replace hB23 := hB23.up uw27
       refine KW.then (CW.ret ?_)
       refine KW.ret1 rfl rfl ⟨_, rfl, ?_⟩
       exact ⟨rfl, hW⟩
end Go.Proofs.YtgffaeachbbjoaaGreatDoor
end
