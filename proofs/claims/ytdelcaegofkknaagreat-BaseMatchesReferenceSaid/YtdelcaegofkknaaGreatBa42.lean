import Derived.Test.YtdelcaegofkknaaGreatBa41
namespace Go.Proofs.YtdelcaegofkknaaGreat
open Go.Wx Go.RowKit
theorem refSame_v (v1 v2 : Go.Value) (b c : Base) (w : World) (h1 : BaseV w v1 b) (h2 : BaseV w v2 c) (hlb : short b) : Ret Tryz.prog 9 #[v1, v2] w fun r w' => r = .bool (sameB b c) ∧ Up w w' := by
  obtain ⟨bc, rfl, hC⟩ := h1
  obtain ⟨bc', rfl, hC'⟩ := h2
  exact refSame_any bc bc' b c w hC hC' hlb

set_option maxHeartbeats 4000000 in
theorem BaseMatchesReference_any (ad : Option Addr) (cp : Nat) (l : List Fact) (day other : Int) (w : World) (hE1 : Els w ad 19 Fact.cells l) : Ret Tryz.prog 3 #[.slice ad l.length cp, vi day, vi other] w fun r w' => r = .bool true ∧ Up w w' := by
  have hW := Up.refl w
  obtain ⟨w0, rfl⟩ : ∃ w0, w0 = w := ⟨_, rfl⟩
  refine Calls_start (n := 45) (m := 9) Tryz.func3 rfl rfl rfl ?_
  refine CW.seq (CW.region (LW.p (PEv.assign (.const _)) rfl rfl rfl (LW.nil (KW.then (CW.seq (CW.region ?_))))))
  refine LW.c (enter_call0 .nil (Tryz.en5)) rfl rfl rfl rfl (sane_any _) ?_
  rintro _ w1 ⟨rfl, uw1⟩
  have zw1 := uw1.size
  replace hW := hW.up uw1
  refine LW.p (PEv.assign (.tmp rfl)) rfl rfl rfl (LW.nil (KW.then (CW.seq (CW.region (LW.p (PEv.move (.tmp rfl)) rfl rfl rfl ?_)))))
  refine LW.c (enter_call0 (.cons (.tmp rfl) (.cons (.const _) .nil)) (Tryz.en6)) rfl rfl rfl rfl (few_any _ _ 40 l _ (Els.up hE1 hW) (by decide)) ?_
  rintro v12 w2 ⟨hO12, uw2⟩
  have zw2 := uw2.size
  replace hW := hW.up uw2
  obtain ⟨ad12, cp12, rfl, hEf0⟩ := hO12.sl (fun _ => rfl)
  have hEf : Els w2 ad12 19 Fact.cells (fewL 40 l) := hEf0
  clear hEf0 hO12
  have hf40 := fewL_length 40 l
  refine LW.p (PEv.assign (.tmp rfl)) rfl rfl rfl (LW.nil (KW.then (CW.seq (CW.region (LW.p (PEv.move (.tmp rfl)) rfl rfl rfl (LW.p (PEv.move (.tmp rfl)) rfl rfl rfl ?_))))))
  refine LW.c (enter_call0 (.cons (.tmp rfl) (.cons (.tmp rfl) .nil)) (Tryz.en7)) rfl rfl rfl rfl (Of_any _ _ (fewL 40 l) day _ hEf (by omega)) ?_
  rintro _ w3 ⟨bc1, rfl, hC1, uw3⟩
  have zw3 := uw3.size
  replace hW := hW.up uw3
  replace hEf := hEf.up uw3
  refine LW.r (REv.allocA Tryz.zeroValue26) rfl rfl rfl rfl ?_
  rintro _ w4 ⟨B8, rfl, MB8⟩
  refine LW.s (SEv.storeA Tryz.sizeOf26 (hC1.size) (.tmp rfl) (.tmp rfl) (hC1.one) MB8.blk rfl) rfl rfl rfl ?_
  intro w5 LB8
  have NB8 := MB8.set LB8
  clear LB8 MB8
  have eB8 := NB8.at_
  have zB8 := NB8.size
  replace hW := hW.up NB8.up
  replace hEf := hEf.up NB8.up
  replace hC1 := hC1.up NB8.up
  have hB8 := NB8.blk
  refine LW.nil (KW.then (CW.seq (CW.region (LW.p (PEv.move (.tmp rfl)) rfl rfl rfl (LW.p (PEv.move (.tmp rfl)) rfl rfl rfl ?_)))))
  refine LW.c (enter_call0 (.cons (.tmp rfl) (.cons (.const _) .nil)) (Tryz.en8)) rfl rfl rfl rfl (pick_any _ _ _ (by decide)) ?_
  rintro _ w6 ⟨rfl, uw6⟩
  have zw6 := uw6.size
  replace hW := hW.up uw6
  replace hEf := hEf.up uw6
  replace hC1 := hC1.up uw6
  replace hB8 := hB8.up uw6
  obtain ⟨d2, ed2⟩ : ∃ d2, d2 = pickI other 10 := ⟨_, rfl⟩
  rw [← ed2]
  refine LW.c (enter_call0 (.cons (.tmp rfl) (.cons (.tmp rfl) .nil)) (Tryz.en7)) rfl rfl rfl rfl (Of_any _ _ (fewL 40 l) d2 _ hEf (by omega)) ?_
  rintro _ w7 ⟨bc2, rfl, hC2, uw7⟩
  have zw7 := uw7.size
  replace hW := hW.up uw7
  replace hEf := hEf.up uw7
  replace hC1 := hC1.up uw7
  replace hB8 := hB8.up uw7
  refine LW.r (REv.allocA Tryz.zeroValue26) rfl rfl rfl rfl ?_
  rintro _ w8 ⟨B9, rfl, MB9⟩
  refine LW.s (SEv.storeA Tryz.sizeOf26 (hC2.size) (.tmp rfl) (.tmp rfl) (hC2.one) MB9.blk rfl) rfl rfl rfl ?_
  intro w9 LB9
  have NB9 := MB9.set LB9
  clear LB9 MB9
  have eB9 := NB9.at_
  have zB9 := NB9.size
  replace hW := hW.up NB9.up
  replace hEf := hEf.up NB9.up
  replace hC1 := hC1.up NB9.up
  replace hB8 := hB8.up NB9.up
  replace hC2 := hC2.up NB9.up
  have hB9 := NB9.blk
  refine LW.nil (KW.then (CW.seq ?_))
  have hEl := hEf
  have hpk : ∀ w, Ret Tryz.prog 8 #[vi other, vi 10] w fun r w' => r = vi d2 ∧ Up w w' := fun w => by rw [ed2]; exact pick_any other 10 w (by decide)
  refine CW.draws (by kernel_rfl) (by kernel_rfl) rfl rfl ?_
  refine HW.p (PEv.move (.tmp rfl)) rfl rfl ?_
  refine HW.p (PEv.move (.tmp rfl)) rfl rfl ?_
  refine HW.yp rfl rfl rfl rfl rfl (PEv.loadA Tryz.isAgg26 Tryz.sizeOf26 (hC1.size) (.tmp rfl) (hB8.agg)) rfl ?_
  refine HW.yp rfl rfl rfl rfl rfl (PEv.move (.tmp rfl)) rfl ?_
  refine HW.yp rfl rfl rfl rfl rfl (PEv.move (.tmp rfl)) rfl ?_
  refine HW.yqc (ph := .pred fun v w => BaseV w v (ofB (fewL 40 l) day)) (fun _ _ _ h u => BaseV.up h u) rfl rfl rfl rfl rfl (fun a w hu ha => ⟨_, _, enter_call0 (.cons (.tmp rfl) (.cons (.tmp rfl) .nil)) (Tryz.en10) a ha, (rOf_any _ _ (fewL 40 l) day w (hEl.up hu) (by omega)).mono fun v w' h => let ⟨bc', e, hB, u⟩ := h; ⟨u, bc', e, hB⟩⟩) rfl ?_
  refine HW.yqc (ph := .eq (.bool true)) (phUp.eq _) rfl rfl rfl rfl rfl (fun a w hu ha => ⟨_, _, enter_any2 Tryz.en9 a w, (refSame_v (a.eval (.tmp 22)) (a.eval (.tmp 25)) (ofB (fewL 40 l) day) (ofB (fewL 40 l) day) w ⟨bc1, ha.ev (.tmp rfl), hC1.up hu⟩ (ha.known (p := fun v w => BaseV w v (ofB (fewL 40 l) day)) rfl) (ofB_short (by omega) day)).mono fun _ _ h => ⟨h.2, h.1.trans (by rw [sameB_refl _])⟩⟩) rfl ?_
  refine HW.p (PEv.pick_and (.tmp rfl) (fun hp => (by first | exact .const _ | exact .tmp rfl | exact .cond rfl (by first | assumption | simp_all)))) rfl rfl ?_
  refine HW.p (PEv.move (.tmp rfl)) rfl rfl ?_
  refine HW.yp rfl rfl rfl rfl rfl (PEv.loadA Tryz.isAgg26 Tryz.sizeOf26 (hC2.size) (.tmp rfl) (hB9.agg)) rfl ?_
  refine HW.yp rfl rfl rfl rfl rfl (PEv.move (.tmp rfl)) rfl ?_
  refine HW.yp rfl rfl rfl rfl rfl (PEv.move (.tmp rfl)) rfl ?_
  refine HW.yc rfl rfl rfl rfl rfl (fun a w _ ha => enter_call0 (.cons (.tmp rfl) (.cons (.const _) .nil)) (Tryz.en8) a ha) rfl (fun w hu => hpk w) ?_
  refine HW.yqc (ph := .pred fun v w => BaseV w v (ofB (fewL 40 l) d2)) (fun _ _ _ h u => BaseV.up h u) rfl rfl rfl rfl rfl (fun a w hu ha => ⟨_, _, enter_call0 (.cons (.tmp rfl) (.cons (.tmp rfl) .nil)) (Tryz.en10) a ha, (rOf_any _ _ (fewL 40 l) d2 w (hEl.up hu) (by omega)).mono fun v w' h => let ⟨bc', e, hB, u⟩ := h; ⟨u, bc', e, hB⟩⟩) rfl ?_
  refine HW.yqc (ph := .eq (.bool true)) (phUp.eq _) rfl rfl rfl rfl rfl (fun a w hu ha => ⟨_, _, enter_any2 Tryz.en9 a w, (refSame_v (a.eval (.tmp 29)) (a.eval (.tmp 33)) (ofB (fewL 40 l) d2) (ofB (fewL 40 l) d2) w ⟨bc2, ha.ev (.tmp rfl), hC2.up hu⟩ (ha.known (p := fun v w => BaseV w v (ofB (fewL 40 l) d2)) rfl) (ofB_short (by omega) d2)).mono fun _ _ h => ⟨h.2, h.1.trans (by rw [sameB_refl _])⟩⟩) rfl ?_
  refine HW.p (PEv.pick_and (.tmp rfl) (fun hp => (by first | exact .const _ | exact .tmp rfl | exact .cond rfl (by first | assumption | simp_all)))) rfl rfl ?_
  refine HW.p (PEv.move (.tmp rfl)) rfl rfl ?_
  refine HW.yp rfl rfl rfl rfl rfl (PEv.loadA Tryz.isAgg26 Tryz.sizeOf26 (hC1.size) (.tmp rfl) (hB8.agg)) rfl ?_
  refine HW.yp rfl rfl rfl rfl rfl (PEv.loadA Tryz.isAgg26 Tryz.sizeOf26 (hC2.size) (.tmp rfl) (hB9.agg)) rfl ?_
  refine HW.yc rfl rfl rfl rfl rfl (fun a w _ ha => enter_call0 (.cons (.tmp rfl) (.cons (.tmp rfl) .nil)) (Tryz.en11) a ha) rfl (fun w hu => Same_any bc1 bc2 _ _ w (hC1.up hu) (hC2.up hu) (ofB_short (by omega) day)) ?_
  refine HW.yp rfl rfl rfl rfl rfl (PEv.loadA Tryz.isAgg26 Tryz.sizeOf26 (hC1.size) (.tmp rfl) (hB8.agg)) rfl ?_
  refine HW.yp rfl rfl rfl rfl rfl (PEv.loadA Tryz.isAgg26 Tryz.sizeOf26 (hC2.size) (.tmp rfl) (hB9.agg)) rfl ?_
  refine HW.yc rfl rfl rfl rfl rfl (fun a w _ ha => enter_call0 (.cons (.tmp rfl) (.cons (.tmp rfl) .nil)) (Tryz.en9) a ha) rfl (fun w hu => refSame_any bc1 bc2 _ _ w (hC1.up hu) (hC2.up hu) (ofB_short (by omega) day)) ?_
  refine HW.yp rfl rfl rfl rfl rfl (PEv.tr (PEv.eqlB Tryz.underlying4 (.tmp rfl) (.tmp rfl)) (by simp)) rfl ?_
  refine HW.p (PEv.pick_and (.tmp rfl) (fun hp => (by first | exact .const _ | exact .tmp rfl | exact .cond rfl (by first | assumption | simp_all)))) rfl rfl ?_
  refine HW.p (PEv.assign (.tmp rfl)) rfl rfl ?_
  refine HW.nil ?_
  intro w10 uw10
  have zw10 := uw10.size
  replace hW := hW.up uw10
  replace hEf := hEf.up uw10
  replace hC1 := hC1.up uw10
  replace hB8 := hB8.up uw10
  replace hC2 := hC2.up uw10
  replace hB9 := hB9.up uw10
  refine KW.then (CW.ret ?_)
  refine KW.ret1 rfl rfl ⟨_, rfl, ?_⟩
  exact ⟨rfl, hW⟩

end Go.Proofs.YtdelcaegofkknaaGreat
