import Derived.Test.YtolkipbpklkcnaaGreatKR615
section
namespace Go.Proofs.YtolkipbpklkcnaaGreat
open Go.Wx Go.RowKit
theorem plain_any (c n : Int) (w : World) : Ret Tryz.prog 40 #[vi c, vi n] w fun r w' => r = .bool (plainB c n) ∧ Up w w' := by
  have hW := Up.refl w
  refine Calls_start (n := 12) (m := 9) Tryz.func40 rfl rfl rfl ?_
  refine CW.S (LW.C (LW.S (CW.region (LW.M rfl ?_))))
  refine LW.pp (PEv.eql (.tmp rfl) (.const _)) ?_
  refine LW.M rfl ?_
  refine LW.g rfl rfl rfl rfl rfl rfl rfl (fun hc => PEv.move (.tmp rfl)) ?_
  refine LW.g rfl rfl rfl rfl rfl rfl rfl (fun hc => PEv.move (.tmp rfl)) ?_
  refine LW.g rfl rfl rfl rfl rfl rfl rfl (fun hc => PEv.eql (by first | exact .tmp rfl | exact .cond rfl (by first | assumption | simp_all)) (by first | exact .tmp rfl | exact .cond rfl (by first | assumption | simp_all))) ?_
  refine LW.pp (PEv.pick_or (.tmp rfl) (fun hp => (by first | exact .const _ | exact .tmp rfl | exact .cond rfl (by first | assumption | simp_all)))) ?_
  refine LW.A rfl (LW.T (CW.ret ?_))
  refine KW.ret1 rfl rfl ⟨_, rfl, ?_⟩
  exact ⟨rfl, hW⟩
theorem shifted_any (c n : Int) (w : World) : Ret Tryz.prog 41 #[vi c, vi n] w fun r w' => r = .bool (shiftB c n) ∧ Up w w' := by
  have hW := Up.refl w
  refine Calls_start (n := 18) (m := 9) Tryz.func41 rfl rfl rfl ?_
  refine CW.S (LW.C (LW.S (CW.region (LW.M rfl ?_))))
  refine LW.pp (PEv.eql (.tmp rfl) (.const _)) ?_
  refine LW.M rfl ?_
  refine LW.g rfl rfl rfl rfl rfl rfl rfl (fun hc => PEv.move (.tmp rfl)) ?_
  refine LW.g rfl rfl rfl rfl rfl rfl rfl (fun hc => PEv.move (.tmp rfl)) ?_
  refine LW.g rfl rfl rfl rfl rfl rfl rfl (fun hc => PEv.gtr (by first | exact .tmp rfl | exact .cond rfl (by first | assumption | simp_all)) (by first | exact .tmp rfl | exact .cond rfl (by first | assumption | simp_all))) ?_
  refine LW.g rfl rfl rfl rfl rfl rfl rfl (fun hc => PEv.move (by first | exact .tmp rfl | exact .cond rfl (by first | assumption | simp_all))) ?_
  refine LW.gg rfl rfl rfl rfl rfl rfl rfl (fun hc => PEv.move (.tmp rfl)) ?_
  refine LW.gg rfl rfl rfl rfl rfl rfl rfl (fun hc => PEv.sub_w (by first | exact .tmp rfl | exact .cond rfl (by first | assumption | simp_all)) (.const _)) ?_
  refine LW.gg rfl rfl rfl rfl rfl rfl rfl (fun hc => PEv.move (.tmp rfl)) ?_
  refine LW.gg rfl rfl rfl rfl rfl rfl rfl (fun hc => PEv.eql (by first | exact .tmp rfl | exact .cond rfl (by first | assumption | simp_all)) (by first | exact .tmp rfl | exact .cond rfl (by first | assumption | simp_all))) ?_
  refine LW.g rfl rfl rfl rfl rfl rfl rfl (fun hc => PEv.pick_and (by first | exact .tmp rfl | exact .cond rfl (by first | assumption | simp_all)) (fun hp => (by first | exact .const _ | exact .tmp rfl | exact .cond rfl (by first | assumption | simp_all)))) ?_
  refine LW.pp (PEv.pick_or (.tmp rfl) (fun hp => (by first | exact .const _ | exact .tmp rfl | exact .cond rfl (by first | assumption | simp_all)))) ?_
  refine LW.A rfl (LW.T (CW.ret ?_))
  refine KW.ret1 rfl rfl ⟨_, rfl, ?_⟩
  exact ⟨rfl, hW⟩
theorem rabout_any (bc : Array Go.Value) (b : Base) (f : Fact) (x t : Int) (w : World) (hC : BaseC w bc b) (hl : b.Lots.length ≤ 1000000000) : Ret Tryz.prog 39 #[.agg bc, .agg f.cells, vi x, vi t] w fun r w' => r = .bool (aboutR f b.Lots x t) ∧ Up w w' := by
  have hW := Up.refl w
  refine Calls_start (n := 40) (m := 9) Tryz.func39 rfl rfl rfl ?_
  refine CW.S ?_
  refine LW.r (REv.boxA (.tmp rfl)) rfl rfl rfl rfl ?_
  rintro _ w1 ⟨B4, rfl, NB4⟩
  have eB4 := NB4.at_
  have zB4 := NB4.size
  replace hC := hC.up NB4.up
  replace hW := hW.up NB4.up
  have hB4 := NB4.blk
  refine LW.r (REv.boxA (.tmp rfl)) rfl rfl rfl rfl ?_
  rintro _ w2 ⟨B5, rfl, NB5⟩
  have eB5 := NB5.at_
  have zB5 := NB5.size
  replace hC := hC.up NB5.up
  replace hW := hW.up NB5.up
  replace hB4 := hB4.up NB5.up
  have hB5 := NB5.blk
  refine LW.C (LW.S (CW.region ?_))
  refine LW.pp (PEv.loadA Tryz.isAgg27 Tryz.sizeOf27 (hC.size) (.tmp rfl) (hB4.agg)) ?_
  refine LW.M rfl (LW.M rfl ?_)
  refine LW.c (enter_call0 (.cons (.tmp rfl) (.cons (.tmp rfl) (.cons (.tmp rfl) .nil))) (Tryz.en86)) rfl rfl rfl rfl (rlot_any bc b x t _ hC hl) ?_
  rintro _ w3 ⟨rfl, uw3⟩
  have zw3 := uw3.size
  replace hC := hC.up uw3
  replace hW := hW.up uw3
  replace hB4 := hB4.up uw3
  replace hB5 := hB5.up uw3
  refine LW.M rfl (LW.pp (PEv.extract (.tmp rfl) rfl) (LW.pp (PEv.extract (.tmp rfl) rfl) (LW.A rfl (LW.A rfl (LW.S (CW.region ?_))))))
  refine LW.pp (PEv.fieldAddr (off := 5) Tryz.underlying35 rfl rfl Tryz.sizeOf3 rfl (.tmp rfl)) ?_
  refine LW.pp (PEv.load Tryz.isAgg3 (.tmp rfl) (hB5.celln rfl)) ?_
  refine LW.M rfl ?_
  refine LW.pp (PEv.leq (.tmp rfl) (.tmp rfl)) ?_
  refine LW.M rfl ?_
  refine LW.g rfl rfl rfl rfl rfl rfl rfl (fun hc => PEv.move (.tmp rfl)) ?_
  refine LW.g rfl rfl rfl rfl rfl rfl rfl (fun hc => PEv.fieldAddr (off := 6) Tryz.underlying35 rfl rfl Tryz.sizeOf3 rfl (.tmp rfl)) ?_
  refine LW.g rfl rfl rfl rfl rfl rfl rfl (fun hc => PEv.load Tryz.isAgg3 (by first | exact .tmp rfl | exact .cond rfl (by first | assumption | simp_all)) (hB5.celln rfl)) ?_
  refine LW.g rfl rfl rfl rfl rfl rfl rfl (fun hc => PEv.leq (by first | exact .tmp rfl | exact .cond rfl (by first | assumption | simp_all)) (by first | exact .tmp rfl | exact .cond rfl (by first | assumption | simp_all))) ?_
  refine LW.pp (PEv.pick_and (.tmp rfl) (fun hp => (by first | exact .const _ | exact .tmp rfl | exact .cond rfl (by first | assumption | simp_all)))) ?_
  refine LW.M rfl ?_
  refine LW.g rfl rfl rfl rfl rfl rfl rfl (fun hc => PEv.fieldAddr (off := 7) Tryz.underlying35 rfl rfl Tryz.sizeOf3 rfl (.tmp rfl)) ?_
  refine LW.g rfl rfl rfl rfl rfl rfl rfl (fun hc => PEv.load Tryz.isAgg3 (by first | exact .tmp rfl | exact .cond rfl (by first | assumption | simp_all)) (hB5.celln rfl)) ?_
  refine LW.g rfl rfl rfl rfl rfl rfl rfl (fun hc => PEv.move (.tmp rfl)) ?_
  refine LW.gc rfl rfl rfl rfl rfl rfl rfl rfl (fun hc => enter_call0 (.cons (by first | exact .tmp rfl | exact .cond rfl (by first | assumption | simp_all)) (.cons (by first | exact .tmp rfl | exact .cond rfl (by first | assumption | simp_all)) .nil)) (Tryz.en40)) (fun hc => plain_any _ _ _) ?_
  intro w4 uw4
  have zw4 := uw4.size
  replace hC := hC.up uw4
  replace hW := hW.up uw4
  replace hB4 := hB4.up uw4
  replace hB5 := hB5.up uw4
  refine LW.pp (PEv.pick_and (.tmp rfl) (fun hp => (by first | exact .const _ | exact .tmp rfl | exact .cond rfl (by first | assumption | simp_all)))) ?_
  refine LW.M rfl ?_
  refine LW.g rfl rfl rfl rfl rfl rfl rfl (fun hc => PEv.fieldAddr (off := 9) Tryz.underlying35 rfl rfl Tryz.sizeOf3 rfl (.tmp rfl)) ?_
  refine LW.g rfl rfl rfl rfl rfl rfl rfl (fun hc => PEv.load Tryz.isAgg3 (by first | exact .tmp rfl | exact .cond rfl (by first | assumption | simp_all)) (hB5.celln rfl)) ?_
  refine LW.g rfl rfl rfl rfl rfl rfl rfl (fun hc => PEv.move (.tmp rfl)) ?_
  refine LW.gc rfl rfl rfl rfl rfl rfl rfl rfl (fun hc => enter_call0 (.cons (by first | exact .tmp rfl | exact .cond rfl (by first | assumption | simp_all)) (.cons (by first | exact .tmp rfl | exact .cond rfl (by first | assumption | simp_all)) .nil)) (Tryz.en40)) (fun hc => plain_any _ _ _) ?_
  intro w5 uw5
  have zw5 := uw5.size
  replace hC := hC.up uw5
  replace hW := hW.up uw5
  replace hB4 := hB4.up uw5
  replace hB5 := hB5.up uw5
  refine LW.pp (PEv.pick_and (.tmp rfl) (fun hp => (by first | exact .const _ | exact .tmp rfl | exact .cond rfl (by first | assumption | simp_all)))) ?_
  refine LW.A rfl (LW.T (CW.ret ?_))
  refine KW.ret1 rfl rfl ⟨_, rfl, ?_⟩
  exact ⟨rfl, hW⟩
set_option maxRecDepth 8000 in
theorem rNames_any (bc : Array Go.Value) (b : Base) (f : Fact) (a : GAct) (w : World) (hC : BaseC w bc b) (hl : b.Lots.length ≤ 1000000000) : Ret Tryz.prog 18 #[.agg bc, .agg f.cells, .agg a.cells] w fun r w' => r = .bool (namesR f b.Lots a) ∧ Up w w' := by
  have hW := Up.refl w
  refine Calls_start (n := 56) (m := 9) Tryz.func18 rfl rfl rfl ?_
  refine CW.S ?_
  refine LW.r (REv.boxA (.tmp rfl)) rfl rfl rfl rfl ?_
  rintro _ w1 ⟨B3, rfl, NB3⟩
  have eB3 := NB3.at_
  have zB3 := NB3.size
  replace hC := hC.up NB3.up
  replace hW := hW.up NB3.up
  have hB3 := NB3.blk
  refine LW.r (REv.boxA (.tmp rfl)) rfl rfl rfl rfl ?_
  rintro _ w2 ⟨B4, rfl, NB4⟩
  have eB4 := NB4.at_
  have zB4 := NB4.size
  replace hC := hC.up NB4.up
  replace hW := hW.up NB4.up
  replace hB3 := hB3.up NB4.up
  have hB4 := NB4.blk
  refine LW.r (REv.boxA (.tmp rfl)) rfl rfl rfl rfl ?_
  rintro _ w3 ⟨B5, rfl, NB5⟩
  have eB5 := NB5.at_
  have zB5 := NB5.size
  replace hC := hC.up NB5.up
  replace hW := hW.up NB5.up
  replace hB3 := hB3.up NB5.up
  replace hB4 := hB4.up NB5.up
  have hB5 := NB5.blk
  refine LW.C (LW.S (CW.region ?_))
  refine LW.pp (PEv.loadA Tryz.isAgg27 Tryz.sizeOf27 (hC.size) (.tmp rfl) (hB3.agg)) ?_
  refine LW.pp (PEv.loadA Tryz.isAgg35 Tryz.sizeOf35 rfl (.tmp rfl) (hB4.agg)) ?_
  refine LW.pp (PEv.fieldAddr (off := 0) Tryz.underlying24 rfl rfl Tryz.sizeOf3 rfl (.tmp rfl)) ?_
  refine LW.pp (PEv.load Tryz.isAgg3 (.tmp rfl) (hB5.celln rfl)) ?_
  refine LW.pp (PEv.fieldAddr (off := 6) Tryz.underlying24 rfl rfl Tryz.sizeOf3 rfl (.tmp rfl)) ?_
  refine LW.pp (PEv.load Tryz.isAgg3 (.tmp rfl) (hB5.celln rfl)) ?_
  refine LW.c (enter_call0 (.cons (.tmp rfl) (.cons (.tmp rfl) (.cons (.tmp rfl) (.cons (.tmp rfl) .nil)))) (Tryz.en39)) rfl rfl rfl rfl (rabout_any bc b f a.Wafer a.Time _ hC hl) ?_
  rintro _ w4 ⟨rfl, uw4⟩
  have zw4 := uw4.size
  replace hC := hC.up uw4
  replace hW := hW.up uw4
  replace hB3 := hB3.up uw4
  replace hB4 := hB4.up uw4
  replace hB5 := hB5.up uw4
  refine LW.A rfl (LW.S (CW.region ?_))
  refine LW.pp (PEv.fieldAddr (off := 0) Tryz.underlying35 rfl rfl Tryz.sizeOf3 rfl (.tmp rfl)) ?_
  refine LW.pp (PEv.load Tryz.isAgg3 (.tmp rfl) (hB4.celln rfl)) ?_
  refine LW.pp (PEv.eql (.tmp rfl) (.const _)) ?_
  refine LW.M rfl ?_
  refine LW.g rfl rfl rfl rfl rfl rfl rfl (fun hc => PEv.move (.tmp rfl)) ?_
  refine LW.pp (PEv.pick_and (.tmp rfl) (fun hp => (by first | exact .const _ | exact .tmp rfl | exact .cond rfl (by first | assumption | simp_all)))) ?_
  refine LW.M rfl ?_
  refine LW.g rfl rfl rfl rfl rfl rfl rfl (fun hc => PEv.fieldAddr (off := 14) Tryz.underlying35 rfl rfl Tryz.sizeOf3 rfl (.tmp rfl)) ?_
  refine LW.g rfl rfl rfl rfl rfl rfl rfl (fun hc => PEv.load Tryz.isAgg3 (by first | exact .tmp rfl | exact .cond rfl (by first | assumption | simp_all)) (hB4.celln rfl)) ?_
  refine LW.g rfl rfl rfl rfl rfl rfl rfl (fun hc => PEv.fieldAddr (off := 4) Tryz.underlying24 rfl rfl Tryz.sizeOf3 rfl (.tmp rfl)) ?_
  refine LW.g rfl rfl rfl rfl rfl rfl rfl (fun hc => PEv.load Tryz.isAgg3 (by first | exact .tmp rfl | exact .cond rfl (by first | assumption | simp_all)) (hB5.celln rfl)) ?_
  refine LW.gc rfl rfl rfl rfl rfl rfl rfl rfl (fun hc => enter_call0 (.cons (by first | exact .tmp rfl | exact .cond rfl (by first | assumption | simp_all)) (.cons (by first | exact .tmp rfl | exact .cond rfl (by first | assumption | simp_all)) .nil)) (Tryz.en40)) (fun hc => plain_any _ _ _) ?_
  intro w5 uw5
  have zw5 := uw5.size
  replace hC := hC.up uw5
  replace hW := hW.up uw5
  replace hB3 := hB3.up uw5
  replace hB4 := hB4.up uw5
  replace hB5 := hB5.up uw5
  refine LW.pp (PEv.pick_and (.tmp rfl) (fun hp => (by first | exact .const _ | exact .tmp rfl | exact .cond rfl (by first | assumption | simp_all)))) ?_
  refine LW.M rfl ?_
  refine LW.g rfl rfl rfl rfl rfl rfl rfl (fun hc => PEv.fieldAddr (off := 15) Tryz.underlying35 rfl rfl Tryz.sizeOf3 rfl (.tmp rfl)) ?_
  refine LW.g rfl rfl rfl rfl rfl rfl rfl (fun hc => PEv.load Tryz.isAgg3 (by first | exact .tmp rfl | exact .cond rfl (by first | assumption | simp_all)) (hB4.celln rfl)) ?_
  refine LW.g rfl rfl rfl rfl rfl rfl rfl (fun hc => PEv.fieldAddr (off := 5) Tryz.underlying24 rfl rfl Tryz.sizeOf3 rfl (.tmp rfl)) ?_
  refine LW.g rfl rfl rfl rfl rfl rfl rfl (fun hc => PEv.load Tryz.isAgg3 (by first | exact .tmp rfl | exact .cond rfl (by first | assumption | simp_all)) (hB5.celln rfl)) ?_
  refine LW.gc rfl rfl rfl rfl rfl rfl rfl rfl (fun hc => enter_call0 (.cons (by first | exact .tmp rfl | exact .cond rfl (by first | assumption | simp_all)) (.cons (by first | exact .tmp rfl | exact .cond rfl (by first | assumption | simp_all)) .nil)) (Tryz.en40)) (fun hc => plain_any _ _ _) ?_
  intro w6 uw6
  have zw6 := uw6.size
  replace hC := hC.up uw6
  replace hW := hW.up uw6
  replace hB3 := hB3.up uw6
  replace hB4 := hB4.up uw6
  replace hB5 := hB5.up uw6
  refine LW.pp (PEv.pick_and (.tmp rfl) (fun hp => (by first | exact .const _ | exact .tmp rfl | exact .cond rfl (by first | assumption | simp_all)))) ?_
  refine LW.M rfl ?_
  refine LW.g rfl rfl rfl rfl rfl rfl rfl (fun hc => PEv.fieldAddr (off := 11) Tryz.underlying35 rfl rfl Tryz.sizeOf3 rfl (.tmp rfl)) ?_
  refine LW.g rfl rfl rfl rfl rfl rfl rfl (fun hc => PEv.load Tryz.isAgg3 (by first | exact .tmp rfl | exact .cond rfl (by first | assumption | simp_all)) (hB4.celln rfl)) ?_
  refine LW.g rfl rfl rfl rfl rfl rfl rfl (fun hc => PEv.fieldAddr (off := 2) Tryz.underlying24 rfl rfl Tryz.sizeOf3 rfl (.tmp rfl)) ?_
  refine LW.g rfl rfl rfl rfl rfl rfl rfl (fun hc => PEv.load Tryz.isAgg3 (by first | exact .tmp rfl | exact .cond rfl (by first | assumption | simp_all)) (hB5.celln rfl)) ?_
  refine LW.gc rfl rfl rfl rfl rfl rfl rfl rfl (fun hc => enter_call0 (.cons (by first | exact .tmp rfl | exact .cond rfl (by first | assumption | simp_all)) (.cons (by first | exact .tmp rfl | exact .cond rfl (by first | assumption | simp_all)) .nil)) (Tryz.en41)) (fun hc => shifted_any _ _ _) ?_
  intro w7 uw7
  have zw7 := uw7.size
  replace hC := hC.up uw7
  replace hW := hW.up uw7
  replace hB3 := hB3.up uw7
  replace hB4 := hB4.up uw7
  replace hB5 := hB5.up uw7
  refine LW.pp (PEv.pick_and (.tmp rfl) (fun hp => (by first | exact .const _ | exact .tmp rfl | exact .cond rfl (by first | assumption | simp_all)))) ?_
  refine LW.M rfl ?_
  refine LW.g rfl rfl rfl rfl rfl rfl rfl (fun hc => PEv.fieldAddr (off := 12) Tryz.underlying35 rfl rfl Tryz.sizeOf3 rfl (.tmp rfl)) ?_
  refine LW.g rfl rfl rfl rfl rfl rfl rfl (fun hc => PEv.load Tryz.isAgg3 (by first | exact .tmp rfl | exact .cond rfl (by first | assumption | simp_all)) (hB4.celln rfl)) ?_
  refine LW.g rfl rfl rfl rfl rfl rfl rfl (fun hc => PEv.fieldAddr (off := 3) Tryz.underlying24 rfl rfl Tryz.sizeOf3 rfl (.tmp rfl)) ?_
  refine LW.g rfl rfl rfl rfl rfl rfl rfl (fun hc => PEv.load Tryz.isAgg3 (by first | exact .tmp rfl | exact .cond rfl (by first | assumption | simp_all)) (hB5.celln rfl)) ?_
  refine LW.gc rfl rfl rfl rfl rfl rfl rfl rfl (fun hc => enter_call0 (.cons (by first | exact .tmp rfl | exact .cond rfl (by first | assumption | simp_all)) (.cons (by first | exact .tmp rfl | exact .cond rfl (by first | assumption | simp_all)) .nil)) (Tryz.en41)) (fun hc => shifted_any _ _ _) ?_
  intro w8 uw8
  have zw8 := uw8.size
  replace hC := hC.up uw8
  replace hW := hW.up uw8
  replace hB3 := hB3.up uw8
  replace hB4 := hB4.up uw8
  replace hB5 := hB5.up uw8
  refine LW.pp (PEv.pick_and (.tmp rfl) (fun hp => (by first | exact .const _ | exact .tmp rfl | exact .cond rfl (by first | assumption | simp_all)))) ?_
  refine LW.M rfl ?_
  refine LW.g rfl rfl rfl rfl rfl rfl rfl (fun hc => PEv.fieldAddr (off := 13) Tryz.underlying35 rfl rfl Tryz.sizeOf3 rfl (.tmp rfl)) ?_
  refine LW.g rfl rfl rfl rfl rfl rfl rfl (fun hc => PEv.load Tryz.isAgg3 (by first | exact .tmp rfl | exact .cond rfl (by first | assumption | simp_all)) (hB4.celln rfl)) ?_
  refine LW.g rfl rfl rfl rfl rfl rfl rfl (fun hc => PEv.fieldAddr (off := 1) Tryz.underlying24 rfl rfl Tryz.sizeOf3 rfl (.tmp rfl)) ?_
  refine LW.g rfl rfl rfl rfl rfl rfl rfl (fun hc => PEv.load Tryz.isAgg3 (by first | exact .tmp rfl | exact .cond rfl (by first | assumption | simp_all)) (hB5.celln rfl)) ?_
  refine LW.gc rfl rfl rfl rfl rfl rfl rfl rfl (fun hc => enter_call0 (.cons (by first | exact .tmp rfl | exact .cond rfl (by first | assumption | simp_all)) (.cons (by first | exact .tmp rfl | exact .cond rfl (by first | assumption | simp_all)) .nil)) (Tryz.en41)) (fun hc => shifted_any _ _ _) ?_
  intro w9 uw9
  have zw9 := uw9.size
  replace hC := hC.up uw9
  replace hW := hW.up uw9
  replace hB3 := hB3.up uw9
  replace hB4 := hB4.up uw9
  replace hB5 := hB5.up uw9
  refine LW.pp (PEv.pick_and (.tmp rfl) (fun hp => (by first | exact .const _ | exact .tmp rfl | exact .cond rfl (by first | assumption | simp_all)))) ?_
  refine LW.A rfl (LW.T (CW.ret ?_))
  refine KW.ret1 rfl rfl ⟨_, rfl, ?_⟩
  exact ⟨rfl, hW⟩
theorem rbits_any (bc : Array Go.Value) (b : Base) (id t : Int) (w : World) (hC : BaseC w bc b) (hl : b.Releases.length ≤ 1000000000) : Ret Tryz.prog 42 #[.agg bc, vi id, vi t] w fun r w' => r = vi (partiesOf b.Releases id t) ∧ Up w w' := by
  have hW := Up.refl w
  refine Calls_start (n := 37) (m := 9) Tryz.func42 rfl rfl rfl ?_
  refine CW.S ?_
  refine LW.r (REv.boxA (.tmp rfl)) rfl rfl rfl rfl ?_
  rintro _ w1 ⟨B3, rfl, NB3⟩
  have eB3 := NB3.at_
  have zB3 := NB3.size
  replace hC := hC.up NB3.up
  replace hW := hW.up NB3.up
  have hB3 := NB3.blk
  refine LW.C (LW.S ?_)
  obtain ⟨v7, h7, ad, cp, rfl, hE⟩ := hC.at7
  replace hE : Els w1 ad 19 Fact.cells b.Releases := hE
  refine CW.region (LW.C (LW.S (CW.S (LW.C (LW.T (CW.block ?_))))))
  refine CW.loopB (σ := Nat) (fun s w => (s ≤ b.Releases.length) ∧ (Up w1 w)) (fun s => [(8, .eq (vi (s : Int))), (7, .eq (vi (partiesOf (b.Releases.take s) id t)))]) ([(1, .eq _), (2, .eq _), (3, .eq _), (6, .eq _)]) (fun s => b.Releases.length - s) 0 ?_ ⟨rfl, rfl, rfl, rfl, rfl, rfl, trivial⟩ ?_
  ·exact ⟨Nat.zero_le _, Up.refl _⟩
  ·rintro k w2 ⟨hk, hL1⟩
   have zzw2 := hL1.size
   replace hC := hC.up hL1
   replace hW := hW.up hL1
   replace hB3 := hB3.up hL1
   replace hE := hE.up hL1
   refine CW.seq (CW.S (LW.M rfl ?_))
   refine LW.pp (PEv.fieldAddr (off := 7) Tryz.underlying27 rfl rfl Tryz.sizeOf22 rfl (.tmp rfl)) ?_
   refine LW.pp (PEv.load Tryz.isAgg22 (.tmp rfl) (hB3.cell h7)) ?_
   refine LW.pp (PEv.lenS Tryz.underlying22 (.tmp rfl)) ?_
   refine LW.pp (PEv.lss (.tmp rfl) (.tmp rfl)) ?_
   refine LW.T ?_
   refine CW.cond (.tmp rfl) (fun h14 => ?_) (fun h14 => ?_)
   ·first | replace h14 := dT h14 | replace h14 := dF h14 | skip
    refine CW.skip (KW.then (CW.seq (CW.block (CW.seq ?_))))
    obtain ⟨x, hx⟩ := getElem?_of_lt (xs := b.Releases) (i := k) (by omega)
    obtain ⟨Bx, ox, ax, hcx⟩ := hE k x hx
    refine CW.region ?_
    refine LW.pp (PEv.fieldAddr (off := 7) Tryz.underlying27 rfl rfl Tryz.sizeOf22 rfl (.tmp rfl)) ?_
    refine LW.pp (PEv.load Tryz.isAgg22 (.tmp rfl) (hB3.cell h7)) ?_
    refine LW.M rfl ?_
    refine LW.pp (PEv.indexAddr' Tryz.underlying22 Tryz.sizeOf35 (.tmp rfl) (.tmp rfl) (by omega) ax) ?_
    refine LW.pp (PEv.loadA Tryz.isAgg35 Tryz.sizeOf35 rfl (.tmp rfl) (hcx)) ?_
    refine LW.r (REv.allocA Tryz.zeroValue35) rfl rfl rfl rfl ?_
    rintro _ w3 ⟨B9, rfl, MB9⟩
    refine LW.s (SEv.storeA Tryz.sizeOf35 rfl (.tmp rfl) (.tmp rfl) (by first | rfl | exact Fact.one _ | exact GAct.one _ | exact holdCells_one _ _ | exact hold0_one | (simp [Value.oneCell'])) MB9.blk rfl) rfl rfl rfl ?_
    intro w4 LB9
    have NB9 := MB9.set LB9
    clear LB9 MB9
    have eB9 := NB9.at_
    have zB9 := NB9.size
    replace hC := hC.up NB9.up
    replace hW := hW.up NB9.up
    replace hB3 := hB3.up NB9.up
    replace hE := hE.up NB9.up
    replace hL1 := hL1.up NB9.up
    replace hcx := hcx.up NB9.up
    have hB9 := NB9.blk
    refine LW.S (CW.region ?_)
    refine LW.pp (PEv.fieldAddr (off := 8) Tryz.underlying35 rfl rfl Tryz.sizeOf3 rfl (.tmp rfl)) ?_
    refine LW.pp (PEv.load Tryz.isAgg3 (.tmp rfl) (hB9.celln rfl)) ?_
    refine LW.M rfl ?_
    refine LW.pp (PEv.eql (.tmp rfl) (.tmp rfl)) ?_
    refine LW.M rfl ?_
    refine LW.g rfl rfl rfl rfl rfl rfl rfl (fun hc => PEv.fieldAddr (off := 5) Tryz.underlying35 rfl rfl Tryz.sizeOf3 rfl (.tmp rfl)) ?_
    refine LW.g rfl rfl rfl rfl rfl rfl rfl (fun hc => PEv.load Tryz.isAgg3 (by first | exact .tmp rfl | exact .cond rfl (by first | assumption | simp_all)) (hB9.celln rfl)) ?_
    refine LW.g rfl rfl rfl rfl rfl rfl rfl (fun hc => PEv.move (.tmp rfl)) ?_
    refine LW.g rfl rfl rfl rfl rfl rfl rfl (fun hc => PEv.leq (by first | exact .tmp rfl | exact .cond rfl (by first | assumption | simp_all)) (by first | exact .tmp rfl | exact .cond rfl (by first | assumption | simp_all))) ?_
    refine LW.pp (PEv.pick_and (.tmp rfl) (fun hp => (by first | exact .const _ | exact .tmp rfl | exact .cond rfl (by first | assumption | simp_all)))) ?_
    refine LW.T ?_
    refine CW.cond (.tmp rfl) (fun h31 => ?_) (fun h31 => ?_)
    ·first | replace h31 := dT h31 | replace h31 := dF h31 | skip
     have he : partiesOf (b.Releases.take (k + 1)) id t = orH (partiesOf (b.Releases.take k) id t) x.Parties := by rw [take_succ_of hx, partiesOf_snoc]; exact if_pos h31
     refine CW.region (LW.M rfl ?_)
     refine LW.pp (PEv.fieldAddr (off := 17) Tryz.underlying35 rfl rfl Tryz.sizeOf3 rfl (.tmp rfl)) ?_
     refine LW.pp (PEv.load Tryz.isAgg3 (.tmp rfl) (hB9.celln rfl)) ?_
     refine LW.pp (PEv.or_w (.tmp rfl) (.tmp rfl)) ?_
     refine LW.A rfl (LW.nil (KW.inBlock (KW.then (CW.region (LW.M rfl ?_)))))
     refine LW.pp (PEv.inc (.tmp rfl) (by omega)) ?_
     refine LW.A rfl (LW.nil (KW.round ?_))
     exact ⟨k + 1, ⟨by omega, hL1⟩, ⟨rfl, (congrArg (fun n : Int => some (Ph.eq (vi n))) he).symm, rfl, rfl, rfl, rfl, trivial⟩, by first | omega | (dsimp only; omega)⟩
    ·first | replace h31 := dT h31 | replace h31 := dF h31 | skip
     have he : partiesOf (b.Releases.take (k + 1)) id t = partiesOf (b.Releases.take k) id t := by rw [take_succ_of hx, partiesOf_snoc]; exact if_neg (by rw [h31]; exact Bool.false_ne_true)
     refine CW.skip (KW.inBlock (KW.then (CW.region (LW.M rfl ?_))))
     refine LW.pp (PEv.inc (.tmp rfl) (by omega)) ?_
     refine LW.A rfl (LW.nil (KW.round ?_))
     exact ⟨k + 1, ⟨by omega, hL1⟩, ⟨rfl, (congrArg (fun n : Int => some (Ph.eq (vi n))) he).symm, rfl, rfl, rfl, rfl, trivial⟩, by first | omega | (dsimp only; omega)⟩
   ·first | replace h14 := dT h14 | replace h14 := dF h14 | skip
    refine CW.exit (KW.then_exit (KW.then_exit (KW.block_hit (KW.then (CW.S (LW.M rfl (LW.A rfl (LW.T (CW.ret ?_)))))))))
    refine KW.ret1 rfl rfl ⟨_, rfl, ?_⟩
    exact ⟨by rw [show k = b.Releases.length by omega, List.take_length], hW⟩
theorem rfind_any (bc : Array Go.Value) (b : Base) (id : Int) (w : World) (hC : BaseC w bc b) (hl : b.Holds.length ≤ 1000000000) : Ret Tryz.prog 43 #[.agg bc, vi id] w fun r w' => r = .tuple #[.agg ((findB b.Holds id).getD zeroF).cells, .bool (findB b.Holds id).isSome] ∧ Up w w' := by
  obtain ⟨w0, rfl⟩ : ∃ w0, w0 = w := ⟨_, rfl⟩
  have hS := Sep.start no w0
  refine Calls_start (n := 37) (m := 9) Tryz.func43 rfl rfl rfl ?_
  refine CW.S ?_
  refine LW.r (REv.boxA (.tmp rfl)) rfl rfl rfl rfl ?_
  rintro _ w1 ⟨B2, rfl, NB2⟩
  have eB2 := NB2.at_
  have zB2 := NB2.size
  replace hS := hS.addB NB2
  change Wx.Sep _ _ _ [_] at hS
  refine LW.r (REv.allocA Tryz.zeroValue35) rfl rfl rfl rfl ?_
  rintro _ w2 ⟨B4, rfl, NB4⟩
  have eB4 := NB4.at_
  have zB4 := NB4.size
  replace hS := hS.addB NB4
  change Wx.Sep _ _ _ [_, _] at hS
  refine LW.C (LW.S (CW.seq ?_))
  obtain ⟨v6, h6, ad, cp, rfl, hE⟩ := hC.at6
  refine CW.region (LW.C (LW.T (CW.block ?_)))
  refine CW.loopB (σ := Nat) (fun s w => (s ≤ b.Holds.length) ∧ (findB (b.Holds.take s) id = none) ∧ (Wx.Sep no w0 w [aBlk B2 bc 27, aBlk B4 zeroF.cells 35])) (fun s => [(6, .eq (vi (s : Int)))]) ([(1, .eq _), (2, .eq _), (4, .eq _)]) (fun s => b.Holds.length - s) 0 ?_ ⟨rfl, rfl, rfl, rfl, trivial⟩ ?_
  ·exact ⟨Nat.zero_le _, rfl, hS⟩
  ·rintro k w3 ⟨hk, hn, hS⟩
   refine CW.seq (CW.S (LW.M rfl ?_))
   refine LW.pp (PEv.fieldAddr (off := 6) Tryz.underlying27 rfl rfl Tryz.sizeOf22 rfl (.tmp rfl)) ?_
   refine LW.pp (PEv.load Tryz.isAgg22 (.tmp rfl) ((hS.blk 0 rfl).cell h6)) ?_
   refine LW.pp (PEv.lenS Tryz.underlying22 (.tmp rfl)) ?_
   refine LW.pp (PEv.lss (.tmp rfl) (.tmp rfl)) ?_
   refine LW.T ?_
   refine CW.cond (.tmp rfl) (fun h11 => ?_) (fun h11 => ?_)
   ·first | replace h11 := dT h11 | replace h11 := dF h11 | skip
    refine CW.skip (KW.then (CW.seq (CW.block (CW.seq ?_))))
    obtain ⟨x, hx⟩ := getElem?_of_lt (xs := b.Holds) (i := k) (by omega)
    obtain ⟨Bx, ox, ax, hcx⟩ := (Els.up hE hS.upd) k x hx
    refine CW.region ?_
    refine LW.pp (PEv.fieldAddr (off := 6) Tryz.underlying27 rfl rfl Tryz.sizeOf22 rfl (.tmp rfl)) ?_
    refine LW.pp (PEv.load Tryz.isAgg22 (.tmp rfl) ((hS.blk 0 rfl).cell h6)) ?_
    refine LW.M rfl ?_
    refine LW.pp (PEv.indexAddr' Tryz.underlying22 Tryz.sizeOf35 (.tmp rfl) (.tmp rfl) (by omega) ax) ?_
    refine LW.pp (PEv.fieldAddr (off := 1) Tryz.underlying35 rfl rfl Tryz.sizeOf3 rfl (.tmp rfl)) ?_
    refine LW.pp (PEv.load Tryz.isAgg3 (.tmp rfl) (hcx.nth (j := 1) rfl)) ?_
    refine LW.M rfl ?_
    refine LW.pp (PEv.eql (.tmp rfl) (.tmp rfl)) ?_
    refine LW.M rfl ?_
    refine LW.g rfl rfl rfl rfl rfl rfl rfl (fun hc => PEv.fieldAddr (off := 6) Tryz.underlying27 rfl rfl Tryz.sizeOf22 rfl (.tmp rfl)) ?_
    refine LW.g rfl rfl rfl rfl rfl rfl rfl (fun hc => PEv.load Tryz.isAgg22 (by first | exact .tmp rfl | exact .cond rfl (by first | assumption | simp_all)) ((hS.blk 0 rfl).cell h6)) ?_
    refine LW.g rfl rfl rfl rfl rfl rfl rfl (fun hc => PEv.move (.tmp rfl)) ?_
    refine LW.g rfl rfl rfl rfl rfl rfl rfl (fun hc => PEv.indexAddr' Tryz.underlying22 Tryz.sizeOf35 (by first | exact .tmp rfl | exact .cond rfl (by first | assumption | simp_all)) (by first | exact .tmp rfl | exact .cond rfl (by first | assumption | simp_all)) (by omega) ax) ?_
    refine LW.g rfl rfl rfl rfl rfl rfl rfl (fun hc => PEv.fieldAddr (off := 0) Tryz.underlying35 rfl rfl Tryz.sizeOf3 rfl (by first | exact .tmp rfl | exact .cond rfl (by first | assumption | simp_all))) ?_
    refine LW.g rfl rfl rfl rfl rfl rfl rfl (fun hc => PEv.load Tryz.isAgg3 (by first | exact .tmp rfl | exact .cond rfl (by first | assumption | simp_all)) (hcx.nth (j := 0) rfl)) ?_
    refine LW.g rfl rfl rfl rfl rfl rfl rfl (fun hc => PEv.eql (by first | exact .tmp rfl | exact .cond rfl (by first | assumption | simp_all)) (.const _)) ?_
    refine LW.pp (PEv.pick_and (.tmp rfl) (fun hp => (by first | exact .const _ | exact .tmp rfl | exact .cond rfl (by first | assumption | (rw [hp]; rfl) | (rw [hc, hp]; rfl) | simp_all)))) ?_
    refine LW.T ?_
    refine CW.cond (.tmp rfl) (fun h30 => ?_) (fun h30 => ?_)
    ·first | replace h30 := dT h30 | replace h30 := dF h30 | skip
     have hr := find_hit hx h30 hn
     refine CW.S ?_
     refine LW.pp (PEv.fieldAddr (off := 6) Tryz.underlying27 rfl rfl Tryz.sizeOf22 rfl (.tmp rfl)) ?_
     refine LW.pp (PEv.load Tryz.isAgg22 (.tmp rfl) ((hS.blk 0 rfl).cell h6)) ?_
     refine LW.M rfl ?_
     refine LW.pp (PEv.indexAddr' Tryz.underlying22 Tryz.sizeOf35 (.tmp rfl) (.tmp rfl) (by omega) ax) ?_
     refine LW.pp (PEv.loadA Tryz.isAgg35 Tryz.sizeOf35 rfl (.tmp rfl) (hcx)) ?_
     refine LW.s (SEv.storeA Tryz.sizeOf35 rfl (.tmp rfl) (.tmp rfl) (Fact.one _) (hS.blk 1 rfl) rfl) rfl rfl rfl ?_
     intro w4 Nw4
     have zw4 := Nw4.size
     replace hS := hS.putB 1 rfl (show Set_ _ w4 _ (x.cells) _ from Nw4)
     change Wx.Sep _ _ _ [_, _] at hS
     refine LW.C (LW.T (CW.ret (KW.block_ret (KW.then_ret (KW.then_ret (KW.block_ret (KW.then_ret ?_)))))))
     refine KW.retAT rfl rfl rfl Tryz.isAgg35 Tryz.sizeOf35 rfl ((hS.blk 1 rfl)).agg ⟨_, rfl, ?_⟩
     first | exact ⟨by rw [hr]; rfl, hS.upd⟩ | exact ⟨by rw [show k = b.Holds.length by omega, List.take_length] at hn; rw [hn]; rfl, hS.upd⟩
    ·first | replace h30 := dT h30 | replace h30 := dF h30 | skip
     have hr := find_step hx h30 hn
     refine CW.skip (KW.inBlock (KW.then (CW.region (LW.M rfl ?_))))
     refine LW.pp (PEv.inc (.tmp rfl) (by omega)) ?_
     refine LW.A rfl (LW.nil (KW.round ?_))
     exact ⟨k + 1, ⟨by omega, hr, hS⟩, ⟨rfl, rfl, rfl, rfl, trivial⟩, by first | omega | (dsimp only; omega)⟩
   ·first | replace h11 := dT h11 | replace h11 := dF h11 | skip
    refine CW.exit (KW.then_exit (KW.then_exit (KW.block_hit (KW.then (CW.S ?_)))))
    refine LW.pp (PEv.build (cs := zeroF.cells) Tryz.underlying35 Tryz.zeroValue35 Tryz.places35 .nil rfl) ?_
    refine LW.s (SEv.storeA Tryz.sizeOf35 rfl (.tmp rfl) (.tmp rfl) (Fact.one _) (hS.blk 1 rfl) rfl) rfl rfl rfl ?_
    intro w5 Nw5
    have zw5 := Nw5.size
    replace hS := hS.putB 1 rfl (show Set_ _ w5 _ (zeroF.cells) _ from Nw5)
    change Wx.Sep _ _ _ [_, _] at hS
    refine LW.C (LW.T (CW.ret ?_))
    refine KW.retAT rfl rfl rfl Tryz.isAgg35 Tryz.sizeOf35 rfl ((hS.blk 1 rfl)).agg ⟨_, rfl, ?_⟩
    first | exact ⟨by rw [hr]; rfl, hS.upd⟩ | exact ⟨by rw [show k = b.Holds.length by omega, List.take_length] at hn; rw [hn]; rfl, hS.upd⟩
theorem rReleased_any (bc : Array Go.Value) (b : Base) (id t : Int) (w : World) (hC : BaseC w bc b) (hH : b.Holds.length ≤ 1000000000) (hR : b.Releases.length ≤ 1000000000) (hb : bOk b) : Ret Tryz.prog 19 #[.agg bc, vi id, vi t] w fun r w' => r = .tuple #[vi (partiesOf b.Releases id t), .bool (releasedB b id t)] ∧ Up w w' := by
  have hW := Up.refl w
  refine Calls_start (n := 32) (m := 9) Tryz.func19 rfl rfl rfl ?_
  refine CW.S ?_
  refine LW.r (REv.boxA (.tmp rfl)) rfl rfl rfl rfl ?_
  rintro _ w1 ⟨B3, rfl, NB3⟩
  have eB3 := NB3.at_
  have zB3 := NB3.size
  replace hC := hC.up NB3.up
  replace hW := hW.up NB3.up
  have hB3 := NB3.blk
  refine LW.C (LW.C (LW.S (CW.region ?_)))
  refine LW.pp (PEv.loadA Tryz.isAgg27 Tryz.sizeOf27 (hC.size) (.tmp rfl) (hB3.agg)) ?_
  refine LW.M rfl (LW.M rfl ?_)
  refine LW.c (enter_call0 (.cons (.tmp rfl) (.cons (.tmp rfl) (.cons (.tmp rfl) .nil))) (Tryz.en42)) rfl rfl rfl rfl (rbits_any bc b id t _ hC hR) ?_
  rintro _ w2 ⟨rfl, uw2⟩
  have zw2 := uw2.size
  replace hC := hC.up uw2
  replace hW := hW.up uw2
  replace hB3 := hB3.up uw2
  refine LW.A rfl (LW.S ?_)
  cases hq2 : findB b.Holds id with
  | none =>
   refine CW.region ?_
   refine LW.pp (PEv.loadA Tryz.isAgg27 Tryz.sizeOf27 (hC.size) (.tmp rfl) (hB3.agg)) ?_
   refine LW.M rfl ?_
   refine LW.c (enter_call0 (.cons (.tmp rfl) (.cons (.tmp rfl) .nil)) (Tryz.en43)) rfl rfl rfl rfl (rfind_any bc b id _ hC hH) ?_
   rintro _ w3 ⟨rfl, uw3⟩
   have zw3 := uw3.size
   replace hC := hC.up uw3
   replace hW := hW.up uw3
   replace hB3 := hB3.up uw3
   rw [hq2]
   refine LW.M rfl (LW.pp (PEv.extract (.tmp rfl) rfl) (LW.pp (PEv.extract (.tmp rfl) rfl) ?_))
   refine LW.r (REv.allocA Tryz.zeroValue35) rfl rfl rfl rfl ?_
   rintro _ w4 ⟨B9, rfl, MB9⟩
   refine LW.s (SEv.storeA Tryz.sizeOf35 rfl (.tmp rfl) (.tmp rfl) (Fact.one _) MB9.blk rfl) rfl rfl rfl ?_
   intro w5 LB9
   have NB9 := MB9.set LB9
   clear LB9 MB9
   have eB9 := NB9.at_
   have zB9 := NB9.size
   replace hC := hC.up NB9.up
   replace hW := hW.up NB9.up
   replace hB3 := hB3.up NB9.up
   have hB9 := NB9.blk
   refine LW.A rfl (LW.S ?_)
   refine CW.draws (by kernel_rfl) (by kernel_rfl) rfl rfl ?_
   refine HW.pp (PEv.move (.tmp rfl)) ?_
   refine HW.pp (PEv.move (.tmp rfl)) ?_
   refine HW.pp (PEv.move (.tmp rfl)) ?_
   refine HW.g rfl rfl rfl rfl rfl rfl (fun hc => PEv.fieldAddr (off := 17) Tryz.underlying35 rfl rfl Tryz.sizeOf3 rfl (.tmp rfl)) ?_
   refine HW.g rfl rfl rfl rfl rfl rfl (fun hc => PEv.load Tryz.isAgg3 (by first | exact .tmp rfl | exact .cond rfl (by first | assumption | simp_all)) (hB9.celln rfl)) ?_
   refine HW.g rfl rfl rfl rfl rfl rfl (fun hc => PEv.move (.tmp rfl)) ?_
   refine HW.g rfl rfl rfl rfl rfl rfl (fun hc => PEv.and_w (by first | exact .tmp rfl | exact .cond rfl (by first | assumption | simp_all)) (by first | exact .tmp rfl | exact .cond rfl (by first | assumption | simp_all))) ?_
   refine HW.g rfl rfl rfl rfl rfl rfl (fun hc => PEv.fieldAddr (off := 17) Tryz.underlying35 rfl rfl Tryz.sizeOf3 rfl (.tmp rfl)) ?_
   refine HW.g rfl rfl rfl rfl rfl rfl (fun hc => PEv.load Tryz.isAgg3 (by first | exact .tmp rfl | exact .cond rfl (by first | assumption | simp_all)) (hB9.celln rfl)) ?_
   refine HW.g rfl rfl rfl rfl rfl rfl (fun hc => PEv.eql (by first | exact .tmp rfl | exact .cond rfl (by first | assumption | simp_all)) (by first | exact .tmp rfl | exact .cond rfl (by first | assumption | simp_all))) ?_
   refine HW.pp (PEv.pick_and (.tmp rfl) (fun hp => (by first | exact .const _ | exact .tmp rfl | exact .cond rfl (by first | assumption | (rw [hp]; rfl) | (rw [hc, hp]; rfl) | simp_all)))) ?_
   refine HW.pp (PEv.assign (.tmp rfl)) ?_
   refine HW.pp (PEv.assign (.tmp rfl)) ?_
   refine HW.nil ?_
   intro w6 uw6
   have zw6 := uw6.size
   replace hC := hC.up uw6
   replace hW := hW.up uw6
   replace hB3 := hB3.up uw6
   replace hB9 := hB9.up uw6
   refine KW.then (CW.ret ?_)
   refine KW.ret2 rfl rfl rfl ⟨_, rfl, ?_⟩
   first | exact ⟨by unfold releasedB; rw [hq2]; rfl, hW⟩ | exact ⟨by unfold releasedB; rw [hq2]; show _ = Go.Value.tuple #[_, .bool (decide (andNotI f.Parties (partiesOf b.Releases f.ID t) = 0))]; rw [show f.ID = id from by have := List.find?_some hq2; simpa using this, ← and_over (hb f (find_mem hq2).1).Parties]; rfl, hW⟩
  | some f =>
   refine CW.region ?_
   refine LW.pp (PEv.loadA Tryz.isAgg27 Tryz.sizeOf27 (hC.size) (.tmp rfl) (hB3.agg)) ?_
   refine LW.M rfl ?_
   refine LW.c (enter_call0 (.cons (.tmp rfl) (.cons (.tmp rfl) .nil)) (Tryz.en43)) rfl rfl rfl rfl (rfind_any bc b id _ hC hH) ?_
   rintro _ w7 ⟨rfl, uw7⟩
   have zw7 := uw7.size
   replace hC := hC.up uw7
   replace hW := hW.up uw7
   replace hB3 := hB3.up uw7
   rw [hq2]
   refine LW.M rfl (LW.pp (PEv.extract (.tmp rfl) rfl) (LW.pp (PEv.extract (.tmp rfl) rfl) ?_))
   refine LW.r (REv.allocA Tryz.zeroValue35) rfl rfl rfl rfl ?_
   rintro _ w8 ⟨B9, rfl, MB9⟩
   refine LW.s (SEv.storeA Tryz.sizeOf35 rfl (.tmp rfl) (.tmp rfl) (Fact.one _) MB9.blk rfl) rfl rfl rfl ?_
   intro w9 LB9
   have NB9 := MB9.set LB9
   clear LB9 MB9
   have eB9 := NB9.at_
   have zB9 := NB9.size
   replace hC := hC.up NB9.up
   replace hW := hW.up NB9.up
   replace hB3 := hB3.up NB9.up
   have hB9 := NB9.blk
   refine LW.A rfl (LW.S ?_)
   refine CW.draws (by kernel_rfl) (by kernel_rfl) rfl rfl ?_
   refine HW.pp (PEv.move (.tmp rfl)) ?_
   refine HW.pp (PEv.move (.tmp rfl)) ?_
   refine HW.pp (PEv.move (.tmp rfl)) ?_
   refine HW.g rfl rfl rfl rfl rfl rfl (fun hc => PEv.fieldAddr (off := 17) Tryz.underlying35 rfl rfl Tryz.sizeOf3 rfl (.tmp rfl)) ?_
   refine HW.g rfl rfl rfl rfl rfl rfl (fun hc => PEv.load Tryz.isAgg3 (by first | exact .tmp rfl | exact .cond rfl (by first | assumption | simp_all)) (hB9.celln rfl)) ?_
   refine HW.g rfl rfl rfl rfl rfl rfl (fun hc => PEv.move (.tmp rfl)) ?_
   refine HW.g rfl rfl rfl rfl rfl rfl (fun hc => PEv.and_w (by first | exact .tmp rfl | exact .cond rfl (by first | assumption | simp_all)) (by first | exact .tmp rfl | exact .cond rfl (by first | assumption | simp_all))) ?_
   refine HW.g rfl rfl rfl rfl rfl rfl (fun hc => PEv.fieldAddr (off := 17) Tryz.underlying35 rfl rfl Tryz.sizeOf3 rfl (.tmp rfl)) ?_
   refine HW.g rfl rfl rfl rfl rfl rfl (fun hc => PEv.load Tryz.isAgg3 (by first | exact .tmp rfl | exact .cond rfl (by first | assumption | simp_all)) (hB9.celln rfl)) ?_
   refine HW.g rfl rfl rfl rfl rfl rfl (fun hc => PEv.eql (by first | exact .tmp rfl | exact .cond rfl (by first | assumption | simp_all)) (by first | exact .tmp rfl | exact .cond rfl (by first | assumption | simp_all))) ?_
   refine HW.pp (PEv.pick_and (.tmp rfl) (fun hp => (by first | exact .const _ | exact .tmp rfl | exact .cond rfl (by first | assumption | (rw [hp]; rfl) | (rw [hc, hp]; rfl) | simp_all)))) ?_
   refine HW.pp (PEv.assign (.tmp rfl)) ?_
   refine HW.pp (PEv.assign (.tmp rfl)) ?_
   refine HW.nil ?_
   intro w10 uw10
   have zw10 := uw10.size
   replace hC := hC.up uw10
   replace hW := hW.up uw10
   replace hB3 := hB3.up uw10
   replace hB9 := hB9.up uw10
   refine KW.then (CW.ret ?_)
   refine KW.ret2 rfl rfl rfl ⟨_, rfl, ?_⟩
   first | exact ⟨by unfold releasedB; rw [hq2]; rfl, hW⟩ | exact ⟨by unfold releasedB; rw [hq2]; show _ = Go.Value.tuple #[_, .bool (decide (andNotI f.Parties (partiesOf b.Releases f.ID t) = 0))]; rw [show f.ID = id from by have := List.find?_some hq2; simpa using this, ← and_over (hb f (find_mem hq2).1).Parties]; rfl, hW⟩
end Go.Proofs.YtolkipbpklkcnaaGreat
end
section
namespace Go.Proofs.YtolkipbpklkcnaaGreat
open Go.Wx Go.RowKit
theorem rHeld_any (bc : Array Go.Value) (b : Base) (id t : Int) (w : World) (hC : BaseC w bc b) (hH : b.Holds.length ≤ 1000000000) (hR : b.Releases.length ≤ 1000000000) (hs : b.Swaps.length ≤ 1000000000) (hl : b.Lots.length ≤ 1000000) (hp : b.Processes.length ≤ 1000000) (hb : bOk b) : Ret Tryz.prog 22 #[.agg bc, vi id, vi t] w fun r w' => Sl w' r 1 eInt (heldL b id t) ∧ Up w w' := by
  obtain ⟨w0, rfl⟩ : ∃ w0, w0 = w := ⟨_, rfl⟩
  have hS := Sep.start no w0
  refine Calls_start (n := 58) (m := 9) Tryz.func22 rfl rfl rfl ?_
  refine CW.S ?_
  refine LW.r (REv.boxA (.tmp rfl)) rfl rfl rfl rfl ?_
  rintro _ w1 ⟨B3, rfl, NB3⟩
  have eB3 := NB3.at_
  have zB3 := NB3.size
  replace hS := hS.addB NB3
  change Wx.Sep _ _ _ [_] at hS
  refine LW.C (LW.S ?_)
  cases hq1 : findB b.Holds id with
  | none =>
   refine CW.region ?_
   refine LW.pp (PEv.loadA Tryz.isAgg27 Tryz.sizeOf27 (hC.size) (.tmp rfl) ((hS.blk 0 rfl).agg)) ?_
   refine LW.M rfl ?_
   refine LW.c (enter_call0 (.cons (.tmp rfl) (.cons (.tmp rfl) .nil)) (Tryz.en43)) rfl rfl rfl rfl (rfind_any bc b id _ (hC.up hS.upd) hH) ?_
   rintro _ w2 ⟨rfl, uw2⟩
   have zw2 := uw2.size
   replace hS := hS.up uw2
   rw [hq1]
   refine LW.M rfl (LW.pp (PEv.extract (.tmp rfl) rfl) (LW.pp (PEv.extract (.tmp rfl) rfl) ?_))
   refine LW.r (REv.allocA Tryz.zeroValue35) rfl rfl rfl rfl ?_
   rintro _ w3 ⟨B7, rfl, MB7⟩
   refine LW.s (SEv.storeA Tryz.sizeOf35 rfl (.tmp rfl) (.tmp rfl) (Fact.one _) MB7.blk rfl) rfl rfl rfl ?_
   intro w4 LB7
   have NB7 := MB7.set LB7
   clear LB7 MB7
   have eB7 := NB7.at_
   have zB7 := NB7.size
   replace hS := hS.addB NB7
   change Wx.Sep _ _ _ [_, _] at hS
   refine LW.A rfl (LW.S (CW.seq ?_))
   refine CW.draws (by kernel_rfl) (by kernel_rfl) rfl rfl ?_
   refine HW.pp (PEv.move (.tmp rfl)) ?_
   refine HW.pp (PEv.not (.tmp rfl)) ?_
   refine HW.pp (PEv.move (.tmp rfl)) ?_
   refine HW.g rfl rfl rfl rfl rfl rfl (fun hc => PEv.fieldAddr (off := 17) Tryz.underlying35 rfl rfl Tryz.sizeOf3 rfl (.tmp rfl)) ?_
   refine HW.g rfl rfl rfl rfl rfl rfl (fun hc => PEv.load Tryz.isAgg3 (by first | exact .tmp rfl | exact .cond rfl (by first | assumption | simp_all)) ((hS.blk 1 rfl).celln rfl)) ?_
   refine HW.g rfl rfl rfl rfl rfl rfl (fun hc => PEv.loadA Tryz.isAgg27 Tryz.sizeOf27 (hC.size) (.tmp rfl) ((hS.blk 0 rfl).agg)) ?_
   refine HW.g rfl rfl rfl rfl rfl rfl (fun hc => PEv.move (.tmp rfl)) ?_
   refine HW.g rfl rfl rfl rfl rfl rfl (fun hc => PEv.move (.tmp rfl)) ?_
   refine HW.gc rfl rfl rfl rfl rfl rfl (fun hc a w _ ha => enter_call0 (.cons (by first | exact .tmp rfl | exact .cond rfl (by first | assumption | simp_all)) (.cons (by first | exact .tmp rfl | exact .cond rfl (by first | assumption | simp_all)) (.cons (by first | exact .tmp rfl | exact .cond rfl (by first | assumption | simp_all)) .nil))) (Tryz.en42) a ha) (fun hc w hu => rbits_any bc b id t w (hC.up (hS.upd.trans hu)) hR) ?_
   refine HW.g rfl rfl rfl rfl rfl rfl (fun hc => PEv.and_w (by first | exact .tmp rfl | exact .cond rfl (by first | assumption | simp_all)) (by first | exact .tmp rfl | exact .cond rfl (by first | assumption | simp_all))) ?_
   refine HW.g rfl rfl rfl rfl rfl rfl (fun hc => PEv.fieldAddr (off := 17) Tryz.underlying35 rfl rfl Tryz.sizeOf3 rfl (.tmp rfl)) ?_
   refine HW.g rfl rfl rfl rfl rfl rfl (fun hc => PEv.load Tryz.isAgg3 (by first | exact .tmp rfl | exact .cond rfl (by first | assumption | simp_all)) ((hS.blk 1 rfl).celln rfl)) ?_
   refine HW.g rfl rfl rfl rfl rfl rfl (fun hc => PEv.eql (by first | exact .tmp rfl | exact .cond rfl (by first | assumption | simp_all)) (by first | exact .tmp rfl | exact .cond rfl (by first | assumption | simp_all))) ?_
   refine HW.pp (PEv.pick_or (.tmp rfl) (fun hp => (by first | exact .const _ | exact .tmp rfl | exact .cond rfl (by first | assumption | (rw [hp]; rfl) | (rw [hc, hp]; rfl) | simp_all)))) ?_
   refine HW.nil ?_
   intro w5 uw5
   have zw5 := uw5.size
   replace hS := hS.up uw5
   refine KW.then ?_
   refine CW.cond_true (.tmp rfl) ?_
   refine CW.S (LW.C (LW.T (CW.ret (KW.then_ret ?_))))
   refine KW.ret1 rfl rfl ⟨_, rfl, ?_⟩
   exact ⟨by rw [heldL_none hq1]; exact Sl.nil _ _ _, hS.upd⟩
  | some f =>
   refine CW.region ?_
   refine LW.pp (PEv.loadA Tryz.isAgg27 Tryz.sizeOf27 (hC.size) (.tmp rfl) ((hS.blk 0 rfl).agg)) ?_
   refine LW.M rfl ?_
   refine LW.c (enter_call0 (.cons (.tmp rfl) (.cons (.tmp rfl) .nil)) (Tryz.en43)) rfl rfl rfl rfl (rfind_any bc b id _ (hC.up hS.upd) hH) ?_
   rintro _ w6 ⟨rfl, uw6⟩
   have zw6 := uw6.size
   replace hS := hS.up uw6
   rw [hq1]
   refine LW.M rfl (LW.pp (PEv.extract (.tmp rfl) rfl) (LW.pp (PEv.extract (.tmp rfl) rfl) ?_))
   refine LW.r (REv.allocA Tryz.zeroValue35) rfl rfl rfl rfl ?_
   rintro _ w7 ⟨B7, rfl, MB7⟩
   refine LW.s (SEv.storeA Tryz.sizeOf35 rfl (.tmp rfl) (.tmp rfl) (Fact.one _) MB7.blk rfl) rfl rfl rfl ?_
   intro w8 LB7
   have NB7 := MB7.set LB7
   clear LB7 MB7
   have eB7 := NB7.at_
   have zB7 := NB7.size
   replace hS := hS.addB NB7
   change Wx.Sep _ _ _ [_, _] at hS
   refine LW.A rfl (LW.S (CW.seq ?_))
   have hfo := hb f (find_mem hq1).1
   refine CW.draws (by kernel_rfl) (by kernel_rfl) rfl rfl ?_
   refine HW.pp (PEv.move (.tmp rfl)) ?_
   refine HW.pp (PEv.not (.tmp rfl)) ?_
   refine HW.pp (PEv.move (.tmp rfl)) ?_
   refine HW.g rfl rfl rfl rfl rfl rfl (fun hc => PEv.fieldAddr (off := 17) Tryz.underlying35 rfl rfl Tryz.sizeOf3 rfl (.tmp rfl)) ?_
   refine HW.g rfl rfl rfl rfl rfl rfl (fun hc => PEv.load Tryz.isAgg3 (by first | exact .tmp rfl | exact .cond rfl (by first | assumption | simp_all)) ((hS.blk 1 rfl).celln rfl)) ?_
   refine HW.g rfl rfl rfl rfl rfl rfl (fun hc => PEv.loadA Tryz.isAgg27 Tryz.sizeOf27 (hC.size) (.tmp rfl) ((hS.blk 0 rfl).agg)) ?_
   refine HW.g rfl rfl rfl rfl rfl rfl (fun hc => PEv.move (.tmp rfl)) ?_
   refine HW.g rfl rfl rfl rfl rfl rfl (fun hc => PEv.move (.tmp rfl)) ?_
   refine HW.gc rfl rfl rfl rfl rfl rfl (fun hc a w _ ha => enter_call0 (.cons (by first | exact .tmp rfl | exact .cond rfl (by first | assumption | simp_all)) (.cons (by first | exact .tmp rfl | exact .cond rfl (by first | assumption | simp_all)) (.cons (by first | exact .tmp rfl | exact .cond rfl (by first | assumption | simp_all)) .nil))) (Tryz.en42) a ha) (fun hc w hu => rbits_any bc b id t w (hC.up (hS.upd.trans hu)) hR) ?_
   refine HW.g rfl rfl rfl rfl rfl rfl (fun hc => PEv.and_w (by first | exact .tmp rfl | exact .cond rfl (by first | assumption | simp_all)) (by first | exact .tmp rfl | exact .cond rfl (by first | assumption | simp_all))) ?_
   refine HW.g rfl rfl rfl rfl rfl rfl (fun hc => PEv.fieldAddr (off := 17) Tryz.underlying35 rfl rfl Tryz.sizeOf3 rfl (.tmp rfl)) ?_
   refine HW.g rfl rfl rfl rfl rfl rfl (fun hc => PEv.load Tryz.isAgg3 (by first | exact .tmp rfl | exact .cond rfl (by first | assumption | simp_all)) ((hS.blk 1 rfl).celln rfl)) ?_
   refine HW.g rfl rfl rfl rfl rfl rfl (fun hc => PEv.eql (by first | exact .tmp rfl | exact .cond rfl (by first | assumption | simp_all)) (by first | exact .tmp rfl | exact .cond rfl (by first | assumption | simp_all))) ?_
   refine HW.pp (PEv.pick_or (.tmp rfl) (fun hp => (by first | exact .const _ | exact .tmp rfl | exact .cond rfl (by first | assumption | (rw [hp]; rfl) | (rw [hc, hp]; rfl) | simp_all)))) ?_
   refine HW.nil ?_
   intro w9 uw9
   have zw9 := uw9.size
   replace hS := hS.up uw9
   refine KW.then ?_
   refine CW.cond (.tmp rfl) (fun h32 => ?_) (fun h32 => ?_)
   ·first | replace h32 := dT h32 | replace h32 := dF h32 | skip
    have hov : decide (andI f.Parties (partiesOf b.Releases id t) = f.Parties) = true := decide_eq_true h32
    refine CW.S (LW.C (LW.T (CW.ret (KW.then_ret ?_))))
    refine KW.ret1 rfl rfl ⟨_, rfl, ?_⟩
    first | exact ⟨by rw [heldR_over hq1 hfo hov]; exact Sl.nil _ _ _, hS.upd⟩ | exact ⟨by rw [heldR hq1 hfo hov, ← ewl]; rw [hkl, List.take_length] at hS; exact (hS.own 0 rfl).sl (fun _ => rfl), hU6.trans hS.upd⟩
   ·first | replace h32 := dT h32 | replace h32 := dF h32 | skip
    have hov : decide (andI f.Parties (partiesOf b.Releases id t) = f.Parties) = false := decide_eq_false h32
    refine CW.skip (KW.then (CW.S (LW.C (LW.S (CW.region ?_)))))
    refine LW.pp (PEv.loadA Tryz.isAgg27 Tryz.sizeOf27 (hC.size) (.tmp rfl) ((hS.blk 0 rfl).agg)) ?_
    refine LW.c (enter_call0 (.cons (.tmp rfl) .nil) (Tryz.en48)) rfl rfl rfl rfl (rWafers_any bc b _ (hC.up hS.upd) hs hl hp) ?_
    rintro v34 w10 ⟨hV34, uw10⟩
    have zw10 := uw10.size
    replace hS := hS.up uw10
    obtain ⟨wl, ewl⟩ : ∃ x, x = (wafersL b.Lots b.Processes b.Swaps) := ⟨_, rfl⟩
    rw [← ewl] at hV34
    obtain ⟨adw, cpw, rfl, hEw⟩ := hV34
    replace hEw : Els w10 adw 1 eInt wl := hEw
    have hwl : wl.length ≤ 2000000 := by rw [ewl]; have := wafersL_len b.Lots b.Processes b.Swaps; omega
    refine LW.A rfl (LW.S (CW.seq ?_))
    have hU6 := hS.upd
    have hB3 := hS.blk 0 rfl
    have hB7 := hS.blk 1 rfl
    have hC6 := hC.up hS.upd
    replace hS := Sep.start no w10
    replace hS := hS.addn (OwnS.nil _ 0 3 1 eInt)
    change Wx.Sep _ _ _ [_] at hS
    refine CW.region (LW.C (LW.T (CW.block ?_)))
    refine CW.loopB (σ := Nat × Go.Value) (fun s w => (s.1 ≤ wl.length) ∧ (Wx.Sep no w10 w [aOwn 3 1 eInt s.2 ((wl.take s.1).filter fun x => aboutR f b.Lots x t)])) (fun s => [(11, .eq (vi (s.1 : Int))), (9, .eq (s.2))]) ([(2, .eq _), (3, .eq _), (6, .eq _), (7, .eq _), (10, .eq _)]) (fun s => wl.length - s.1) (0, .slice none 0 0) ?_ ⟨rfl, rfl, rfl, rfl, rfl, rfl, rfl, trivial⟩ ?_
    ·exact ⟨Nat.zero_le _, hS⟩
    ·rintro ⟨k, v⟩ w11 ⟨hk, hS⟩
     dsimp only at hk hS
     change CW _ _ _ _ _ _ _ ([(11, .eq (vi (k : Int))), (9, .eq (v))] ++ _) _
     refine CW.seq (CW.S (LW.M rfl (LW.M rfl ?_)))
     refine LW.pp (PEv.lenS Tryz.underlying30 (.tmp rfl)) ?_
     refine LW.pp (PEv.lss (.tmp rfl) (.tmp rfl)) ?_
     refine LW.T ?_
     refine CW.cond (.tmp rfl) (fun h38 => ?_) (fun h38 => ?_)
     ·first | replace h38 := dT h38 | replace h38 := dF h38 | skip
      refine CW.skip (KW.then (CW.seq (CW.block (CW.seq ?_))))
      obtain ⟨y, hy⟩ := getElem?_of_lt (xs := wl) (i := k) (by omega)
      obtain ⟨By, oy, ay, hcy⟩ := (Els.up hEw hS.upd) k y hy
      refine CW.draws (by kernel_rfl) (by kernel_rfl) rfl rfl ?_
      refine HW.pp (PEv.loadA Tryz.isAgg27 Tryz.sizeOf27 (hC.size) (.tmp rfl) ((hB3.up hS.upd).agg)) ?_
      refine HW.pp (PEv.loadA Tryz.isAgg35 Tryz.sizeOf35 rfl (.tmp rfl) ((hB7.up hS.upd).agg)) ?_
      refine HW.pp (PEv.move (.tmp rfl)) ?_
      refine HW.pp (PEv.move (.tmp rfl)) ?_
      refine HW.pp (PEv.indexAddr' Tryz.underlying30 Tryz.sizeOf3 (.tmp rfl) (.tmp rfl) (by omega) ay) ?_
      refine HW.pp (PEv.load Tryz.isAgg3 (.tmp rfl) (hcy.nth (j := 0) rfl)) ?_
      refine HW.pp (PEv.move (.tmp rfl)) ?_
      refine HW.c (fun a w _ ha => enter_call0 (.cons (.tmp rfl) (.cons (.tmp rfl) (.cons (.tmp rfl) (.cons (.tmp rfl) .nil)))) (Tryz.en39) a ha) rfl rfl (fun w hu => rabout_any bc b f y t w (hC6.up (hS.upd.trans hu)) (by omega)) ?_
      refine HW.pp (PEv.assign (.tmp rfl)) ?_
      refine HW.nil ?_
      intro w12 uw12
      have zw12 := uw12.size
      replace hS := hS.up uw12
      refine KW.then (CW.S (LW.M rfl (LW.T ?_)))
      refine CW.cond (.tmp rfl) (fun h49 => ?_) (fun h49 => ?_)
      ·first | replace h49 := dT h49 | replace h49 := dF h49 | skip
       have hab := h49
       obtain ⟨By, oy, ay, hcy⟩ := (Els.up hEw hS.upd) k y hy
       have hfl2 : ((wl.take k).filter fun x => aboutR f b.Lots x t).length ≤ k := Nat.le_trans (List.length_filter_le _ _) (by rw [List.length_take]; omega)
       refine CW.region (LW.M rfl (LW.M rfl (LW.M rfl ?_)))
       refine LW.pp (PEv.indexAddr' Tryz.underlying30 Tryz.sizeOf3 (.tmp rfl) (.tmp rfl) (by omega) ay) ?_
       refine LW.pp (PEv.load Tryz.isAgg3 (.tmp rfl) (hcy.nth (j := 0) rfl)) ?_
       refine LW.r (REv.buildSlice (xs := [y]) (enc := eInt) (mk := vi) Tryz.underlying30 Tryz.sizeOf3 Tryz.zeroValue3 rfl (by decide) (fun _ => rfl) (fun _ => rfl) (.cons (.tmp rfl) .nil) rfl) rfl rfl rfl rfl ?_
       rintro _ w13 ⟨B55, cB55, rfl, NB55, yB55, xB55⟩
       have eB55 := NB55.at_
       have zB55 := NB55.size
       replace hS := hS.up NB55.up
       have hE55 := xB55
       refine LW.r (REv.appendF (enc := eInt) (bytes := 8) (i := Tryz.t3) Tryz.underlying30 (by kernel_rfl) rfl rfl rfl rfl (by decide) (fun _ => rfl) eInt_one (.tmp rfl) (.tmp rfl) (hS.own 0 rfl) (Sl.of_els hE55) (by simp [maxLen]; omega) (by simp; omega)) rfl rfl rfl rfl ?_
       intro v56 w14 Gw14
       have zw14 := Gw14.fr.size
       replace hS := hS.stp 0 rfl Gw14
       change Wx.Sep _ _ _ [_] at hS
       refine LW.A rfl (LW.nil (KW.inBlock (KW.then (CW.region (LW.M rfl ?_)))))
       refine LW.pp (PEv.inc (.tmp rfl) (by omega)) ?_
       refine LW.A rfl (LW.nil (KW.round ?_))
       first | exact ⟨(k + 1, v56), ⟨by show k + 1 ≤ _; omega, by first | (rw [take_succ_of hy, List.filter_append, List.filter_cons_of_pos (p := fun x => aboutR f b.Lots x t) hab, List.filter_nil]; exact hS.take 1) | (rw [take_succ_of hy, List.filter_append, List.filter_cons_of_neg (p := fun x => aboutR f b.Lots x t) (by rw [hab]; decide), List.filter_nil, List.append_nil]; exact hS.take 1)⟩, ⟨rfl, rfl, rfl, rfl, rfl, rfl, rfl, trivial⟩, by show wl.length - (k + 1) < wl.length - k; omega⟩ | exact ⟨(k + 1, v), ⟨by show k + 1 ≤ _; omega, by first | (rw [take_succ_of hy, List.filter_append, List.filter_cons_of_pos (p := fun x => aboutR f b.Lots x t) hab, List.filter_nil]; exact hS.take 1) | (rw [take_succ_of hy, List.filter_append, List.filter_cons_of_neg (p := fun x => aboutR f b.Lots x t) (by rw [hab]; decide), List.filter_nil, List.append_nil]; exact hS.take 1)⟩, ⟨rfl, rfl, rfl, rfl, rfl, rfl, rfl, trivial⟩, by show wl.length - (k + 1) < wl.length - k; omega⟩
      ·first | replace h49 := dT h49 | replace h49 := dF h49 | skip
       have hab := h49
       refine CW.skip (KW.inBlock (KW.then (CW.region (LW.M rfl ?_))))
       refine LW.pp (PEv.inc (.tmp rfl) (by omega)) ?_
       refine LW.A rfl (LW.nil (KW.round ?_))
       first | exact ⟨(k + 1, v56), ⟨by show k + 1 ≤ _; omega, by first | (rw [take_succ_of hy, List.filter_append, List.filter_cons_of_pos (p := fun x => aboutR f b.Lots x t) hab, List.filter_nil]; exact hS.take 1) | (rw [take_succ_of hy, List.filter_append, List.filter_cons_of_neg (p := fun x => aboutR f b.Lots x t) (by rw [hab]; decide), List.filter_nil, List.append_nil]; exact hS.take 1)⟩, ⟨rfl, rfl, rfl, rfl, rfl, rfl, rfl, trivial⟩, by show wl.length - (k + 1) < wl.length - k; omega⟩ | exact ⟨(k + 1, v), ⟨by show k + 1 ≤ _; omega, by first | (rw [take_succ_of hy, List.filter_append, List.filter_cons_of_pos (p := fun x => aboutR f b.Lots x t) hab, List.filter_nil]; exact hS.take 1) | (rw [take_succ_of hy, List.filter_append, List.filter_cons_of_neg (p := fun x => aboutR f b.Lots x t) (by rw [hab]; decide), List.filter_nil, List.append_nil]; exact hS.take 1)⟩, ⟨rfl, rfl, rfl, rfl, rfl, rfl, rfl, trivial⟩, by show wl.length - (k + 1) < wl.length - k; omega⟩
     ·first | replace h38 := dT h38 | replace h38 := dF h38 | skip
      have hkl : k = wl.length := by omega
      refine CW.exit (KW.then_exit (KW.then_exit (KW.block_hit (KW.then (CW.S (LW.M rfl (LW.A rfl (LW.T (CW.ret ?_)))))))))
      refine KW.ret1 rfl rfl ⟨_, rfl, ?_⟩
      first | exact ⟨by rw [heldR_over hq1 hfo hov]; exact Sl.nil _ _ _, hS.upd⟩ | exact ⟨by rw [heldR hq1 hfo hov, ← ewl]; rw [hkl, List.take_length] at hS; exact (hS.own 0 rfl).sl (fun _ => rfl), hU6.trans hS.upd⟩
set_option maxHeartbeats 1000000 in
set_option maxRecDepth 8000 in
theorem rStops_any (bc : Array Go.Value) (b : Base) (a : GAct) (w : World) (hC : BaseC w bc b) (hH : b.Holds.length ≤ 1000000) (hR : b.Releases.length ≤ 1000000000) (hl : b.Lots.length ≤ 1000000000) (hb : bOk b) (ha : AOk a) : Ret Tryz.prog 23 #[.agg bc, .agg a.cells] w fun r w' => Sl w' r 1 eInt (stopsOf b a) ∧ Up w w' := by
  have hW := Up.refl w
  obtain ⟨w0, rfl⟩ : ∃ w0, w0 = w := ⟨_, rfl⟩
  refine Calls_start (n := 87) (m := 9) Tryz.func23 rfl rfl rfl ?_
  refine CW.S ?_
  refine LW.r (REv.boxA (.tmp rfl)) rfl rfl rfl rfl ?_
  rintro _ w1 ⟨B2, rfl, NB2⟩
  have eB2 := NB2.at_
  have zB2 := NB2.size
  replace hC := hC.up NB2.up
  replace hW := hW.up NB2.up
  have hB2 := NB2.blk
  refine LW.r (REv.boxA (.tmp rfl)) rfl rfl rfl rfl ?_
  rintro _ w2 ⟨B3, rfl, NB3⟩
  have eB3 := NB3.at_
  have zB3 := NB3.size
  replace hC := hC.up NB3.up
  replace hW := hW.up NB3.up
  replace hB2 := hB2.up NB3.up
  have hB3 := NB3.blk
  refine LW.C (LW.S (CW.region (LW.C (LW.S (CW.seq ?_)))))
  obtain ⟨v6, h6, adh, cph, rfl, hEh0⟩ := hC.at6
  have hEh := hEh0
  refine CW.region (LW.C (LW.T (CW.block ?_)))
  refine CW.loopB (σ := Nat × Go.Value) (fun s w => (s.1 ≤ b.Holds.length) ∧ (Up w0 w) ∧ (Blk w B2 bc 27) ∧ (Blk w B3 a.cells 24) ∧ (BaseC w bc b) ∧ (SlC w s.2 (sortI (stopKs b a (b.Holds.take s.1))))) (fun s => [(6, .eq (vi (s.1 : Int))), (5, .eq (s.2))]) ([(2, .eq _), (3, .eq _), (4, .eq _)]) (fun s => b.Holds.length - s.1) (0, .slice none 0 0) ?_ ⟨rfl, rfl, rfl, rfl, rfl, trivial⟩ ?_
  ·exact ⟨Nat.zero_le _, hW, hB2, hB3, hC, SlC.nil0 _⟩
  ·rintro ⟨i, v⟩ w3 ⟨hi, hW, hB2, hB3, hC, hV⟩
   dsimp only at hi hV
   change CW _ _ _ _ _ _ _ ([(6, .eq (vi (i : Int))), (5, .eq (v))] ++ _) _
   refine CW.seq (CW.S (LW.M rfl ?_))
   refine LW.pp (PEv.fieldAddr (off := 6) Tryz.underlying27 rfl rfl Tryz.sizeOf22 rfl (.tmp rfl)) ?_
   refine LW.pp (PEv.load Tryz.isAgg22 (.tmp rfl) (hB2.cell h6)) ?_
   refine LW.pp (PEv.lenS Tryz.underlying22 (.tmp rfl)) ?_
   refine LW.pp (PEv.lss (.tmp rfl) (.tmp rfl)) ?_
   refine LW.T ?_
   refine CW.cond (.tmp rfl) (fun h15 => ?_) (fun h15 => ?_)
   ·first | replace h15 := dT h15 | replace h15 := dF h15 | skip
    refine CW.skip (KW.then (CW.seq (CW.block (CW.seq ?_))))
    obtain ⟨v6, h6b, adh2, cph2, e6, hEh⟩ := hC.at6
    rw [h6] at h6b
    cases h6b
    cases e6
    obtain ⟨x, hx⟩ := getElem?_of_lt (xs := b.Holds) (i := i) (by omega)
    have hfo := hb x (List.mem_of_getElem? hx)
    have hS := Sep.start no w3
    obtain ⟨Bx, ox, ax, hcx⟩ := hEh i x hx
    obtain ⟨ks, eks⟩ : ∃ l, l = sortI (stopKs b a (b.Holds.take i)) := ⟨_, rfl⟩
    rw [← eks] at hV
    have hks : ks.length ≤ i := by rw [eks]; exact stopKs_len b a i
    have hlt : ks.Pairwise (· < ·) := by rw [eks]; exact sortI_lt (stopKs_nodup _ _ _)
    obtain ⟨adv, cpv, rfl, hEv, hcv⟩ := hV
    refine CW.region ?_
    refine LW.pp (PEv.fieldAddr (off := 6) Tryz.underlying27 rfl rfl Tryz.sizeOf22 rfl (.tmp rfl)) ?_
    refine LW.pp (PEv.load Tryz.isAgg22 (.tmp rfl) ((hB2.up hS.upd).cell h6)) ?_
    refine LW.M rfl ?_
    refine LW.pp (PEv.indexAddr' Tryz.underlying22 Tryz.sizeOf35 (.tmp rfl) (.tmp rfl) (by omega) ax) ?_
    refine LW.pp (PEv.loadA Tryz.isAgg35 Tryz.sizeOf35 rfl (.tmp rfl) (hcx)) ?_
    refine LW.r (REv.allocA Tryz.zeroValue35) rfl rfl rfl rfl ?_
    rintro _ w4 ⟨B7, rfl, MB7⟩
    refine LW.s (SEv.storeA Tryz.sizeOf35 rfl (.tmp rfl) (.tmp rfl) (by first | rfl | exact Fact.one _ | exact GAct.one _ | exact holdCells_one _ _ | exact hold0_one | (simp [Value.oneCell'])) MB7.blk rfl) rfl rfl rfl ?_
    intro w5 LB7
    have NB7 := MB7.set LB7
    clear LB7 MB7
    have eB7 := NB7.at_
    have zB7 := NB7.size
    replace hS := hS.addB NB7
    change Wx.Sep _ _ _ [_] at hS
    refine LW.S (CW.region ?_)
    refine LW.pp (PEv.loadA Tryz.isAgg27 Tryz.sizeOf27 (hC.size) (.tmp rfl) ((hB2.up hS.upd).agg)) ?_
    refine LW.pp (PEv.loadA Tryz.isAgg35 Tryz.sizeOf35 rfl (.tmp rfl) ((hS.blk 0 rfl).agg)) ?_
    refine LW.pp (PEv.loadA Tryz.isAgg24 Tryz.sizeOf24 rfl (.tmp rfl) ((hB3.up hS.upd).agg)) ?_
    refine LW.c (enter_call0 (.cons (.tmp rfl) (.cons (.tmp rfl) (.cons (.tmp rfl) .nil))) (Tryz.en18)) rfl rfl rfl rfl (rNames_any bc b x a _ (hC.up hS.upd) hl) ?_
    rintro _ w6 ⟨rfl, uw6⟩
    have zw6 := uw6.size
    replace hS := hS.up uw6
    refine LW.A rfl (LW.S (CW.seq ?_))
    refine CW.draws (by kernel_rfl) (by kernel_rfl) rfl rfl ?_
    refine HW.pp (PEv.move (.tmp rfl)) ?_
    refine HW.pp (PEv.not (.tmp rfl)) ?_
    refine HW.pp (PEv.move (.tmp rfl)) ?_
    refine HW.g rfl rfl rfl rfl rfl rfl (fun hc => PEv.fieldAddr (off := 17) Tryz.underlying35 rfl rfl Tryz.sizeOf3 rfl (.tmp rfl)) ?_
    refine HW.g rfl rfl rfl rfl rfl rfl (fun hc => PEv.load Tryz.isAgg3 (by first | exact .tmp rfl | exact .cond rfl (by first | assumption | simp_all)) ((hS.blk 0 rfl).celln rfl)) ?_
    refine HW.g rfl rfl rfl rfl rfl rfl (fun hc => PEv.loadA Tryz.isAgg27 Tryz.sizeOf27 (hC.size) (.tmp rfl) ((hB2.up hS.upd).agg)) ?_
    refine HW.g rfl rfl rfl rfl rfl rfl (fun hc => PEv.fieldAddr (off := 1) Tryz.underlying35 rfl rfl Tryz.sizeOf3 rfl (.tmp rfl)) ?_
    refine HW.g rfl rfl rfl rfl rfl rfl (fun hc => PEv.load Tryz.isAgg3 (by first | exact .tmp rfl | exact .cond rfl (by first | assumption | simp_all)) ((hS.blk 0 rfl).celln rfl)) ?_
    refine HW.g rfl rfl rfl rfl rfl rfl (fun hc => PEv.fieldAddr (off := 6) Tryz.underlying24 rfl rfl Tryz.sizeOf3 rfl (.tmp rfl)) ?_
    refine HW.g rfl rfl rfl rfl rfl rfl (fun hc => PEv.load Tryz.isAgg3 (by first | exact .tmp rfl | exact .cond rfl (by first | assumption | simp_all)) ((hB3.up hS.upd).celln rfl)) ?_
    refine HW.gc rfl rfl rfl rfl rfl rfl (fun hc a w _ ha => enter_call0 (.cons (by first | exact .tmp rfl | exact .cond rfl (by first | assumption | simp_all)) (.cons (by first | exact .tmp rfl | exact .cond rfl (by first | assumption | simp_all)) (.cons (by first | exact .tmp rfl | exact .cond rfl (by first | assumption | simp_all)) .nil))) (Tryz.en42) a ha) (fun hc w hu => rbits_any bc b x.ID a.Time w (hC.up (hS.upd.trans hu)) hR) ?_
    refine HW.g rfl rfl rfl rfl rfl rfl (fun hc => PEv.and_w (by first | exact .tmp rfl | exact .cond rfl (by first | assumption | simp_all)) (by first | exact .tmp rfl | exact .cond rfl (by first | assumption | simp_all))) ?_
    refine HW.g rfl rfl rfl rfl rfl rfl (fun hc => PEv.fieldAddr (off := 17) Tryz.underlying35 rfl rfl Tryz.sizeOf3 rfl (.tmp rfl)) ?_
    refine HW.g rfl rfl rfl rfl rfl rfl (fun hc => PEv.load Tryz.isAgg3 (by first | exact .tmp rfl | exact .cond rfl (by first | assumption | simp_all)) ((hS.blk 0 rfl).celln rfl)) ?_
    refine HW.g rfl rfl rfl rfl rfl rfl (fun hc => PEv.eql (by first | exact .tmp rfl | exact .cond rfl (by first | assumption | simp_all)) (by first | exact .tmp rfl | exact .cond rfl (by first | assumption | simp_all))) ?_
    refine HW.pp (PEv.pick_or (.tmp rfl) (fun hp => (by first | exact .const _ | exact .tmp rfl | exact .cond rfl (by first | assumption | (rw [hp]; rfl) | (rw [hc, hp]; rfl) | simp_all)))) ?_
    refine HW.nil ?_
    intro w7 uw7
    have zw7 := uw7.size
    replace hS := hS.up uw7
    refine KW.then ?_
    refine CW.cond (.tmp rfl) (fun h42 => ?_) (fun h42 => ?_)
    ·first | replace h42 := dT h42 | replace h42 := dF h42 | skip
     have hst : stopB b a x = false := stopR_no hfo ha h42
     refine CW.exit (KW.then_exit (KW.block_hit (KW.then (CW.region (LW.M rfl ?_)))))
     refine LW.pp (PEv.inc (.tmp rfl) (by omega)) ?_
     refine LW.A rfl (LW.nil (KW.round ?_))
     first | exact ⟨(i + 1, v85), ⟨by show i + 1 ≤ _; omega, hW.trans hS.upd, hB2.up hS.upd, hB3.up hS.upd, hC.up hS.upd, by rw [stopKs_step hx]; first | (rw [if_neg (by rw [hst]; decide), ← eks]; exact ⟨adv, cpv, rfl, Els.up hEv hS.upd, hcv⟩) | (rw [if_pos hst, ← sortI_addI, ← eks]; first | (rw [← hfin]; exact ⟨adv, cpv, rfl, Els.up hEv hS.upd, hcv⟩) | (rw [← add_new hlt hlo hdg]; exact OwnS.slc (hS.own 1 rfl)))⟩, ⟨rfl, rfl, rfl, rfl, rfl, trivial⟩, by show b.Holds.length - (i + 1) < b.Holds.length - i; omega⟩ | exact ⟨(i + 1, .slice adv ks.length cpv), ⟨by show i + 1 ≤ _; omega, hW.trans hS.upd, hB2.up hS.upd, hB3.up hS.upd, hC.up hS.upd, by rw [stopKs_step hx]; first | (rw [if_neg (by rw [hst]; decide), ← eks]; exact ⟨adv, cpv, rfl, Els.up hEv hS.upd, hcv⟩) | (rw [if_pos hst, ← sortI_addI, ← eks]; first | (rw [← hfin]; exact ⟨adv, cpv, rfl, Els.up hEv hS.upd, hcv⟩) | (rw [← add_new hlt hlo hdg]; exact OwnS.slc (hS.own 1 rfl)))⟩, ⟨rfl, rfl, rfl, rfl, rfl, trivial⟩, by show b.Holds.length - (i + 1) < b.Holds.length - i; omega⟩
    ·first | replace h42 := dT h42 | replace h42 := dF h42 | skip
     have hst : stopB b a x = true := stopR_yes hfo ha h42
     refine CW.skip (KW.then (CW.S (LW.C (LW.S (CW.block ?_)))))
     refine CW.loopB (σ := Nat) (fun s w => (s ≤ ks.length) ∧ (∀ y ∈ ks.take s, y < x.ID) ∧ (Wx.Sep no w3 w [aBlk B7 x.cells 35])) (fun s => [(9, .eq (vi (s : Int)))]) ([(2, .eq _), (3, .eq _), (4, .eq _), (5, .eq _), (6, .eq _), (7, .eq _)]) (fun s => ks.length - s) 0 ?_ ⟨rfl, rfl, rfl, rfl, rfl, rfl, rfl, trivial⟩ ?_
     ·exact ⟨Nat.zero_le _, (fun y hy => by cases hy), hS⟩
     ·rintro k w8 ⟨hk, hlo, hS⟩
      refine CW.seq (CW.seq ?_)
      obtain ⟨u, Bu, ou, hau⟩ := at_elem (Els.up hEv hS.upd) k
      refine CW.draws (by kernel_rfl) (by kernel_rfl) rfl rfl ?_
      refine HW.pp (PEv.move (.tmp rfl)) ?_
      refine HW.pp (PEv.move (.tmp rfl)) ?_
      refine HW.pp (PEv.lenS Tryz.underlying30 (.tmp rfl)) ?_
      refine HW.pp (PEv.lss (.tmp rfl) (.tmp rfl)) ?_
      refine HW.pp (PEv.move (.tmp rfl)) ?_
      refine HW.g rfl rfl rfl rfl rfl rfl (fun hc => PEv.move (.tmp rfl)) ?_
      refine HW.g rfl rfl rfl rfl rfl rfl (fun hc => PEv.move (.tmp rfl)) ?_
      refine HW.g rfl rfl rfl rfl rfl rfl (fun hc => PEv.indexAddr' Tryz.underlying30 Tryz.sizeOf3 (by first | exact .tmp rfl | exact .cond rfl (by first | assumption | simp_all)) (by first | exact .tmp rfl | exact .cond rfl (by first | assumption | simp_all)) (by have h0 := (show k < ks.length by simp at hc; omega); omega) (hau (show k < ks.length by simp at hc; omega)).2.1) ?_
      refine HW.g rfl rfl rfl rfl rfl rfl (fun hc => PEv.load Tryz.isAgg3 (by first | exact .tmp rfl | exact .cond rfl (by first | assumption | simp_all)) (((hau (show k < ks.length by simp at hc; omega)).2.2).nth (j := 0) rfl)) ?_
      refine HW.g rfl rfl rfl rfl rfl rfl (fun hc => PEv.fieldAddr (off := 1) Tryz.underlying35 rfl rfl Tryz.sizeOf3 rfl (.tmp rfl)) ?_
      refine HW.g rfl rfl rfl rfl rfl rfl (fun hc => PEv.load Tryz.isAgg3 (by first | exact .tmp rfl | exact .cond rfl (by first | assumption | simp_all)) ((hS.blk 0 rfl).celln rfl)) ?_
      refine HW.g rfl rfl rfl rfl rfl rfl (fun hc => PEv.lss (by first | exact .tmp rfl | exact .cond rfl (by first | assumption | simp_all)) (by first | exact .tmp rfl | exact .cond rfl (by first | assumption | simp_all))) ?_
      refine HW.pp (PEv.pick_and (.tmp rfl) (fun hp => (by first | exact .const _ | exact .tmp rfl | exact .cond rfl (by first | assumption | (rw [hp]; rfl) | (rw [hc, hp]; rfl) | simp_all)))) ?_
      refine HW.nil ?_
      intro w9 uw9
      have zw9 := uw9.size
      replace hS := hS.up uw9
      refine KW.then ?_
      refine CW.cond (.tmp rfl) (fun h55 => ?_) (fun h55 => ?_)
      ·first | replace h55 := dT h55 | replace h55 := dF h55 | skip
       have h55k : k < ks.length ∧ u < x.ID := by simp only [Bool.and_eq_true, decide_eq_true_eq] at h55; omega
       have hu := (hau h55k.1).1
       refine CW.skip (KW.then (CW.block (CW.region (LW.M rfl ?_))))
       refine LW.pp (PEv.inc (.tmp rfl) (by omega)) ?_
       refine LW.A rfl (LW.nil (KW.inBlock (KW.round ?_)))
       exact ⟨k + 1, ⟨by omega, (fun y hy => by rw [take_succ_of hu, List.mem_append, List.mem_singleton] at hy; exact hy.elim (hlo y) (fun e => by rw [e]; exact h55k.2)), hS⟩, ⟨rfl, rfl, rfl, rfl, rfl, rfl, rfl, trivial⟩, by first | omega | (dsimp only; omega)⟩
      ·first | replace h55 := dT h55 | replace h55 := dF h55 | skip
       have h55k : k < ks.length → ¬ u < x.ID := fun h h2 => by rw [decide_eq_true (show (k : Int) < (ks.length : Int) by omega), decide_eq_true h2] at h55; cases h55
       refine CW.exit (KW.then_exit (KW.then_exit (KW.block_hit (KW.then (CW.seq (CW.seq ?_))))))
       obtain ⟨u2, Bu2, ou2, hau2⟩ := at_elem (Els.up hEv hS.upd) k
       have hau1 : k < ks.length → ks[k]? = some u ∧ adv = some ⟨Bu2, ou2, none⟩ ∧ AggAt w9 Bu2 (ou2 + k * 1) (eInt u) := fun h => by
        have e1 := (hau h).1
        have e2 := (hau2 h).1
        rw [e1] at e2; cases e2; exact hau2 h
       refine CW.draws (by kernel_rfl) (by kernel_rfl) rfl rfl ?_
       refine HW.pp (PEv.move (.tmp rfl)) ?_
       refine HW.pp (PEv.move (.tmp rfl)) ?_
       refine HW.pp (PEv.lenS Tryz.underlying30 (.tmp rfl)) ?_
       refine HW.pp (PEv.lss (.tmp rfl) (.tmp rfl)) ?_
       refine HW.pp (PEv.move (.tmp rfl)) ?_
       refine HW.g rfl rfl rfl rfl rfl rfl (fun hc => PEv.move (.tmp rfl)) ?_
       refine HW.g rfl rfl rfl rfl rfl rfl (fun hc => PEv.move (.tmp rfl)) ?_
       refine HW.g rfl rfl rfl rfl rfl rfl (fun hc => PEv.indexAddr' Tryz.underlying30 Tryz.sizeOf3 (by first | exact .tmp rfl | exact .cond rfl (by first | assumption | simp_all)) (by first | exact .tmp rfl | exact .cond rfl (by first | assumption | simp_all)) (by have h0 := (show k < ks.length by simp at hc; omega); omega) (hau1 (show k < ks.length by simp at hc; omega)).2.1) ?_
       refine HW.g rfl rfl rfl rfl rfl rfl (fun hc => PEv.load Tryz.isAgg3 (by first | exact .tmp rfl | exact .cond rfl (by first | assumption | simp_all)) (((hau1 (show k < ks.length by simp at hc; omega)).2.2).nth (j := 0) rfl)) ?_
       refine HW.g rfl rfl rfl rfl rfl rfl (fun hc => PEv.fieldAddr (off := 1) Tryz.underlying35 rfl rfl Tryz.sizeOf3 rfl (.tmp rfl)) ?_
       refine HW.g rfl rfl rfl rfl rfl rfl (fun hc => PEv.load Tryz.isAgg3 (by first | exact .tmp rfl | exact .cond rfl (by first | assumption | simp_all)) ((hS.blk 0 rfl).celln rfl)) ?_
       refine HW.g rfl rfl rfl rfl rfl rfl (fun hc => PEv.eql (by first | exact .tmp rfl | exact .cond rfl (by first | assumption | simp_all)) (by first | exact .tmp rfl | exact .cond rfl (by first | assumption | simp_all))) ?_
       refine HW.pp (PEv.pick_and (.tmp rfl) (fun hp => (by first | exact .const _ | exact .tmp rfl | exact .cond rfl (by first | assumption | (rw [hp]; rfl) | (rw [hc, hp]; rfl) | simp_all)))) ?_
       refine HW.nil ?_
       intro w10 uw10
       have zw10 := uw10.size
       replace hS := hS.up uw10
       refine KW.then ?_
       refine CW.cond (.tmp rfl) (fun h70 => ?_) (fun h70 => ?_)
       ·first | replace h70 := dT h70 | replace h70 := dF h70 | skip
        have h70k : k < ks.length ∧ u = x.ID := by simp only [Bool.and_eq_true, decide_eq_true_eq] at h70; omega
        have hu := (hau h70k.1).1
        have hfin : ks = sortI (addI ks x.ID) := add_found hlt (List.mem_of_getElem? (h70k.2 ▸ hu))
        refine CW.exit (KW.then_exit (KW.block_hit (KW.then (CW.region (LW.M rfl ?_)))))
        refine LW.pp (PEv.inc (.tmp rfl) (by omega)) ?_
        refine LW.A rfl (LW.nil (KW.round ?_))
        first | exact ⟨(i + 1, v85), ⟨by show i + 1 ≤ _; omega, hW.trans hS.upd, hB2.up hS.upd, hB3.up hS.upd, hC.up hS.upd, by rw [stopKs_step hx]; first | (rw [if_neg (by rw [hst]; decide), ← eks]; exact ⟨adv, cpv, rfl, Els.up hEv hS.upd, hcv⟩) | (rw [if_pos hst, ← sortI_addI, ← eks]; first | (rw [← hfin]; exact ⟨adv, cpv, rfl, Els.up hEv hS.upd, hcv⟩) | (rw [← add_new hlt hlo hdg]; exact OwnS.slc (hS.own 1 rfl)))⟩, ⟨rfl, rfl, rfl, rfl, rfl, trivial⟩, by show b.Holds.length - (i + 1) < b.Holds.length - i; omega⟩ | exact ⟨(i + 1, .slice adv ks.length cpv), ⟨by show i + 1 ≤ _; omega, hW.trans hS.upd, hB2.up hS.upd, hB3.up hS.upd, hC.up hS.upd, by rw [stopKs_step hx]; first | (rw [if_neg (by rw [hst]; decide), ← eks]; exact ⟨adv, cpv, rfl, Els.up hEv hS.upd, hcv⟩) | (rw [if_pos hst, ← sortI_addI, ← eks]; first | (rw [← hfin]; exact ⟨adv, cpv, rfl, Els.up hEv hS.upd, hcv⟩) | (rw [← add_new hlt hlo hdg]; exact OwnS.slc (hS.own 1 rfl)))⟩, ⟨rfl, rfl, rfl, rfl, rfl, trivial⟩, by show b.Holds.length - (i + 1) < b.Holds.length - i; omega⟩
       ·first | replace h70 := dT h70 | replace h70 := dF h70 | skip
        have hk2 : k < ks.length → ∃ u, ks[k]? = some u ∧ x.ID < u := fun h => ⟨u, (hau h).1, by
         have h2 : ¬ u = x.ID := fun e => by rw [decide_eq_true (show (k : Int) < (ks.length : Int) by omega), decide_eq_true e] at h70; cases h70
         have := h55k h
         omega⟩
        refine CW.skip (KW.then (CW.seq ?_))
        have hdg := drop_gt hlt hk2
        refine CW.region (LW.C (LW.S ?_))
        replace hS := hS.addn (OwnS.nil _ 0 3 1 eInt)
        change Wx.Sep _ _ _ [_, _] at hS
        refine CW.region (LW.M rfl (LW.M rfl (LW.M rfl ?_)))
        refine LW.pp (PEv.sliceHi Tryz.underlying30 Tryz.sizeOf3 (.tmp rfl) (.tmp rfl) (by omega)) ?_
        refine LW.r (REv.appendF (enc := eInt) (bytes := 8) (i := Tryz.t3) Tryz.underlying30 (by kernel_rfl) rfl rfl rfl rfl (by decide) (fun _ => rfl) eInt_one (.tmp rfl) (.tmp rfl) (hS.own 1 rfl) (by have := (Els.take (j := k) hEv); exact ⟨adv, cpv, by rw [List.length_take, Nat.min_eq_left hk], Els.up this hS.upd⟩) (by simp [maxLen]; omega) (by simp; omega)) rfl rfl rfl rfl ?_
        intro v75 w11 Gw11
        have zw11 := Gw11.fr.size
        replace hS := hS.stp 1 rfl Gw11
        change Wx.Sep _ _ _ [_, _] at hS
        refine LW.A rfl (LW.S (CW.region (LW.M rfl ?_)))
        refine LW.pp (PEv.fieldAddr (off := 1) Tryz.underlying35 rfl rfl Tryz.sizeOf3 rfl (.tmp rfl)) ?_
        refine LW.pp (PEv.load Tryz.isAgg3 (.tmp rfl) ((hS.blk 0 rfl).celln rfl)) ?_
        refine LW.r (REv.buildSlice (xs := [x.ID]) (enc := eInt) (mk := vi) Tryz.underlying30 Tryz.sizeOf3 Tryz.zeroValue3 rfl (by decide) (fun _ => rfl) (fun _ => rfl) (.cons (.tmp rfl) .nil) rfl) rfl rfl rfl rfl ?_
        rintro _ w12 ⟨B79, cB79, rfl, NB79, yB79, xB79⟩
        have eB79 := NB79.at_
        have zB79 := NB79.size
        replace hS := hS.up NB79.up
        have hE79 := xB79
        refine LW.r (REv.appendF (enc := eInt) (bytes := 8) (i := Tryz.t3) Tryz.underlying30 (by kernel_rfl) rfl rfl rfl rfl (by decide) (fun _ => rfl) eInt_one (.tmp rfl) (.tmp rfl) (hS.own 1 rfl) (Sl.of_els hE79) (by simp [maxLen]; omega) (by simp; omega)) rfl rfl rfl rfl ?_
        intro v80 w13 Gw13
        have zw13 := Gw13.fr.size
        replace hS := hS.stp 1 rfl Gw13
        change Wx.Sep _ _ _ [_, _] at hS
        refine LW.A rfl (LW.T (CW.region (LW.M rfl (LW.M rfl (LW.M rfl ?_)))))
        refine LW.pp (PEv.sliceFrom Tryz.underlying30 Tryz.sizeOf3 (.tmp rfl) (.tmp rfl) (by omega)) ?_
        refine LW.r (REv.appendF (enc := eInt) (bytes := 8) (i := Tryz.t3) Tryz.underlying30 (by kernel_rfl) rfl rfl rfl rfl (by decide) (fun _ => rfl) eInt_one (.tmp rfl) (.tmp rfl) (hS.own 1 rfl) (Els.drop (Els.up hEv hS.upd) hcv) (by simp [maxLen]; omega) (by simp; omega)) rfl rfl rfl rfl ?_
        intro v85 w14 Gw14
        have zw14 := Gw14.fr.size
        replace hS := hS.stp 1 rfl Gw14
        change Wx.Sep _ _ _ [_, _] at hS
        refine LW.A rfl (LW.nil (KW.inBlock (KW.then (CW.region (LW.M rfl ?_)))))
        refine LW.pp (PEv.inc (.tmp rfl) (by omega)) ?_
        refine LW.A rfl (LW.nil (KW.round ?_))
        first | exact ⟨(i + 1, v85), ⟨by show i + 1 ≤ _; omega, hW.trans hS.upd, hB2.up hS.upd, hB3.up hS.upd, hC.up hS.upd, by rw [stopKs_step hx]; first | (rw [if_neg (by rw [hst]; decide), ← eks]; exact ⟨adv, cpv, rfl, Els.up hEv hS.upd, hcv⟩) | (rw [if_pos hst, ← sortI_addI, ← eks]; first | (rw [← hfin]; exact ⟨adv, cpv, rfl, Els.up hEv hS.upd, hcv⟩) | (rw [← add_new hlt hlo hdg]; exact OwnS.slc (hS.own 1 rfl)))⟩, ⟨rfl, rfl, rfl, rfl, rfl, trivial⟩, by show b.Holds.length - (i + 1) < b.Holds.length - i; omega⟩ | exact ⟨(i + 1, .slice adv ks.length cpv), ⟨by show i + 1 ≤ _; omega, hW.trans hS.upd, hB2.up hS.upd, hB3.up hS.upd, hC.up hS.upd, by rw [stopKs_step hx]; first | (rw [if_neg (by rw [hst]; decide), ← eks]; exact ⟨adv, cpv, rfl, Els.up hEv hS.upd, hcv⟩) | (rw [if_pos hst, ← sortI_addI, ← eks]; first | (rw [← hfin]; exact ⟨adv, cpv, rfl, Els.up hEv hS.upd, hcv⟩) | (rw [← add_new hlt hlo hdg]; exact OwnS.slc (hS.own 1 rfl)))⟩, ⟨rfl, rfl, rfl, rfl, rfl, trivial⟩, by show b.Holds.length - (i + 1) < b.Holds.length - i; omega⟩
   ·first | replace h15 := dT h15 | replace h15 := dF h15 | skip
    refine CW.exit (KW.then_exit (KW.then_exit (KW.block_hit (KW.then (CW.S (LW.M rfl (LW.A rfl (LW.T (CW.ret ?_)))))))))
    refine KW.ret1 rfl rfl ⟨_, rfl, ?_⟩
    have hil : i = b.Holds.length := by omega
    rw [hil, List.take_length, ← stopsOf_sort] at hV
    exact ⟨hV.sl, hW⟩
end Go.Proofs.YtolkipbpklkcnaaGreat
end
section
namespace Go.Wx
def cutH (f : Fact) : Fact := { f with Text := f.Text.extract 0 (if (50 : Int) < f.Text.size then (50 : Int) else f.Text.size).toNat }
def fewH (l : List Fact) : List Fact := (l.take 40).map cutH
theorem cutH_snoc {l : List Fact} {k : Nat} {x : Fact} (h : l[k]? = some x) : (l.take (k + 1)).map cutH = (l.take k).map cutH ++ [cutH x] := by rw [take_succ_of h]; simp
theorem fewH_end {l : List Fact} {k : Nat} (hk : k ≤ l.length) (h40 : k ≤ 40) (h : (decide (k < l.length) && decide (k < 40)) = false) : (l.take k).map cutH = fewH l := by
  unfold fewH
  congr 1
  by_cases h1 : k < l.length
  · have : k = 40 := by simp [h1] at h; omega
    rw [this]
  · rw [show k = l.length by omega, List.take_length, List.take_of_length_le (by omega)]
def rawB (l : List Fact) : Base := ⟨l, [], l, l, [], [], l, l, [], [], []⟩
def rawCells (v : Go.Value) : Array Go.Value := #[v, .slice none 0 0, v, v, .slice none 0 0, .slice none 0 0, v, v, .slice none 0 0, .slice none 0 0, .slice none 0 0]
theorem rawCells_one (ad : Option Addr) (n cp : Nat) : (rawCells (.slice ad n cp)).all (·.oneCell') = true := by simp [rawCells, Value.oneCell']
theorem baseC_raw {w : World} {v : Go.Value} {l : List Fact} (h : Sl w v 19 Fact.cells l) : BaseC w (rawCells v) (rawB l) := ⟨_, _, _, _, _, _, _, _, _, _, _, rfl, h, Sl.nil _ _ _, h, h, Sl.nil _ _ _, Sl.nil _ _ _, h, h, Sl.nil _ _ _, Sl.nil _ _ _, Sl.nil _ _ _⟩
end Go.Wx
namespace Go.Proofs.YtolkipbpklkcnaaGreat
open Go.Wx Go.RowKit
theorem few_any (ad : Option Addr) (cp : Nat) (l : List Fact) (w : World) (hE : Els w ad 19 Fact.cells l) : Ret Tryz.prog 11 #[.slice ad l.length cp] w fun r w' => OwnS w' w.heap.size 35 19 Fact.cells r (fewH l) ∧ Up w w' := by
  have hW := Up.refl w
  obtain ⟨w0, rfl⟩ : ∃ w0, w0 = w := ⟨_, rfl⟩
  refine Calls_start (n := 33) (m := 9) Tryz.func11 rfl rfl rfl ?_
  refine CW.S (LW.C (LW.S (CW.region (LW.C (LW.S (CW.S (LW.C ?_)))))))
  refine LW.T (CW.block ?_)
  refine CW.loop (σ := Nat × Value) (fun s w => (s.1 ≤ l.length ∧ s.1 ≤ 40) ∧ OwnS w w0.heap.size 35 19 Fact.cells s.2 ((l.take s.1).map cutH) ∧ Up w0 w) (fun s => [(0, .eq (.slice ad l.length cp)), (3, .eq s.2), (4, .eq (vi (s.1 : Int)))]) (fun s => l.length - s.1) (0, .slice none 0 0) ?_ ?_ ?_
  ·exact ⟨⟨Nat.zero_le _, by omega⟩, OwnS.nil _ _ _ _ _, hW⟩
  ·exact ⟨rfl, rfl, rfl, trivial⟩
  ·rintro ⟨k, v⟩ w1 ⟨⟨hk, hk40⟩, hO, hW⟩
   dsimp only at hk hk40 hO
   have zW := hW.size
   refine CW.seq (CW.S (LW.M rfl (LW.M rfl ?_)))
   refine LW.pp (PEv.lenS Tryz.underlying22 (.tmp rfl)) ?_
   refine LW.pp (PEv.lss (.tmp rfl) (.tmp rfl)) ?_
   refine LW.M rfl ?_
   refine LW.g rfl rfl rfl rfl rfl rfl rfl (fun hc => PEv.move (.tmp rfl)) ?_
   refine LW.g rfl rfl rfl rfl rfl rfl rfl (fun hc => PEv.lss (by first | exact .tmp rfl | exact .cond rfl (by first | assumption | simp_all)) (.const _)) ?_
   refine LW.pp (PEv.pick_and (.tmp rfl) (fun hp => (by first | exact .const _ | exact .tmp rfl | exact .cond rfl (by first | assumption | simp_all)))) ?_
   refine LW.T ?_
   refine CW.cond (.tmp rfl) (fun h13 => ?_) (fun h13 => ?_)
   ·first | replace h13 := dT h13 | replace h13 := dF h13 | skip
    have hk1 : k < l.length ∧ k < 40 := by simp at h13; omega
    refine CW.skip (KW.then (CW.seq (CW.block (CW.seq ?_))))
    obtain ⟨x, hx⟩ := getElem?_of_lt (xs := l) (i := k) (by omega)
    obtain ⟨B, o, had, hc0⟩ := hE k x hx
    have hcell := hc0.up hW
    have hlen : ((l.take k).map cutH).length = k := by rw [List.length_map, List.length_take]; omega
    have hO4 := hO
    have hU4 := Up.refl w1
    refine CW.region (LW.M rfl (LW.M rfl ?_))
    refine LW.pp (PEv.indexAddr' Tryz.underlying22 Tryz.sizeOf35 (.tmp rfl) (.tmp rfl) (by omega) had) ?_
    refine LW.pp (PEv.loadA Tryz.isAgg35 Tryz.sizeOf35 rfl (.tmp rfl) (hcell)) ?_
    refine LW.r (REv.allocA Tryz.zeroValue35) rfl rfl rfl rfl ?_
    rintro _ w2 ⟨B5, rfl, MB5⟩
    refine LW.s (SEv.storeA Tryz.sizeOf35 rfl (.tmp rfl) (.tmp rfl) (by first | rfl | exact Fact.one _ | exact GAct.one _ | exact holdCells_one _ _ | exact hold0_one | (simp [Value.oneCell'])) MB5.blk rfl) rfl rfl rfl ?_
    intro w3 LB5
    have NB5 := MB5.set LB5
    clear LB5 MB5
    have eB5 := NB5.at_
    have zB5 := NB5.size
    replace hW := hW.up NB5.up
    replace hU4 := hU4.up NB5.up
    have hB5 := NB5.blk
    refine LW.S (CW.region ?_)
    refine LW.pp (PEv.fieldAddr (off := 18) Tryz.underlying35 rfl rfl Tryz.sizeOf9 rfl (.tmp rfl)) ?_
    refine LW.pp (PEv.load Tryz.isAgg9 (.tmp rfl) (hB5.celln rfl)) ?_
    refine LW.pp (PEv.fieldAddr (off := 18) Tryz.underlying35 rfl rfl Tryz.sizeOf9 rfl (.tmp rfl)) ?_
    refine LW.pp (PEv.load Tryz.isAgg9 (.tmp rfl) (hB5.celln rfl)) ?_
    refine LW.pp (PEv.lenStr Tryz.underlying9 (.tmp rfl)) ?_
    refine LW.pp (PEv.min2 (.tmp rfl) (.const _)) ?_
    refine LW.pp (PEv.strTo Tryz.underlying9 (.tmp rfl) (.tmp rfl) (by split <;> omega) (by split <;> omega)) ?_
    refine LW.pp (PEv.fieldAddr (off := 18) Tryz.underlying35 rfl rfl Tryz.sizeOf9 rfl (.tmp rfl)) ?_
    refine LW.s (SEv.store Tryz.sizeOf9 (.tmp rfl) (.tmp rfl) rfl hB5 (Nat.le_of_ble_eq_true rfl)) rfl rfl rfl ?_
    intro w4 Nw4
    have zw4 := Nw4.size
    replace hW := hW.sto Nw4.sto (by omega)
    replace hU4 := hU4.sto Nw4.sto (by omega)
    replace hB5 := Nw4.blk
    replace hB5 : Blk w4 B5 (cutH x).cells _ := hB5
    refine LW.T ?_
    have hO := hO4.up hU4
    refine CW.region (LW.M rfl ?_)
    refine LW.pp (PEv.loadA Tryz.isAgg35 Tryz.sizeOf35 rfl (.tmp rfl) (hB5.agg)) ?_
    refine LW.r (REv.buildSlice (xs := [cutH x]) (enc := Fact.cells) (mk := fun f => .agg f.cells) Tryz.underlying22 Tryz.sizeOf35 Tryz.zeroValue35 rfl (by decide) (fun _ => rfl) (fun _ => rfl) (.cons (.tmp rfl) .nil) rfl) rfl rfl rfl rfl ?_
    rintro _ w5 ⟨B30, cB30, rfl, NB30, yB30, xB30⟩
    have eB30 := NB30.at_
    have zB30 := NB30.size
    replace hW := hW.up NB30.up
    replace hB5 := hB5.up NB30.up
    replace hO := hO.up NB30.up
    have hB30 := NB30.blk
    have hE30 := xB30
    refine LW.r (REv.append (enc := Fact.cells) (base := w0.heap.size) (bytes := 160) (i := Tryz.t35) Tryz.underlying22 (by kernel_rfl) rfl rfl rfl rfl (by decide) (fun _ => rfl) Fact.one (.tmp rfl) (.tmp rfl) hO (Sl.of_els hE30) (by simp) (by rw [hlen]; simp [maxLen]; omega) (by rw [hlen]; simp; omega) (by omega)) rfl rfl rfl rfl ?_
    rintro v31 w6 ⟨Ow6, Gw6⟩
    have zw6 := Gw6.size
    replace hW := hW.gr Gw6 (by omega)
    replace hO := Ow6
    refine LW.A rfl (LW.nil (KW.inBlock (KW.then (CW.region (LW.M rfl ?_)))))
    refine LW.pp (PEv.inc (.tmp rfl) (by omega)) ?_
    refine LW.A rfl (LW.nil (KW.round ?_))
    exact ⟨(k + 1, v31), ⟨⟨by omega, by omega⟩, by rw [cutH_snoc hx]; exact hO, hW⟩, ⟨rfl, rfl, rfl, trivial⟩, by dsimp only; omega⟩
   ·first | replace h13 := dT h13 | replace h13 := dF h13 | skip
    have hr : (l.take k).map cutH = fewH l := fewH_end hk hk40 (by simp at h13 ⊢; intro h; have := h13 h; omega)
    refine CW.exit (KW.then_exit (KW.then_exit (KW.block_hit (KW.then (CW.S (LW.M rfl (LW.A rfl (LW.T (CW.ret ?_)))))))))
    refine KW.ret1 rfl rfl ⟨_, rfl, ?_⟩
    exact ⟨hr ▸ hO, hW⟩
theorem raw_any (ad : Option Addr) (n cp : Nat) (w : World) : Ret Tryz.prog 17 #[.slice ad n cp] w fun r w' => r = .agg (rawCells (.slice ad n cp)) ∧ Up w w' := by
  have hW := Up.refl w
  refine Calls_start (n := 9) (m := 9) Tryz.func17 rfl rfl rfl ?_
  refine CW.S ?_
  refine LW.r (REv.allocA Tryz.zeroValue27) rfl rfl rfl rfl ?_
  rintro _ w1 ⟨B2, rfl, NB2⟩
  have eB2 := NB2.at_
  have zB2 := NB2.size
  replace hW := hW.up NB2.up
  have hB2 := NB2.blk
  refine LW.S (CW.region (LW.M rfl (LW.M rfl (LW.M rfl (LW.M rfl (LW.M rfl ?_))))))
  refine LW.pp (PEv.build (cs := rawCells (.slice ad n cp)) Tryz.underlying27 Tryz.zeroValue27 Tryz.places27 (.cons (.tmp rfl) (.cons (.tmp rfl) (.cons (.tmp rfl) (.cons (.tmp rfl) (.cons (.tmp rfl) .nil))))) rfl) ?_
  refine LW.s (SEv.storeA Tryz.sizeOf27 rfl (.tmp rfl) (.tmp rfl) (rawCells_one _ _ _) hB2 rfl) rfl rfl rfl ?_
  intro w2 Nw2
  have zw2 := Nw2.size
  replace hW := hW.sto Nw2.sto (by omega)
  replace hB2 := Nw2.blk
  refine LW.T (CW.ret ?_)
  refine KW.retA rfl rfl Tryz.isAgg27 Tryz.sizeOf27 rfl (hB2.agg) ⟨_, rfl, ?_⟩
  exact ⟨rfl, hW⟩
end Go.Proofs.YtolkipbpklkcnaaGreat
end
section
namespace Go.Wx
theorem cutH_ok {f : Fact} (h : FOk f) : FOk (cutH f) := ⟨h.Kind, h.ID, h.Version, h.Day, h.Time, h.Until, h.Wafer, h.Other, h.Lot, h.Product, h.Tool, h.Chamber, h.Step, h.Recipe, h.Revision, h.Value, h.Parties, by
  have := h.Text
  refine Nat.le_trans ?_ this
  show (f.Text.extract 0 _).size ≤ f.Text.size
  rw [ByteArray.size_extract]
  omega⟩
theorem fewH_ok {l : List Fact} (h : ∀ f ∈ l, FOk f) : ∀ f ∈ fewH l, FOk f := fun f hf => by
  unfold fewH at hf
  obtain ⟨g, hg, rfl⟩ := List.mem_map.1 hf
  exact cutH_ok (h g (List.mem_of_mem_take hg))
theorem ofB_ok {l : List Fact} (h : ∀ f ∈ l, FOk f) (d : Int) : bOk (ofB l d) := fun f hf => h f ((lst_mem (j := 6) (by decide)).1 hf).1.1
theorem rawB_short {l : List Fact} (h : l.length ≤ 40) : short (rawB l) := fun j => by
  have h2 : l.length ≤ 100000 := by omega
  match j with
  | 0 | 2 | 3 | 6 | 7 => exact h2
  | 1 | 4 | 5 | 8 | 9 | 10 => exact Nat.zero_le _
  | j + 11 => unfold lstOf; simp
def BA : Type := { a : Array Go.Value // a.size = 11 ∧ a.all (·.oneCell') = true }
def BA.cells (a : BA) : Array Go.Value := a.1
theorem heldL_len (b : Base) (id t : Int) : (heldL b id t).length ≤ b.Lots.length + b.Processes.length := by
  unfold heldL
  split
  · exact Nat.zero_le _
  · split
    · exact Nat.zero_le _
    · exact Nat.le_trans (List.length_filter_le _ _) (wafersL_len _ _ _)
end Go.Wx
namespace Go.Proofs.YtolkipbpklkcnaaGreat
open Go.Wx Go.RowKit
end Go.Proofs.YtolkipbpklkcnaaGreat
end
section
namespace Go.Proofs.YtolkipbpklkcnaaGreat
open Go.Wx Go.RowKit
set_option maxHeartbeats 4000000 in
set_option maxRecDepth 8000 in
theorem HoldMatchesReference_any (ad : Option Addr) (cp : Nat) (l : List Fact) (day : Int) (ac : GAct) (id time : Int) (w : World) (hE0 : Els w ad 19 Fact.cells l) (hl : ∀ f ∈ l, FOk f) (hac : AOk ac) : Ret Tryz.prog 7 #[.slice ad l.length cp, vi day, .agg ac.cells, vi id, vi time] w fun r w' => r = .bool true ∧ Up w w' := by
  have hW := Up.refl w
  obtain ⟨w0, rfl⟩ : ∃ w0, w0 = w := ⟨_, rfl⟩
  refine Calls_start (n := 129) (m := 9) Tryz.func7 rfl rfl rfl ?_
  refine CW.S ?_
  refine LW.r (REv.boxA (.tmp rfl)) rfl rfl rfl rfl ?_
  rintro _ w1 ⟨B7, rfl, NB7⟩
  have eB7 := NB7.at_
  have zB7 := NB7.size
  replace hW := hW.up NB7.up
  have hB7 := NB7.blk
  refine LW.C (LW.S (CW.region ?_))
  refine LW.c (enter_call0 .nil (Tryz.en9)) rfl rfl rfl rfl (sane_any _) ?_
  rintro _ w2 ⟨rfl, uw2⟩
  have zw2 := uw2.size
  replace hW := hW.up uw2
  replace hB7 := hB7.up uw2
  refine LW.A rfl (LW.S (CW.region (LW.M rfl ?_)))
  refine LW.c (enter_call0 (.cons (.tmp rfl) .nil) (Tryz.en11)) rfl rfl rfl rfl (few_any ad cp l _ (Els.up hE0 hW)) ?_
  rintro v25 w3 ⟨hO25, uw3⟩
  have zw3 := uw3.size
  replace hW := hW.up uw3
  replace hB7 := hB7.up uw3
  obtain ⟨ad25, cp25, rfl, hE25⟩ := hO25.sl (fun _ => rfl)
  replace hE25 : Els w3 ad25 19 Fact.cells (fewH l) := hE25
  clear hO25
  have hfl : (fewH l).length ≤ 40 := by unfold fewH; rw [List.length_map, List.length_take]; omega
  refine LW.A rfl (LW.S (CW.S (LW.M rfl (LW.M rfl ?_))))
  refine LW.c (enter_call0 (.cons (.tmp rfl) (.cons (.tmp rfl) .nil)) (Tryz.en10)) rfl rfl rfl rfl (Of_any ad25 cp25 (fewH l) day _ hE25 (by omega)) ?_
  rintro _ w4 ⟨bc1, rfl, hC1, uw4⟩
  have zw4 := uw4.size
  replace hW := hW.up uw4
  replace hB7 := hB7.up uw4
  replace hE25 := hE25.up uw4
  have hsz1 := hC1.size
  have hon1 := hC1.one
  have hsz2 : (rawCells (.slice ad25 (fewH l).length cp25)).size = 11 := rfl
  have hon2 := rawCells_one ad25 (fewH l).length cp25
  refine LW.M rfl ?_
  refine LW.c (enter_call0 (.cons (.tmp rfl) .nil) (Tryz.en17)) rfl rfl rfl rfl (raw_any _ _ _ _) ?_
  rintro _ w5 ⟨rfl, uw5⟩
  have zw5 := uw5.size
  replace hW := hW.up uw5
  replace hB7 := hB7.up uw5
  replace hE25 := hE25.up uw5
  replace hC1 := hC1.up uw5
  refine LW.r (REv.buildSlice (xs := ([⟨bc1, hsz1, hon1⟩, ⟨rawCells (.slice ad25 (fewH l).length cp25), hsz2, hon2⟩] : List BA)) (enc := BA.cells) (mk := fun a : BA => .agg a.1) Tryz.underlying48 Tryz.sizeOf27 Tryz.zeroValue27 rfl (by decide) (fun _ => rfl) (fun a => a.2.1) (.cons (.tmp rfl) (.cons (.tmp rfl) .nil)) rfl) rfl rfl rfl rfl ?_
  rintro _ w6 ⟨B31, cB31, rfl, NB31, yB31, xB31⟩
  have eB31 := NB31.at_
  have zB31 := NB31.size
  replace hW := hW.up NB31.up
  replace hB7 := hB7.up NB31.up
  replace hE25 := hE25.up NB31.up
  replace hC1 := hC1.up NB31.up
  have hE31 := xB31
  refine LW.pp (PEv.lenS Tryz.underlying48 (.tmp rfl)) ?_
  refine LW.pp (PEv.move (.const _)) ?_
  refine LW.T (CW.block ?_)
  refine CW.loopB (σ := Nat) (fun s w => (s ≤ 2) ∧ (Up w6 w)) (fun s => [(33, .eq (vi (s : Int)))]) ([(3, .eq _), (4, .eq _), (7, .eq _), (11, .eq _), (31, .eq _), (32, .eq _)]) (fun s => 2 - s) 0 ?_ ⟨rfl, rfl, rfl, rfl, rfl, rfl, rfl, trivial⟩ ?_
  ·exact ⟨Nat.zero_le _, Up.refl _⟩
  ·rintro k w7 ⟨hk, hL1⟩
   have zzw7 := hL1.size
   replace hW := hW.up hL1
   replace hB7 := hB7.up hL1
   replace hE25 := hE25.up hL1
   replace hC1 := hC1.up hL1
   replace hE31 := hE31.up hL1
   refine CW.S ?_
   refine LW.pp (PEv.lss (.tmp rfl) (.tmp rfl)) ?_
   refine LW.S ?_
   refine CW.cond (.tmp rfl) (fun h34 => ?_) (fun h34 => ?_)
   ·first | replace h34 := dT h34 | replace h34 := dF h34 | skip
    have hk2 : k < 2 := Int.ofNat_lt.1 h34
    refine CW.skip (KW.then (CW.seq (CW.block (CW.seq ?_))))
    obtain ⟨ba, hba⟩ := getElem?_of_lt (xs := ([⟨bc1, hsz1, hon1⟩, ⟨rawCells (.slice ad25 (fewH l).length cp25), hsz2, hon2⟩] : List BA)) (i := k) hk2
    obtain ⟨Ba, oa, aa, hca⟩ := hE31 k ba hba
    obtain ⟨b, hCb, hSh, hbk⟩ : ∃ b, BaseC w7 ba.1 b ∧ short b ∧ bOk b := by
     rcases List.mem_cons.1 (List.mem_of_getElem? hba) with e | e
     · rw [e]; exact ⟨_, hC1, ofB_short (by omega) _, ofB_ok (fewH_ok hl) _⟩
     · rw [List.mem_singleton.1 e]; exact ⟨_, baseC_raw (Sl.of_els hE25), rawB_short hfl, fewH_ok hl⟩
    have hsz := ba.2.1
    have hone := ba.2.2
    replace hca : AggAt w7 Ba (oa + k * 11) ba.1 := hca
    obtain ⟨bcx, ebc⟩ : ∃ c, c = ba.1 := ⟨_, rfl⟩
    rw [← ebc] at hCb hsz hone hca
    refine CW.region ?_
    refine LW.pp (PEv.indexAddr' Tryz.underlying48 Tryz.sizeOf27 (.tmp rfl) (.tmp rfl) (by omega) aa) ?_
    refine LW.pp (PEv.loadA Tryz.isAgg27 Tryz.sizeOf27 (hsz) (.tmp rfl) (hca)) ?_
    refine LW.r (REv.allocA Tryz.zeroValue27) rfl rfl rfl rfl ?_
    rintro _ w8 ⟨B13, rfl, MB13⟩
    refine LW.s (SEv.storeA Tryz.sizeOf27 hsz (.tmp rfl) (.tmp rfl) hone MB13.blk rfl) rfl rfl rfl ?_
    intro w9 LB13
    have NB13 := MB13.set LB13
    clear LB13 MB13
    have eB13 := NB13.at_
    have zB13 := NB13.size
    replace hW := hW.up NB13.up
    replace hB7 := hB7.up NB13.up
    replace hE25 := hE25.up NB13.up
    replace hC1 := hC1.up NB13.up
    replace hE31 := hE31.up NB13.up
    replace hL1 := hL1.up NB13.up
    replace hCb := hCb.up NB13.up
    replace hca := hca.up NB13.up
    have hB13 := NB13.blk
    refine LW.S (CW.seq ?_)
    obtain ⟨v6, h6, ad6, cp6, rfl, hEh⟩ := hCb.at6
    replace hEh : Els w9 ad6 19 Fact.cells b.Holds := hEh
    have hHl : b.Holds.length ≤ 100000 := hSh 6
    refine CW.region (LW.C (LW.T (CW.block ?_)))
    refine CW.loopB (σ := Nat) (fun s w => (s ≤ b.Holds.length) ∧ (Up w9 w)) (fun s => [(14, .eq (vi (s : Int)))]) ([(3, .eq _), (4, .eq _), (7, .eq _), (11, .eq _), (13, .eq _), (31, .eq _), (32, .eq _), (33, .eq _)]) (fun s => b.Holds.length - s) 0 ?_ ⟨rfl, rfl, rfl, rfl, rfl, rfl, rfl, rfl, rfl, trivial⟩ ?_
    ·exact ⟨Nat.zero_le _, Up.refl _⟩
    ·rintro i w10 ⟨hi, hL2⟩
     have zzw10 := hL2.size
     replace hW := hW.up hL2
     replace hB7 := hB7.up hL2
     replace hE25 := hE25.up hL2
     replace hC1 := hC1.up hL2
     replace hE31 := hE31.up hL2
     replace hL1 := hL1.up hL2
     replace hCb := hCb.up hL2
     replace hB13 := hB13.up hL2
     replace hEh := hEh.up hL2
     refine CW.seq (CW.S (LW.M rfl ?_))
     refine LW.pp (PEv.fieldAddr (off := 6) Tryz.underlying27 rfl rfl Tryz.sizeOf22 rfl (.tmp rfl)) ?_
     refine LW.pp (PEv.load Tryz.isAgg22 (.tmp rfl) (hB13.cell h6)) ?_
     refine LW.pp (PEv.lenS Tryz.underlying22 (.tmp rfl)) ?_
     refine LW.pp (PEv.lss (.tmp rfl) (.tmp rfl)) ?_
     refine LW.M rfl ?_
     refine LW.g rfl rfl rfl rfl rfl rfl rfl (fun hc => PEv.move (.tmp rfl)) ?_
     refine LW.g rfl rfl rfl rfl rfl rfl rfl (fun hc => PEv.lss (by first | exact .tmp rfl | exact .cond rfl (by first | assumption | simp_all)) (.const _)) ?_
     refine LW.pp (PEv.pick_and (.tmp rfl) (fun hp => (by first | exact .const _ | exact .tmp rfl | exact .cond rfl (by first | assumption | (rw [hp]; rfl) | (rw [hc, hp]; rfl) | simp_all)))) ?_
     refine LW.T ?_
     refine CW.cond (.tmp rfl) (fun h45 => ?_) (fun h45 => ?_)
     ·first | replace h45 := dT h45 | replace h45 := dF h45 | skip
      have hi8 : i < b.Holds.length := by simp only [Bool.and_eq_true, decide_eq_true_eq] at h45; omega
      refine CW.skip (KW.then (CW.seq (CW.block (CW.seq ?_))))
      obtain ⟨x, hx⟩ := getElem?_of_lt (xs := b.Holds) (i := i) hi8
      obtain ⟨Bx, ox, ax, hcx⟩ := hEh i x hx
      have hfo := hbk x (List.mem_of_getElem? hx)
      refine CW.draws (by kernel_rfl) (by kernel_rfl) rfl rfl ?_
      refine HW.pp (PEv.loadA Tryz.isAgg27 Tryz.sizeOf27 (hsz) (.tmp rfl) (hB13.agg)) ?_
      refine HW.pp (PEv.fieldAddr (off := 6) Tryz.underlying27 rfl rfl Tryz.sizeOf22 rfl (.tmp rfl)) ?_
      refine HW.pp (PEv.load Tryz.isAgg22 (.tmp rfl) (hB13.cell h6)) ?_
      refine HW.pp (PEv.move (.tmp rfl)) ?_
      refine HW.pp (PEv.indexAddr' Tryz.underlying22 Tryz.sizeOf35 (.tmp rfl) (.tmp rfl) (by omega) ax) ?_
      refine HW.pp (PEv.loadA Tryz.isAgg35 Tryz.sizeOf35 rfl (.tmp rfl) (hcx)) ?_
      refine HW.pp (PEv.loadA Tryz.isAgg24 Tryz.sizeOf24 rfl (.tmp rfl) (hB7.agg)) ?_
      refine HW.c (fun a w _ ha => enter_call0 (.cons (.tmp rfl) (.cons (.tmp rfl) (.cons (.tmp rfl) .nil))) (Tryz.en15) a ha) rfl rfl (fun w hu => Names_any bcx b x ac w (hCb.up hu) (Nat.lt_of_le_of_lt (hSh 3) (by decide))) ?_
      refine HW.pp (PEv.loadA Tryz.isAgg27 Tryz.sizeOf27 (hsz) (.tmp rfl) (hB13.agg)) ?_
      refine HW.pp (PEv.fieldAddr (off := 6) Tryz.underlying27 rfl rfl Tryz.sizeOf22 rfl (.tmp rfl)) ?_
      refine HW.pp (PEv.load Tryz.isAgg22 (.tmp rfl) (hB13.cell h6)) ?_
      refine HW.pp (PEv.move (.tmp rfl)) ?_
      refine HW.pp (PEv.indexAddr' Tryz.underlying22 Tryz.sizeOf35 (.tmp rfl) (.tmp rfl) (by omega) ax) ?_
      refine HW.pp (PEv.loadA Tryz.isAgg35 Tryz.sizeOf35 rfl (.tmp rfl) (hcx)) ?_
      refine HW.pp (PEv.loadA Tryz.isAgg24 Tryz.sizeOf24 rfl (.tmp rfl) (hB7.agg)) ?_
      refine HW.c (fun a w _ ha => enter_call0 (.cons (.tmp rfl) (.cons (.tmp rfl) (.cons (.tmp rfl) .nil))) (Tryz.en18) a ha) rfl rfl (fun w hu => rNames_any bcx b x ac w (hCb.up hu) (Nat.le_trans (hSh 3) (by decide))) ?_
      refine HW.pp (PEv.fa (PEv.neqB Tryz.underlying4 (.tmp rfl) (.tmp rfl)) (by rw [names_eq hfo hac]; simp)) ?_
      refine HW.nil ?_
      intro w11 uw11
      have zw11 := uw11.size
      replace hW := hW.up uw11
      replace hB7 := hB7.up uw11
      replace hE25 := hE25.up uw11
      replace hC1 := hC1.up uw11
      replace hE31 := hE31.up uw11
      replace hL1 := hL1.up uw11
      replace hCb := hCb.up uw11
      replace hB13 := hB13.up uw11
      replace hEh := hEh.up uw11
      replace hL2 := hL2.up uw11
      replace hcx := hcx.up uw11
      refine KW.then ?_
      refine CW.cond_false (.tmp rfl) ?_
      refine CW.skip (KW.inBlock (KW.then (CW.region (LW.M rfl ?_))))
      refine LW.pp (PEv.inc (.tmp rfl) (by omega)) ?_
      refine LW.A rfl (LW.nil (KW.round ?_))
      exact ⟨i + 1, ⟨by omega, hL2⟩, ⟨rfl, rfl, rfl, rfl, rfl, rfl, rfl, rfl, rfl, trivial⟩, by first | omega | (dsimp only; omega)⟩
     ·first | replace h45 := dT h45 | replace h45 := dF h45 | skip
      refine CW.exit (KW.then_exit (KW.then_exit (KW.block_hit (KW.then (CW.seq (CW.S (LW.M rfl (LW.M rfl ?_))))))))
      refine LW.c (enter_call0 (.cons (.tmp rfl) (.cons (.const _) .nil)) (Tryz.en16)) rfl rfl rfl rfl (pick_any _ _ _ (by decide)) ?_
      rintro _ w12 ⟨rfl, uw12⟩
      have zw12 := uw12.size
      replace hW := hW.up uw12
      replace hB7 := hB7.up uw12
      replace hE25 := hE25.up uw12
      replace hC1 := hC1.up uw12
      replace hE31 := hE31.up uw12
      replace hL1 := hL1.up uw12
      replace hCb := hCb.up uw12
      replace hB13 := hB13.up uw12
      replace hL2 := hL2.up uw12
      refine LW.r (REv.buildSlice (xs := ([id, pickI id 21] : List Int)) (enc := eInt) (mk := vi) Tryz.underlying30 Tryz.sizeOf3 Tryz.zeroValue3 rfl (by decide) (fun _ => rfl) (fun _ => rfl) (.cons (.tmp rfl) (.cons (.tmp rfl) .nil)) rfl) rfl rfl rfl rfl ?_
      rintro _ w13 ⟨B68, cB68, rfl, NB68, yB68, xB68⟩
      have eB68 := NB68.at_
      have zB68 := NB68.size
      replace hW := hW.up NB68.up
      replace hB7 := hB7.up NB68.up
      replace hE25 := hE25.up NB68.up
      replace hC1 := hC1.up NB68.up
      replace hE31 := hE31.up NB68.up
      replace hL1 := hL1.up NB68.up
      replace hCb := hCb.up NB68.up
      replace hB13 := hB13.up NB68.up
      replace hL2 := hL2.up NB68.up
      have hB68 := NB68.blk
      have hE68 := xB68
      refine LW.pp (PEv.lenS Tryz.underlying30 (.tmp rfl)) ?_
      refine LW.pp (PEv.move (.const _)) ?_
      refine LW.T (CW.block ?_)
      refine CW.loopB (σ := Nat) (fun s w => (s ≤ 2) ∧ (Up w13 w)) (fun s => [(70, .eq (vi (s : Int)))]) ([(3, .eq _), (4, .eq _), (7, .eq _), (11, .eq _), (13, .eq _), (31, .eq _), (32, .eq _), (33, .eq _), (68, .eq _), (69, .eq _)]) (fun s => 2 - s) 0 ?_ ⟨rfl, rfl, rfl, rfl, rfl, rfl, rfl, rfl, rfl, rfl, rfl, trivial⟩ ?_
      ·exact ⟨Nat.zero_le _, Up.refl _⟩
      ·rintro p w14 ⟨hp, hL3⟩
       have zzw14 := hL3.size
       replace hW := hW.up hL3
       replace hB7 := hB7.up hL3
       replace hE25 := hE25.up hL3
       replace hC1 := hC1.up hL3
       replace hE31 := hE31.up hL3
       replace hL1 := hL1.up hL3
       replace hCb := hCb.up hL3
       replace hB13 := hB13.up hL3
       replace hL2 := hL2.up hL3
       replace hB68 := hB68.up hL3
       replace hE68 := hE68.up hL3
       refine CW.S ?_
       refine LW.pp (PEv.lss (.tmp rfl) (.tmp rfl)) ?_
       refine LW.S ?_
       refine CW.cond (.tmp rfl) (fun h71 => ?_) (fun h71 => ?_)
       ·first | replace h71 := dT h71 | replace h71 := dF h71 | skip
        have hp2 : p < 2 := Int.ofNat_lt.1 h71
        refine CW.skip (KW.then (CW.seq (CW.block (CW.seq ?_))))
        obtain ⟨n, hn⟩ := getElem?_of_lt (xs := ([id, pickI id 21] : List Int)) (i := p) hp2
        obtain ⟨Bn, on, an, hcn⟩ := hE68 p n hn
        refine CW.region ?_
        refine LW.pp (PEv.indexAddr' Tryz.underlying30 Tryz.sizeOf3 (.tmp rfl) (.tmp rfl) (by omega) an) ?_
        refine LW.pp (PEv.load Tryz.isAgg3 (.tmp rfl) (hcn.nth (j := 0) rfl)) ?_
        refine LW.A rfl (LW.S (CW.region (LW.M rfl (LW.M rfl ?_))))
        refine LW.c (enter_call0 (.cons (.tmp rfl) (.cons (.const _) .nil)) (Tryz.en16)) rfl rfl rfl rfl (pick_any _ _ _ (by decide)) ?_
        rintro _ w15 ⟨rfl, uw15⟩
        have zw15 := uw15.size
        replace hW := hW.up uw15
        replace hB7 := hB7.up uw15
        replace hE25 := hE25.up uw15
        replace hC1 := hC1.up uw15
        replace hE31 := hE31.up uw15
        replace hL1 := hL1.up uw15
        replace hCb := hCb.up uw15
        replace hB13 := hB13.up uw15
        replace hL2 := hL2.up uw15
        replace hB68 := hB68.up uw15
        replace hE68 := hE68.up uw15
        replace hL3 := hL3.up uw15
        refine LW.r (REv.buildSlice (xs := ([time, pickI time 90] : List Int)) (enc := eInt) (mk := vi) Tryz.underlying30 Tryz.sizeOf3 Tryz.zeroValue3 rfl (by decide) (fun _ => rfl) (fun _ => rfl) (.cons (.tmp rfl) (.cons (.tmp rfl) .nil)) rfl) rfl rfl rfl rfl ?_
        rintro _ w16 ⟨B77, cB77, rfl, NB77, yB77, xB77⟩
        have eB77 := NB77.at_
        have zB77 := NB77.size
        replace hW := hW.up NB77.up
        replace hB7 := hB7.up NB77.up
        replace hE25 := hE25.up NB77.up
        replace hC1 := hC1.up NB77.up
        replace hE31 := hE31.up NB77.up
        replace hL1 := hL1.up NB77.up
        replace hCb := hCb.up NB77.up
        replace hB13 := hB13.up NB77.up
        replace hL2 := hL2.up NB77.up
        replace hB68 := hB68.up NB77.up
        replace hE68 := hE68.up NB77.up
        replace hL3 := hL3.up NB77.up
        have hB77 := NB77.blk
        have hE77 := xB77
        refine LW.pp (PEv.lenS Tryz.underlying30 (.tmp rfl)) ?_
        refine LW.pp (PEv.move (.const _)) ?_
        refine LW.T (CW.block ?_)
        refine CW.loopB (σ := Nat) (fun s w => (s ≤ 2) ∧ (Up w16 w)) (fun s => [(79, .eq (vi (s : Int)))]) ([(3, .eq _), (4, .eq _), (7, .eq _), (11, .eq _), (13, .eq _), (16, .eq _), (31, .eq _), (32, .eq _), (33, .eq _), (68, .eq _), (69, .eq _), (70, .eq _), (77, .eq _), (78, .eq _)]) (fun s => 2 - s) 0 ?_ ⟨rfl, rfl, rfl, rfl, rfl, rfl, rfl, rfl, rfl, rfl, rfl, rfl, rfl, rfl, rfl, trivial⟩ ?_
        ·exact ⟨Nat.zero_le _, Up.refl _⟩
        ·rintro r w17 ⟨hr, hL4⟩
         have zzw17 := hL4.size
         replace hW := hW.up hL4
         replace hB7 := hB7.up hL4
         replace hE25 := hE25.up hL4
         replace hC1 := hC1.up hL4
         replace hE31 := hE31.up hL4
         replace hL1 := hL1.up hL4
         replace hCb := hCb.up hL4
         replace hB13 := hB13.up hL4
         replace hL2 := hL2.up hL4
         replace hB68 := hB68.up hL4
         replace hE68 := hE68.up hL4
         replace hL3 := hL3.up hL4
         replace hB77 := hB77.up hL4
         replace hE77 := hE77.up hL4
         refine CW.S ?_
         refine LW.pp (PEv.lss (.tmp rfl) (.tmp rfl)) ?_
         refine LW.S ?_
         refine CW.cond (.tmp rfl) (fun h80 => ?_) (fun h80 => ?_)
         ·first | replace h80 := dT h80 | replace h80 := dF h80 | skip
          have hr2 : r < 2 := Int.ofNat_lt.1 h80
          refine CW.skip (KW.then (CW.seq (CW.block (CW.seq ?_))))
          obtain ⟨tm, htm⟩ := getElem?_of_lt (xs := ([time, pickI time 90] : List Int)) (i := r) hr2
          obtain ⟨Bt, ot, at2, hct⟩ := hE77 r tm htm
          refine CW.region ?_
          refine LW.pp (PEv.indexAddr' Tryz.underlying30 Tryz.sizeOf3 (.tmp rfl) (.tmp rfl) (by omega) at2) ?_
          refine LW.pp (PEv.load Tryz.isAgg3 (.tmp rfl) (hct.nth (j := 0) rfl)) ?_
          refine LW.A rfl (LW.S (CW.region ?_))
          refine LW.pp (PEv.loadA Tryz.isAgg27 Tryz.sizeOf27 (hsz) (.tmp rfl) (hB13.agg)) ?_
          refine LW.M rfl (LW.M rfl ?_)
          refine LW.c (enter_call0 (.cons (.tmp rfl) (.cons (.tmp rfl) (.cons (.tmp rfl) .nil))) (Tryz.en14)) rfl rfl rfl rfl (Released_any bcx b n tm _ hCb (Nat.lt_of_le_of_lt (hSh 6) (by decide)) (Nat.lt_of_le_of_lt (hSh 7) (by decide))) ?_
          rintro _ w18 ⟨rfl, uw18⟩
          have zw18 := uw18.size
          replace hW := hW.up uw18
          replace hB7 := hB7.up uw18
          replace hE25 := hE25.up uw18
          replace hC1 := hC1.up uw18
          replace hE31 := hE31.up uw18
          replace hL1 := hL1.up uw18
          replace hCb := hCb.up uw18
          replace hB13 := hB13.up uw18
          replace hL2 := hL2.up uw18
          replace hB68 := hB68.up uw18
          replace hE68 := hE68.up uw18
          replace hL3 := hL3.up uw18
          replace hB77 := hB77.up uw18
          replace hE77 := hE77.up uw18
          replace hL4 := hL4.up uw18
          refine LW.M rfl (LW.pp (PEv.extract (.tmp rfl) rfl) (LW.pp (PEv.extract (.tmp rfl) rfl) (LW.A rfl (LW.A rfl (LW.S (CW.region ?_))))))
          refine LW.pp (PEv.loadA Tryz.isAgg27 Tryz.sizeOf27 (hsz) (.tmp rfl) (hB13.agg)) ?_
          refine LW.M rfl (LW.M rfl ?_)
          refine LW.c (enter_call0 (.cons (.tmp rfl) (.cons (.tmp rfl) (.cons (.tmp rfl) .nil))) (Tryz.en19)) rfl rfl rfl rfl (rReleased_any bcx b n tm _ hCb (Nat.le_trans (hSh 6) (by decide)) (Nat.le_trans (hSh 7) (by decide)) hbk) ?_
          rintro _ w19 ⟨rfl, uw19⟩
          have zw19 := uw19.size
          replace hW := hW.up uw19
          replace hB7 := hB7.up uw19
          replace hE25 := hE25.up uw19
          replace hC1 := hC1.up uw19
          replace hE31 := hE31.up uw19
          replace hL1 := hL1.up uw19
          replace hCb := hCb.up uw19
          replace hB13 := hB13.up uw19
          replace hL2 := hL2.up uw19
          replace hB68 := hB68.up uw19
          replace hE68 := hE68.up uw19
          replace hL3 := hL3.up uw19
          replace hB77 := hB77.up uw19
          replace hE77 := hE77.up uw19
          replace hL4 := hL4.up uw19
          refine LW.M rfl (LW.pp (PEv.extract (.tmp rfl) rfl) (LW.pp (PEv.extract (.tmp rfl) rfl) (LW.A rfl (LW.A rfl (LW.S ?_)))))
          refine CW.draws (by kernel_rfl) (by kernel_rfl) rfl rfl ?_
          refine HW.pp (PEv.move (.tmp rfl)) ?_
          refine HW.pp (PEv.move (.tmp rfl)) ?_
          refine HW.pp (PEv.fa (PEv.neq (.tmp rfl) (.tmp rfl)) (by simp)) ?_
          refine HW.pp (PEv.move (.tmp rfl)) ?_
          refine HW.g rfl rfl rfl rfl rfl rfl (fun hc => PEv.move (.tmp rfl)) ?_
          refine HW.g rfl rfl rfl rfl rfl rfl (fun hc => PEv.move (.tmp rfl)) ?_
          refine HW.g rfl rfl rfl rfl rfl rfl (fun hc => PEv.fa (PEv.neqB Tryz.underlying4 (by first | exact .tmp rfl | exact .cond rfl (by first | assumption | simp_all)) (by first | exact .tmp rfl | exact .cond rfl (by first | assumption | simp_all))) (by simp)) ?_
          refine HW.pp (PEv.pick_or (.tmp rfl) (fun hp => (by first | exact .const _ | exact .tmp rfl | exact .cond rfl (by first | assumption | (rw [hp]; rfl) | (rw [hc, hp]; rfl) | simp_all)))) ?_
          refine HW.pp (PEv.move (.tmp rfl)) ?_
          refine HW.yp rfl rfl rfl rfl rfl (PEv.loadA Tryz.isAgg27 Tryz.sizeOf27 (hsz) (.tmp rfl) (hB13.agg)) rfl ?_
          refine HW.yp rfl rfl rfl rfl rfl (PEv.move (.tmp rfl)) rfl ?_
          refine HW.yp rfl rfl rfl rfl rfl (PEv.move (.tmp rfl)) rfl ?_
          refine HW.yqc (ph := .pred fun v w => Sl w v 1 eInt (heldL b n tm)) (fun _ _ _ h u => Sl.up h u) rfl rfl rfl rfl rfl (fun a w hu ha => ⟨_, _, enter_call0 (.cons (.tmp rfl) (.cons (.tmp rfl) (.cons (.tmp rfl) .nil))) (Tryz.en21) a ha, (Held_any bcx b n tm w (hCb.up hu) (Nat.lt_of_le_of_lt (hSh 6) (by decide)) (Nat.lt_of_le_of_lt (hSh 7) (by decide)) (Nat.lt_of_le_of_lt (hSh 3) (by decide)) (Nat.le_trans (hSh 2) (by decide)) (by have h1 : b.Lots.length ≤ 100000 := hSh 3; have h2 : b.Processes.length ≤ 100000 := hSh 0; omega)).mono fun v w' h => ⟨h.2, h.1.sl (fun _ => rfl)⟩⟩) rfl ?_
          refine HW.yp rfl rfl rfl rfl rfl (PEv.loadA Tryz.isAgg27 Tryz.sizeOf27 (hsz) (.tmp rfl) (hB13.agg)) rfl ?_
          refine HW.yp rfl rfl rfl rfl rfl (PEv.move (.tmp rfl)) rfl ?_
          refine HW.yp rfl rfl rfl rfl rfl (PEv.move (.tmp rfl)) rfl ?_
          refine HW.yqc (ph := .pred fun v w => Sl w v 1 eInt (heldL b n tm)) (fun _ _ _ h u => Sl.up h u) rfl rfl rfl rfl rfl (fun a w hu ha => ⟨_, _, enter_call0 (.cons (.tmp rfl) (.cons (.tmp rfl) (.cons (.tmp rfl) .nil))) (Tryz.en22) a ha, (rHeld_any bcx b n tm w (hCb.up hu) (Nat.le_trans (hSh 6) (by decide)) (Nat.le_trans (hSh 7) (by decide)) (Nat.le_trans (hSh 2) (by decide)) (Nat.le_trans (hSh 3) (by decide)) (Nat.le_trans (hSh 0) (by decide)) hbk).mono fun v w' h => ⟨h.2, h.1⟩⟩) rfl ?_
          refine HW.yqc (ph := .eq (.bool true)) (phUp.eq _) rfl rfl rfl rfl rfl (fun a w hu ha => ⟨_, _, enter_any2 Tryz.en20 a w, (sameInts_any (a.eval (.tmp 109)) (a.eval (.tmp 113)) (heldL b n tm) (heldL b n tm) w (ha.known (p := fun v w => Sl w v 1 eInt (heldL b n tm)) rfl) (ha.known (p := fun v w => Sl w v 1 eInt (heldL b n tm)) rfl) (by have h0 := heldL_len b n tm; have h1 : b.Lots.length ≤ 100000 := hSh 3; have h2 : b.Processes.length ≤ 100000 := hSh 0; omega) (by have h0 := heldL_len b n tm; have h1 : b.Lots.length ≤ 100000 := hSh 3; have h2 : b.Processes.length ≤ 100000 := hSh 0; omega)).mono fun _ _ h => ⟨h.2, h.1.trans (by rw [decide_eq_true rfl])⟩⟩) rfl ?_
          refine HW.yp rfl rfl rfl rfl rfl (PEv.fa (PEv.not (.tmp rfl)) (rfl)) rfl ?_
          refine HW.pp (PEv.pick_or (.tmp rfl) (fun hp => (by first | exact .const _ | exact .tmp rfl | exact .cond rfl (by first | assumption | (rw [hp]; rfl) | (rw [hc, hp]; rfl) | simp_all)))) ?_
          refine HW.nil ?_
          intro w20 uw20
          have zw20 := uw20.size
          replace hW := hW.up uw20
          replace hB7 := hB7.up uw20
          replace hE25 := hE25.up uw20
          replace hC1 := hC1.up uw20
          replace hE31 := hE31.up uw20
          replace hL1 := hL1.up uw20
          replace hCb := hCb.up uw20
          replace hB13 := hB13.up uw20
          replace hL2 := hL2.up uw20
          replace hB68 := hB68.up uw20
          replace hE68 := hE68.up uw20
          replace hL3 := hL3.up uw20
          replace hB77 := hB77.up uw20
          replace hE77 := hE77.up uw20
          replace hL4 := hL4.up uw20
          refine KW.then ?_
          refine CW.cond_false (.tmp rfl) ?_
          refine CW.skip (KW.inBlock (KW.then (CW.region ?_)))
          refine LW.pp (PEv.inc (.tmp rfl) (by omega)) ?_
          refine LW.M rfl (LW.nil (KW.round ?_))
          exact ⟨r + 1, ⟨by omega, hL4⟩, ⟨rfl, rfl, rfl, rfl, rfl, rfl, rfl, rfl, rfl, rfl, rfl, rfl, rfl, rfl, rfl, trivial⟩, by first | omega | (dsimp only; omega)⟩
         ·first | replace h80 := dT h80 | replace h80 := dF h80 | skip
          refine CW.exit (KW.then_exit (KW.then_exit (KW.block_hit (KW.inBlock (KW.then (CW.region ?_))))))
          refine LW.pp (PEv.inc (.tmp rfl) (by omega)) ?_
          refine LW.M rfl (LW.nil (KW.round ?_))
          exact ⟨p + 1, ⟨by omega, hL3⟩, ⟨rfl, rfl, rfl, rfl, rfl, rfl, rfl, rfl, rfl, rfl, rfl, trivial⟩, by first | omega | (dsimp only; omega)⟩
       ·first | replace h71 := dT h71 | replace h71 := dF h71 | skip
        refine CW.exit (KW.then_exit (KW.then_exit (KW.block_hit (KW.then (CW.seq ?_)))))
        refine CW.draws (by kernel_rfl) (by kernel_rfl) rfl rfl ?_
        refine HW.pp (PEv.loadA Tryz.isAgg27 Tryz.sizeOf27 (hsz) (.tmp rfl) (hB13.agg)) ?_
        refine HW.pp (PEv.loadA Tryz.isAgg24 Tryz.sizeOf24 rfl (.tmp rfl) (hB7.agg)) ?_
        refine HW.qc (ph := .pred fun v w => Sl w v 1 eInt (stopsOf b ac)) (fun _ _ _ h u => Sl.up h u) rfl (fun a w hu ha => ⟨_, _, enter_call0 (.cons (.tmp rfl) (.cons (.tmp rfl) .nil)) (Tryz.en12) a ha, (Stops_any bcx b ac w (hCb.up hu) (Nat.le_trans (hSh 6) (by decide)) (Nat.lt_of_le_of_lt (hSh 7) (by decide)) (Nat.lt_of_le_of_lt (hSh 3) (by decide))).mono fun v w' h => ⟨h.2, h.1.sl (fun _ => rfl)⟩⟩) rfl ?_
        refine HW.pp (PEv.loadA Tryz.isAgg27 Tryz.sizeOf27 (hsz) (.tmp rfl) (hB13.agg)) ?_
        refine HW.pp (PEv.loadA Tryz.isAgg24 Tryz.sizeOf24 rfl (.tmp rfl) (hB7.agg)) ?_
        refine HW.qc (ph := .pred fun v w => Sl w v 1 eInt (stopsOf b ac)) (fun _ _ _ h u => Sl.up h u) rfl (fun a w hu ha => ⟨_, _, enter_call0 (.cons (.tmp rfl) (.cons (.tmp rfl) .nil)) (Tryz.en23) a ha, (rStops_any bcx b ac w (hCb.up hu) (Nat.le_trans (hSh 6) (by decide)) (Nat.le_trans (hSh 7) (by decide)) (Nat.le_trans (hSh 3) (by decide)) hbk hac).mono fun v w' h => ⟨h.2, h.1⟩⟩) rfl ?_
        refine HW.qc (ph := .eq (.bool true)) (phUp.eq _) rfl (fun a w hu ha => ⟨_, _, enter_any2 Tryz.en20 a w, (sameInts_any (a.eval (.tmp 121)) (a.eval (.tmp 124)) (stopsOf b ac) (stopsOf b ac) w (ha.known (p := fun v w => Sl w v 1 eInt (stopsOf b ac)) rfl) (ha.known (p := fun v w => Sl w v 1 eInt (stopsOf b ac)) rfl) (by have h0 := stopsOf_len b ac; have h1 : b.Holds.length ≤ 100000 := hSh 6; omega) (by have h0 := stopsOf_len b ac; have h1 : b.Holds.length ≤ 100000 := hSh 6; omega)).mono fun _ _ h => ⟨h.2, h.1.trans (by rw [decide_eq_true rfl])⟩⟩) rfl ?_
        refine HW.pp (PEv.fa (PEv.not (.tmp rfl)) (rfl)) ?_
        refine HW.nil ?_
        intro w21 uw21
        have zw21 := uw21.size
        replace hW := hW.up uw21
        replace hB7 := hB7.up uw21
        replace hE25 := hE25.up uw21
        replace hC1 := hC1.up uw21
        replace hE31 := hE31.up uw21
        replace hL1 := hL1.up uw21
        replace hCb := hCb.up uw21
        replace hB13 := hB13.up uw21
        replace hL2 := hL2.up uw21
        replace hB68 := hB68.up uw21
        replace hE68 := hE68.up uw21
        replace hL3 := hL3.up uw21
        refine KW.then ?_
        refine CW.cond_false (.tmp rfl) ?_
        refine CW.skip (KW.inBlock (KW.then (CW.region ?_)))
        refine LW.pp (PEv.inc (.tmp rfl) (by omega)) ?_
        refine LW.M rfl (LW.nil (KW.round ?_))
        exact ⟨k + 1, ⟨by omega, hL1⟩, ⟨rfl, rfl, rfl, rfl, rfl, rfl, rfl, trivial⟩, by first | omega | (dsimp only; omega)⟩
   ·first | replace h34 := dT h34 | replace h34 := dF h34 | skip
    refine CW.exit (KW.then_exit (KW.then_exit (KW.block_hit (KW.then (CW.S (LW.M rfl (LW.A rfl (LW.T (CW.ret ?_)))))))))
    refine KW.ret1 rfl rfl ⟨_, rfl, ?_⟩
    exact ⟨rfl, hW⟩
end Go.Proofs.YtolkipbpklkcnaaGreat
end
