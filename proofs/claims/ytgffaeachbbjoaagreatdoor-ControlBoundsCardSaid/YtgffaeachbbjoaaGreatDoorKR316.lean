import Derived.Test.YtgffaeachbbjoaaGreatDoorKR315
section
namespace Go.Proofs.YtgffaeachbbjoaaGreatDoor
open Go.Wx Go.RowKit
set_option maxHeartbeats 4000000 in
theorem ControlBounds_any (ad : Option Addr) (cp : Nat) (xs : List I6) (tool chamber recipe factor : Int) (w : World) (hE1 : Els w ad 6 I6.cells xs) (hf : inI factor) : Ret Tryz.prog 7 #[.slice ad xs.length cp, vi tool, vi chamber, vi recipe, vi factor] w fun r w' => r = .bool true ∧ Up w w' := by
  obtain ⟨w0, rfl⟩ : ∃ w0, w0 = w := ⟨_, rfl⟩
  have hS := Sep.start no w0
  refine Calls_start (n := 144) (m := 9) Tryz.func7 rfl rfl rfl ?_
  refine CW.S (LW.C (LW.S (CW.region ?_)))
  refine LW.c (enter_call0 .nil (Tryz.en10)) rfl rfl rfl rfl (sane_any _) ?_
  rintro _ w1 ⟨rfl, uw1⟩
  have zw1 := uw1.size
  replace hS := hS.up uw1
  refine LW.A rfl (LW.S (CW.region (LW.M rfl ?_)))
  refine LW.c (enter_call0 (.cons (.tmp rfl) .nil) (Tryz.en22)) rfl rfl rfl rfl (Some_any ad cp xs _ (Els.up hE1 hS.upd)) ?_
  rintro v22 w2 ⟨hO22, uw2⟩
  have zw2 := uw2.size
  replace hS := hS.add uw2 (A' := aOwn 50 19 Fact.cells v22 (soL xs)) (hO22.mono (Nat.zero_le _)) (fun i h => hO22.base i h)
  change Wx.Sep _ _ _ [_] at hS
  clear hO22
  obtain ⟨ad22, cp22, rfl, _⟩ := (hS.own 0 rfl).sl (fun _ => rfl)
  have hl22 := soL_len xs
  refine LW.A rfl (LW.S (CW.region (LW.M rfl ?_)))
  refine LW.c (enter_call0 (.cons (.tmp rfl) (.cons (.const _) .nil)) (Tryz.en13)) rfl rfl rfl rfl (pick_any _ _ _ (by decide)) ?_
  rintro _ w3 ⟨rfl, uw3⟩
  have zw3 := uw3.size
  replace hS := hS.up uw3
  have hf := pick_range (c := factor) (n := 16000) hf (by decide)
  obtain ⟨f, ef⟩ : ∃ f, f = pickI factor 16000 := ⟨_, rfl⟩
  rw [← ef] at hf ⊢
  refine LW.pp (PEv.add_w (.const _) (.tmp rfl)) ?_
  refine LW.A rfl (LW.S (CW.seq ?_))
  obtain ⟨fac, ef⟩ : ∃ x, x = IntKind.i64.wrap (1 + f) := ⟨_, rfl⟩
  rw [← ef]
  refine CW.region (LW.C (LW.T (CW.block ?_)))
  refine CW.loopB (σ := Nat) (fun s w => (s ≤ (soL xs).length) ∧ (Wx.Sep no w0 w [aOwn 50 19 Fact.cells (.slice ad22 (soL xs).length cp22) (updL (enlF fac) (soL xs) s)])) (fun s => [(13, .eq (vi (s : Int)))]) ([(1, .eq _), (2, .eq _), (3, .eq _), (4, .eq _), (10, .eq _), (11, .eq _), (12, .eq _)]) (fun s => (soL xs).length - s) 0 ?_ ⟨rfl, rfl, rfl, rfl, rfl, rfl, rfl, rfl, trivial⟩ ?_
  ·exact ⟨Nat.zero_le _, hS⟩
  ·rintro k w4 ⟨hk, hS⟩
   refine CW.seq (CW.S (LW.M rfl (LW.M rfl ?_)))
   refine LW.pp (PEv.lenS Tryz.underlying22 (.tmp rfl)) ?_
   refine LW.pp (PEv.lss (.tmp rfl) (.tmp rfl)) ?_
   refine LW.T ?_
   refine CW.cond (.tmp rfl) (fun h29 => ?_) (fun h29 => ?_)
   ·first | replace h29 := dT h29 | replace h29 := dF h29 | skip
    refine CW.skip (KW.then (CW.seq (CW.block (CW.seq ?_))))
    obtain ⟨x, hx⟩ := getElem?_of_lt (xs := soL xs) (i := k) (by omega)
    obtain ⟨g, rfl⟩ := (hS.own 0 rfl).adr (by rw [updL_len _ _ (by omega)]; omega)
    obtain ⟨Bx, ox, ax, hcx⟩ := ((hS.own 0 rfl).els (fun _ => rfl)) k x (updL_at hx)
    cases ax
    refine CW.region (LW.M rfl (LW.M rfl ?_))
    refine LW.pp (PEv.indexAddr' Tryz.underlying22 Tryz.sizeOf50 (.tmp rfl) (.tmp rfl) (by omega) rfl) ?_
    refine LW.pp (PEv.fieldAddr (off := 0) Tryz.underlying50 rfl rfl Tryz.sizeOf3 rfl (.tmp rfl)) ?_
    refine LW.pp (PEv.load Tryz.isAgg3 (.tmp rfl) (hcx.nth (j := 0) rfl)) ?_
    refine LW.pp (PEv.eql (.tmp rfl) (.const _)) ?_
    refine LW.M rfl ?_
    refine LW.g rfl rfl rfl rfl rfl rfl rfl (fun hc => PEv.move (.tmp rfl)) ?_
    refine LW.g rfl rfl rfl rfl rfl rfl rfl (fun hc => PEv.move (.tmp rfl)) ?_
    refine LW.g rfl rfl rfl rfl rfl rfl rfl (fun hc => PEv.indexAddr' Tryz.underlying22 Tryz.sizeOf50 (by first | exact .tmp rfl | exact .cond rfl (by first | assumption | simp_all)) (by first | exact .tmp rfl | exact .cond rfl (by first | assumption | simp_all)) (by omega) rfl) ?_
    refine LW.g rfl rfl rfl rfl rfl rfl rfl (fun hc => PEv.fieldAddr (off := 0) Tryz.underlying50 rfl rfl Tryz.sizeOf3 rfl (by first | exact .tmp rfl | exact .cond rfl (by first | assumption | simp_all))) ?_
    refine LW.g rfl rfl rfl rfl rfl rfl rfl (fun hc => PEv.load Tryz.isAgg3 (by first | exact .tmp rfl | exact .cond rfl (by first | assumption | simp_all)) (hcx.nth (j := 0) rfl)) ?_
    refine LW.g rfl rfl rfl rfl rfl rfl rfl (fun hc => PEv.eql (by first | exact .tmp rfl | exact .cond rfl (by first | assumption | simp_all)) (.const _)) ?_
    refine LW.pp (PEv.pick_or (.tmp rfl) (fun hp => (by first | exact .const _ | exact .tmp rfl | exact .cond rfl (by first | assumption | (rw [hp]; rfl) | (rw [hc, hp]; rfl) | simp_all)))) ?_
    refine LW.T ?_
    refine CW.cond (.tmp rfl) (fun h45 => ?_) (fun h45 => ?_)
    ·first | replace h45 := dT h45 | replace h45 := dF h45 | skip
     have hkd : x.Kind = 2 ∨ x.Kind = 10 := by simpa using h45
     refine CW.region (LW.M rfl (LW.M rfl (LW.M rfl (LW.M rfl ?_))))
     refine LW.pp (PEv.indexAddr' Tryz.underlying22 Tryz.sizeOf50 (.tmp rfl) (.tmp rfl) (by omega) rfl) ?_
     refine LW.pp (PEv.fieldAddr (off := 16) Tryz.underlying50 rfl rfl Tryz.sizeOf3 rfl (.tmp rfl)) ?_
     refine LW.pp (PEv.load Tryz.isAgg3 (.tmp rfl) (hcx.nth (j := 16) rfl)) ?_
     refine LW.M rfl ?_
     refine LW.pp (PEv.mul_w (.tmp rfl) (.tmp rfl)) ?_
     refine LW.pp (PEv.indexAddr' Tryz.underlying22 Tryz.sizeOf50 (.tmp rfl) (.tmp rfl) (by omega) rfl) ?_
     refine LW.pp (PEv.fieldAddr (off := 16) Tryz.underlying50 rfl rfl Tryz.sizeOf3 rfl (.tmp rfl)) ?_
     have hfx := enl_yes (k := fac) hkd
     refine LW.s (SEv.storeOwnF (enc := Fact.cells) (k := 19) (z := enlF fac x) (i := k) (j := 16) Tryz.sizeOf3 (fun _ => rfl) rfl (.tmp rfl) (.tmp rfl) (hS.own 0 rfl) (updL_at hx) (by decide) (by rw [hfx]; rfl)) rfl rfl rfl ?_
     intro w5 Gw5
     rw [updL_set hx] at Gw5
     have zw5 := Gw5.fr.size
     replace hS := hS.stp 0 rfl Gw5
     change Wx.Sep _ _ _ [_] at hS
     refine LW.nil (KW.inBlock (KW.then (CW.region (LW.M rfl ?_))))
     refine LW.pp (PEv.inc (.tmp rfl) (by omega)) ?_
     refine LW.A rfl (LW.nil (KW.round ?_))
     exact ⟨k + 1, ⟨by omega, by first | exact hS | (rw [updL_skip hx (enl_no hkd)]; exact hS)⟩, ⟨rfl, rfl, rfl, rfl, rfl, rfl, rfl, rfl, trivial⟩, by first | omega | (dsimp only; omega)⟩
    ·first | replace h45 := dT h45 | replace h45 := dF h45 | skip
     have hkd : ¬ (x.Kind = 2 ∨ x.Kind = 10) := by simpa using h45
     refine CW.skip (KW.inBlock (KW.then (CW.region (LW.M rfl ?_))))
     refine LW.pp (PEv.inc (.tmp rfl) (by omega)) ?_
     refine LW.A rfl (LW.nil (KW.round ?_))
     exact ⟨k + 1, ⟨by omega, by first | exact hS | (rw [updL_skip hx (enl_no hkd)]; exact hS)⟩, ⟨rfl, rfl, rfl, rfl, rfl, rfl, rfl, rfl, trivial⟩, by first | omega | (dsimp only; omega)⟩
   ·first | replace h29 := dT h29 | replace h29 := dF h29 | skip
    refine CW.exit (KW.then_exit (KW.then_exit (KW.block_hit (KW.then (CW.seq ?_)))))
    rw [updL_end _ _ (by omega)] at hS
    have hSh := ofB_shortN (l := (soL xs).map (enlF fac)) (n := 100) (by have := soL_len xs; rw [List.length_map]; omega) 10
    refine CW.region (LW.M rfl ?_)
    refine LW.c (enter_call0 (.cons (.tmp rfl) (.cons (.const _) .nil)) (Tryz.en23)) rfl rfl rfl rfl (OfV_any _ _ 10 _ ((hS.own 0 rfl).sl (fun _ => rfl)) (by rw [List.length_map]; omega)) ?_
    rintro _ w6 ⟨bc, rfl, hC, uw6⟩
    have zw6 := uw6.size
    replace hS := hS.up uw6
    refine LW.r (REv.allocA Tryz.zeroValue24) rfl rfl rfl rfl ?_
    rintro _ w7 ⟨B14, rfl, MB14⟩
    refine LW.s (SEv.storeA Tryz.sizeOf24 hC.size (.tmp rfl) (.tmp rfl) hC.one MB14.blk rfl) rfl rfl rfl ?_
    intro w8 LB14
    have NB14 := MB14.set LB14
    clear LB14 MB14
    have eB14 := NB14.at_
    have zB14 := NB14.size
    replace hC := hC.up NB14.up
    replace hS := hS.addB NB14
    change Wx.Sep _ _ _ [_, _] at hS
    refine LW.S ?_
    refine CW.draws_then 9 (by kernel_rfl) (by kernel_rfl) (by kernel_rfl) (by kernel_rfl) (by kernel_rfl) rfl rfl ?_
    refine HW.pp (PEv.loadA Tryz.isAgg24 Tryz.sizeOf24 (hC.size) (.tmp rfl) ((hS.blk 1 rfl).agg)) ?_
    refine HW.pp (PEv.move (.tmp rfl)) ?_
    refine HW.c (fun a w _ ha => enter_call0 (.cons (.tmp rfl) (.cons (.const _) .nil)) (Tryz.en13) a ha) rfl rfl (fun w hu => pick_any tool 2 w (by decide)) ?_
    refine HW.pp (PEv.move (.tmp rfl)) ?_
    refine HW.c (fun a w _ ha => enter_call0 (.cons (.tmp rfl) (.cons (.const _) .nil)) (Tryz.en13) a ha) rfl rfl (fun w hu => pick_any chamber 2 w (by decide)) ?_
    refine HW.pp (PEv.move (.tmp rfl)) ?_
    refine HW.c (fun a w _ ha => enter_call0 (.cons (.tmp rfl) (.cons (.const _) .nil)) (Tryz.en13) a ha) rfl rfl (fun w hu => pick_any recipe 2 w (by decide)) ?_
    refine HW.pp (PEv.add_w (.const _) (.tmp rfl)) ?_
    refine HW.qc (ph := .pred fun v w => DecsE w v (desF (ofB ((soL xs).map (enlF fac)) 10) (pickI tool 2) (pickI chamber 2) (IntKind.i64.wrap (1 + pickI recipe 2)))) (fun _ _ _ h u => DecsE.up h u) rfl (fun a w hu ha => ⟨_, _, enter_call0 (.cons (.tmp rfl) (.cons (.tmp rfl) (.cons (.tmp rfl) (.cons (.tmp rfl) .nil)))) (Tryz.en18) a ha, (DecisionsE_any bc (ofB ((soL xs).map (enlF fac)) 10) (pickI tool 2) (pickI chamber 2) (IntKind.i64.wrap (1 + pickI recipe 2)) w (hC.up hu) (Nat.le_trans (hSh 0) (by decide)) (Nat.le_trans (hSh 8) (by decide)) (Nat.le_trans (hSh 1) (by decide)) (Nat.le_trans (hSh 9) (by decide))).mono fun v w' h => ⟨h.2, h.1⟩⟩) rfl ?_
    refine HW.nil ?_
    intro w9 uw9
    have zw9 := uw9.size
    replace hS := hS.up uw9
    replace hC := hC.up uw9
    refine LW.open (d := 67) rfl fun v67 hp67 => ?_
    obtain ⟨L, ⟨ad67, cp67, rfl, hEL_⟩, hUs_, hm⟩ := hp67
    have hEL : Els _ ad67 6 DP.cells L := hEL_
    have hUs : UsL _ L := hUs_
    clear hEL_ hUs_
    refine LW.A rfl (LW.S (CW.seq ?_))
    have hW := hS.upd
    have hrl : (rnsF (ofB ((soL xs).map (enlF fac)) 10) (pickI tool 2) (pickI chamber 2) (IntKind.i64.wrap (1 + pickI recipe 2))).length ≤ 100 := Nat.le_trans (rnsF_len _ _ _ _) (hSh 0)
    have hLl : L.length = (rnsF (ofB ((soL xs).map (enlF fac)) 10) (pickI tool 2) (pickI chamber 2) (IntKind.i64.wrap (1 + pickI recipe 2))).length := by have h1 := congrArg List.length hm; rwa [List.length_map, desF_len] at h1
    refine CW.region (LW.C (LW.T (CW.block ?_)))
    refine CW.loopB (σ := Nat) (fun s w => (s ≤ L.length) ∧ (Up w9 w)) (fun s => [(16, .eq (vi (s : Int)))]) ([(11, .eq _), (15, .eq _)]) (fun s => L.length - s) 0 ?_ ⟨rfl, rfl, rfl, trivial⟩ ?_
    ·exact ⟨Nat.zero_le _, Up.refl _⟩
    ·rintro i w10 ⟨hi, hL2⟩
     have zzw10 := hL2.size
     replace hW := hW.up hL2
     replace hEL := hEL.up hL2
     replace hUs := hUs.up hL2
     refine CW.seq (CW.S (LW.M rfl (LW.M rfl ?_)))
     refine LW.pp (PEv.lenS Tryz.underlying43 (.tmp rfl)) ?_
     refine LW.pp (PEv.lss (.tmp rfl) (.tmp rfl)) ?_
     refine LW.T ?_
     refine CW.cond (.tmp rfl) (fun h71 => ?_) (fun h71 => ?_)
     ·first | replace h71 := dT h71 | replace h71 := dF h71 | skip
      refine CW.skip (KW.then (CW.seq (CW.block (CW.seq ?_))))
      obtain ⟨x, hx⟩ := getElem?_of_lt (xs := L) (i := i) (by omega)
      obtain ⟨Bx, ox, ax, hcx⟩ := hEL i x hx
      have hb := bd_at hm (by omega) hx
      have hul : x.dec.uses.length ≤ 100 := Nat.le_trans (desF_uses _ _ _ _ _ (List.mem_of_getElem? (dp_at hm hx))) hrl
      refine CW.region (LW.M rfl (LW.M rfl ?_))
      refine LW.pp (PEv.indexAddr' Tryz.underlying43 Tryz.sizeOf37 (.tmp rfl) (.tmp rfl) (by omega) ax) ?_
      refine LW.pp (PEv.fieldAddr (off := 1) Tryz.underlying37 rfl rfl Tryz.sizeOf34 rfl (.tmp rfl)) ?_
      refine LW.pp (PEv.loadA Tryz.isAgg34 Tryz.sizeOf34 rfl (.tmp rfl) (dp_par hcx)) ?_
      refine LW.r (REv.allocA Tryz.zeroValue34) rfl rfl rfl rfl ?_
      rintro _ w11 ⟨B17, rfl, MB17⟩
      refine LW.s (SEv.storeA Tryz.sizeOf34 rfl (.tmp rfl) (.tmp rfl) (Rt.one _) MB17.blk rfl) rfl rfl rfl ?_
      intro w12 LB17
      have NB17 := MB17.set LB17
      clear LB17 MB17
      have eB17 := NB17.at_
      have zB17 := NB17.size
      replace hW := hW.up NB17.up
      replace hEL := hEL.up NB17.up
      replace hUs := hUs.up NB17.up
      replace hL2 := hL2.up NB17.up
      replace hcx := hcx.up NB17.up
      have hB17 := NB17.blk
      refine LW.S (CW.S ?_)
      refine LW.pp (PEv.loadA Tryz.isAgg34 Tryz.sizeOf34 rfl (.tmp rfl) (hB17.agg)) ?_
      refine LW.c (enter_call0 (.cons (.tmp rfl) .nil) (Tryz.en29)) rfl rfl rfl rfl (validR_any x.dec.par _ hb.1) ?_
      rintro _ w13 ⟨rfl, uw13⟩
      have zw13 := uw13.size
      replace hW := hW.up uw13
      replace hEL := hEL.up uw13
      replace hUs := hUs.up uw13
      replace hL2 := hL2.up uw13
      replace hcx := hcx.up uw13
      replace hB17 := hB17.up uw13
      refine LW.pp (PEv.not (.tmp rfl)) ?_
      refine LW.M rfl ?_
      refine LW.Y ?_
      refine LW.pp (PEv.fieldAddr (off := 1) Tryz.underlying34 rfl rfl Tryz.sizeOf3 rfl (.tmp rfl)) ?_
      refine LW.Y ?_
      refine LW.pp (PEv.load Tryz.isAgg3 (.tmp rfl) (hB17.celln rfl)) ?_
      refine LW.Y ?_
      refine LW.pp (PEv.rem (.const _) (.tmp rfl) (by omega)) ?_
      refine LW.Y ?_
      refine LW.pp (PEv.fa (PEv.neq (.tmp rfl) (.const _)) (by rw [wd_mod hb.2.1]; rfl)) ?_
      refine LW.pp (PEv.pick_or (.tmp rfl) (fun hp => (by first | exact .const _ | exact .tmp rfl | exact .cond rfl (by first | assumption | (rw [hp]; rfl) | (rw [hc, hp]; rfl) | simp_all)))) ?_
      refine LW.M rfl ?_
      refine LW.Y ?_
      refine LW.pp (PEv.fieldAddr (off := 0) Tryz.underlying34 rfl rfl Tryz.sizeOf3 rfl (.tmp rfl)) ?_
      refine LW.Y ?_
      refine LW.pp (PEv.load Tryz.isAgg3 (.tmp rfl) (hB17.celln rfl)) ?_
      refine LW.Y ?_
      refine LW.pp (PEv.fieldAddr (off := 1) Tryz.underlying34 rfl rfl Tryz.sizeOf3 rfl (.tmp rfl)) ?_
      refine LW.Y ?_
      refine LW.pp (PEv.load Tryz.isAgg3 (.tmp rfl) (hB17.celln rfl)) ?_
      refine LW.Y ?_
      refine LW.pp (PEv.mul_w (.const _) (.tmp rfl)) ?_
      refine LW.Y ?_
      refine LW.pp (PEv.fa (PEv.gtr (.tmp rfl) (.tmp rfl)) (by rw [wd_hi hb.2.1]; exact decide_eq_false (by have := hb.2.2.2.1; omega))) ?_
      refine LW.pp (PEv.pick_or (.tmp rfl) (fun hp => (by first | exact .const _ | exact .tmp rfl | exact .cond rfl (by first | assumption | (rw [hp]; rfl) | (rw [hc, hp]; rfl) | simp_all)))) ?_
      refine LW.M rfl ?_
      refine LW.Y ?_
      refine LW.pp (PEv.fieldAddr (off := 0) Tryz.underlying34 rfl rfl Tryz.sizeOf3 rfl (.tmp rfl)) ?_
      refine LW.Y ?_
      refine LW.pp (PEv.load Tryz.isAgg3 (.tmp rfl) (hB17.celln rfl)) ?_
      refine LW.Y ?_
      refine LW.pp (PEv.fieldAddr (off := 1) Tryz.underlying34 rfl rfl Tryz.sizeOf3 rfl (.tmp rfl)) ?_
      refine LW.Y ?_
      refine LW.pp (PEv.load Tryz.isAgg3 (.tmp rfl) (hB17.celln rfl)) ?_
      refine LW.Y ?_
      refine LW.pp (PEv.mul_w (.const _) (.tmp rfl)) ?_
      refine LW.Y ?_
      refine LW.pp (PEv.fa (PEv.lss (.tmp rfl) (.tmp rfl)) (by rw [wd_lo hb.2.1]; exact decide_eq_false (by have := hb.2.2.1; omega))) ?_
      refine LW.pp (PEv.pick_or (.tmp rfl) (fun hp => (by first | exact .const _ | exact .tmp rfl | exact .cond rfl (by first | assumption | (rw [hp]; rfl) | (rw [hc, hp]; rfl) | simp_all)))) ?_
      refine LW.T ?_
      refine CW.cond_false (.tmp rfl) ?_
      refine CW.skip (KW.then (CW.S (LW.C (LW.S (CW.S (LW.C (LW.T (CW.block ?_))))))))
      refine CW.loopB (σ := Nat × Nat) (fun s w => (s.2 ≤ i) ∧ (s.1 ≤ x.dec.uses.length) ∧ (grd x.dec.uses ((((rnsF (ofB ((soL xs).map (enlF fac)) 10) (pickI tool 2) (pickI chamber 2) (IntKind.i64.wrap (1 + pickI recipe 2))).map (·.ID)).take i).drop s.2) s.1 = x.dec.uses.length) ∧ (Up w13 w)) (fun s => [(18, .eq (vi (s.1 : Int))), (19, .eq (vi (s.2 : Int)))]) ([(11, .eq _), (15, .eq _), (16, .eq _)]) (fun s => i - s.2) (0, 0) ?_ ⟨rfl, rfl, rfl, rfl, rfl, trivial⟩ ?_
      ·exact ⟨Nat.zero_le _, Nat.zero_le _, hb.2.2.2.2, Up.refl _⟩
      ·rintro ⟨a, k⟩ w14 ⟨hki, ha, hg, hL3⟩
       dsimp only at hki ha hg
       change CW _ _ _ _ _ _ _ ([(18, .eq (vi (a : Int))), (19, .eq (vi (k : Int)))] ++ _) _
       have zzw14 := hL3.size
       replace hW := hW.up hL3
       replace hEL := hEL.up hL3
       replace hUs := hUs.up hL3
       replace hL2 := hL2.up hL3
       replace hcx := hcx.up hL3
       replace hB17 := hB17.up hL3
       refine CW.seq (CW.S (LW.M rfl (LW.M rfl ?_)))
       refine LW.pp (PEv.lss (.tmp rfl) (.tmp rfl)) ?_
       refine LW.M rfl ?_
       refine LW.g rfl rfl rfl rfl rfl rfl rfl (fun hc => PEv.move (.tmp rfl)) ?_
       refine LW.g rfl rfl rfl rfl rfl rfl rfl (fun hc => PEv.move (.tmp rfl)) ?_
       refine LW.g rfl rfl rfl rfl rfl rfl rfl (fun hc => PEv.move (.tmp rfl)) ?_
       refine LW.g rfl rfl rfl rfl rfl rfl rfl (fun hc => PEv.indexAddr' Tryz.underlying43 Tryz.sizeOf37 (by first | exact .tmp rfl | exact .cond rfl (by first | assumption | simp_all)) (by first | exact .tmp rfl | exact .cond rfl (by first | assumption | simp_all)) (by omega) ax) ?_
       refine LW.g rfl rfl rfl rfl rfl rfl rfl (fun hc => PEv.fieldAddr (off := 5) Tryz.underlying37 rfl rfl Tryz.sizeOf35 rfl (by first | exact .tmp rfl | exact .cond rfl (by first | assumption | simp_all))) ?_
       refine LW.g rfl rfl rfl rfl rfl rfl rfl (fun hc => PEv.load Tryz.isAgg35 (by first | exact .tmp rfl | exact .cond rfl (by first | assumption | simp_all)) (dp_uses hcx)) ?_
       refine LW.g rfl rfl rfl rfl rfl rfl rfl (fun hc => PEv.lenS Tryz.underlying35 (by first | exact .tmp rfl | exact .cond rfl (by first | assumption | simp_all))) ?_
       refine LW.g rfl rfl rfl rfl rfl rfl rfl (fun hc => PEv.lss (by first | exact .tmp rfl | exact .cond rfl (by first | assumption | simp_all)) (by first | exact .tmp rfl | exact .cond rfl (by first | assumption | simp_all))) ?_
       refine LW.pp (PEv.pick_and (.tmp rfl) (fun hp => (by first | exact .const _ | exact .tmp rfl | exact .cond rfl (by first | assumption | (rw [hp]; rfl) | (rw [hc, hp]; rfl) | simp_all)))) ?_
       refine LW.T ?_
       refine CW.cond (.tmp rfl) (fun h116 => ?_) (fun h116 => ?_)
       ·first | replace h116 := dT h116 | replace h116 := dF h116 | skip
        have hkl : k < i ∧ a < x.dec.uses.length := by simp at h116; omega
        refine CW.skip (KW.then (CW.seq (CW.block (CW.seq ?_))))
        obtain ⟨adu, cpu, eu, hEu⟩ := hUs x (List.mem_of_getElem? hx)
        cases eu
        obtain ⟨u, hu⟩ := getElem?_of_lt (xs := x.dec.uses) (i := a) (by omega)
        obtain ⟨Bu, ou, au, hcu⟩ := hEu a u hu
        obtain ⟨y, hy⟩ := getElem?_of_lt (xs := L) (i := k) (by omega)
        obtain ⟨By, oy, ay, hcy⟩ := hEL k y hy
        have hyr := run_at hm hy hkl.1
        refine CW.draws (by kernel_rfl) (by kernel_rfl) rfl rfl ?_
        refine HW.pp (PEv.move (.tmp rfl)) ?_
        refine HW.pp (PEv.move (.tmp rfl)) ?_
        refine HW.pp (PEv.indexAddr' Tryz.underlying43 Tryz.sizeOf37 (.tmp rfl) (.tmp rfl) (by omega) ax) ?_
        refine HW.pp (PEv.fieldAddr (off := 5) Tryz.underlying37 rfl rfl Tryz.sizeOf35 rfl (.tmp rfl)) ?_
        refine HW.pp (PEv.load Tryz.isAgg35 (.tmp rfl) (dp_uses hcx)) ?_
        refine HW.pp (PEv.move (.tmp rfl)) ?_
        refine HW.pp (PEv.indexAddr' Tryz.underlying35 Tryz.sizeOf3 (.tmp rfl) (.tmp rfl) (by omega) au) ?_
        refine HW.pp (PEv.load Tryz.isAgg3 (.tmp rfl) (hcu.nth (j := 0) rfl)) ?_
        refine HW.pp (PEv.move (.tmp rfl)) ?_
        refine HW.pp (PEv.move (.tmp rfl)) ?_
        refine HW.pp (PEv.indexAddr' Tryz.underlying43 Tryz.sizeOf37 (.tmp rfl) (.tmp rfl) (by omega) ay) ?_
        refine HW.pp (PEv.fieldAddr (off := 0) Tryz.underlying37 rfl rfl Tryz.sizeOf3 rfl (.tmp rfl)) ?_
        refine HW.pp (PEv.load Tryz.isAgg3 (.tmp rfl) (dp_run hcy)) ?_
        refine HW.pp (PEv.eql (.tmp rfl) (.tmp rfl)) ?_
        refine HW.nil ?_
        intro w15 uw15
        have zw15 := uw15.size
        replace hW := hW.up uw15
        replace hEL := hEL.up uw15
        replace hUs := hUs.up uw15
        replace hL2 := hL2.up uw15
        replace hcx := hcx.up uw15
        replace hB17 := hB17.up uw15
        replace hL3 := hL3.up uw15
        refine KW.then ?_
        refine CW.cond (.tmp rfl) (fun h132 => ?_) (fun h132 => ?_)
        ·first | replace h132 := dT h132 | replace h132 := dF h132 | skip
         have hur : u = y.dec.run := by simpa using h132
         subst hur
         refine CW.region (LW.M rfl ?_)
         refine LW.pp (PEv.inc (.tmp rfl) (by omega)) ?_
         refine LW.A rfl (LW.nil (KW.inBlock (KW.then (CW.region (LW.M rfl ?_)))))
         refine LW.pp (PEv.inc (.tmp rfl) (by omega)) ?_
         refine LW.A rfl (LW.nil (KW.round ?_))
         first | exact ⟨(a + 1, k + 1), ⟨by show k + 1 ≤ i; omega, by show a + 1 ≤ _; omega, (grd_yes hyr hu).symm.trans hg, hL3⟩, ⟨rfl, rfl, rfl, rfl, rfl, trivial⟩, by show i - (k + 1) < i - k; omega⟩ | exact ⟨(a, k + 1), ⟨by show k + 1 ≤ i; omega, by show a ≤ _; omega, (grd_no hyr hu hur).symm.trans hg, hL3⟩, ⟨rfl, rfl, rfl, rfl, rfl, trivial⟩, by show i - (k + 1) < i - k; omega⟩
        ·first | replace h132 := dT h132 | replace h132 := dF h132 | skip
         have hur : ¬ u = y.dec.run := by simpa using h132
         refine CW.skip (KW.inBlock (KW.then (CW.region (LW.M rfl ?_))))
         refine LW.pp (PEv.inc (.tmp rfl) (by omega)) ?_
         refine LW.A rfl (LW.nil (KW.round ?_))
         first | exact ⟨(a + 1, k + 1), ⟨by show k + 1 ≤ i; omega, by show a + 1 ≤ _; omega, (grd_yes hyr hu).symm.trans hg, hL3⟩, ⟨rfl, rfl, rfl, rfl, rfl, trivial⟩, by show i - (k + 1) < i - k; omega⟩ | exact ⟨(a, k + 1), ⟨by show k + 1 ≤ i; omega, by show a ≤ _; omega, (grd_no hyr hu hur).symm.trans hg, hL3⟩, ⟨rfl, rfl, rfl, rfl, rfl, trivial⟩, by show i - (k + 1) < i - k; omega⟩
       ·first | replace h116 := dT h116 | replace h116 := dF h116 | skip
        have hkl : ¬ (k < i ∧ a < x.dec.uses.length) := by simp at h116; omega
        refine CW.exit (KW.then_exit (KW.then_exit (KW.block_hit (KW.then (CW.seq ?_)))))
        have hend := grd_end hkl ha hg
        refine CW.region (LW.M rfl (LW.M rfl (LW.M rfl ?_)))
        refine LW.pp (PEv.indexAddr' Tryz.underlying43 Tryz.sizeOf37 (.tmp rfl) (.tmp rfl) (by omega) ax) ?_
        refine LW.pp (PEv.fieldAddr (off := 5) Tryz.underlying37 rfl rfl Tryz.sizeOf35 rfl (.tmp rfl)) ?_
        refine LW.pp (PEv.load Tryz.isAgg35 (.tmp rfl) (dp_uses hcx)) ?_
        refine LW.pp (PEv.lenS Tryz.underlying35 (.tmp rfl)) ?_
        refine LW.pp (PEv.fa (PEv.neq (.tmp rfl) (.tmp rfl)) (by rw [hend]; simp)) ?_
        refine LW.T ?_
        refine CW.cond_false (.tmp rfl) ?_
        refine CW.skip (KW.inBlock (KW.then (CW.region (LW.M rfl ?_))))
        refine LW.pp (PEv.inc (.tmp rfl) (by omega)) ?_
        refine LW.A rfl (LW.nil (KW.round ?_))
        exact ⟨i + 1, ⟨by omega, hL2⟩, ⟨rfl, rfl, rfl, trivial⟩, by first | omega | (dsimp only; omega)⟩
     ·first | replace h71 := dT h71 | replace h71 := dF h71 | skip
      refine CW.exit (KW.then_exit (KW.then_exit (KW.block_hit (KW.then (CW.S (LW.M rfl (LW.A rfl (LW.T (CW.ret ?_)))))))))
      refine KW.ret1 rfl rfl ⟨_, rfl, ?_⟩
      exact ⟨rfl, hW⟩
end Go.Proofs.YtgffaeachbbjoaaGreatDoor
end
