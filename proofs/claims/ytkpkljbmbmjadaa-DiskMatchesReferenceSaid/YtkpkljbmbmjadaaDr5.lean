import Derived.Test.YtkpkljbmbmjadaaDr4
import Derived.Test.YtkpkljbmbmjadaaBm
import Derived.Test.YtkpkljbmbmjadaaRz
namespace Go.Proofs.Ytkpkljbmbmjadaa
open Go.Wx Go.RowKit
set_option maxHeartbeats 2000000 in
theorem DiskMatchesReference_any (size : Int) (ad : Option Addr) (cp : Nat) (l : List SPar) (w : World) (hs : inI size) (hE0 : Els w ad 5 SPar.cells l) (hl : ∀ x ∈ l, SPOk w x) : Ret Try.prog 4 #[vi size, .slice ad l.length cp] w fun r w' => r = .bool true ∧ Up w w' := by
  obtain ⟨w0, rfl⟩ : ∃ w0, w0 = w := ⟨_, rfl⟩
  have hS := Sep.start no w0
  refine Calls_start (n := 90) (m := 9) Try.func4 rfl rfl rfl ?_
  refine CW.seq (CW.region (LW.p (PEv.assign (.const _)) rfl rfl rfl (LW.nil (KW.then (CW.seq (CW.region ?_))))))
  refine LW.c (enter_call0 .nil (Try.en12)) rfl rfl rfl rfl (sane_any _) ?_
  rintro _ w1 ⟨rfl, uw1⟩
  have zw1 := uw1.size
  replace hS := hS.up uw1
  refine LW.p (PEv.assign (.tmp rfl)) rfl rfl rfl (LW.nil (KW.then (CW.seq (CW.region (LW.p (PEv.move (.tmp rfl)) rfl rfl rfl ?_)))))
  refine LW.c (enter_call0 (.cons (.tmp rfl) (.cons (.const _) .nil)) (Try.en15)) rfl rfl rfl rfl (pick_any _ _ _ hs (by decide)) ?_
  rintro _ w2 ⟨rfl, uw2⟩
  have zw2 := uw2.size
  replace hS := hS.up uw2
  obtain ⟨hp0, hp1⟩ := pick_range (c := size) (n := 400) hs (by decide)
  obtain ⟨p, hp⟩ : ∃ p : Nat, pickI size 400 = p := ⟨(pickI size 400).toNat, by omega⟩
  rw [hp]
  refine LW.p (PEv.addN (i := 1) (.const _) (.tmp rfl) (by omega)) rfl rfl rfl ?_
  refine LW.p (PEv.assign (.tmp rfl)) rfl rfl rfl (LW.nil (KW.then (CW.seq (CW.region (LW.p (PEv.move (.tmp rfl)) rfl rfl rfl ?_)))))
  refine LW.c (enter_call0 (.cons (.tmp rfl) .nil) (Try.en13)) rfl rfl rfl rfl (New_ok (1 + p) _ (by omega) (by omega)) ?_
  rintro _ w3 ⟨D0, rfl, hD0, hDf, uw3⟩
  have zw3 := uw3.size
  replace hS := hS.add uw3 (A' := aDisk D0 (newS (1 + p))) (hD0) (hDf)
  change Wx.Sep _ _ _ [_] at hS
  obtain ⟨n, hn⟩ : ∃ n, n = 1 + p := ⟨_, rfl⟩
  rw [← hn] at hS ⊢
  refine LW.p (PEv.move (.tmp rfl)) rfl rfl rfl (LW.p (PEv.extract (.tmp rfl) rfl) rfl rfl rfl (LW.p (PEv.extract (.tmp rfl) rfl) rfl rfl rfl (LW.p (PEv.assign (.tmp rfl)) rfl rfl rfl (LW.p (PEv.assign (.tmp rfl)) rfl rfl rfl (LW.nil (KW.then (CW.seq (CW.region (LW.p (PEv.move (.tmp rfl)) rfl rfl rfl ?_)))))))))
  refine LW.c (enter_call0 (.cons (.tmp rfl) .nil) (Try.en18)) rfl rfl rfl rfl (rNew_any n _ (by omega) (by omega)) ?_
  rintro _ w4 ⟨R0, rfl, hR0, hRf, uw4⟩
  have zw4 := uw4.size
  replace hS := hS.add uw4 (A' := aRef R0 (newS n)) (hR0) (hRf)
  change Wx.Sep _ _ _ [_, _] at hS
  refine LW.p (PEv.move (.tmp rfl)) rfl rfl rfl (LW.p (PEv.extract (.tmp rfl) rfl) rfl rfl rfl (LW.p (PEv.extract (.tmp rfl) rfl) rfl rfl rfl (LW.p (PEv.assign (.tmp rfl)) rfl rfl rfl (LW.p (PEv.assign (.tmp rfl)) rfl rfl rfl (LW.nil (KW.then (CW.seq (CW.seq (CW.region (LW.p (PEv.move (.tmp rfl)) rfl rfl rfl ?_))))))))))
  refine LW.p (PEv.fa (PEv.neq (.tmp rfl) (.const _)) (rfl)) rfl rfl rfl ?_
  refine LW.p (PEv.move (.tmp rfl)) rfl rfl rfl ?_
  refine LW.yes rfl rfl rfl rfl rfl rfl ?_
  refine LW.p (PEv.move (.tmp rfl)) rfl rfl rfl ?_
  refine LW.yes rfl rfl rfl rfl rfl rfl ?_
  refine LW.p (PEv.fa (PEv.neq (.tmp rfl) (.const _)) (rfl)) rfl rfl rfl ?_
  refine LW.p (PEv.pick_or (.tmp rfl) (fun hp => (by first | exact .const _ | exact .tmp rfl | exact .cond rfl (by first | assumption | simp_all)))) rfl rfl rfl ?_
  refine LW.nil (KW.then ?_)
  refine CW.cond_false (.tmp rfl) ?_
  refine CW.skip (KW.then (CW.seq (CW.seq ?_)))
  replace hS := Wx.Sep.fold (Bs := []) (As := [aDisk D0 (newS n), aRef R0 (newS n)]) (rest := []) hS
  change Wx.Sep no w0 _ [aTwo D0 R0 (newS n)] at hS
  refine CW.region (LW.p (PEv.assign (.const _)) rfl rfl rfl (LW.nil (KW.then (CW.block ?_))))
  refine CW.loopB (σ := Nat × Dk × Rf × DS) (fun s w => (s.1 ≤ l.length ∧ s.1 ≤ 60) ∧ (s.2.1.bd = D0.bd) ∧ (s.2.2.1.bd = R0.bd) ∧ (s.2.2.2.vis = applyAll s.2.2.2.dur s.2.2.2.pend) ∧ (s.2.2.2.dur.length = n) ∧ (s.2.2.2.pend.length ≤ s.1) ∧ (Wx.Sep no w0 w [aTwo s.2.1 s.2.2.1 s.2.2.2])) (fun s => [(10, .eq (vi (s.1 : Int)))]) ([(0, .eq _), (1, .eq _), (5, .eq _), (6, .eq _), (8, .eq _)]) (fun s => l.length - s.1) (0, D0, R0, newS n) ?_ ⟨rfl, rfl, rfl, rfl, rfl, rfl, trivial⟩ ?_
  ·exact ⟨⟨Nat.zero_le _, by omega⟩, rfl, rfl, rfl, by simp [newS], Nat.zero_le _, hS⟩
  ·rintro ⟨k, D, R, z⟩ w5 ⟨hkk, hd, hr, hz, hnz, hpn, hS⟩
   dsimp only at hkk hd hr hz hnz hpn hS
   refine CW.seq (CW.seq (CW.region (LW.p (PEv.move (.tmp rfl)) rfl rfl rfl (LW.p (PEv.move (.tmp rfl)) rfl rfl rfl ?_))))
   refine LW.p (PEv.lenS Try.underlying32 (.tmp rfl)) rfl rfl rfl ?_
   refine LW.p (PEv.lss (.tmp rfl) (.tmp rfl)) rfl rfl rfl ?_
   refine LW.p (PEv.move (.tmp rfl)) rfl rfl rfl ?_
   refine LW.g rfl rfl rfl rfl rfl rfl rfl (fun hc => PEv.move (.tmp rfl)) ?_
   refine LW.g rfl rfl rfl rfl rfl rfl rfl (fun hc => PEv.lss (by first | exact .tmp rfl | exact .cond rfl (by first | assumption | simp_all)) (.const _)) ?_
   refine LW.p (PEv.pick_and (.tmp rfl) (fun hp => (by first | exact .const _ | exact .tmp rfl | exact .cond rfl (by first | assumption | simp_all)))) rfl rfl rfl ?_
   refine LW.nil (KW.then ?_)
   refine CW.cond (.tmp rfl) (fun h42 => ?_) (fun h42 => ?_)
   ·first | replace h42 := of_decide_eq_true h42 | replace h42 := of_decide_eq_false h42 | skip
    refine CW.skip (KW.then (CW.seq (CW.block (CW.seq (CW.seq ?_)))))
    have hkl : k < l.length ∧ k < 60 := by simp at h42; omega
    obtain ⟨x, hx⟩ := getElem?_of_lt (xs := l) (i := k) (by omega)
    have hxl := hl x (List.mem_of_getElem? hx)
    obtain ⟨Bx, ox, ax, hcx⟩ := (Els.up hE0 hS.upd) k x hx
    have hok := ok_of (two_d (hS.get 0 rfl))
    refine CW.draws_mid 6 (fun v W => v = .bool true ∧ ∃ D' R', D'.bd = D0.bd ∧ R'.bd = R0.bd ∧ Wx.Sep no w0 W [aTwo D' R' (stepS z x)]) (by kernel_rfl) (by kernel_rfl) (by kernel_rfl) (by kernel_rfl) rfl rfl rfl rfl rfl ?_
    refine HW.p (PEv.move (.tmp rfl)) rfl rfl ?_
    refine HW.p (PEv.move (.tmp rfl)) rfl rfl ?_
    refine HW.p (PEv.move (.tmp rfl)) rfl rfl ?_
    refine HW.p (PEv.move (.tmp rfl)) rfl rfl ?_
    refine HW.p (PEv.indexAddr' Try.underlying32 Try.sizeOf39 (.tmp rfl) (.tmp rfl) (by omega) ax) rfl rfl ?_
    refine HW.p (PEv.loadA Try.isAgg39 Try.sizeOf39 rfl (.tmp rfl) (hcx)) rfl rfl ?_
    refine HW.nil ⟨fun a w' hu ha => ?_, ?_⟩
    ·skip
     refine .inr ⟨_, _, w', enter_call0 (.cons (.tmp rfl) (.cons (.tmp rfl) (.cons (.tmp rfl) .nil))) (Try.en19) a ha, (step_b D0.bd R0.bd D R z x _ ((hS.up hu).get 0 rfl) hd hr hz (by omega) hxl.1 hxl.2.2.1.2 hxl.2.2.2.2 (fun W hf => Els.up hxl.2.2.2.1 (Up.frz (hS.up hu).upd hf fun i hi => ((hS.up hu).foot 0 rfl i hi).resolve_left (fun h => h)))).mono fun v w'' h => ?_⟩
     obtain ⟨h1, D', R', h2, h3, h4⟩ := h
     exact ⟨h1, D', R', h2, h3, (hS.up hu).stp 0 rfl h4⟩
    intro v51 w6
    rintro ⟨rfl, D2, R2, hd2, hr2, hS⟩
    obtain ⟨hz2, hn2, hp2⟩ := coh_step hz hok hnz hpn x
    obtain ⟨z2, ez2⟩ : ∃ z2, z2 = stepS z x := ⟨_, rfl⟩
    rw [← ez2] at hS hz2 hn2 hp2
    clear ez2
    have hBr := (aAnd_open (two_r (hS.get 0 rfl))).blk 0 rfl
    rw [hr2] at hBr
    obtain ⟨al, cpl, el, _⟩ := ((aAnd_open (two_r (hS.get 0 rfl))).own 2 rfl).sl (fun _ => rfl)
    refine HW.p (PEv.fa (PEv.not (.tmp rfl)) (rfl)) rfl rfl ?_
    refine HW.p (PEv.move (.tmp rfl)) rfl rfl ?_
    refine HW.yp rfl rfl rfl rfl rfl (PEv.move (.tmp rfl)) rfl ?_
    refine HW.yc rfl rfl rfl rfl rfl (fun a w _ ha => enter_call0 (.cons (.tmp rfl) .nil) (Try.en17) a ha) rfl (fun w hu => Pending_b _ D2 z2 w (two_d ((hS.up hu).get 0 rfl)) hd2) ?_
    refine HW.yp rfl rfl rfl rfl rfl (PEv.move (.tmp rfl)) rfl ?_
    refine HW.yp rfl rfl rfl rfl rfl (PEv.nilCheck (.tmp rfl)) rfl ?_
    refine HW.yp rfl rfl rfl rfl rfl (PEv.fieldAddr (off := 1) Try.underlying43 rfl rfl Try.sizeOf41 rfl (.tmp rfl)) rfl ?_
    refine HW.yp rfl rfl rfl rfl rfl (PEv.val (v' := .slice al z2.pend.length cpl) (PEv.load Try.isAgg41 (.tmp rfl) (hBr.celln rfl)) el) rfl ?_
    refine HW.yp rfl rfl rfl rfl rfl (PEv.lenS Try.underlying41 (.tmp rfl)) rfl ?_
    refine HW.yp rfl rfl rfl rfl rfl (PEv.fa (PEv.neq (.tmp rfl) (.tmp rfl)) (by simp)) rfl ?_
    refine HW.p (PEv.pick_or (.tmp rfl) (fun hp => (by first | exact .const _ | exact .tmp rfl | exact .cond rfl (by first | assumption | simp_all)))) rfl rfl ?_
    refine HW.p (PEv.move (.tmp rfl)) rfl rfl ?_
    refine HW.yp rfl rfl rfl rfl rfl (PEv.move (.tmp rfl)) rfl ?_
    refine HW.yc rfl rfl rfl rfl rfl (fun a w _ ha => enter_call0 (.cons (.tmp rfl) .nil) (Try.en16) a ha) rfl (fun w hu => Size_b _ D2 z2 w (two_d ((hS.up hu).get 0 rfl)) hd2) ?_
    refine HW.yp rfl rfl rfl rfl rfl (PEv.move (.tmp rfl)) rfl ?_
    refine HW.yp rfl rfl rfl rfl rfl (PEv.fa (PEv.neq (.tmp rfl) (.tmp rfl)) (by simp [hn2])) rfl ?_
    refine HW.p (PEv.pick_or (.tmp rfl) (fun hp => (by first | exact .const _ | exact .tmp rfl | exact .cond rfl (by first | assumption | simp_all)))) rfl rfl ?_
    refine HW.nil ?_
    intro w7 uw7
    have zw7 := uw7.size
    replace hS := hS.up uw7
    refine KW.then ?_
    refine CW.cond_false (.tmp rfl) ?_
    refine CW.skip (KW.then (CW.seq (CW.region (LW.p (PEv.move (.tmp rfl)) rfl rfl rfl (LW.p (PEv.move (.tmp rfl)) rfl rfl rfl ?_)))))
    refine LW.c (enter_call0 (.cons (.tmp rfl) (.cons (.const _) (.cons (.tmp rfl) .nil))) (Try.en14)) rfl rfl rfl rfl (Read_b _ D2 z2 _ (two_d (hS.get 0 rfl)) hd2 0 (n : Int)) ?_
    rintro _ w8 ⟨rfl, uw8⟩
    have zw8 := uw8.size
    replace hS := hS.up uw8
    refine LW.p (PEv.move (.tmp rfl)) rfl rfl rfl (LW.p (PEv.extract (.tmp rfl) rfl) rfl rfl rfl (LW.p (PEv.extract (.tmp rfl) rfl) rfl rfl rfl (LW.p (PEv.assign (.tmp rfl)) rfl rfl rfl (LW.p (PEv.assign (.tmp rfl)) rfl rfl rfl (LW.nil (KW.then (CW.seq (CW.region (LW.p (PEv.move (.tmp rfl)) rfl rfl rfl (LW.p (PEv.move (.tmp rfl)) rfl rfl rfl ?_))))))))))
    refine LW.c (enter_call0 (.cons (.tmp rfl) (.cons (.const _) (.cons (.tmp rfl) .nil))) (Try.en20)) rfl rfl rfl rfl (rRead_b _ R2 z2 _ (two_r (hS.get 0 rfl)) hr2 (ok_of (two_d (hS.get 0 rfl))) hz2 0 (n : Int)) ?_
    rintro _ w9 ⟨rfl, uw9⟩
    have zw9 := uw9.size
    replace hS := hS.up uw9
    refine LW.p (PEv.move (.tmp rfl)) rfl rfl rfl (LW.p (PEv.extract (.tmp rfl) rfl) rfl rfl rfl (LW.p (PEv.extract (.tmp rfl) rfl) rfl rfl rfl (LW.p (PEv.assign (.tmp rfl)) rfl rfl rfl (LW.p (PEv.assign (.tmp rfl)) rfl rfl rfl (LW.nil (KW.then (CW.seq (CW.region (LW.p (PEv.move (.tmp rfl)) rfl rfl rfl (LW.p (PEv.move (.tmp rfl)) rfl rfl rfl ?_))))))))))
    refine LW.p (PEv.fa (PEv.neqStr (.tmp rfl) (.tmp rfl)) (neq_self rfl)) rfl rfl rfl ?_
    refine LW.p (PEv.move (.tmp rfl)) rfl rfl rfl ?_
    refine LW.yes rfl rfl rfl rfl rfl rfl ?_
    refine LW.p (PEv.move (.tmp rfl)) rfl rfl rfl ?_
    refine LW.yes rfl rfl rfl rfl rfl rfl ?_
    refine LW.p (PEv.move (.tmp rfl)) rfl rfl rfl ?_
    refine LW.yes rfl rfl rfl rfl rfl rfl ?_
    refine LW.p (PEv.fa (PEv.neq (.tmp rfl) (.tmp rfl)) (by simp)) rfl rfl rfl ?_
    refine LW.p (PEv.pick_or (.tmp rfl) (fun hp => (by first | exact .const _ | exact .tmp rfl | exact .cond rfl (by first | assumption | simp_all)))) rfl rfl rfl ?_
    refine LW.nil (KW.then ?_)
    refine CW.cond_false (.tmp rfl) ?_
    refine CW.skip (KW.inBlock (KW.then (CW.region (LW.p (PEv.move (.tmp rfl)) rfl rfl rfl ?_))))
    refine LW.p (PEv.inc (.tmp rfl) (by omega)) rfl rfl rfl ?_
    refine LW.p (PEv.assign (.tmp rfl)) rfl rfl rfl (LW.nil (KW.round ?_))
    exact ⟨(k + 1, D2, R2, z2), ⟨⟨by omega, by omega⟩, hd2, hr2, hz2, hn2, hp2, hS⟩, ⟨rfl, rfl, rfl, rfl, rfl, rfl, trivial⟩, by first | omega | (dsimp only; omega)⟩
   ·first | replace h42 := of_decide_eq_true h42 | replace h42 := of_decide_eq_false h42 | skip
    refine CW.exit (KW.then_exit (KW.then_exit (KW.block_hit (KW.then (CW.seq (CW.region (LW.p (PEv.move (.tmp rfl)) rfl rfl rfl (LW.p (PEv.assign (.tmp rfl)) rfl rfl rfl (LW.nil (KW.then (CW.ret ?_)))))))))))
    refine KW.ret1 rfl rfl ⟨_, rfl, ?_⟩
    exact ⟨rfl, hS.upd⟩

end Go.Proofs.Ytkpkljbmbmjadaa
