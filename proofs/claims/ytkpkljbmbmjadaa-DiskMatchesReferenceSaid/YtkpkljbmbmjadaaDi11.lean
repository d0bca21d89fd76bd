import Derived.Test.YtkpkljbmbmjadaaDi10
import Derived.Test.YtkpkljbmbmjadaaTw
namespace Go.Wx

end Go.Wx
namespace Go.Proofs.Ytkpkljbmbmjadaa
open Go.Wx Go.RowKit
set_option maxHeartbeats 8000000 in
theorem DiskTwins_any (size : Int) (ad : Option Addr) (cp : Nat) (l : List WP) (w : World) (hs : inI size) (hE0 : Els w ad 3 WP.cells l) (hl : ∀ x ∈ l, WOk x) : Ret Try.prog 11 #[vi size, .slice ad l.length cp] w fun r w' => r = .bool true ∧ Up w w' := by
  obtain ⟨w0, rfl⟩ : ∃ w0, w0 = w := ⟨_, rfl⟩
  have hS := Sep.start no w0
  refine Calls_start (n := 150) (m := 9) Try.func11 rfl rfl rfl ?_
  refine CW.seq (CW.region (LW.p (PEv.assign (.const _)) rfl rfl rfl (LW.nil (KW.then (CW.seq (CW.region ?_))))))
  refine LW.c (enter_call0 .nil (Try.en12)) rfl rfl rfl rfl (sane_any _) ?_
  rintro _ w1 ⟨rfl, uw1⟩
  have zw1 := uw1.size
  replace hS := hS.up uw1
  refine LW.p (PEv.assign (.tmp rfl)) rfl rfl rfl (LW.nil (KW.then (CW.seq (CW.region (LW.p (PEv.move (.tmp rfl)) rfl rfl rfl ?_)))))
  refine LW.c (enter_call0 (.cons (.tmp rfl) (.cons (.const _) .nil)) (Try.en15)) rfl rfl rfl rfl (pick_any _ _ _ hs (by decide)) ?_
  rintro _ w2 ⟨rfl, uw2⟩
  have zw2 := uw2.size
  replace hS := hS.up uw2
  obtain ⟨hp0, hp1⟩ := pick_range (c := size) (n := 100) hs (by decide)
  obtain ⟨p, hp⟩ : ∃ p : Nat, pickI size 100 = p := ⟨(pickI size 100).toNat, by omega⟩
  rw [hp]
  refine LW.p (PEv.addN (i := 1) (.const _) (.tmp rfl) (by omega)) rfl rfl rfl ?_
  refine LW.p (PEv.assign (.tmp rfl)) rfl rfl rfl (LW.nil (KW.then (CW.seq (CW.region (LW.p (PEv.move (.tmp rfl)) rfl rfl rfl ?_)))))
  refine LW.c (enter_call0 (.cons (.tmp rfl) .nil) (Try.en13)) rfl rfl rfl rfl (New_ok (1 + p) _ (by omega) (by omega)) ?_
  rintro _ w3 ⟨C, rfl, hC0, hCf, uw3⟩
  have zw3 := uw3.size
  replace hS := hS.add uw3 (A' := aDisk C (newS (1 + p))) (hC0) (hCf)
  change Wx.Sep _ _ _ [_] at hS
  obtain ⟨n, hn⟩ : ∃ n, n = 1 + p := ⟨_, rfl⟩
  rw [← hn] at hS ⊢
  refine LW.p (PEv.move (.tmp rfl)) rfl rfl rfl (LW.p (PEv.extract (.tmp rfl) rfl) rfl rfl rfl (LW.p (PEv.extract (.tmp rfl) rfl) rfl rfl rfl (LW.p (PEv.assign (.tmp rfl)) rfl rfl rfl (LW.p (PEv.assign (.tmp rfl)) rfl rfl rfl (LW.nil (KW.then (CW.seq (CW.region (LW.p (PEv.move (.tmp rfl)) rfl rfl rfl ?_)))))))))
  refine LW.c (enter_call0 (.cons (.tmp rfl) .nil) (Try.en13)) rfl rfl rfl rfl (New_ok n _ (by omega) (by omega)) ?_
  rintro _ w4 ⟨D, rfl, hD0, hDf, uw4⟩
  have zw4 := uw4.size
  replace hS := hS.add uw4 (A' := aDisk D (newS n)) (hD0) (hDf)
  change Wx.Sep _ _ _ [_, _] at hS
  refine LW.p (PEv.move (.tmp rfl)) rfl rfl rfl (LW.p (PEv.extract (.tmp rfl) rfl) rfl rfl rfl (LW.p (PEv.extract (.tmp rfl) rfl) rfl rfl rfl (LW.p (PEv.assign (.tmp rfl)) rfl rfl rfl (LW.p (PEv.assign (.tmp rfl)) rfl rfl rfl (LW.nil (KW.then (CW.seq (CW.region (LW.p (PEv.move (.tmp rfl)) rfl rfl rfl ?_)))))))))
  refine LW.c (enter_call0 (.cons (.tmp rfl) .nil) (Try.en13)) rfl rfl rfl rfl (New_ok n _ (by omega) (by omega)) ?_
  rintro _ w5 ⟨G, rfl, hG0, hGf, uw5⟩
  have zw5 := uw5.size
  replace hS := hS.add uw5 (A' := aDisk G (newS n)) (hG0) (hGf)
  change Wx.Sep _ _ _ [_, _, _] at hS
  refine LW.p (PEv.move (.tmp rfl)) rfl rfl rfl (LW.p (PEv.extract (.tmp rfl) rfl) rfl rfl rfl (LW.p (PEv.extract (.tmp rfl) rfl) rfl rfl rfl (LW.p (PEv.assign (.tmp rfl)) rfl rfl rfl (LW.p (PEv.assign (.tmp rfl)) rfl rfl rfl (LW.nil (KW.then (CW.seq (CW.seq (CW.region (LW.p (PEv.move (.tmp rfl)) rfl rfl rfl ?_))))))))))
  refine LW.p (PEv.fa (PEv.neq (.tmp rfl) (.const _)) (rfl)) rfl rfl rfl ?_
  refine LW.p (PEv.move (.tmp rfl)) rfl rfl rfl ?_
  refine LW.yes rfl rfl rfl rfl rfl rfl ?_
  refine LW.p (PEv.move (.tmp rfl)) rfl rfl rfl ?_
  refine LW.yes rfl rfl rfl rfl rfl rfl ?_
  refine LW.p (PEv.fa (PEv.neq (.tmp rfl) (.const _)) (rfl)) rfl rfl rfl ?_
  refine LW.p (PEv.pick_or (.tmp rfl) (fun hp => (by first | exact .const _ | exact .tmp rfl | exact .cond rfl (by first | assumption | simp_all)))) rfl rfl rfl ?_
  refine LW.p (PEv.move (.tmp rfl)) rfl rfl rfl ?_
  refine LW.yes rfl rfl rfl rfl rfl rfl ?_
  refine LW.p (PEv.move (.tmp rfl)) rfl rfl rfl ?_
  refine LW.yes rfl rfl rfl rfl rfl rfl ?_
  refine LW.p (PEv.fa (PEv.neq (.tmp rfl) (.const _)) (rfl)) rfl rfl rfl ?_
  refine LW.p (PEv.pick_or (.tmp rfl) (fun hp => (by first | exact .const _ | exact .tmp rfl | exact .cond rfl (by first | assumption | simp_all)))) rfl rfl rfl ?_
  refine LW.nil (KW.then ?_)
  refine CW.cond_false (.tmp rfl) ?_
  refine CW.skip (KW.then (CW.seq (CW.seq (CW.region (LW.p (PEv.assign (.const _)) rfl rfl rfl (LW.nil (KW.then (CW.block ?_))))))))
  refine CW.loopB (σ := Nat × Go.Value × Go.Value × Go.Value × DS × DS) (fun s w => (s.1 ≤ l.length ∧ s.1 ≤ 30) ∧ (DCalm s.2.2.2.2.1 n s.1) ∧ (DCalm s.2.2.2.2.2 n s.1) ∧ (Sep no w0 w [aDisk { C with pv := s.2.1 } s.2.2.2.2.1, aDisk { D with pv := s.2.2.1 } s.2.2.2.2.2, aDisk { G with pv := s.2.2.2.1 } s.2.2.2.2.1])) (fun s => [(12, .eq (vi (s.1 : Int)))]) ([(0, .eq _), (1, .eq _), (5, .eq _), (6, .eq _), (8, .eq _), (10, .eq _)]) (fun s => l.length - s.1) (0, C.pv, D.pv, G.pv, newS n, newS n) ?_ ⟨rfl, rfl, rfl, rfl, rfl, rfl, rfl, trivial⟩ ?_
  ·exact ⟨⟨Nat.zero_le _, by omega⟩, DCalm.new n, DCalm.new n, hS⟩
  ·rintro ⟨k, p1, p2, p3, zc, zd⟩ w6 ⟨hkk, hzc, hzd, hS⟩
   dsimp only at hkk hzc hzd hS
   refine CW.seq (CW.seq (CW.region (LW.p (PEv.move (.tmp rfl)) rfl rfl rfl (LW.p (PEv.move (.tmp rfl)) rfl rfl rfl ?_))))
   refine LW.p (PEv.lenS Try.underlying51 (.tmp rfl)) rfl rfl rfl ?_
   refine LW.p (PEv.lss (.tmp rfl) (.tmp rfl)) rfl rfl rfl ?_
   refine LW.p (PEv.move (.tmp rfl)) rfl rfl rfl ?_
   refine LW.g rfl rfl rfl rfl rfl rfl rfl (fun hc => PEv.move (.tmp rfl)) ?_
   refine LW.g rfl rfl rfl rfl rfl rfl rfl (fun hc => PEv.lss (by first | exact .tmp rfl | exact .cond rfl (by first | assumption | simp_all)) (.const _)) ?_
   refine LW.p (PEv.pick_and (.tmp rfl) (fun hp => (by first | exact .const _ | exact .tmp rfl | exact .cond rfl (by first | assumption | simp_all)))) rfl rfl rfl ?_
   refine LW.nil (KW.then ?_)
   refine CW.cond (.tmp rfl) (fun h54 => ?_) (fun h54 => ?_)
   ·first | replace h54 := of_decide_eq_true h54 | replace h54 := of_decide_eq_false h54 | skip
    refine CW.skip (KW.then (CW.seq (CW.block (CW.seq ?_))))
    have hE := hE0.up hS.upd
    have hkl : k < l.length ∧ k < 30 := by simp at h54; omega
    refine CW.region (LW.p (PEv.move (.tmp rfl)) rfl rfl rfl (LW.p (PEv.move (.tmp rfl)) rfl rfl rfl ?_))
    obtain ⟨x, hx⟩ := getElem?_of_lt (xs := l) (i := k) (by omega)
    obtain ⟨Bx, ox, ax, hcx⟩ := hE _ x hx
    refine LW.p (PEv.indexAddr' Try.underlying51 Try.sizeOf53 (.tmp rfl) (.tmp rfl) (by omega) ax) rfl rfl rfl ?_
    refine LW.p (PEv.loadA Try.isAgg53 Try.sizeOf53 rfl (.tmp rfl) (hcx)) rfl rfl rfl ?_
    refine LW.p (PEv.move (.tmp rfl)) rfl rfl rfl ?_
    refine LW.c (enter_call0 (.cons (.tmp rfl) (.cons (.tmp rfl) .nil)) (Try.en26)) rfl rfl rfl rfl (fits_any x n _ (hl x (List.mem_of_getElem? hx)) (by omega)) ?_
    rintro _ w7 ⟨rfl, uw7⟩
    have zw7 := uw7.size
    replace hS := hS.up uw7
    replace hcx := hcx.up uw7
    refine LW.r (REv.allocA Try.zeroValue53) rfl rfl rfl rfl ?_
    rintro _ w8 ⟨B13, rfl, MB13⟩
    refine LW.s (SEv.storeA Try.sizeOf53 rfl (.tmp rfl) (.tmp rfl) (WP.one _) MB13.blk rfl) rfl rfl rfl ?_
    intro w9 LB13
    have NB13 := MB13.set LB13
    clear LB13 MB13
    have eB13 := NB13.at_
    have zB13 := NB13.size
    replace hcx := hcx.up NB13.up
    replace hS := hS.addB NB13
    change Wx.Sep _ _ _ [_, _, _, _] at hS
    refine LW.nil (KW.then (CW.seq (CW.seq (CW.region (LW.p (PEv.move (.tmp rfl)) rfl rfl rfl ?_)))))
    refine LW.p (PEv.rem (.tmp rfl) (.const _) (by decide)) rfl rfl rfl ?_
    refine LW.p (PEv.eql (.tmp rfl) (.const _)) rfl rfl rfl ?_
    refine LW.nil (KW.then ?_)
    refine CW.cond (.tmp rfl) (fun h65 => ?_) (fun h65 => ?_)
    ·first | replace h65 := of_decide_eq_true h65 | replace h65 := of_decide_eq_false h65 | skip
     refine CW.seq (CW.seq ?_)
     cases hq13 : x.sync with
     | true =>
      have hsy := hq13
      cases hq13 : decide ((fitO x n : Int).tmod 7 = 3) with
      | true =>
       refine CW.region (LW.p (PEv.move (.tmp rfl)) rfl rfl rfl ?_)
       refine LW.p (PEv.fieldAddr (off := 0) Try.underlying53 rfl rfl Try.sizeOf3 rfl (.tmp rfl)) rfl rfl rfl ?_
       refine LW.p (PEv.load Try.isAgg3 (.tmp rfl) ((hS.blk 3 rfl).celln (v := vi (fitO x n : Int)) rfl)) rfl rfl rfl ?_
       refine LW.p (PEv.fieldAddr (off := 1) Try.underlying53 rfl rfl Try.sizeOf9 rfl (.tmp rfl)) rfl rfl rfl ?_
       refine LW.p (PEv.load Try.isAgg9 (.tmp rfl) ((hS.blk 3 rfl).celln (v := .string (fitS x n)) rfl)) rfl rfl rfl ?_
       refine LW.c (enter_call0 (.cons (.tmp rfl) (.cons (.tmp rfl) (.cons (.tmp rfl) .nil))) (Try.en21)) rfl rfl rfl rfl (Write_b _ _ zd _ (hS.get 1 rfl) rfl (fitO x n : Int) (fitS x n) (by have := hzd.pend; omega)) ?_
       rintro _ w10 ⟨rfl, pv_w10, uw10⟩
       have zw10 := uw10.fr.size
       replace hS := hS.stp 1 rfl uw10
       change Wx.Sep _ _ _ [_, _, _, _] at hS
       rw [(hzd.write (fit_le (hl x (List.mem_of_getElem? hx)).off)).1]
       rw [(hzd.write (fit_le (hl x (List.mem_of_getElem? hx)).off)).2] at hS
       replace hzd := hzd.put (fitO x n : Int) (fitS x n)
       have hvd := (ok_of (hS.get 1 rfl)).len.trans hzd.len
       refine LW.p (PEv.fa (PEv.neq (.tmp rfl) (.const _)) (rfl)) rfl rfl rfl ?_
       refine LW.p (PEv.move (.tmp rfl)) rfl rfl rfl ?_
       refine LW.yes rfl rfl rfl rfl rfl rfl ?_
       refine LW.p (PEv.fieldAddr (off := 2) Try.underlying53 rfl rfl Try.sizeOf4 rfl (.tmp rfl)) rfl rfl rfl ?_
       refine LW.yes rfl rfl rfl rfl rfl rfl ?_
       refine LW.p (PEv.tr (PEv.load Try.isAgg4 (.tmp rfl) ((hS.blk 3 rfl).celln (v := .bool x.sync) rfl)) (hsy)) rfl rfl rfl ?_
       refine LW.yes rfl rfl rfl rfl rfl rfl ?_
       refine LW.p (PEv.move (.tmp rfl)) rfl rfl rfl ?_
       refine LW.yes rfl rfl rfl rfl rfl rfl ?_
       refine LW.p (PEv.move (.tmp rfl)) rfl rfl rfl ?_
       refine LW.yes rfl rfl rfl rfl rfl rfl ?_
       refine LW.c (enter_call0 (.cons (.tmp rfl) .nil) (Try.en23)) rfl rfl rfl rfl (Sync_b _ _ _ _ (hS.get 1 rfl) rfl) ?_
       rintro _ w11 ⟨rfl, pv_w11, uw11⟩
       have zw11 := uw11.fr.size
       replace hS := hS.stp 1 rfl uw11
       change Wx.Sep _ _ _ [_, _, _, _] at hS
       rw [hzd.sync.1]
       rw [hzd.sync.2] at hS
       replace hzd := hzd.synced hvd
       refine LW.yes rfl rfl rfl rfl rfl rfl ?_
       refine LW.p (PEv.fa (PEv.neq (.tmp rfl) (.const _)) (rfl)) rfl rfl rfl ?_
       refine LW.yes rfl rfl rfl rfl rfl rfl ?_
       refine LW.p (PEv.pick_and (.tmp rfl) (fun hp => (by first | exact .const _ | exact .tmp rfl | exact .cond rfl (by first | assumption | simp_all)))) rfl rfl rfl ?_
       refine LW.p (PEv.pick_or (.tmp rfl) (fun hp => (by first | exact .const _ | exact .tmp rfl | exact .cond rfl (by first | assumption | simp_all)))) rfl rfl rfl ?_
       refine LW.p (PEv.move (.tmp rfl)) rfl rfl rfl ?_
       refine LW.yes rfl rfl rfl rfl rfl rfl ?_
       refine LW.p (PEv.fieldAddr (off := 0) Try.underlying53 rfl rfl Try.sizeOf3 rfl (.tmp rfl)) rfl rfl rfl ?_
       refine LW.yes rfl rfl rfl rfl rfl rfl ?_
       refine LW.p (PEv.load Try.isAgg3 (.tmp rfl) ((hS.blk 3 rfl).celln (v := vi (fitO x n : Int)) rfl)) rfl rfl rfl ?_
       refine LW.yes rfl rfl rfl rfl rfl rfl ?_
       refine LW.p (PEv.rem (.tmp rfl) (.const _) (by decide)) rfl rfl rfl ?_
       refine LW.yes rfl rfl rfl rfl rfl rfl ?_
       refine LW.p (PEv.tr (PEv.eql (.tmp rfl) (.const _)) (hq13)) rfl rfl rfl ?_
       refine LW.yes rfl rfl rfl rfl rfl rfl ?_
       refine LW.p (PEv.move (.tmp rfl)) rfl rfl rfl ?_
       refine LW.yes rfl rfl rfl rfl rfl rfl ?_
       refine LW.p (PEv.move (.tmp rfl)) rfl rfl rfl ?_
       refine LW.yes rfl rfl rfl rfl rfl rfl ?_
       refine LW.c (enter_call0 (.cons (.tmp rfl) (.cons (.const _) (.cons (.const _) .nil))) (Try.en25)) rfl rfl rfl rfl (Crash_b _ _ _ _ (hS.get 1 rfl) rfl (keep := []) (els_nil _) 1 (by decide)) ?_
       rintro _ w12 ⟨rfl, pv_w12, uw12⟩
       have zw12 := uw12.fr.size
       replace hS := hS.stp 1 rfl uw12
       change Wx.Sep _ _ _ [_, _, _, _] at hS
       rw [crash_nil] at hS
       replace hzd := calm_plain hzd.len
       refine LW.yes rfl rfl rfl rfl rfl rfl ?_
       refine LW.p (PEv.fa (PEv.neq (.tmp rfl) (.const _)) (rfl)) rfl rfl rfl ?_
       refine LW.yes rfl rfl rfl rfl rfl rfl ?_
       refine LW.p (PEv.pick_and (.tmp rfl) (fun hp => (by first | exact .const _ | exact .tmp rfl | exact .cond rfl (by first | assumption | simp_all)))) rfl rfl rfl ?_
       refine LW.p (PEv.pick_or (.tmp rfl) (fun hp => (by first | exact .const _ | exact .tmp rfl | exact .cond rfl (by first | assumption | simp_all)))) rfl rfl rfl ?_
       refine LW.nil (KW.then ?_)
       refine CW.cond_false (.tmp rfl) ?_
       refine CW.skip (KW.then (CW.exit (KW.then_exit (KW.block_hit (KW.then (CW.region (LW.p (PEv.move (.tmp rfl)) rfl rfl rfl ?_)))))))
       refine LW.p (PEv.inc (.tmp rfl) (by omega)) rfl rfl rfl ?_
       refine LW.p (PEv.assign (.tmp rfl)) rfl rfl rfl (LW.nil (KW.round ?_))
       exact ⟨(k + 1, _, _, _, _, _), ⟨⟨by omega, by omega⟩, (hzc.mono (by omega)), (hzd.mono (by omega)), hS.take 3⟩, ⟨rfl, rfl, rfl, rfl, rfl, rfl, rfl, trivial⟩, by first | omega | (dsimp only; omega)⟩
      | false =>
       refine CW.region (LW.p (PEv.move (.tmp rfl)) rfl rfl rfl ?_)
       refine LW.p (PEv.fieldAddr (off := 0) Try.underlying53 rfl rfl Try.sizeOf3 rfl (.tmp rfl)) rfl rfl rfl ?_
       refine LW.p (PEv.load Try.isAgg3 (.tmp rfl) ((hS.blk 3 rfl).celln (v := vi (fitO x n : Int)) rfl)) rfl rfl rfl ?_
       refine LW.p (PEv.fieldAddr (off := 1) Try.underlying53 rfl rfl Try.sizeOf9 rfl (.tmp rfl)) rfl rfl rfl ?_
       refine LW.p (PEv.load Try.isAgg9 (.tmp rfl) ((hS.blk 3 rfl).celln (v := .string (fitS x n)) rfl)) rfl rfl rfl ?_
       refine LW.c (enter_call0 (.cons (.tmp rfl) (.cons (.tmp rfl) (.cons (.tmp rfl) .nil))) (Try.en21)) rfl rfl rfl rfl (Write_b _ _ zd _ (hS.get 1 rfl) rfl (fitO x n : Int) (fitS x n) (by have := hzd.pend; omega)) ?_
       rintro _ w13 ⟨rfl, pv_w13, uw13⟩
       have zw13 := uw13.fr.size
       replace hS := hS.stp 1 rfl uw13
       change Wx.Sep _ _ _ [_, _, _, _] at hS
       rw [(hzd.write (fit_le (hl x (List.mem_of_getElem? hx)).off)).1]
       rw [(hzd.write (fit_le (hl x (List.mem_of_getElem? hx)).off)).2] at hS
       replace hzd := hzd.put (fitO x n : Int) (fitS x n)
       have hvd := (ok_of (hS.get 1 rfl)).len.trans hzd.len
       refine LW.p (PEv.fa (PEv.neq (.tmp rfl) (.const _)) (rfl)) rfl rfl rfl ?_
       refine LW.p (PEv.move (.tmp rfl)) rfl rfl rfl ?_
       refine LW.yes rfl rfl rfl rfl rfl rfl ?_
       refine LW.p (PEv.fieldAddr (off := 2) Try.underlying53 rfl rfl Try.sizeOf4 rfl (.tmp rfl)) rfl rfl rfl ?_
       refine LW.yes rfl rfl rfl rfl rfl rfl ?_
       refine LW.p (PEv.tr (PEv.load Try.isAgg4 (.tmp rfl) ((hS.blk 3 rfl).celln (v := .bool x.sync) rfl)) (hsy)) rfl rfl rfl ?_
       refine LW.yes rfl rfl rfl rfl rfl rfl ?_
       refine LW.p (PEv.move (.tmp rfl)) rfl rfl rfl ?_
       refine LW.yes rfl rfl rfl rfl rfl rfl ?_
       refine LW.p (PEv.move (.tmp rfl)) rfl rfl rfl ?_
       refine LW.yes rfl rfl rfl rfl rfl rfl ?_
       refine LW.c (enter_call0 (.cons (.tmp rfl) .nil) (Try.en23)) rfl rfl rfl rfl (Sync_b _ _ _ _ (hS.get 1 rfl) rfl) ?_
       rintro _ w14 ⟨rfl, pv_w14, uw14⟩
       have zw14 := uw14.fr.size
       replace hS := hS.stp 1 rfl uw14
       change Wx.Sep _ _ _ [_, _, _, _] at hS
       rw [hzd.sync.1]
       rw [hzd.sync.2] at hS
       replace hzd := hzd.synced hvd
       refine LW.yes rfl rfl rfl rfl rfl rfl ?_
       refine LW.p (PEv.fa (PEv.neq (.tmp rfl) (.const _)) (rfl)) rfl rfl rfl ?_
       refine LW.yes rfl rfl rfl rfl rfl rfl ?_
       refine LW.p (PEv.pick_and (.tmp rfl) (fun hp => (by first | exact .const _ | exact .tmp rfl | exact .cond rfl (by first | assumption | simp_all)))) rfl rfl rfl ?_
       refine LW.p (PEv.pick_or (.tmp rfl) (fun hp => (by first | exact .const _ | exact .tmp rfl | exact .cond rfl (by first | assumption | simp_all)))) rfl rfl rfl ?_
       refine LW.p (PEv.move (.tmp rfl)) rfl rfl rfl ?_
       refine LW.yes rfl rfl rfl rfl rfl rfl ?_
       refine LW.p (PEv.fieldAddr (off := 0) Try.underlying53 rfl rfl Try.sizeOf3 rfl (.tmp rfl)) rfl rfl rfl ?_
       refine LW.yes rfl rfl rfl rfl rfl rfl ?_
       refine LW.p (PEv.load Try.isAgg3 (.tmp rfl) ((hS.blk 3 rfl).celln (v := vi (fitO x n : Int)) rfl)) rfl rfl rfl ?_
       refine LW.yes rfl rfl rfl rfl rfl rfl ?_
       refine LW.p (PEv.rem (.tmp rfl) (.const _) (by decide)) rfl rfl rfl ?_
       refine LW.yes rfl rfl rfl rfl rfl rfl ?_
       refine LW.p (PEv.fa (PEv.eql (.tmp rfl) (.const _)) (hq13)) rfl rfl rfl ?_
       refine LW.yes rfl rfl rfl rfl rfl rfl ?_
       refine LW.p (PEv.move (.tmp rfl)) rfl rfl rfl ?_
       refine LW.no rfl rfl rfl rfl rfl rfl rfl rfl ?_
       refine LW.no rfl rfl rfl rfl rfl rfl rfl rfl ?_
       refine LW.no rfl rfl rfl rfl rfl rfl rfl rfl ?_
       refine LW.yes rfl rfl rfl rfl rfl rfl ?_
       refine LW.p (PEv.pick_and (b := false) (.tmp rfl) (fun hp => absurd (show false = true from hp) (by decide))) rfl rfl rfl ?_
       refine LW.p (PEv.pick_or (.tmp rfl) (fun hp => (by first | exact .const _ | exact .tmp rfl | exact .cond rfl (by first | assumption | simp_all)))) rfl rfl rfl ?_
       refine LW.nil (KW.then ?_)
       refine CW.cond_false (.tmp rfl) ?_
       refine CW.skip (KW.then (CW.exit (KW.then_exit (KW.block_hit (KW.then (CW.region (LW.p (PEv.move (.tmp rfl)) rfl rfl rfl ?_)))))))
       refine LW.p (PEv.inc (.tmp rfl) (by omega)) rfl rfl rfl ?_
       refine LW.p (PEv.assign (.tmp rfl)) rfl rfl rfl (LW.nil (KW.round ?_))
       exact ⟨(k + 1, _, _, _, _, _), ⟨⟨by omega, by omega⟩, (hzc.mono (by omega)), (hzd.mono (by omega)), hS.take 3⟩, ⟨rfl, rfl, rfl, rfl, rfl, rfl, rfl, trivial⟩, by first | omega | (dsimp only; omega)⟩
     | false =>
      have hsy := hq13
      cases hq13 : decide ((fitO x n : Int).tmod 7 = 3) with
      | true =>
       refine CW.region (LW.p (PEv.move (.tmp rfl)) rfl rfl rfl ?_)
       refine LW.p (PEv.fieldAddr (off := 0) Try.underlying53 rfl rfl Try.sizeOf3 rfl (.tmp rfl)) rfl rfl rfl ?_
       refine LW.p (PEv.load Try.isAgg3 (.tmp rfl) ((hS.blk 3 rfl).celln (v := vi (fitO x n : Int)) rfl)) rfl rfl rfl ?_
       refine LW.p (PEv.fieldAddr (off := 1) Try.underlying53 rfl rfl Try.sizeOf9 rfl (.tmp rfl)) rfl rfl rfl ?_
       refine LW.p (PEv.load Try.isAgg9 (.tmp rfl) ((hS.blk 3 rfl).celln (v := .string (fitS x n)) rfl)) rfl rfl rfl ?_
       refine LW.c (enter_call0 (.cons (.tmp rfl) (.cons (.tmp rfl) (.cons (.tmp rfl) .nil))) (Try.en21)) rfl rfl rfl rfl (Write_b _ _ zd _ (hS.get 1 rfl) rfl (fitO x n : Int) (fitS x n) (by have := hzd.pend; omega)) ?_
       rintro _ w15 ⟨rfl, pv_w15, uw15⟩
       have zw15 := uw15.fr.size
       replace hS := hS.stp 1 rfl uw15
       change Wx.Sep _ _ _ [_, _, _, _] at hS
       rw [(hzd.write (fit_le (hl x (List.mem_of_getElem? hx)).off)).1]
       rw [(hzd.write (fit_le (hl x (List.mem_of_getElem? hx)).off)).2] at hS
       replace hzd := hzd.put (fitO x n : Int) (fitS x n)
       have hvd := (ok_of (hS.get 1 rfl)).len.trans hzd.len
       refine LW.p (PEv.fa (PEv.neq (.tmp rfl) (.const _)) (rfl)) rfl rfl rfl ?_
       refine LW.p (PEv.move (.tmp rfl)) rfl rfl rfl ?_
       refine LW.yes rfl rfl rfl rfl rfl rfl ?_
       refine LW.p (PEv.fieldAddr (off := 2) Try.underlying53 rfl rfl Try.sizeOf4 rfl (.tmp rfl)) rfl rfl rfl ?_
       refine LW.yes rfl rfl rfl rfl rfl rfl ?_
       refine LW.p (PEv.fa (PEv.load Try.isAgg4 (.tmp rfl) ((hS.blk 3 rfl).celln (v := .bool x.sync) rfl)) (hsy)) rfl rfl rfl ?_
       refine LW.yes rfl rfl rfl rfl rfl rfl ?_
       refine LW.p (PEv.move (.tmp rfl)) rfl rfl rfl ?_
       refine LW.no rfl rfl rfl rfl rfl rfl rfl rfl ?_
       refine LW.no rfl rfl rfl rfl rfl rfl rfl rfl ?_
       refine LW.no rfl rfl rfl rfl rfl rfl rfl rfl ?_
       refine LW.yes rfl rfl rfl rfl rfl rfl ?_
       refine LW.p (PEv.pick_and (b := false) (.tmp rfl) (fun hp => absurd (show false = true from hp) (by decide))) rfl rfl rfl ?_
       refine LW.p (PEv.pick_or (.tmp rfl) (fun hp => (by first | exact .const _ | exact .tmp rfl | exact .cond rfl (by first | assumption | simp_all)))) rfl rfl rfl ?_
       refine LW.p (PEv.move (.tmp rfl)) rfl rfl rfl ?_
       refine LW.yes rfl rfl rfl rfl rfl rfl ?_
       refine LW.p (PEv.fieldAddr (off := 0) Try.underlying53 rfl rfl Try.sizeOf3 rfl (.tmp rfl)) rfl rfl rfl ?_
       refine LW.yes rfl rfl rfl rfl rfl rfl ?_
       refine LW.p (PEv.load Try.isAgg3 (.tmp rfl) ((hS.blk 3 rfl).celln (v := vi (fitO x n : Int)) rfl)) rfl rfl rfl ?_
       refine LW.yes rfl rfl rfl rfl rfl rfl ?_
       refine LW.p (PEv.rem (.tmp rfl) (.const _) (by decide)) rfl rfl rfl ?_
       refine LW.yes rfl rfl rfl rfl rfl rfl ?_
       refine LW.p (PEv.tr (PEv.eql (.tmp rfl) (.const _)) (hq13)) rfl rfl rfl ?_
       refine LW.yes rfl rfl rfl rfl rfl rfl ?_
       refine LW.p (PEv.move (.tmp rfl)) rfl rfl rfl ?_
       refine LW.yes rfl rfl rfl rfl rfl rfl ?_
       refine LW.p (PEv.move (.tmp rfl)) rfl rfl rfl ?_
       refine LW.yes rfl rfl rfl rfl rfl rfl ?_
       refine LW.c (enter_call0 (.cons (.tmp rfl) (.cons (.const _) (.cons (.const _) .nil))) (Try.en25)) rfl rfl rfl rfl (Crash_b _ _ _ _ (hS.get 1 rfl) rfl (keep := []) (els_nil _) 1 (by decide)) ?_
       rintro _ w16 ⟨rfl, pv_w16, uw16⟩
       have zw16 := uw16.fr.size
       replace hS := hS.stp 1 rfl uw16
       change Wx.Sep _ _ _ [_, _, _, _] at hS
       rw [crash_nil] at hS
       replace hzd := calm_plain hzd.len
       refine LW.yes rfl rfl rfl rfl rfl rfl ?_
       refine LW.p (PEv.fa (PEv.neq (.tmp rfl) (.const _)) (rfl)) rfl rfl rfl ?_
       refine LW.yes rfl rfl rfl rfl rfl rfl ?_
       refine LW.p (PEv.pick_and (.tmp rfl) (fun hp => (by first | exact .const _ | exact .tmp rfl | exact .cond rfl (by first | assumption | simp_all)))) rfl rfl rfl ?_
       refine LW.p (PEv.pick_or (.tmp rfl) (fun hp => (by first | exact .const _ | exact .tmp rfl | exact .cond rfl (by first | assumption | simp_all)))) rfl rfl rfl ?_
       refine LW.nil (KW.then ?_)
       refine CW.cond_false (.tmp rfl) ?_
       refine CW.skip (KW.then (CW.exit (KW.then_exit (KW.block_hit (KW.then (CW.region (LW.p (PEv.move (.tmp rfl)) rfl rfl rfl ?_)))))))
       refine LW.p (PEv.inc (.tmp rfl) (by omega)) rfl rfl rfl ?_
       refine LW.p (PEv.assign (.tmp rfl)) rfl rfl rfl (LW.nil (KW.round ?_))
       exact ⟨(k + 1, _, _, _, _, _), ⟨⟨by omega, by omega⟩, (hzc.mono (by omega)), (hzd.mono (by omega)), hS.take 3⟩, ⟨rfl, rfl, rfl, rfl, rfl, rfl, rfl, trivial⟩, by first | omega | (dsimp only; omega)⟩
      | false =>
       refine CW.region (LW.p (PEv.move (.tmp rfl)) rfl rfl rfl ?_)
       refine LW.p (PEv.fieldAddr (off := 0) Try.underlying53 rfl rfl Try.sizeOf3 rfl (.tmp rfl)) rfl rfl rfl ?_
       refine LW.p (PEv.load Try.isAgg3 (.tmp rfl) ((hS.blk 3 rfl).celln (v := vi (fitO x n : Int)) rfl)) rfl rfl rfl ?_
       refine LW.p (PEv.fieldAddr (off := 1) Try.underlying53 rfl rfl Try.sizeOf9 rfl (.tmp rfl)) rfl rfl rfl ?_
       refine LW.p (PEv.load Try.isAgg9 (.tmp rfl) ((hS.blk 3 rfl).celln (v := .string (fitS x n)) rfl)) rfl rfl rfl ?_
       refine LW.c (enter_call0 (.cons (.tmp rfl) (.cons (.tmp rfl) (.cons (.tmp rfl) .nil))) (Try.en21)) rfl rfl rfl rfl (Write_b _ _ zd _ (hS.get 1 rfl) rfl (fitO x n : Int) (fitS x n) (by have := hzd.pend; omega)) ?_
       rintro _ w17 ⟨rfl, pv_w17, uw17⟩
       have zw17 := uw17.fr.size
       replace hS := hS.stp 1 rfl uw17
       change Wx.Sep _ _ _ [_, _, _, _] at hS
       rw [(hzd.write (fit_le (hl x (List.mem_of_getElem? hx)).off)).1]
       rw [(hzd.write (fit_le (hl x (List.mem_of_getElem? hx)).off)).2] at hS
       replace hzd := hzd.put (fitO x n : Int) (fitS x n)
       have hvd := (ok_of (hS.get 1 rfl)).len.trans hzd.len
       refine LW.p (PEv.fa (PEv.neq (.tmp rfl) (.const _)) (rfl)) rfl rfl rfl ?_
       refine LW.p (PEv.move (.tmp rfl)) rfl rfl rfl ?_
       refine LW.yes rfl rfl rfl rfl rfl rfl ?_
       refine LW.p (PEv.fieldAddr (off := 2) Try.underlying53 rfl rfl Try.sizeOf4 rfl (.tmp rfl)) rfl rfl rfl ?_
       refine LW.yes rfl rfl rfl rfl rfl rfl ?_
       refine LW.p (PEv.fa (PEv.load Try.isAgg4 (.tmp rfl) ((hS.blk 3 rfl).celln (v := .bool x.sync) rfl)) (hsy)) rfl rfl rfl ?_
       refine LW.yes rfl rfl rfl rfl rfl rfl ?_
       refine LW.p (PEv.move (.tmp rfl)) rfl rfl rfl ?_
       refine LW.no rfl rfl rfl rfl rfl rfl rfl rfl ?_
       refine LW.no rfl rfl rfl rfl rfl rfl rfl rfl ?_
       refine LW.no rfl rfl rfl rfl rfl rfl rfl rfl ?_
       refine LW.yes rfl rfl rfl rfl rfl rfl ?_
       refine LW.p (PEv.pick_and (b := false) (.tmp rfl) (fun hp => absurd (show false = true from hp) (by decide))) rfl rfl rfl ?_
       refine LW.p (PEv.pick_or (.tmp rfl) (fun hp => (by first | exact .const _ | exact .tmp rfl | exact .cond rfl (by first | assumption | simp_all)))) rfl rfl rfl ?_
       refine LW.p (PEv.move (.tmp rfl)) rfl rfl rfl ?_
       refine LW.yes rfl rfl rfl rfl rfl rfl ?_
       refine LW.p (PEv.fieldAddr (off := 0) Try.underlying53 rfl rfl Try.sizeOf3 rfl (.tmp rfl)) rfl rfl rfl ?_
       refine LW.yes rfl rfl rfl rfl rfl rfl ?_
       refine LW.p (PEv.load Try.isAgg3 (.tmp rfl) ((hS.blk 3 rfl).celln (v := vi (fitO x n : Int)) rfl)) rfl rfl rfl ?_
       refine LW.yes rfl rfl rfl rfl rfl rfl ?_
       refine LW.p (PEv.rem (.tmp rfl) (.const _) (by decide)) rfl rfl rfl ?_
       refine LW.yes rfl rfl rfl rfl rfl rfl ?_
       refine LW.p (PEv.fa (PEv.eql (.tmp rfl) (.const _)) (hq13)) rfl rfl rfl ?_
       refine LW.yes rfl rfl rfl rfl rfl rfl ?_
       refine LW.p (PEv.move (.tmp rfl)) rfl rfl rfl ?_
       refine LW.no rfl rfl rfl rfl rfl rfl rfl rfl ?_
       refine LW.no rfl rfl rfl rfl rfl rfl rfl rfl ?_
       refine LW.no rfl rfl rfl rfl rfl rfl rfl rfl ?_
       refine LW.yes rfl rfl rfl rfl rfl rfl ?_
       refine LW.p (PEv.pick_and (b := false) (.tmp rfl) (fun hp => absurd (show false = true from hp) (by decide))) rfl rfl rfl ?_
       refine LW.p (PEv.pick_or (.tmp rfl) (fun hp => (by first | exact .const _ | exact .tmp rfl | exact .cond rfl (by first | assumption | simp_all)))) rfl rfl rfl ?_
       refine LW.nil (KW.then ?_)
       refine CW.cond_false (.tmp rfl) ?_
       refine CW.skip (KW.then (CW.exit (KW.then_exit (KW.block_hit (KW.then (CW.region (LW.p (PEv.move (.tmp rfl)) rfl rfl rfl ?_)))))))
       refine LW.p (PEv.inc (.tmp rfl) (by omega)) rfl rfl rfl ?_
       refine LW.p (PEv.assign (.tmp rfl)) rfl rfl rfl (LW.nil (KW.round ?_))
       exact ⟨(k + 1, _, _, _, _, _), ⟨⟨by omega, by omega⟩, (hzc.mono (by omega)), (hzd.mono (by omega)), hS.take 3⟩, ⟨rfl, rfl, rfl, rfl, rfl, rfl, rfl, trivial⟩, by first | omega | (dsimp only; omega)⟩
    ·first | replace h65 := of_decide_eq_true h65 | replace h65 := of_decide_eq_false h65 | skip
     refine CW.skip (KW.then (CW.seq ?_))
     cases hq15 : x.sync with
     | true =>
      refine CW.draws_up (by kernel_rfl) rfl ?_
      obtain ⟨w18, hdr⟩ : ∃ W, W = w9.drew := ⟨_, rfl⟩
      have uw18 : Up w9 w18 := by rw [hdr]; exact Up.drew _
      rw [← hdr]
      clear hdr
      have zw18 := uw18.size
      replace hS := hS.up uw18
      refine AWU.pair 0 12 5 11 (fun i => [.pointer (some ⟨C.bd, 0, none⟩), .pointer (some ⟨B13, 0, none⟩), vi (fitO x n : Int), .pointer (some ⟨B13, 1, none⟩), .string (fitS x n), vi 0, .pointer (some ⟨G.bd, 0, none⟩), .pointer (some ⟨B13, 0, none⟩), vi (fitO x n : Int), .pointer (some ⟨B13, 1, none⟩), .string (fitS x n), vi 0].getD (i - 0) undef) (fun b1 b2 W => ∃ q1 q3, Wx.Sep no w0 W [aDisk { C with pv := q1 } (bif b1 then writeS zc (fitO x n : Int) (fitS x n) else zc), aDisk { D with pv := p2 } zd, aDisk { G with pv := q3 } (bif b2 then writeS zc (fitO x n : Int) (fitS x n) else zc), aBlk B13 (WP.cells ⟨(fitO x n : Int), fitS x n, x.sync⟩) 53]) (by kernel_rfl) (by kernel_rfl) (by kernel_rfl) (by kernel_rfl) (by kernel_rfl) (by kernel_rfl) (by kernel_rfl) (by kernel_rfl) (by kernel_rfl) (by kernel_rfl) (by kernel_rfl) rfl rfl ?_ _ _ rfl rfl ?_ ?_ (⟨_, _, hS⟩) ?_
      ·intro b1 b2 W hSt
       have hSt0 := hSt
       obtain ⟨q1, q3, hS⟩ := hSt0
       refine allL.cons (fun _ _ => ?_) ?_
       ·exact TOp.p (hg := rfl) (PEv.move (.tmp rfl)) ⟨rfl, hSt⟩
       refine allL.cons (fun _ _ => ?_) ?_
       ·exact TOp.p (hg := rfl) (PEv.fieldAddr (off := 0) Try.underlying53 rfl rfl Try.sizeOf3 rfl (.tmp rfl)) ⟨rfl, hSt⟩
       refine allL.cons (fun _ _ => ?_) ?_
       ·exact TOp.p (hg := rfl) (PEv.load Try.isAgg3 (.tmp rfl) ((hS.blk 3 rfl).celln (v := vi (fitO x n : Int)) rfl)) ⟨rfl, hSt⟩
       refine allL.cons (fun _ _ => ?_) ?_
       ·exact TOp.p (hg := rfl) (PEv.fieldAddr (off := 1) Try.underlying53 rfl rfl Try.sizeOf9 rfl (.tmp rfl)) ⟨rfl, hSt⟩
       refine allL.cons (fun _ _ => ?_) ?_
       ·exact TOp.p (hg := rfl) (PEv.load Try.isAgg9 (.tmp rfl) ((hS.blk 3 rfl).celln (v := .string (fitS x n)) rfl)) ⟨rfl, hSt⟩
       refine allL.cons (fun h _ => absurd rfl h) ?_
       refine allL.cons (fun _ _ => ?_) ?_
       ·exact TOp.p (hg := rfl) (PEv.move (.tmp rfl)) ⟨rfl, hSt⟩
       refine allL.cons (fun _ _ => ?_) ?_
       ·exact TOp.p (hg := rfl) (PEv.fieldAddr (off := 0) Try.underlying53 rfl rfl Try.sizeOf3 rfl (.tmp rfl)) ⟨rfl, hSt⟩
       refine allL.cons (fun _ _ => ?_) ?_
       ·exact TOp.p (hg := rfl) (PEv.load Try.isAgg3 (.tmp rfl) ((hS.blk 3 rfl).celln (v := vi (fitO x n : Int)) rfl)) ⟨rfl, hSt⟩
       refine allL.cons (fun _ _ => ?_) ?_
       ·exact TOp.p (hg := rfl) (PEv.fieldAddr (off := 1) Try.underlying53 rfl rfl Try.sizeOf9 rfl (.tmp rfl)) ⟨rfl, hSt⟩
       refine allL.cons (fun _ _ => ?_) ?_
       ·exact TOp.p (hg := rfl) (PEv.load Try.isAgg9 (.tmp rfl) ((hS.blk 3 rfl).celln (v := .string (fitS x n)) rfl)) ⟨rfl, hSt⟩
       refine allL.cons (fun _ h => absurd rfl h) ?_
       exact allL.nil
      ·intro b W hSt
       have hSt0 := hSt
       obtain ⟨q1, q3, hS⟩ := hSt0
       refine TOp.c (enter_call0 (.cons (.tmp rfl) (.cons (.tmp rfl) (.cons (.tmp rfl) .nil))) (Try.en21)) rfl (Write_b _ { C with pv := q1 } zc W (hS.get 0 rfl) rfl (fitO x n : Int) (fitS x n) (by have := hzc.pend; omega)) ?_
       rintro _ W1 ⟨rfl, pv, u⟩
       exact ⟨congrArg vi (hzc.write (fit_le (hl x (List.mem_of_getElem? hx)).off)).1, pv, q3, hS.stp 0 rfl u⟩
      ·intro b W hSt
       have hSt0 := hSt
       obtain ⟨q1, q3, hS⟩ := hSt0
       refine TOp.c (enter_call0 (.cons (.tmp rfl) (.cons (.tmp rfl) (.cons (.tmp rfl) .nil))) (Try.en21)) rfl (Write_b _ { G with pv := q3 } zc W (hS.get 2 rfl) rfl (fitO x n : Int) (fitS x n) (by have := hzc.pend; omega)) ?_
       rintro _ W1 ⟨rfl, pv, u⟩
       exact ⟨congrArg vi (hzc.write (fit_le (hl x (List.mem_of_getElem? hx)).off)).1, q1, pv, hS.stp 2 rfl u⟩
      intro w19 hSt
      obtain ⟨r1, r3, hS⟩ := hSt
      change Wx.Sep no w0 _ [aDisk { C with pv := r1 } (writeS zc (fitO x n : Int) (fitS x n)), aDisk { D with pv := p2 } zd, aDisk { G with pv := r3 } (writeS zc (fitO x n : Int) (fitS x n)), aBlk B13 (WP.cells ⟨(fitO x n : Int), fitS x n, x.sync⟩) 53] at hS
      rw [(hzc.write (fit_le (hl x (List.mem_of_getElem? hx)).off)).2] at hS
      replace hzc := hzc.put (fitO x n : Int) (fitS x n)
      have hvs := (ok_of (hS.get 0 rfl)).len.trans hzc.len
      obtain ⟨zn, ezn⟩ : ∃ z, z = putS zc (fitO x n : Int) (fitS x n) := ⟨_, rfl⟩
      rw [← ezn] at hS hzc hvs
      refine AWU.pair 12 21 18 20 (fun i => [.bool false, .bool false, .pointer (some ⟨B13, 2, none⟩), .bool true, .bool true, .pointer (some ⟨C.bd, 0, none⟩), vi 0, .pointer (some ⟨G.bd, 0, none⟩), vi 0].getD (i - 12) undef) (fun b1 b2 W => ∃ q1 q3, Wx.Sep no w0 W [aDisk { C with pv := q1 } (bif b1 then syncS zn else zn), aDisk { D with pv := p2 } zd, aDisk { G with pv := q3 } (bif b2 then syncS zn else zn), aBlk B13 (WP.cells ⟨(fitO x n : Int), fitS x n, x.sync⟩) 53]) (by kernel_rfl) (by kernel_rfl) (by kernel_rfl) (by kernel_rfl) (by kernel_rfl) (by kernel_rfl) (by kernel_rfl) (by kernel_rfl) (by kernel_rfl) (by kernel_rfl) (by kernel_rfl) rfl rfl ?_ _ _ rfl rfl ?_ ?_ (⟨_, _, hS⟩) ?_
      ·intro b1 b2 W hSt
       have hSt0 := hSt
       obtain ⟨q1, q3, hS⟩ := hSt0
       refine allL.cons (fun _ _ => ?_) ?_
       ·exact TOp.p (hg := rfl) (PEv.fa (PEv.neq (.tmp rfl) (.tmp rfl)) (rfl)) ⟨rfl, hSt⟩
       refine allL.cons (fun _ _ => ?_) ?_
       ·exact TOp.p (hg := rfl) (PEv.move (.tmp rfl)) ⟨rfl, hSt⟩
       refine allL.cons (fun _ _ => ?_) ?_
       ·exact TOp.py rfl rfl rfl rfl rfl (PEv.fieldAddr (off := 2) Try.underlying53 rfl rfl Try.sizeOf4 rfl (.tmp rfl)) ⟨rfl, hSt⟩
       refine allL.cons (fun _ _ => ?_) ?_
       ·exact TOp.py rfl rfl rfl rfl rfl (PEv.tr (PEv.load Try.isAgg4 (.tmp rfl) ((hS.blk 3 rfl).celln (v := .bool x.sync) rfl)) (hq15)) ⟨rfl, hSt⟩
       refine allL.cons (fun _ _ => ?_) ?_
       ·exact TOp.py rfl rfl rfl rfl rfl (PEv.move (.tmp rfl)) ⟨rfl, hSt⟩
       refine allL.cons (fun _ _ => ?_) ?_
       ·exact TOp.py rfl rfl rfl rfl rfl (PEv.move (.tmp rfl)) ⟨rfl, hSt⟩
       refine allL.cons (fun h _ => absurd rfl h) ?_
       refine allL.cons (fun _ _ => ?_) ?_
       ·exact TOp.py rfl rfl rfl rfl rfl (PEv.move (.tmp rfl)) ⟨rfl, hSt⟩
       refine allL.cons (fun _ h => absurd rfl h) ?_
       exact allL.nil
      ·intro b W hSt
       have hSt0 := hSt
       obtain ⟨q1, q3, hS⟩ := hSt0
       refine TOp.cy rfl rfl rfl rfl rfl (enter_call0 (.cons (.tmp rfl) .nil) (Try.en23)) (Sync_b _ { C with pv := q1 } zn W (hS.get 0 rfl) rfl) ?_
       rintro _ W1 ⟨rfl, pv, u⟩
       exact ⟨congrArg vi hzc.sync.1, pv, q3, hS.stp 0 rfl u⟩
      ·intro b W hSt
       have hSt0 := hSt
       obtain ⟨q1, q3, hS⟩ := hSt0
       refine TOp.cy rfl rfl rfl rfl rfl (enter_call0 (.cons (.tmp rfl) .nil) (Try.en23)) (Sync_b _ { G with pv := q3 } zn W (hS.get 2 rfl) rfl) ?_
       rintro _ W1 ⟨rfl, pv, u⟩
       exact ⟨congrArg vi hzc.sync.1, q1, pv, hS.stp 2 rfl u⟩
      intro w20 hSt
      obtain ⟨s1, s3, hS⟩ := hSt
      change Wx.Sep no w0 _ [aDisk { C with pv := s1 } (syncS zn), aDisk { D with pv := p2 } zd, aDisk { G with pv := s3 } (syncS zn), aBlk B13 (WP.cells ⟨(fitO x n : Int), fitS x n, x.sync⟩) 53] at hS
      rw [hzc.sync.2] at hS
      replace hzc := hzc.synced hvs
      refine AWU.tail (by kernel_rfl) (by kernel_rfl) rfl ?_
      refine LW.yes rfl rfl rfl rfl rfl rfl ?_
      refine LW.p (PEv.fa (PEv.neq (.tmp rfl) (.tmp rfl)) (rfl)) rfl rfl rfl ?_
      refine LW.yes rfl rfl rfl rfl rfl rfl ?_
      refine LW.p (PEv.pick_and (.tmp rfl) (fun hp => (by first | exact .const _ | exact .tmp rfl | exact .cond rfl (by first | assumption | simp_all)))) rfl rfl rfl ?_
      refine LW.p (PEv.pick_or (.tmp rfl) (fun hp => (by first | exact .const _ | exact .tmp rfl | exact .cond rfl (by first | assumption | simp_all)))) rfl rfl rfl ?_
      refine LW.nil (KW.then ?_)
      refine CW.cond_false (.tmp rfl) ?_
      refine CW.skip (KW.inBlock (KW.then (CW.region (LW.p (PEv.move (.tmp rfl)) rfl rfl rfl ?_))))
      refine LW.p (PEv.inc (.tmp rfl) (by omega)) rfl rfl rfl ?_
      refine LW.p (PEv.assign (.tmp rfl)) rfl rfl rfl (LW.nil (KW.round ?_))
      exact ⟨(k + 1, _, _, _, _, _), ⟨⟨by omega, by omega⟩, (hzc.mono (by omega)), (hzd.mono (by omega)), hS.take 3⟩, ⟨rfl, rfl, rfl, rfl, rfl, rfl, rfl, trivial⟩, by first | omega | (dsimp only; omega)⟩
     | false =>
      refine CW.draws_up (by kernel_rfl) rfl ?_
      obtain ⟨w21, hdr⟩ : ∃ W, W = w9.drew := ⟨_, rfl⟩
      have uw21 : Up w9 w21 := by rw [hdr]; exact Up.drew _
      rw [← hdr]
      clear hdr
      have zw21 := uw21.size
      replace hS := hS.up uw21
      refine AWU.pair 0 12 5 11 (fun i => [.pointer (some ⟨C.bd, 0, none⟩), .pointer (some ⟨B13, 0, none⟩), vi (fitO x n : Int), .pointer (some ⟨B13, 1, none⟩), .string (fitS x n), vi 0, .pointer (some ⟨G.bd, 0, none⟩), .pointer (some ⟨B13, 0, none⟩), vi (fitO x n : Int), .pointer (some ⟨B13, 1, none⟩), .string (fitS x n), vi 0].getD (i - 0) undef) (fun b1 b2 W => ∃ q1 q3, Wx.Sep no w0 W [aDisk { C with pv := q1 } (bif b1 then writeS zc (fitO x n : Int) (fitS x n) else zc), aDisk { D with pv := p2 } zd, aDisk { G with pv := q3 } (bif b2 then writeS zc (fitO x n : Int) (fitS x n) else zc), aBlk B13 (WP.cells ⟨(fitO x n : Int), fitS x n, x.sync⟩) 53]) (by kernel_rfl) (by kernel_rfl) (by kernel_rfl) (by kernel_rfl) (by kernel_rfl) (by kernel_rfl) (by kernel_rfl) (by kernel_rfl) (by kernel_rfl) (by kernel_rfl) (by kernel_rfl) rfl rfl ?_ _ _ rfl rfl ?_ ?_ (⟨_, _, hS⟩) ?_
      ·intro b1 b2 W hSt
       have hSt0 := hSt
       obtain ⟨q1, q3, hS⟩ := hSt0
       refine allL.cons (fun _ _ => ?_) ?_
       ·exact TOp.p (hg := rfl) (PEv.move (.tmp rfl)) ⟨rfl, hSt⟩
       refine allL.cons (fun _ _ => ?_) ?_
       ·exact TOp.p (hg := rfl) (PEv.fieldAddr (off := 0) Try.underlying53 rfl rfl Try.sizeOf3 rfl (.tmp rfl)) ⟨rfl, hSt⟩
       refine allL.cons (fun _ _ => ?_) ?_
       ·exact TOp.p (hg := rfl) (PEv.load Try.isAgg3 (.tmp rfl) ((hS.blk 3 rfl).celln (v := vi (fitO x n : Int)) rfl)) ⟨rfl, hSt⟩
       refine allL.cons (fun _ _ => ?_) ?_
       ·exact TOp.p (hg := rfl) (PEv.fieldAddr (off := 1) Try.underlying53 rfl rfl Try.sizeOf9 rfl (.tmp rfl)) ⟨rfl, hSt⟩
       refine allL.cons (fun _ _ => ?_) ?_
       ·exact TOp.p (hg := rfl) (PEv.load Try.isAgg9 (.tmp rfl) ((hS.blk 3 rfl).celln (v := .string (fitS x n)) rfl)) ⟨rfl, hSt⟩
       refine allL.cons (fun h _ => absurd rfl h) ?_
       refine allL.cons (fun _ _ => ?_) ?_
       ·exact TOp.p (hg := rfl) (PEv.move (.tmp rfl)) ⟨rfl, hSt⟩
       refine allL.cons (fun _ _ => ?_) ?_
       ·exact TOp.p (hg := rfl) (PEv.fieldAddr (off := 0) Try.underlying53 rfl rfl Try.sizeOf3 rfl (.tmp rfl)) ⟨rfl, hSt⟩
       refine allL.cons (fun _ _ => ?_) ?_
       ·exact TOp.p (hg := rfl) (PEv.load Try.isAgg3 (.tmp rfl) ((hS.blk 3 rfl).celln (v := vi (fitO x n : Int)) rfl)) ⟨rfl, hSt⟩
       refine allL.cons (fun _ _ => ?_) ?_
       ·exact TOp.p (hg := rfl) (PEv.fieldAddr (off := 1) Try.underlying53 rfl rfl Try.sizeOf9 rfl (.tmp rfl)) ⟨rfl, hSt⟩
       refine allL.cons (fun _ _ => ?_) ?_
       ·exact TOp.p (hg := rfl) (PEv.load Try.isAgg9 (.tmp rfl) ((hS.blk 3 rfl).celln (v := .string (fitS x n)) rfl)) ⟨rfl, hSt⟩
       refine allL.cons (fun _ h => absurd rfl h) ?_
       exact allL.nil
      ·intro b W hSt
       have hSt0 := hSt
       obtain ⟨q1, q3, hS⟩ := hSt0
       refine TOp.c (enter_call0 (.cons (.tmp rfl) (.cons (.tmp rfl) (.cons (.tmp rfl) .nil))) (Try.en21)) rfl (Write_b _ { C with pv := q1 } zc W (hS.get 0 rfl) rfl (fitO x n : Int) (fitS x n) (by have := hzc.pend; omega)) ?_
       rintro _ W1 ⟨rfl, pv, u⟩
       exact ⟨congrArg vi (hzc.write (fit_le (hl x (List.mem_of_getElem? hx)).off)).1, pv, q3, hS.stp 0 rfl u⟩
      ·intro b W hSt
       have hSt0 := hSt
       obtain ⟨q1, q3, hS⟩ := hSt0
       refine TOp.c (enter_call0 (.cons (.tmp rfl) (.cons (.tmp rfl) (.cons (.tmp rfl) .nil))) (Try.en21)) rfl (Write_b _ { G with pv := q3 } zc W (hS.get 2 rfl) rfl (fitO x n : Int) (fitS x n) (by have := hzc.pend; omega)) ?_
       rintro _ W1 ⟨rfl, pv, u⟩
       exact ⟨congrArg vi (hzc.write (fit_le (hl x (List.mem_of_getElem? hx)).off)).1, q1, pv, hS.stp 2 rfl u⟩
      intro w22 hSt
      obtain ⟨r1, r3, hS⟩ := hSt
      change Wx.Sep no w0 _ [aDisk { C with pv := r1 } (writeS zc (fitO x n : Int) (fitS x n)), aDisk { D with pv := p2 } zd, aDisk { G with pv := r3 } (writeS zc (fitO x n : Int) (fitS x n)), aBlk B13 (WP.cells ⟨(fitO x n : Int), fitS x n, x.sync⟩) 53] at hS
      rw [(hzc.write (fit_le (hl x (List.mem_of_getElem? hx)).off)).2] at hS
      replace hzc := hzc.put (fitO x n : Int) (fitS x n)
      have hvs := (ok_of (hS.get 0 rfl)).len.trans hzc.len
      obtain ⟨zn, ezn⟩ : ∃ z, z = putS zc (fitO x n : Int) (fitS x n) := ⟨_, rfl⟩
      rw [← ezn] at hS hzc hvs
      refine AWU.pair 12 21 18 20 (fun i => [.bool false, .bool false, .pointer (some ⟨B13, 2, none⟩), .bool false, .bool false, undef, undef, undef, undef].getD (i - 12) undef) (fun b1 b2 W => Wx.Sep no w0 W [aDisk { C with pv := r1 } (zn), aDisk { D with pv := p2 } zd, aDisk { G with pv := r3 } (zn), aBlk B13 (WP.cells ⟨(fitO x n : Int), fitS x n, x.sync⟩) 53]) (by kernel_rfl) (by kernel_rfl) (by kernel_rfl) (by kernel_rfl) (by kernel_rfl) (by kernel_rfl) (by kernel_rfl) (by kernel_rfl) (by kernel_rfl) (by kernel_rfl) (by kernel_rfl) rfl rfl ?_ _ _ rfl rfl ?_ ?_ (hS) ?_
      ·intro b1 b2 W hSt
       have hS := hSt
       refine allL.cons (fun _ _ => ?_) ?_
       ·exact TOp.p (hg := rfl) (PEv.fa (PEv.neq (.tmp rfl) (.tmp rfl)) (rfl)) ⟨rfl, hSt⟩
       refine allL.cons (fun _ _ => ?_) ?_
       ·exact TOp.p (hg := rfl) (PEv.move (.tmp rfl)) ⟨rfl, hSt⟩
       refine allL.cons (fun _ _ => ?_) ?_
       ·exact TOp.py rfl rfl rfl rfl rfl (PEv.fieldAddr (off := 2) Try.underlying53 rfl rfl Try.sizeOf4 rfl (.tmp rfl)) ⟨rfl, hSt⟩
       refine allL.cons (fun _ _ => ?_) ?_
       ·exact TOp.py rfl rfl rfl rfl rfl (PEv.fa (PEv.load Try.isAgg4 (.tmp rfl) ((hS.blk 3 rfl).celln (v := .bool x.sync) rfl)) (hq15)) ⟨rfl, hSt⟩
       refine allL.cons (fun _ _ => ?_) ?_
       ·exact TOp.py rfl rfl rfl rfl rfl (PEv.move (.tmp rfl)) ⟨rfl, hSt⟩
       refine allL.cons (fun _ _ => ?_) ?_
       ·exact TOp.no rfl rfl rfl rfl rfl rfl ⟨rfl, hSt⟩
       refine allL.cons (fun h _ => absurd rfl h) ?_
       refine allL.cons (fun _ _ => ?_) ?_
       ·exact TOp.no rfl rfl rfl rfl rfl rfl ⟨rfl, hSt⟩
       refine allL.cons (fun _ h => absurd rfl h) ?_
       exact allL.nil
      ·intro b W hSt
       exact TOp.no rfl rfl rfl rfl rfl rfl ⟨rfl, hSt⟩
      ·intro b W hSt
       exact TOp.no rfl rfl rfl rfl rfl rfl ⟨rfl, hSt⟩
      intro w23 hSt
      have hS : Wx.Sep no w0 _ [aDisk { C with pv := r1 } (zn), aDisk { D with pv := p2 } zd, aDisk { G with pv := r3 } (zn), aBlk B13 (WP.cells ⟨(fitO x n : Int), fitS x n, x.sync⟩) 53] := hSt
      refine AWU.tail (by kernel_rfl) (by kernel_rfl) rfl ?_
      refine LW.no rfl rfl rfl rfl rfl rfl rfl rfl ?_
      refine LW.yes rfl rfl rfl rfl rfl rfl ?_
      refine LW.p (PEv.pick_and (b := false) (.tmp rfl) (fun hp => absurd (show false = true from hp) (by decide))) rfl rfl rfl ?_
      refine LW.p (PEv.pick_or (.tmp rfl) (fun hp => (by first | exact .const _ | exact .tmp rfl | exact .cond rfl (by first | assumption | simp_all)))) rfl rfl rfl ?_
      refine LW.nil (KW.then ?_)
      refine CW.cond_false (.tmp rfl) ?_
      refine CW.skip (KW.inBlock (KW.then (CW.region (LW.p (PEv.move (.tmp rfl)) rfl rfl rfl ?_))))
      refine LW.p (PEv.inc (.tmp rfl) (by omega)) rfl rfl rfl ?_
      refine LW.p (PEv.assign (.tmp rfl)) rfl rfl rfl (LW.nil (KW.round ?_))
      exact ⟨(k + 1, _, _, _, _, _), ⟨⟨by omega, by omega⟩, (hzc.mono (by omega)), (hzd.mono (by omega)), hS.take 3⟩, ⟨rfl, rfl, rfl, rfl, rfl, rfl, rfl, trivial⟩, by first | omega | (dsimp only; omega)⟩
   ·first | replace h54 := of_decide_eq_true h54 | replace h54 := of_decide_eq_false h54 | skip
    refine CW.exit (KW.then_exit (KW.then_exit (KW.block_hit (KW.then (CW.seq ?_)))))
    have hvf := (ok_of (hS.get 0 rfl)).len.trans hzc.len
    refine CW.region (LW.p (PEv.move (.tmp rfl)) rfl rfl rfl (LW.p (PEv.move (.tmp rfl)) rfl rfl rfl ?_))
    refine LW.c (enter_call0 (.cons (.tmp rfl) (.cons (.const _) (.cons (.tmp rfl) .nil))) (Try.en14)) rfl rfl rfl rfl (Read_b _ _ _ _ (hS.get 0 rfl) rfl 0 (n : Int)) ?_
    rintro _ w24 ⟨rfl, uw24⟩
    have zw24 := uw24.size
    replace hS := hS.up uw24
    rw [(hzc.reads hvf).1, (hzc.reads hvf).2]
    refine LW.p (PEv.move (.tmp rfl)) rfl rfl rfl (LW.p (PEv.extract (.tmp rfl) rfl) rfl rfl rfl (LW.p (PEv.extract (.tmp rfl) rfl) rfl rfl rfl (LW.p (PEv.assign (.tmp rfl)) rfl rfl rfl (LW.p (PEv.assign (.tmp rfl)) rfl rfl rfl (LW.nil (KW.then (CW.seq (CW.region (LW.p (PEv.move (.tmp rfl)) rfl rfl rfl (LW.p (PEv.move (.tmp rfl)) rfl rfl rfl ?_))))))))))
    refine LW.c (enter_call0 (.cons (.tmp rfl) (.cons (.const _) (.cons (.tmp rfl) .nil))) (Try.en14)) rfl rfl rfl rfl (Read_b _ _ _ _ (hS.get 2 rfl) rfl 0 (n : Int)) ?_
    rintro _ w25 ⟨rfl, uw25⟩
    have zw25 := uw25.size
    replace hS := hS.up uw25
    rw [(hzc.reads hvf).1, (hzc.reads hvf).2]
    refine LW.p (PEv.move (.tmp rfl)) rfl rfl rfl (LW.p (PEv.extract (.tmp rfl) rfl) rfl rfl rfl (LW.p (PEv.extract (.tmp rfl) rfl) rfl rfl rfl (LW.p (PEv.assign (.tmp rfl)) rfl rfl rfl (LW.p (PEv.assign (.tmp rfl)) rfl rfl rfl (LW.nil (KW.then (CW.seq (CW.region (LW.p (PEv.move (.tmp rfl)) rfl rfl rfl (LW.p (PEv.move (.tmp rfl)) rfl rfl rfl ?_))))))))))
    refine LW.yes rfl rfl rfl rfl rfl rfl ?_
    refine LW.p (PEv.move (.tmp rfl)) rfl rfl rfl ?_
    refine LW.yes rfl rfl rfl rfl rfl rfl ?_
    refine LW.p (PEv.tr (PEv.eql (.tmp rfl) (.const _)) (rfl)) rfl rfl rfl ?_
    refine LW.p (PEv.pick_and (.tmp rfl) (fun hp => (by first | exact .const _ | exact .tmp rfl | exact .cond rfl (by first | assumption | simp_all)))) rfl rfl rfl ?_
    refine LW.p (PEv.move (.tmp rfl)) rfl rfl rfl ?_
    refine LW.yes rfl rfl rfl rfl rfl rfl ?_
    refine LW.p (PEv.move (.tmp rfl)) rfl rfl rfl ?_
    refine LW.yes rfl rfl rfl rfl rfl rfl ?_
    refine LW.p (PEv.tr (PEv.eql (.tmp rfl) (.const _)) (rfl)) rfl rfl rfl ?_
    refine LW.p (PEv.pick_and (.tmp rfl) (fun hp => (by first | exact .const _ | exact .tmp rfl | exact .cond rfl (by first | assumption | simp_all)))) rfl rfl rfl ?_
    refine LW.p (PEv.move (.tmp rfl)) rfl rfl rfl ?_
    refine LW.yes rfl rfl rfl rfl rfl rfl ?_
    refine LW.p (PEv.move (.tmp rfl)) rfl rfl rfl ?_
    refine LW.yes rfl rfl rfl rfl rfl rfl ?_
    refine LW.p (PEv.move (.tmp rfl)) rfl rfl rfl ?_
    refine LW.yes rfl rfl rfl rfl rfl rfl ?_
    refine LW.p (PEv.tr (PEv.eqlStr (.tmp rfl) (.tmp rfl)) (beq_self_eq_true _)) rfl rfl rfl ?_
    refine LW.p (PEv.pick_and (.tmp rfl) (fun hp => (by first | exact .const _ | exact .tmp rfl | exact .cond rfl (by first | assumption | simp_all)))) rfl rfl rfl ?_
    refine LW.p (PEv.move (.tmp rfl)) rfl rfl rfl ?_
    refine LW.yes rfl rfl rfl rfl rfl rfl ?_
    refine LW.p (PEv.move (.tmp rfl)) rfl rfl rfl ?_
    refine LW.yes rfl rfl rfl rfl rfl rfl ?_
    refine LW.c (enter_call0 (.cons (.tmp rfl) .nil) (Try.en17)) rfl rfl rfl rfl (Pending_b _ _ _ _ (hS.get 0 rfl) rfl) ?_
    rintro _ w26 ⟨rfl, uw26⟩
    have zw26 := uw26.size
    replace hS := hS.up uw26
    refine LW.yes rfl rfl rfl rfl rfl rfl ?_
    refine LW.p (PEv.move (.tmp rfl)) rfl rfl rfl ?_
    refine LW.yes rfl rfl rfl rfl rfl rfl ?_
    refine LW.c (enter_call0 (.cons (.tmp rfl) .nil) (Try.en17)) rfl rfl rfl rfl (Pending_b _ _ _ _ (hS.get 2 rfl) rfl) ?_
    rintro _ w27 ⟨rfl, uw27⟩
    have zw27 := uw27.size
    replace hS := hS.up uw27
    refine LW.yes rfl rfl rfl rfl rfl rfl ?_
    refine LW.p (PEv.tr (PEv.eql (.tmp rfl) (.tmp rfl)) (decide_eq_true rfl)) rfl rfl rfl ?_
    refine LW.p (PEv.pick_and (.tmp rfl) (fun hp => (by first | exact .const _ | exact .tmp rfl | exact .cond rfl (by first | assumption | simp_all)))) rfl rfl rfl ?_
    refine LW.p (PEv.assign (.tmp rfl)) rfl rfl rfl (LW.nil (KW.then (CW.ret ?_)))
    refine KW.ret1 rfl rfl ⟨_, rfl, ?_⟩
    exact ⟨rfl, hS.upd⟩

end Go.Proofs.Ytkpkljbmbmjadaa
