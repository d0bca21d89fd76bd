import Derived.Test.YtkpkljbmbmjadaaDr3
import Derived.Test.YtkpkljbmbmjadaaTw
namespace Go.Wx

structure SPar where
  call : Int
  off : Int
  m : Int
  s : ByteArray
  kad : Option Addr
  keep : List Int
  kcp : Nat
def SPar.cells (p : SPar) : Array Go.Value := #[vi p.call, vi p.off, vi p.m, .string p.s, .slice p.kad p.keep.length p.kcp]
theorem SPar.one (p : SPar) : p.cells.all (·.oneCell') = true := by simp [SPar.cells, Value.oneCell']
def SPOk (W : World) (p : SPar) : Prop := inI p.call ∧ inI p.off ∧ inI p.m ∧ Els W p.kad 1 eInt p.keep ∧ p.keep.length ≤ p.kcp
def stepS (z : DS) (p : SPar) : DS :=
  if pickI p.call 6 = 0 ∨ pickI p.call 6 = 1 then writeS z p.off (cutB p.s 300) else if pickI p.call 6 = 2 then syncS z else if pickI p.call 6 = 3 then z else if pickI p.call 6 = 4 then cutS z p.m else crashS z (p.keep.take 100) p.m
theorem coh_write {z : DS} (h : z.vis = applyAll z.dur z.pend) (off : Int) (x : ByteArray) : (writeS z off x).vis = applyAll (writeS z off x).dur (writeS z off x).pend ∧ (writeS z off x).dur = z.dur ∧ (writeS z off x).pend.length ≤ z.pend.length + 1 := by
  unfold writeS
  split
  · exact ⟨h, rfl, by omega⟩
  · split
    · have e : (usedS (putS z off x)).vis = (putS z off x).vis ∧ (usedS (putS z off x)).dur = z.dur ∧ (usedS (putS z off x)).pend = (putS z off x).pend := by unfold usedS; split <;> exact ⟨rfl, rfl, rfl⟩
      rw [e.1, e.2.1, e.2.2]
      refine ⟨?_, rfl, by simp [putS]⟩
      show overlay z.vis off.toNat x.data.toList = applyAll z.dur (z.pend ++ [⟨off, x⟩])
      rw [applyAll_snoc, ← h]
    · exact ⟨h, rfl, by omega⟩
theorem coh_step {z : DS} {n i : Nat} (h : z.vis = applyAll z.dur z.pend) (hk : DOk z) (hn : z.dur.length = n) (hi : z.pend.length ≤ i) (p : SPar) : (stepS z p).vis = applyAll (stepS z p).dur (stepS z p).pend ∧ (stepS z p).dur.length = n ∧ (stepS z p).pend.length ≤ i + 1 := by
  unfold stepS
  split
  · obtain ⟨h1, h2, h3⟩ := coh_write h p.off (cutB p.s 300)
    exact ⟨h1, by rw [h2]; exact hn, by omega⟩
  · split
    · unfold syncS
      split
      · exact ⟨h, hn, by omega⟩
      · exact ⟨rfl, by show z.vis.length = n; rw [hk.len]; exact hn, Nat.zero_le _⟩
    · split
      · exact ⟨h, hn, by omega⟩
      · split
        · unfold cutS
          split
          · exact ⟨h, hn, by omega⟩
          · split
            · exact ⟨h, hn, by omega⟩
            · exact ⟨h, hn, by show z.pend.length ≤ _; omega⟩
        · refine ⟨rfl, ?_, Nat.zero_le _⟩
          show (applyAll z.dur (crashWs z (orderS (p.keep.take 100) z.pend.length) p.m)).length = n
          rw [applyAll_length (crashWs_ok hk orderS_mem)]
          exact hn
theorem step_w {z : DS} {p : SPar} (h : pickI p.call 6 = 0 ∨ pickI p.call 6 = 1) : stepS z p = writeS z p.off (cutB p.s 300) := if_pos h
theorem step_s {z : DS} {p : SPar} (h : pickI p.call 6 = 2) : stepS z p = syncS z := by unfold stepS; rw [if_neg (by omega), if_pos h]
theorem step_r {z : DS} {p : SPar} (h : pickI p.call 6 = 3) : stepS z p = z := by unfold stepS; rw [if_neg (by omega), if_neg (by omega), if_pos h]
theorem step_c {z : DS} {p : SPar} (h : pickI p.call 6 = 4) : stepS z p = cutS z p.m := by unfold stepS; rw [if_neg (by omega), if_neg (by omega), if_neg (by omega), if_pos h]
theorem step_k {z : DS} {p : SPar} (h0 : ¬ pickI p.call 6 = 0) (h1 : ¬ pickI p.call 6 = 1) (h2 : ¬ pickI p.call 6 = 2) (h3 : ¬ pickI p.call 6 = 3) (h4 : ¬ pickI p.call 6 = 4) : stepS z p = crashS z (p.keep.take 100) p.m := by unfold stepS; rw [if_neg (by omega), if_neg (by omega), if_neg (by omega), if_neg (by omega)]

end Go.Wx
namespace Go.Proofs.Ytkpkljbmbmjadaa
open Go.Wx Go.RowKit
def aTwo (D : Dk) (R : Rf) (z : DS) : Asr := aAnd [aDisk D z, aRef R z]
theorem two_d {D : Dk} {R : Rf} {z : DS} {w : World} (h : (aTwo D R z).holds w) : (aDisk D z).holds w := h.1 _ (by simp)
theorem two_r {D : Dk} {R : Rf} {z : DS} {w : World} (h : (aTwo D R z).holds w) : (aRef R z).holds w := h.1 _ (by simp)
theorem aRef_congr {R : Rf} {z y : DS} (h : z.off = y.off ∧ z.left = y.left ∧ z.dur = y.dur ∧ z.pend = y.pend) : aRef R z = aRef R y := by
  unfold aRef rcells
  rw [h.1, h.2.1, h.2.2.1, h.2.2.2]
theorem rWrite_b (b : Nat) (R : Rf) (z : DS) (w : World) (hD : (aRef R z).holds w) (hb : R.bd = b) (hk : DOk z) (off : Int) (x : ByteArray) (hp : z.pend.length < 1000000) : Ret Try.prog 30 #[.pointer (some ⟨b, 0, none⟩), vi off, .string x] w fun r w' => r = vi (writeE z off x) ∧ ∃ R', R'.bd = b ∧ Stp (aRef R z) (aRef R' (writeS z off x)) w w' := by subst hb; exact rWrite_any R z w hD hk off x hp
theorem rSync_b (b : Nat) (R : Rf) (z : DS) (w : World) (hD : (aRef R z).holds w) (hb : R.bd = b) (hk : DOk z) (hv : z.vis = applyAll z.dur z.pend) : Ret Try.prog 31 #[.pointer (some ⟨b, 0, none⟩)] w fun r w' => r = vi (checkS z) ∧ ∃ R', R'.bd = b ∧ Stp (aRef R z) (aRef R' (syncS z)) w w' := by subst hb; exact rSync_any R z w hD hk hv
theorem rRead_b (b : Nat) (R : Rf) (z : DS) (w : World) (hD : (aRef R z).holds w) (hb : R.bd = b) (hk : DOk z) (hv : z.vis = applyAll z.dur z.pend) (off m : Int) : Ret Try.prog 20 #[.pointer (some ⟨b, 0, none⟩), vi off, vi m] w fun r w' => r = .tuple #[.string (readB z off m), vi (readE z off m)] ∧ Up w w' := by subst hb; exact rRead_any R z w hD hk hv off m
theorem rCut_b (b : Nat) (R : Rf) (z : DS) (w : World) (hD : (aRef R z).holds w) (hb : R.bd = b) (hk : DOk z) (m : Int) : Ret Try.prog 32 #[.pointer (some ⟨b, 0, none⟩), vi m] w fun r w' => r = vi (cutE z m) ∧ ∃ R', R'.bd = b ∧ Stp (aRef R z) (aRef R' (cutS z m)) w w' := by subst hb; exact rCut_any R z w hD hk m
theorem rCrash_b (b : Nat) (R : Rf) (z : DS) (adk : Option Addr) (cpk : Nat) (keep : List Int) (torn : Int) (w : World) (hD : (aRef R z).holds w) (hb : R.bd = b) (hk : DOk z) (hE : Els w adk 1 eInt keep) (hkl : keep.length ≤ 1000000000) : Ret Try.prog 33 #[.pointer (some ⟨b, 0, none⟩), .slice adk keep.length cpk, vi torn] w fun r w' => r = .tuple #[] ∧ ∃ R', R'.bd = b ∧ Stp (aRef R z) (aRef R' (crashS z keep torn)) w w' := by
  subst hb
  refine (rCrash_any R z adk cpk keep torn w hD hk hE hkl).mono fun v w' h => ?_
  obtain ⟨h1, R', h2, h3⟩ := h
  exact ⟨h1, R', h2, by rw [← aRef_congr (crash_same z keep torn)]; exact h3⟩

set_option maxHeartbeats 4000000 in
theorem step_b (b1d b2d : Nat) (D : Dk) (R : Rf) (z : DS) (p : SPar) (w : World) (hT : (aTwo D R z).holds w) (hd : D.bd = b1d) (hr : R.bd = b2d) (hv : z.vis = applyAll z.dur z.pend) (hpl : z.pend.length < 1000000) (hc1 : inI p.call) (hm1 : p.m ≤ 9223372036854775807) (hkc : p.keep.length ≤ p.kcp) (hEk : ∀ W, Fr (aTwo D R z).foot w W → Els W p.kad 1 eInt p.keep) : Ret Try.prog 19 #[.pointer (some ⟨b1d, 0, none⟩), .pointer (some ⟨b2d, 0, none⟩), .agg p.cells] w fun r w' => r = .bool true ∧ ∃ D' R', D'.bd = b1d ∧ R'.bd = b2d ∧ Stp (aTwo D R z) (aTwo D' R' (stepS z p)) w w' := by
  obtain ⟨w0, rfl⟩ : ∃ w0, w0 = w := ⟨_, rfl⟩
  have hk := ok_of (two_d hT)
  obtain ⟨FT, hFT⟩ : ∃ FT, FT = (aTwo D R z).foot := ⟨_, rfl⟩
  have hS : Wx.Sep FT w0 w0 [aDisk D z, aRef R z] := by rw [hFT]; exact aAnd_open hT
  rw [← hFT] at hEk
  refine Calls_start (n := 97) (m := 9) Try.func19 rfl rfl rfl ?_
  refine CW.seq (CW.region ?_)
  refine LW.r (REv.boxA (.tmp rfl)) rfl rfl rfl rfl ?_
  rintro _ w1 ⟨B5, rfl, NB5⟩
  have eB5 := NB5.at_
  have zB5 := NB5.size
  replace hS := hS.addB NB5
  change Wx.Sep _ _ _ [_, _, _] at hS
  refine LW.p (PEv.assign (.const _)) rfl rfl rfl (LW.nil (KW.then (CW.seq (CW.seq (CW.region ?_)))))
  refine LW.p (PEv.fieldAddr (off := 0) Try.underlying39 rfl rfl Try.sizeOf3 rfl (.tmp rfl)) rfl rfl rfl ?_
  refine LW.p (PEv.load Try.isAgg3 (.tmp rfl) ((hS.blk 2 rfl).celln (v := vi p.call) rfl)) rfl rfl rfl ?_
  refine LW.c (enter_call0 (.cons (.tmp rfl) (.cons (.const _) .nil)) (Try.en15)) rfl rfl rfl rfl (pick_any _ _ _ hc1 (by decide)) ?_
  rintro _ w2 ⟨rfl, uw2⟩
  have zw2 := uw2.size
  replace hS := hS.up uw2
  refine LW.nil (KW.then (CW.block (CW.seq (CW.seq (CW.region ?_)))))
  refine LW.p (PEv.eql (.tmp rfl) (.const _)) rfl rfl rfl ?_
  refine LW.p (PEv.assign (.tmp rfl)) rfl rfl rfl (LW.nil (KW.then ?_))
  refine CW.cond (.tmp rfl) (fun h16 => ?_) (fun h16 => ?_)
  ·first | replace h16 := of_decide_eq_true h16 | replace h16 := of_decide_eq_false h16 | skip
   refine CW.skip (KW.then ?_)
   refine CW.cond (.tmp rfl) (fun h16 => ?_) (fun h16 => ?_)
   ·first | replace h16 := of_decide_eq_true h16 | replace h16 := of_decide_eq_false h16 | skip
    refine CW.seq (CW.region ?_)
    refine LW.p (PEv.fieldAddr (off := 3) Try.underlying39 rfl rfl Try.sizeOf9 rfl (.tmp rfl)) rfl rfl rfl ?_
    refine LW.p (PEv.load Try.isAgg9 (.tmp rfl) ((hS.blk 2 rfl).celln (v := .string p.s) rfl)) rfl rfl rfl ?_
    refine LW.c (enter_call0 (.cons (.tmp rfl) (.cons (.const _) .nil)) (Try.en22)) rfl rfl rfl rfl (cut_any _ 300 _ (by decide)) ?_
    rintro _ w3 ⟨rfl, uw3⟩
    have zw3 := uw3.size
    replace hS := hS.up uw3
    refine LW.p (PEv.assign (.tmp rfl)) rfl rfl rfl (LW.nil (KW.then (CW.seq ?_)))
    refine CW.draws_up (by kernel_rfl) rfl ?_
    obtain ⟨w4, hdr⟩ : ∃ W, W = w3.drew := ⟨_, rfl⟩
    have uw4 : Up w3 w4 := by rw [hdr]; exact Up.drew _
    rw [← hdr]
    clear hdr
    have zw4 := uw4.size
    replace hS := hS.up uw4
    refine AWU.pair 0 10 4 9 (fun i => [.pointer (some ⟨b1d, 0, none⟩), .pointer (some ⟨B5, 1, none⟩), vi p.off, .string (cutB p.s 300), vi (writeE z p.off (cutB p.s 300)), .pointer (some ⟨b2d, 0, none⟩), .pointer (some ⟨B5, 1, none⟩), vi p.off, .string (cutB p.s 300), vi (writeE z p.off (cutB p.s 300))].getD (i - 0) undef) (fun b1 b2 W => ∃ D1 R1, D1.bd = b1d ∧ R1.bd = b2d ∧ Wx.Sep FT w0 W [aDisk D1 (bif b1 then (writeS z p.off (cutB p.s 300)) else z), aRef R1 (bif b2 then (writeS z p.off (cutB p.s 300)) else z), aBlk B5 p.cells 39]) (by kernel_rfl) (by kernel_rfl) (by kernel_rfl) (by kernel_rfl) (by kernel_rfl) (by kernel_rfl) (by kernel_rfl) (by kernel_rfl) (by kernel_rfl) (by kernel_rfl) (by kernel_rfl) rfl rfl ?_ _ _ rfl rfl ?_ ?_ (⟨_, _, hd, hr, hS⟩) ?_
    ·intro b1 b2 W hSt
     have hSt0 := hSt
     obtain ⟨D1, R1, hd1, hr1, hS⟩ := hSt0
     refine allL.cons (fun _ _ => ?_) ?_
     ·exact TOp.p (hg := rfl) (PEv.move (.tmp rfl)) ⟨rfl, hSt⟩
     refine allL.cons (fun _ _ => ?_) ?_
     ·exact TOp.p (hg := rfl) (PEv.fieldAddr (off := 1) Try.underlying39 rfl rfl Try.sizeOf3 rfl (.tmp rfl)) ⟨rfl, hSt⟩
     refine allL.cons (fun _ _ => ?_) ?_
     ·exact TOp.p (hg := rfl) (PEv.load Try.isAgg3 (.tmp rfl) ((hS.blk 2 rfl).celln (v := vi p.off) rfl)) ⟨rfl, hSt⟩
     refine allL.cons (fun _ _ => ?_) ?_
     ·exact TOp.p (hg := rfl) (PEv.move (.tmp rfl)) ⟨rfl, hSt⟩
     refine allL.cons (fun h _ => absurd rfl h) ?_
     refine allL.cons (fun _ _ => ?_) ?_
     ·exact TOp.p (hg := rfl) (PEv.move (.tmp rfl)) ⟨rfl, hSt⟩
     refine allL.cons (fun _ _ => ?_) ?_
     ·exact TOp.p (hg := rfl) (PEv.fieldAddr (off := 1) Try.underlying39 rfl rfl Try.sizeOf3 rfl (.tmp rfl)) ⟨rfl, hSt⟩
     refine allL.cons (fun _ _ => ?_) ?_
     ·exact TOp.p (hg := rfl) (PEv.load Try.isAgg3 (.tmp rfl) ((hS.blk 2 rfl).celln (v := vi p.off) rfl)) ⟨rfl, hSt⟩
     refine allL.cons (fun _ _ => ?_) ?_
     ·exact TOp.p (hg := rfl) (PEv.move (.tmp rfl)) ⟨rfl, hSt⟩
     refine allL.cons (fun _ h => absurd rfl h) ?_
     exact allL.nil
    ·intro b W hSt
     have hSt0 := hSt
     obtain ⟨D1, R1, hd1, hr1, hS⟩ := hSt0
     refine TOp.c (enter_call0 (.cons (.tmp rfl) (.cons (.tmp rfl) (.cons (.tmp rfl) .nil))) (Try.en21)) rfl (Write_b _ D1 z W (hS.get 0 rfl) hd1 p.off (cutB p.s 300) hpl) ?_
     rintro _ W1 ⟨rfl, pv, u⟩
     exact ⟨rfl, { D1 with pv := pv }, R1, hd1, hr1, hS.stp 0 rfl u⟩
    ·intro b W hSt
     have hSt0 := hSt
     obtain ⟨D1, R1, hd1, hr1, hS⟩ := hSt0
     refine TOp.c (enter_call0 (.cons (.tmp rfl) (.cons (.tmp rfl) (.cons (.tmp rfl) .nil))) (Try.en30)) rfl (rWrite_b _ R1 z W (hS.get 1 rfl) hr1 hk p.off (cutB p.s 300) hpl) ?_
     rintro _ W1 ⟨rfl, R3, hr3, u⟩
     exact ⟨rfl, D1, R3, hd1, hr3, hS.stp 1 rfl u⟩
    intro w5 hSt
    obtain ⟨D2, R2, hd2, hr2, hS⟩ := hSt
    change Wx.Sep FT w0 _ [aDisk D2 (writeS z p.off (cutB p.s 300)), aRef R2 (writeS z p.off (cutB p.s 300)), aBlk B5 p.cells 39] at hS
    refine AWU.tail (by kernel_rfl) (by kernel_rfl) rfl ?_
    refine LW.p (PEv.tr (PEv.eql (.tmp rfl) (.tmp rfl)) (decide_eq_true rfl)) rfl rfl rfl ?_
    refine LW.p (PEv.assign (.tmp rfl)) rfl rfl rfl (LW.nil (KW.then (CW.ret (KW.block_ret (KW.then_ret ?_)))))
    refine KW.ret1 rfl rfl ⟨_, rfl, ?_⟩
    refine ⟨rfl, D2, R2, hd2, hr2, ?_⟩
    rw [show stepS z p = _ from step_w (by omega)]
    rw [hFT] at hS
    exact aAnd_close (rest := [_]) hS
   ·first | replace h16 := of_decide_eq_true h16 | replace h16 := of_decide_eq_false h16 | skip
    refine CW.seq (CW.region ?_)
    refine LW.p (PEv.eql (.tmp rfl) (.const _)) rfl rfl rfl ?_
    refine LW.p (PEv.assign (.tmp rfl)) rfl rfl rfl (LW.nil (KW.then ?_))
    refine CW.cond (.tmp rfl) (fun h33 => ?_) (fun h33 => ?_)
    ·first | replace h33 := of_decide_eq_true h33 | replace h33 := of_decide_eq_false h33 | skip
     refine CW.seq (CW.region (LW.p (PEv.move (.tmp rfl)) rfl rfl rfl ?_))
     refine LW.c (enter_call0 (.cons (.tmp rfl) .nil) (Try.en23)) rfl rfl rfl rfl (Sync_b _ D z _ (hS.get 0 rfl) hd) ?_
     rintro _ w6 ⟨rfl, pv3, uw6⟩
     have zw6 := uw6.fr.size
     replace hS := hS.stp 0 rfl uw6
     change Wx.Sep _ _ _ [_, _, _] at hS
     obtain ⟨D3, eD3⟩ : ∃ D3, D3 = { D with pv := pv3 } := ⟨_, rfl⟩
     have hd3 : D3.bd = b1d := by rw [eD3]; exact hd
     rw [← eD3] at hS
     refine LW.p (PEv.move (.tmp rfl)) rfl rfl rfl ?_
     refine LW.c (enter_call0 (.cons (.tmp rfl) .nil) (Try.en31)) rfl rfl rfl rfl (rSync_b _ R z _ (hS.get 1 rfl) hr hk hv) ?_
     rintro _ w7 ⟨rfl, R3, hr3, uw7⟩
     have zw7 := uw7.fr.size
     replace hS := hS.stp 1 rfl uw7
     change Wx.Sep _ _ _ [_, _, _] at hS
     refine LW.p (PEv.tr (PEv.eql (.tmp rfl) (.tmp rfl)) (decide_eq_true rfl)) rfl rfl rfl ?_
     refine LW.p (PEv.assign (.tmp rfl)) rfl rfl rfl (LW.nil (KW.then (CW.ret (KW.block_ret (KW.then_ret ?_)))))
     refine KW.ret1 rfl rfl ⟨_, rfl, ?_⟩
     refine ⟨rfl, D3, R3, hd3, hr3, ?_⟩
     rw [show stepS z p = _ from step_s (by omega)]
     rw [hFT] at hS
     exact aAnd_close (rest := [_]) hS
    ·first | replace h33 := of_decide_eq_true h33 | replace h33 := of_decide_eq_false h33 | skip
     have hn2 : ¬ pickI p.call 6 = 2 := h33
     refine CW.seq (CW.region ?_)
     refine LW.p (PEv.eql (.tmp rfl) (.const _)) rfl rfl rfl ?_
     refine LW.p (PEv.assign (.tmp rfl)) rfl rfl rfl (LW.nil (KW.then ?_))
     refine CW.cond (.tmp rfl) (fun h40 => ?_) (fun h40 => ?_)
     ·first | replace h40 := of_decide_eq_true h40 | replace h40 := of_decide_eq_false h40 | skip
      refine CW.seq (CW.region (LW.p (PEv.move (.tmp rfl)) rfl rfl rfl ?_))
      refine LW.p (PEv.fieldAddr (off := 1) Try.underlying39 rfl rfl Try.sizeOf3 rfl (.tmp rfl)) rfl rfl rfl ?_
      refine LW.p (PEv.load Try.isAgg3 (.tmp rfl) ((hS.blk 2 rfl).celln (v := vi p.off) rfl)) rfl rfl rfl ?_
      refine LW.p (PEv.fieldAddr (off := 2) Try.underlying39 rfl rfl Try.sizeOf3 rfl (.tmp rfl)) rfl rfl rfl ?_
      refine LW.p (PEv.load Try.isAgg3 (.tmp rfl) ((hS.blk 2 rfl).celln (v := vi p.m) rfl)) rfl rfl rfl ?_
      refine LW.c (enter_call0 (.cons (.tmp rfl) (.cons (.tmp rfl) (.cons (.tmp rfl) .nil))) (Try.en14)) rfl rfl rfl rfl (Read_b _ D z _ (hS.get 0 rfl) hd p.off p.m) ?_
      rintro _ w8 ⟨rfl, uw8⟩
      have zw8 := uw8.size
      replace hS := hS.up uw8
      refine LW.p (PEv.move (.tmp rfl)) rfl rfl rfl (LW.p (PEv.extract (.tmp rfl) rfl) rfl rfl rfl (LW.p (PEv.extract (.tmp rfl) rfl) rfl rfl rfl (LW.p (PEv.assign (.tmp rfl)) rfl rfl rfl (LW.p (PEv.assign (.tmp rfl)) rfl rfl rfl (LW.nil (KW.then (CW.seq (CW.region (LW.p (PEv.move (.tmp rfl)) rfl rfl rfl ?_)))))))))
      refine LW.p (PEv.fieldAddr (off := 1) Try.underlying39 rfl rfl Try.sizeOf3 rfl (.tmp rfl)) rfl rfl rfl ?_
      refine LW.p (PEv.load Try.isAgg3 (.tmp rfl) ((hS.blk 2 rfl).celln (v := vi p.off) rfl)) rfl rfl rfl ?_
      refine LW.p (PEv.fieldAddr (off := 2) Try.underlying39 rfl rfl Try.sizeOf3 rfl (.tmp rfl)) rfl rfl rfl ?_
      refine LW.p (PEv.load Try.isAgg3 (.tmp rfl) ((hS.blk 2 rfl).celln (v := vi p.m) rfl)) rfl rfl rfl ?_
      refine LW.c (enter_call0 (.cons (.tmp rfl) (.cons (.tmp rfl) (.cons (.tmp rfl) .nil))) (Try.en20)) rfl rfl rfl rfl (rRead_b _ R z _ (hS.get 1 rfl) hr hk hv p.off p.m) ?_
      rintro _ w9 ⟨rfl, uw9⟩
      have zw9 := uw9.size
      replace hS := hS.up uw9
      refine LW.p (PEv.move (.tmp rfl)) rfl rfl rfl (LW.p (PEv.extract (.tmp rfl) rfl) rfl rfl rfl (LW.p (PEv.extract (.tmp rfl) rfl) rfl rfl rfl (LW.p (PEv.assign (.tmp rfl)) rfl rfl rfl (LW.p (PEv.assign (.tmp rfl)) rfl rfl rfl (LW.nil (KW.then (CW.seq (CW.region (LW.p (PEv.move (.tmp rfl)) rfl rfl rfl (LW.p (PEv.move (.tmp rfl)) rfl rfl rfl ?_))))))))))
      refine LW.p (PEv.tr (PEv.eqlStr (.tmp rfl) (.tmp rfl)) (beq_self_eq_true _)) rfl rfl rfl ?_
      refine LW.p (PEv.move (.tmp rfl)) rfl rfl rfl ?_
      refine LW.yes rfl rfl rfl rfl rfl rfl ?_
      refine LW.p (PEv.move (.tmp rfl)) rfl rfl rfl ?_
      refine LW.yes rfl rfl rfl rfl rfl rfl ?_
      refine LW.p (PEv.move (.tmp rfl)) rfl rfl rfl ?_
      refine LW.yes rfl rfl rfl rfl rfl rfl ?_
      refine LW.p (PEv.tr (PEv.eql (.tmp rfl) (.tmp rfl)) (decide_eq_true rfl)) rfl rfl rfl ?_
      refine LW.p (PEv.pick_and (.tmp rfl) (fun hp => (by first | exact .const _ | exact .tmp rfl | exact .cond rfl (by first | assumption | simp_all)))) rfl rfl rfl ?_
      refine LW.p (PEv.assign (.tmp rfl)) rfl rfl rfl (LW.nil (KW.then (CW.ret (KW.block_ret (KW.then_ret ?_)))))
      refine KW.ret1 rfl rfl ⟨_, rfl, ?_⟩
      refine ⟨rfl, D, R, hd, hr, ?_⟩
      rw [show stepS z p = _ from step_r (by omega)]
      rw [hFT] at hS
      exact aAnd_close (rest := [_]) hS
     ·first | replace h40 := of_decide_eq_true h40 | replace h40 := of_decide_eq_false h40 | skip
      have hn3 : ¬ pickI p.call 6 = 3 := h40
      refine CW.seq (CW.region ?_)
      refine LW.p (PEv.eql (.tmp rfl) (.const _)) rfl rfl rfl ?_
      refine LW.p (PEv.assign (.tmp rfl)) rfl rfl rfl (LW.nil (KW.then ?_))
      refine CW.cond (.tmp rfl) (fun h68 => ?_) (fun h68 => ?_)
      ·first | replace h68 := of_decide_eq_true h68 | replace h68 := of_decide_eq_false h68 | skip
       refine CW.seq ?_
       refine CW.draws_up (by kernel_rfl) rfl ?_
       obtain ⟨w10, hdr⟩ : ∃ W, W = w2.drew := ⟨_, rfl⟩
       have uw10 : Up w2 w10 := by rw [hdr]; exact Up.drew _
       rw [← hdr]
       clear hdr
       have zw10 := uw10.size
       replace hS := hS.up uw10
       refine AWU.pair 0 8 3 7 (fun i => [.pointer (some ⟨b1d, 0, none⟩), .pointer (some ⟨B5, 2, none⟩), vi p.m, vi (cutE z p.m), .pointer (some ⟨b2d, 0, none⟩), .pointer (some ⟨B5, 2, none⟩), vi p.m, vi (cutE z p.m)].getD (i - 0) undef) (fun b1 b2 W => ∃ D1 R1, D1.bd = b1d ∧ R1.bd = b2d ∧ Wx.Sep FT w0 W [aDisk D1 (bif b1 then (cutS z p.m) else z), aRef R1 (bif b2 then (cutS z p.m) else z), aBlk B5 p.cells 39]) (by kernel_rfl) (by kernel_rfl) (by kernel_rfl) (by kernel_rfl) (by kernel_rfl) (by kernel_rfl) (by kernel_rfl) (by kernel_rfl) (by kernel_rfl) (by kernel_rfl) (by kernel_rfl) rfl rfl ?_ _ _ rfl rfl ?_ ?_ (⟨_, _, hd, hr, hS⟩) ?_
       ·intro b1 b2 W hSt
        have hSt0 := hSt
        obtain ⟨D1, R1, hd1, hr1, hS⟩ := hSt0
        refine allL.cons (fun _ _ => ?_) ?_
        ·exact TOp.p (hg := rfl) (PEv.move (.tmp rfl)) ⟨rfl, hSt⟩
        refine allL.cons (fun _ _ => ?_) ?_
        ·exact TOp.p (hg := rfl) (PEv.fieldAddr (off := 2) Try.underlying39 rfl rfl Try.sizeOf3 rfl (.tmp rfl)) ⟨rfl, hSt⟩
        refine allL.cons (fun _ _ => ?_) ?_
        ·exact TOp.p (hg := rfl) (PEv.load Try.isAgg3 (.tmp rfl) ((hS.blk 2 rfl).celln (v := vi p.m) rfl)) ⟨rfl, hSt⟩
        refine allL.cons (fun h _ => absurd rfl h) ?_
        refine allL.cons (fun _ _ => ?_) ?_
        ·exact TOp.p (hg := rfl) (PEv.move (.tmp rfl)) ⟨rfl, hSt⟩
        refine allL.cons (fun _ _ => ?_) ?_
        ·exact TOp.p (hg := rfl) (PEv.fieldAddr (off := 2) Try.underlying39 rfl rfl Try.sizeOf3 rfl (.tmp rfl)) ⟨rfl, hSt⟩
        refine allL.cons (fun _ _ => ?_) ?_
        ·exact TOp.p (hg := rfl) (PEv.load Try.isAgg3 (.tmp rfl) ((hS.blk 2 rfl).celln (v := vi p.m) rfl)) ⟨rfl, hSt⟩
        refine allL.cons (fun _ h => absurd rfl h) ?_
        exact allL.nil
       ·intro b W hSt
        have hSt0 := hSt
        obtain ⟨D1, R1, hd1, hr1, hS⟩ := hSt0
        refine TOp.c (enter_call0 (.cons (.tmp rfl) (.cons (.tmp rfl) .nil)) (Try.en24)) rfl (Cut_b _ D1 z W (hS.get 0 rfl) hd1 p.m hm1) ?_
        rintro _ W1 ⟨rfl, u⟩
        exact ⟨rfl, D1, R1, hd1, hr1, hS.stp 0 rfl u⟩
       ·intro b W hSt
        have hSt0 := hSt
        obtain ⟨D1, R1, hd1, hr1, hS⟩ := hSt0
        refine TOp.c (enter_call0 (.cons (.tmp rfl) (.cons (.tmp rfl) .nil)) (Try.en32)) rfl (rCut_b _ R1 z W (hS.get 1 rfl) hr1 hk p.m) ?_
        rintro _ W1 ⟨rfl, R3, hr3, u⟩
        exact ⟨rfl, D1, R3, hd1, hr3, hS.stp 1 rfl u⟩
       intro w11 hSt
       obtain ⟨D2, R2, hd2, hr2, hS⟩ := hSt
       change Wx.Sep FT w0 _ [aDisk D2 (cutS z p.m), aRef R2 (cutS z p.m), aBlk B5 p.cells 39] at hS
       refine AWU.tail (by kernel_rfl) (by kernel_rfl) rfl ?_
       refine LW.p (PEv.tr (PEv.eql (.tmp rfl) (.tmp rfl)) (decide_eq_true rfl)) rfl rfl rfl ?_
       refine LW.p (PEv.assign (.tmp rfl)) rfl rfl rfl (LW.nil (KW.then (CW.ret (KW.block_ret (KW.then_ret ?_)))))
       refine KW.ret1 rfl rfl ⟨_, rfl, ?_⟩
       refine ⟨rfl, D2, R2, hd2, hr2, ?_⟩
       rw [show stepS z p = _ from step_c (by omega)]
       rw [hFT] at hS
       exact aAnd_close (rest := [_]) hS
      ·first | replace h68 := of_decide_eq_true h68 | replace h68 := of_decide_eq_false h68 | skip
       have hn4 : ¬ pickI p.call 6 = 4 := h68
       refine CW.skip (KW.inBlock (KW.then (CW.seq (CW.region ?_))))
       refine LW.p (PEv.fieldAddr (off := 4) Try.underlying39 rfl rfl Try.sizeOf37 rfl (.tmp rfl)) rfl rfl rfl ?_
       refine LW.p (PEv.load Try.isAgg37 (.tmp rfl) ((hS.blk 2 rfl).celln (v := .slice p.kad p.keep.length p.kcp) rfl)) rfl rfl rfl ?_
       refine LW.p (PEv.fieldAddr (off := 4) Try.underlying39 rfl rfl Try.sizeOf37 rfl (.tmp rfl)) rfl rfl rfl ?_
       refine LW.p (PEv.load Try.isAgg37 (.tmp rfl) ((hS.blk 2 rfl).celln (v := .slice p.kad p.keep.length p.kcp) rfl)) rfl rfl rfl ?_
       refine LW.p (PEv.lenS Try.underlying37 (.tmp rfl)) rfl rfl rfl ?_
       refine LW.p (PEv.val (v' := vi ((p.keep.take 100).length : Int)) (PEv.min2 (.tmp rfl) (.const _)) (by rw [List.length_take]; congr 1; split <;> omega)) rfl rfl rfl ?_
       refine LW.p (PEv.sliceHi Try.underlying37 Try.sizeOf3 (.tmp rfl) (.tmp rfl) (by rw [List.length_take]; omega)) rfl rfl rfl ?_
       refine LW.p (PEv.assign (.tmp rfl)) rfl rfl rfl (LW.nil (KW.then (CW.seq (CW.region (LW.p (PEv.move (.tmp rfl)) rfl rfl rfl (LW.p (PEv.move (.tmp rfl)) rfl rfl rfl ?_))))))
       refine LW.p (PEv.fieldAddr (off := 2) Try.underlying39 rfl rfl Try.sizeOf3 rfl (.tmp rfl)) rfl rfl rfl ?_
       refine LW.p (PEv.load Try.isAgg3 (.tmp rfl) ((hS.blk 2 rfl).celln (v := vi p.m) rfl)) rfl rfl rfl ?_
       refine LW.c (enter_call0 (.cons (.tmp rfl) (.cons (.tmp rfl) (.cons (.tmp rfl) .nil))) (Try.en33)) rfl rfl rfl rfl (rCrash_b _ R z p.kad p.kcp (p.keep.take 100) p.m _ (hS.get 1 rfl) hr hk (Els.take (hEk _ (hS.fr))) (by rw [List.length_take]; omega)) ?_
       rintro _ w12 ⟨rfl, R4, hr4, uw12⟩
       have zw12 := uw12.fr.size
       replace hS := hS.stp 1 rfl uw12
       change Wx.Sep _ _ _ [_, _, _] at hS
       refine LW.nil (KW.then (CW.seq (CW.region (LW.p (PEv.move (.tmp rfl)) rfl rfl rfl (LW.p (PEv.move (.tmp rfl)) rfl rfl rfl ?_)))))
       refine LW.p (PEv.fieldAddr (off := 2) Try.underlying39 rfl rfl Try.sizeOf3 rfl (.tmp rfl)) rfl rfl rfl ?_
       refine LW.p (PEv.load Try.isAgg3 (.tmp rfl) ((hS.blk 2 rfl).celln (v := vi p.m) rfl)) rfl rfl rfl ?_
       refine LW.c (enter_call0 (.cons (.tmp rfl) (.cons (.tmp rfl) (.cons (.tmp rfl) .nil))) (Try.en25)) rfl rfl rfl rfl (Crash_b _ D z _ (hS.get 0 rfl) hd (keep := (p.keep.take 100)) (Els.take (hEk _ (hS.fr))) p.m (by rw [List.length_take]; omega)) ?_
       rintro _ w13 ⟨rfl, pv5, uw13⟩
       have zw13 := uw13.fr.size
       replace hS := hS.stp 0 rfl uw13
       change Wx.Sep _ _ _ [_, _, _] at hS
       obtain ⟨D5, eD5⟩ : ∃ D5, D5 = { D with pv := pv5 } := ⟨_, rfl⟩
       have hd5 : D5.bd = b1d := by rw [eD5]; exact hd
       rw [← eD5] at hS
       refine LW.p (PEv.tr (PEv.eql (.tmp rfl) (.const _)) (decide_eq_true rfl)) rfl rfl rfl ?_
       refine LW.p (PEv.assign (.tmp rfl)) rfl rfl rfl (LW.nil (KW.then (CW.ret ?_)))
       refine KW.ret1 rfl rfl ⟨_, rfl, ?_⟩
       refine ⟨rfl, D5, R4, hd5, hr4, ?_⟩
       rw [show stepS z p = _ from step_k (by omega) (by omega) (by omega) (by omega) (by omega)]
       rw [hFT] at hS
       exact aAnd_close (rest := [_]) hS
  ·first | replace h16 := of_decide_eq_true h16 | replace h16 := of_decide_eq_false h16 | skip
   refine CW.region ?_
   refine LW.p (PEv.eql (.tmp rfl) (.const _)) rfl rfl rfl ?_
   refine LW.p (PEv.assign (.tmp rfl)) rfl rfl rfl (LW.nil (KW.then ?_))
   refine CW.cond (.tmp rfl) (fun h16 => ?_) (fun h16 => ?_)
   ·first | replace h16 := of_decide_eq_true h16 | replace h16 := of_decide_eq_false h16 | skip
    refine CW.seq (CW.region ?_)
    refine LW.p (PEv.fieldAddr (off := 3) Try.underlying39 rfl rfl Try.sizeOf9 rfl (.tmp rfl)) rfl rfl rfl ?_
    refine LW.p (PEv.load Try.isAgg9 (.tmp rfl) ((hS.blk 2 rfl).celln (v := .string p.s) rfl)) rfl rfl rfl ?_
    refine LW.c (enter_call0 (.cons (.tmp rfl) (.cons (.const _) .nil)) (Try.en22)) rfl rfl rfl rfl (cut_any _ 300 _ (by decide)) ?_
    rintro _ w14 ⟨rfl, uw14⟩
    have zw14 := uw14.size
    replace hS := hS.up uw14
    refine LW.p (PEv.assign (.tmp rfl)) rfl rfl rfl (LW.nil (KW.then (CW.seq ?_)))
    refine CW.draws_up (by kernel_rfl) rfl ?_
    obtain ⟨w15, hdr⟩ : ∃ W, W = w14.drew := ⟨_, rfl⟩
    have uw15 : Up w14 w15 := by rw [hdr]; exact Up.drew _
    rw [← hdr]
    clear hdr
    have zw15 := uw15.size
    replace hS := hS.up uw15
    refine AWU.pair 0 10 4 9 (fun i => [.pointer (some ⟨b1d, 0, none⟩), .pointer (some ⟨B5, 1, none⟩), vi p.off, .string (cutB p.s 300), vi (writeE z p.off (cutB p.s 300)), .pointer (some ⟨b2d, 0, none⟩), .pointer (some ⟨B5, 1, none⟩), vi p.off, .string (cutB p.s 300), vi (writeE z p.off (cutB p.s 300))].getD (i - 0) undef) (fun b1 b2 W => ∃ D1 R1, D1.bd = b1d ∧ R1.bd = b2d ∧ Wx.Sep FT w0 W [aDisk D1 (bif b1 then (writeS z p.off (cutB p.s 300)) else z), aRef R1 (bif b2 then (writeS z p.off (cutB p.s 300)) else z), aBlk B5 p.cells 39]) (by kernel_rfl) (by kernel_rfl) (by kernel_rfl) (by kernel_rfl) (by kernel_rfl) (by kernel_rfl) (by kernel_rfl) (by kernel_rfl) (by kernel_rfl) (by kernel_rfl) (by kernel_rfl) rfl rfl ?_ _ _ rfl rfl ?_ ?_ (⟨_, _, hd, hr, hS⟩) ?_
    ·intro b1 b2 W hSt
     have hSt0 := hSt
     obtain ⟨D1, R1, hd1, hr1, hS⟩ := hSt0
     refine allL.cons (fun _ _ => ?_) ?_
     ·exact TOp.p (hg := rfl) (PEv.move (.tmp rfl)) ⟨rfl, hSt⟩
     refine allL.cons (fun _ _ => ?_) ?_
     ·exact TOp.p (hg := rfl) (PEv.fieldAddr (off := 1) Try.underlying39 rfl rfl Try.sizeOf3 rfl (.tmp rfl)) ⟨rfl, hSt⟩
     refine allL.cons (fun _ _ => ?_) ?_
     ·exact TOp.p (hg := rfl) (PEv.load Try.isAgg3 (.tmp rfl) ((hS.blk 2 rfl).celln (v := vi p.off) rfl)) ⟨rfl, hSt⟩
     refine allL.cons (fun _ _ => ?_) ?_
     ·exact TOp.p (hg := rfl) (PEv.move (.tmp rfl)) ⟨rfl, hSt⟩
     refine allL.cons (fun h _ => absurd rfl h) ?_
     refine allL.cons (fun _ _ => ?_) ?_
     ·exact TOp.p (hg := rfl) (PEv.move (.tmp rfl)) ⟨rfl, hSt⟩
     refine allL.cons (fun _ _ => ?_) ?_
     ·exact TOp.p (hg := rfl) (PEv.fieldAddr (off := 1) Try.underlying39 rfl rfl Try.sizeOf3 rfl (.tmp rfl)) ⟨rfl, hSt⟩
     refine allL.cons (fun _ _ => ?_) ?_
     ·exact TOp.p (hg := rfl) (PEv.load Try.isAgg3 (.tmp rfl) ((hS.blk 2 rfl).celln (v := vi p.off) rfl)) ⟨rfl, hSt⟩
     refine allL.cons (fun _ _ => ?_) ?_
     ·exact TOp.p (hg := rfl) (PEv.move (.tmp rfl)) ⟨rfl, hSt⟩
     refine allL.cons (fun _ h => absurd rfl h) ?_
     exact allL.nil
    ·intro b W hSt
     have hSt0 := hSt
     obtain ⟨D1, R1, hd1, hr1, hS⟩ := hSt0
     refine TOp.c (enter_call0 (.cons (.tmp rfl) (.cons (.tmp rfl) (.cons (.tmp rfl) .nil))) (Try.en21)) rfl (Write_b _ D1 z W (hS.get 0 rfl) hd1 p.off (cutB p.s 300) hpl) ?_
     rintro _ W1 ⟨rfl, pv, u⟩
     exact ⟨rfl, { D1 with pv := pv }, R1, hd1, hr1, hS.stp 0 rfl u⟩
    ·intro b W hSt
     have hSt0 := hSt
     obtain ⟨D1, R1, hd1, hr1, hS⟩ := hSt0
     refine TOp.c (enter_call0 (.cons (.tmp rfl) (.cons (.tmp rfl) (.cons (.tmp rfl) .nil))) (Try.en30)) rfl (rWrite_b _ R1 z W (hS.get 1 rfl) hr1 hk p.off (cutB p.s 300) hpl) ?_
     rintro _ W1 ⟨rfl, R3, hr3, u⟩
     exact ⟨rfl, D1, R3, hd1, hr3, hS.stp 1 rfl u⟩
    intro w16 hSt
    obtain ⟨D2, R2, hd2, hr2, hS⟩ := hSt
    change Wx.Sep FT w0 _ [aDisk D2 (writeS z p.off (cutB p.s 300)), aRef R2 (writeS z p.off (cutB p.s 300)), aBlk B5 p.cells 39] at hS
    refine AWU.tail (by kernel_rfl) (by kernel_rfl) rfl ?_
    refine LW.p (PEv.tr (PEv.eql (.tmp rfl) (.tmp rfl)) (decide_eq_true rfl)) rfl rfl rfl ?_
    refine LW.p (PEv.assign (.tmp rfl)) rfl rfl rfl (LW.nil (KW.then (CW.ret (KW.block_ret (KW.then_ret ?_)))))
    refine KW.ret1 rfl rfl ⟨_, rfl, ?_⟩
    refine ⟨rfl, D2, R2, hd2, hr2, ?_⟩
    rw [show stepS z p = _ from step_w (by omega)]
    rw [hFT] at hS
    exact aAnd_close (rest := [_]) hS
   ·first | replace h16 := of_decide_eq_true h16 | replace h16 := of_decide_eq_false h16 | skip
    refine CW.seq (CW.region ?_)
    refine LW.p (PEv.eql (.tmp rfl) (.const _)) rfl rfl rfl ?_
    refine LW.p (PEv.assign (.tmp rfl)) rfl rfl rfl (LW.nil (KW.then ?_))
    refine CW.cond (.tmp rfl) (fun h33 => ?_) (fun h33 => ?_)
    ·first | replace h33 := of_decide_eq_true h33 | replace h33 := of_decide_eq_false h33 | skip
     refine CW.seq (CW.region (LW.p (PEv.move (.tmp rfl)) rfl rfl rfl ?_))
     refine LW.c (enter_call0 (.cons (.tmp rfl) .nil) (Try.en23)) rfl rfl rfl rfl (Sync_b _ D z _ (hS.get 0 rfl) hd) ?_
     rintro _ w17 ⟨rfl, pv3, uw17⟩
     have zw17 := uw17.fr.size
     replace hS := hS.stp 0 rfl uw17
     change Wx.Sep _ _ _ [_, _, _] at hS
     obtain ⟨D3, eD3⟩ : ∃ D3, D3 = { D with pv := pv3 } := ⟨_, rfl⟩
     have hd3 : D3.bd = b1d := by rw [eD3]; exact hd
     rw [← eD3] at hS
     refine LW.p (PEv.move (.tmp rfl)) rfl rfl rfl ?_
     refine LW.c (enter_call0 (.cons (.tmp rfl) .nil) (Try.en31)) rfl rfl rfl rfl (rSync_b _ R z _ (hS.get 1 rfl) hr hk hv) ?_
     rintro _ w18 ⟨rfl, R3, hr3, uw18⟩
     have zw18 := uw18.fr.size
     replace hS := hS.stp 1 rfl uw18
     change Wx.Sep _ _ _ [_, _, _] at hS
     refine LW.p (PEv.tr (PEv.eql (.tmp rfl) (.tmp rfl)) (decide_eq_true rfl)) rfl rfl rfl ?_
     refine LW.p (PEv.assign (.tmp rfl)) rfl rfl rfl (LW.nil (KW.then (CW.ret (KW.block_ret (KW.then_ret ?_)))))
     refine KW.ret1 rfl rfl ⟨_, rfl, ?_⟩
     refine ⟨rfl, D3, R3, hd3, hr3, ?_⟩
     rw [show stepS z p = _ from step_s (by omega)]
     rw [hFT] at hS
     exact aAnd_close (rest := [_]) hS
    ·first | replace h33 := of_decide_eq_true h33 | replace h33 := of_decide_eq_false h33 | skip
     have hn2 : ¬ pickI p.call 6 = 2 := h33
     refine CW.seq (CW.region ?_)
     refine LW.p (PEv.eql (.tmp rfl) (.const _)) rfl rfl rfl ?_
     refine LW.p (PEv.assign (.tmp rfl)) rfl rfl rfl (LW.nil (KW.then ?_))
     refine CW.cond (.tmp rfl) (fun h40 => ?_) (fun h40 => ?_)
     ·first | replace h40 := of_decide_eq_true h40 | replace h40 := of_decide_eq_false h40 | skip
      refine CW.seq (CW.region (LW.p (PEv.move (.tmp rfl)) rfl rfl rfl ?_))
      refine LW.p (PEv.fieldAddr (off := 1) Try.underlying39 rfl rfl Try.sizeOf3 rfl (.tmp rfl)) rfl rfl rfl ?_
      refine LW.p (PEv.load Try.isAgg3 (.tmp rfl) ((hS.blk 2 rfl).celln (v := vi p.off) rfl)) rfl rfl rfl ?_
      refine LW.p (PEv.fieldAddr (off := 2) Try.underlying39 rfl rfl Try.sizeOf3 rfl (.tmp rfl)) rfl rfl rfl ?_
      refine LW.p (PEv.load Try.isAgg3 (.tmp rfl) ((hS.blk 2 rfl).celln (v := vi p.m) rfl)) rfl rfl rfl ?_
      refine LW.c (enter_call0 (.cons (.tmp rfl) (.cons (.tmp rfl) (.cons (.tmp rfl) .nil))) (Try.en14)) rfl rfl rfl rfl (Read_b _ D z _ (hS.get 0 rfl) hd p.off p.m) ?_
      rintro _ w19 ⟨rfl, uw19⟩
      have zw19 := uw19.size
      replace hS := hS.up uw19
      refine LW.p (PEv.move (.tmp rfl)) rfl rfl rfl (LW.p (PEv.extract (.tmp rfl) rfl) rfl rfl rfl (LW.p (PEv.extract (.tmp rfl) rfl) rfl rfl rfl (LW.p (PEv.assign (.tmp rfl)) rfl rfl rfl (LW.p (PEv.assign (.tmp rfl)) rfl rfl rfl (LW.nil (KW.then (CW.seq (CW.region (LW.p (PEv.move (.tmp rfl)) rfl rfl rfl ?_)))))))))
      refine LW.p (PEv.fieldAddr (off := 1) Try.underlying39 rfl rfl Try.sizeOf3 rfl (.tmp rfl)) rfl rfl rfl ?_
      refine LW.p (PEv.load Try.isAgg3 (.tmp rfl) ((hS.blk 2 rfl).celln (v := vi p.off) rfl)) rfl rfl rfl ?_
      refine LW.p (PEv.fieldAddr (off := 2) Try.underlying39 rfl rfl Try.sizeOf3 rfl (.tmp rfl)) rfl rfl rfl ?_
      refine LW.p (PEv.load Try.isAgg3 (.tmp rfl) ((hS.blk 2 rfl).celln (v := vi p.m) rfl)) rfl rfl rfl ?_
      refine LW.c (enter_call0 (.cons (.tmp rfl) (.cons (.tmp rfl) (.cons (.tmp rfl) .nil))) (Try.en20)) rfl rfl rfl rfl (rRead_b _ R z _ (hS.get 1 rfl) hr hk hv p.off p.m) ?_
      rintro _ w20 ⟨rfl, uw20⟩
      have zw20 := uw20.size
      replace hS := hS.up uw20
      refine LW.p (PEv.move (.tmp rfl)) rfl rfl rfl (LW.p (PEv.extract (.tmp rfl) rfl) rfl rfl rfl (LW.p (PEv.extract (.tmp rfl) rfl) rfl rfl rfl (LW.p (PEv.assign (.tmp rfl)) rfl rfl rfl (LW.p (PEv.assign (.tmp rfl)) rfl rfl rfl (LW.nil (KW.then (CW.seq (CW.region (LW.p (PEv.move (.tmp rfl)) rfl rfl rfl (LW.p (PEv.move (.tmp rfl)) rfl rfl rfl ?_))))))))))
      refine LW.p (PEv.tr (PEv.eqlStr (.tmp rfl) (.tmp rfl)) (beq_self_eq_true _)) rfl rfl rfl ?_
      refine LW.p (PEv.move (.tmp rfl)) rfl rfl rfl ?_
      refine LW.yes rfl rfl rfl rfl rfl rfl ?_
      refine LW.p (PEv.move (.tmp rfl)) rfl rfl rfl ?_
      refine LW.yes rfl rfl rfl rfl rfl rfl ?_
      refine LW.p (PEv.move (.tmp rfl)) rfl rfl rfl ?_
      refine LW.yes rfl rfl rfl rfl rfl rfl ?_
      refine LW.p (PEv.tr (PEv.eql (.tmp rfl) (.tmp rfl)) (decide_eq_true rfl)) rfl rfl rfl ?_
      refine LW.p (PEv.pick_and (.tmp rfl) (fun hp => (by first | exact .const _ | exact .tmp rfl | exact .cond rfl (by first | assumption | simp_all)))) rfl rfl rfl ?_
      refine LW.p (PEv.assign (.tmp rfl)) rfl rfl rfl (LW.nil (KW.then (CW.ret (KW.block_ret (KW.then_ret ?_)))))
      refine KW.ret1 rfl rfl ⟨_, rfl, ?_⟩
      refine ⟨rfl, D, R, hd, hr, ?_⟩
      rw [show stepS z p = _ from step_r (by omega)]
      rw [hFT] at hS
      exact aAnd_close (rest := [_]) hS
     ·first | replace h40 := of_decide_eq_true h40 | replace h40 := of_decide_eq_false h40 | skip
      have hn3 : ¬ pickI p.call 6 = 3 := h40
      refine CW.seq (CW.region ?_)
      refine LW.p (PEv.eql (.tmp rfl) (.const _)) rfl rfl rfl ?_
      refine LW.p (PEv.assign (.tmp rfl)) rfl rfl rfl (LW.nil (KW.then ?_))
      refine CW.cond (.tmp rfl) (fun h68 => ?_) (fun h68 => ?_)
      ·first | replace h68 := of_decide_eq_true h68 | replace h68 := of_decide_eq_false h68 | skip
       refine CW.seq ?_
       refine CW.draws_up (by kernel_rfl) rfl ?_
       obtain ⟨w21, hdr⟩ : ∃ W, W = w2.drew := ⟨_, rfl⟩
       have uw21 : Up w2 w21 := by rw [hdr]; exact Up.drew _
       rw [← hdr]
       clear hdr
       have zw21 := uw21.size
       replace hS := hS.up uw21
       refine AWU.pair 0 8 3 7 (fun i => [.pointer (some ⟨b1d, 0, none⟩), .pointer (some ⟨B5, 2, none⟩), vi p.m, vi (cutE z p.m), .pointer (some ⟨b2d, 0, none⟩), .pointer (some ⟨B5, 2, none⟩), vi p.m, vi (cutE z p.m)].getD (i - 0) undef) (fun b1 b2 W => ∃ D1 R1, D1.bd = b1d ∧ R1.bd = b2d ∧ Wx.Sep FT w0 W [aDisk D1 (bif b1 then (cutS z p.m) else z), aRef R1 (bif b2 then (cutS z p.m) else z), aBlk B5 p.cells 39]) (by kernel_rfl) (by kernel_rfl) (by kernel_rfl) (by kernel_rfl) (by kernel_rfl) (by kernel_rfl) (by kernel_rfl) (by kernel_rfl) (by kernel_rfl) (by kernel_rfl) (by kernel_rfl) rfl rfl ?_ _ _ rfl rfl ?_ ?_ (⟨_, _, hd, hr, hS⟩) ?_
       ·intro b1 b2 W hSt
        have hSt0 := hSt
        obtain ⟨D1, R1, hd1, hr1, hS⟩ := hSt0
        refine allL.cons (fun _ _ => ?_) ?_
        ·exact TOp.p (hg := rfl) (PEv.move (.tmp rfl)) ⟨rfl, hSt⟩
        refine allL.cons (fun _ _ => ?_) ?_
        ·exact TOp.p (hg := rfl) (PEv.fieldAddr (off := 2) Try.underlying39 rfl rfl Try.sizeOf3 rfl (.tmp rfl)) ⟨rfl, hSt⟩
        refine allL.cons (fun _ _ => ?_) ?_
        ·exact TOp.p (hg := rfl) (PEv.load Try.isAgg3 (.tmp rfl) ((hS.blk 2 rfl).celln (v := vi p.m) rfl)) ⟨rfl, hSt⟩
        refine allL.cons (fun h _ => absurd rfl h) ?_
        refine allL.cons (fun _ _ => ?_) ?_
        ·exact TOp.p (hg := rfl) (PEv.move (.tmp rfl)) ⟨rfl, hSt⟩
        refine allL.cons (fun _ _ => ?_) ?_
        ·exact TOp.p (hg := rfl) (PEv.fieldAddr (off := 2) Try.underlying39 rfl rfl Try.sizeOf3 rfl (.tmp rfl)) ⟨rfl, hSt⟩
        refine allL.cons (fun _ _ => ?_) ?_
        ·exact TOp.p (hg := rfl) (PEv.load Try.isAgg3 (.tmp rfl) ((hS.blk 2 rfl).celln (v := vi p.m) rfl)) ⟨rfl, hSt⟩
        refine allL.cons (fun _ h => absurd rfl h) ?_
        exact allL.nil
       ·intro b W hSt
        have hSt0 := hSt
        obtain ⟨D1, R1, hd1, hr1, hS⟩ := hSt0
        refine TOp.c (enter_call0 (.cons (.tmp rfl) (.cons (.tmp rfl) .nil)) (Try.en24)) rfl (Cut_b _ D1 z W (hS.get 0 rfl) hd1 p.m hm1) ?_
        rintro _ W1 ⟨rfl, u⟩
        exact ⟨rfl, D1, R1, hd1, hr1, hS.stp 0 rfl u⟩
       ·intro b W hSt
        have hSt0 := hSt
        obtain ⟨D1, R1, hd1, hr1, hS⟩ := hSt0
        refine TOp.c (enter_call0 (.cons (.tmp rfl) (.cons (.tmp rfl) .nil)) (Try.en32)) rfl (rCut_b _ R1 z W (hS.get 1 rfl) hr1 hk p.m) ?_
        rintro _ W1 ⟨rfl, R3, hr3, u⟩
        exact ⟨rfl, D1, R3, hd1, hr3, hS.stp 1 rfl u⟩
       intro w22 hSt
       obtain ⟨D2, R2, hd2, hr2, hS⟩ := hSt
       change Wx.Sep FT w0 _ [aDisk D2 (cutS z p.m), aRef R2 (cutS z p.m), aBlk B5 p.cells 39] at hS
       refine AWU.tail (by kernel_rfl) (by kernel_rfl) rfl ?_
       refine LW.p (PEv.tr (PEv.eql (.tmp rfl) (.tmp rfl)) (decide_eq_true rfl)) rfl rfl rfl ?_
       refine LW.p (PEv.assign (.tmp rfl)) rfl rfl rfl (LW.nil (KW.then (CW.ret (KW.block_ret (KW.then_ret ?_)))))
       refine KW.ret1 rfl rfl ⟨_, rfl, ?_⟩
       refine ⟨rfl, D2, R2, hd2, hr2, ?_⟩
       rw [show stepS z p = _ from step_c (by omega)]
       rw [hFT] at hS
       exact aAnd_close (rest := [_]) hS
      ·first | replace h68 := of_decide_eq_true h68 | replace h68 := of_decide_eq_false h68 | skip
       have hn4 : ¬ pickI p.call 6 = 4 := h68
       refine CW.skip (KW.inBlock (KW.then (CW.seq (CW.region ?_))))
       refine LW.p (PEv.fieldAddr (off := 4) Try.underlying39 rfl rfl Try.sizeOf37 rfl (.tmp rfl)) rfl rfl rfl ?_
       refine LW.p (PEv.load Try.isAgg37 (.tmp rfl) ((hS.blk 2 rfl).celln (v := .slice p.kad p.keep.length p.kcp) rfl)) rfl rfl rfl ?_
       refine LW.p (PEv.fieldAddr (off := 4) Try.underlying39 rfl rfl Try.sizeOf37 rfl (.tmp rfl)) rfl rfl rfl ?_
       refine LW.p (PEv.load Try.isAgg37 (.tmp rfl) ((hS.blk 2 rfl).celln (v := .slice p.kad p.keep.length p.kcp) rfl)) rfl rfl rfl ?_
       refine LW.p (PEv.lenS Try.underlying37 (.tmp rfl)) rfl rfl rfl ?_
       refine LW.p (PEv.val (v' := vi ((p.keep.take 100).length : Int)) (PEv.min2 (.tmp rfl) (.const _)) (by rw [List.length_take]; congr 1; split <;> omega)) rfl rfl rfl ?_
       refine LW.p (PEv.sliceHi Try.underlying37 Try.sizeOf3 (.tmp rfl) (.tmp rfl) (by rw [List.length_take]; omega)) rfl rfl rfl ?_
       refine LW.p (PEv.assign (.tmp rfl)) rfl rfl rfl (LW.nil (KW.then (CW.seq (CW.region (LW.p (PEv.move (.tmp rfl)) rfl rfl rfl (LW.p (PEv.move (.tmp rfl)) rfl rfl rfl ?_))))))
       refine LW.p (PEv.fieldAddr (off := 2) Try.underlying39 rfl rfl Try.sizeOf3 rfl (.tmp rfl)) rfl rfl rfl ?_
       refine LW.p (PEv.load Try.isAgg3 (.tmp rfl) ((hS.blk 2 rfl).celln (v := vi p.m) rfl)) rfl rfl rfl ?_
       refine LW.c (enter_call0 (.cons (.tmp rfl) (.cons (.tmp rfl) (.cons (.tmp rfl) .nil))) (Try.en33)) rfl rfl rfl rfl (rCrash_b _ R z p.kad p.kcp (p.keep.take 100) p.m _ (hS.get 1 rfl) hr hk (Els.take (hEk _ (hS.fr))) (by rw [List.length_take]; omega)) ?_
       rintro _ w23 ⟨rfl, R4, hr4, uw23⟩
       have zw23 := uw23.fr.size
       replace hS := hS.stp 1 rfl uw23
       change Wx.Sep _ _ _ [_, _, _] at hS
       refine LW.nil (KW.then (CW.seq (CW.region (LW.p (PEv.move (.tmp rfl)) rfl rfl rfl (LW.p (PEv.move (.tmp rfl)) rfl rfl rfl ?_)))))
       refine LW.p (PEv.fieldAddr (off := 2) Try.underlying39 rfl rfl Try.sizeOf3 rfl (.tmp rfl)) rfl rfl rfl ?_
       refine LW.p (PEv.load Try.isAgg3 (.tmp rfl) ((hS.blk 2 rfl).celln (v := vi p.m) rfl)) rfl rfl rfl ?_
       refine LW.c (enter_call0 (.cons (.tmp rfl) (.cons (.tmp rfl) (.cons (.tmp rfl) .nil))) (Try.en25)) rfl rfl rfl rfl (Crash_b _ D z _ (hS.get 0 rfl) hd (keep := (p.keep.take 100)) (Els.take (hEk _ (hS.fr))) p.m (by rw [List.length_take]; omega)) ?_
       rintro _ w24 ⟨rfl, pv5, uw24⟩
       have zw24 := uw24.fr.size
       replace hS := hS.stp 0 rfl uw24
       change Wx.Sep _ _ _ [_, _, _] at hS
       obtain ⟨D5, eD5⟩ : ∃ D5, D5 = { D with pv := pv5 } := ⟨_, rfl⟩
       have hd5 : D5.bd = b1d := by rw [eD5]; exact hd
       rw [← eD5] at hS
       refine LW.p (PEv.tr (PEv.eql (.tmp rfl) (.const _)) (decide_eq_true rfl)) rfl rfl rfl ?_
       refine LW.p (PEv.assign (.tmp rfl)) rfl rfl rfl (LW.nil (KW.then (CW.ret ?_)))
       refine KW.ret1 rfl rfl ⟨_, rfl, ?_⟩
       refine ⟨rfl, D5, R4, hd5, hr4, ?_⟩
       rw [show stepS z p = _ from step_k (by omega) (by omega) (by omega) (by omega) (by omega)]
       rw [hFT] at hS
       exact aAnd_close (rest := [_]) hS

end Go.Proofs.Ytkpkljbmbmjadaa
