import Derived.Test.YtkpkljbmbmjadaaDi8
namespace Go.Wx

structure CC (z : DS) (n q m : Nat) : Prop where
  off : z.off = decide (m = q)
  left : z.left = (q : Int) - m
  len : z.dur.length = n
  pend : z.pend.length = m
  inv : z.vis = applyAll z.dur z.pend
  le : m ≤ q
theorem CC.live {z : DS} {n q m j : Nat} {s : ByteArray} (h : CC z n q m) (hm : m < q) (hj : j + s.size ≤ n) : writeE z (j : Int) s = 0 ∧ CC (writeS z (j : Int) s) n q (m + 1) ∧ (writeS z (j : Int) s).vis = overlay z.vis j s.data.toList := by
  have h0 : z.off = false := by rw [h.off]; exact decide_eq_false (by omega)
  have hi : insideB z.dur.length (j : Int) (s.size : Int) = true := by rw [h.len]; exact inside_ok hj
  have hl : ¬ (putS z (j : Int) s).left = 0 := by show ¬ z.left = 0; rw [h.left]; omega
  have e : writeS z (j : Int) s = { putS z (j : Int) s with left := (putS z (j : Int) s).left - 1, off := decide ((putS z (j : Int) s).left - 1 = 0) } := by
    have : writeS z (j : Int) s = usedS (putS z (j : Int) s) := by simp [writeS, h0, hi]
    rw [this]; unfold usedS; exact if_neg hl
  refine ⟨by simp [writeE, h0, hi], ?_, by rw [e]; rfl⟩
  rw [e]
  refine ⟨?_, ?_, h.len, by show (z.pend ++ [_]).length = m + 1; rw [List.length_append, h.pend]; rfl, put_inv h.inv j s, hm⟩
  · show decide (z.left - 1 = 0) = decide (m + 1 = q)
    rw [h.left]
    by_cases hh : m + 1 = q
    · rw [decide_eq_true hh, decide_eq_true (by omega)]
    · rw [decide_eq_false hh, decide_eq_false (by omega)]
  · show z.left - 1 = _
    rw [h.left]; omega
theorem CC.dead {z : DS} {n q : Nat} (h : CC z n q q) : z.off = true := by rw [h.off]; exact decide_eq_true rfl
theorem dead_write {z : DS} (h : z.off = true) (off : Int) (s : ByteArray) : writeE z off s = 241 ∧ writeS z off s = z := ⟨by simp [writeE, h], by simp [writeS, h]⟩
theorem dead_read {z : DS} (h : z.off = true) (off m : Int) : readE z off m = 241 := by simp [readE, h]
theorem dead_sync {z : DS} (h : z.off = true) : checkS z = 241 ∧ syncS z = z := ⟨by simp [checkS, h], by simp [syncS, h]⟩
theorem dead_cut {z : DS} (h : z.off = true) (m : Int) : cutE z m = 241 ∧ cutS z m = z := ⟨by simp [cutE, h], by simp [cutS, h]⟩
theorem CC.check {z : DS} {n q m : Nat} (h : CC z n q m) (hm : m < q) : checkS z = 0 := by
  have h0 : z.off = false := by rw [h.off]; exact decide_eq_false (by omega)
  simp [checkS, h0]
def zc1 (n : Nat) (q : Nat) : DS := { newS n with left := (q : Int) + 5 }
def zc2 (n : Nat) (q : Nat) : DS := { newS n with off := decide (0 = q), left := (q : Int) }
theorem cut1 (n q : Nat) : cutE (newS n) ((q : Int) + 5) = 0 ∧ cutS (newS n) ((q : Int) + 5) = zc1 n q := by
  have h1 : ¬ ((q : Int) + 5 < 0) := by omega
  have h2 : decide ((q : Int) + 5 = 0) = false := decide_eq_false (by omega)
  refine ⟨by simp [cutE, newS, h1], ?_⟩
  simp only [cutS, newS, zc1, h1, if_false, h2, Bool.false_eq_true]
theorem cut2 (n q : Nat) : cutE (zc1 n q) (q : Int) = 0 ∧ cutS (zc1 n q) (q : Int) = zc2 n q := by
  have h1 : ¬ ((q : Int) < 0) := by omega
  have h2 : decide ((q : Int) = 0) = decide (0 = q) := by
    by_cases h : 0 = q
    · rw [decide_eq_true h, decide_eq_true (by omega)]
    · rw [decide_eq_false h, decide_eq_false (by omega)]
  refine ⟨by simp [cutE, newS, zc1, h1], ?_⟩
  simp only [cutS, newS, zc1, zc2, h1, if_false, h2, Bool.false_eq_true]
theorem cc0 (n q : Nat) : CC (zc2 n q) n q 0 := ⟨rfl, by show (q : Int) = _; omega, by simp [zc2, newS], rfl, rfl, Nat.zero_le _⟩
theorem min_lt {k q : Nat} (h : k < q) : min k q = k := by omega
theorem min_ge {k q : Nat} (h : ¬ k < q) : min k q = q := by omega
theorem min_succ {k q : Nat} (h : k < q) : min (k + 1) q = k + 1 := by omega
theorem min_succ' {k q : Nat} (h : ¬ k < q) : min (k + 1) q = q := by omega

end Go.Wx
namespace Go.Proofs.Ytkpkljbmbmjadaa
open Go.Wx Go.RowKit
set_option maxHeartbeats 4000000 in
theorem DiskCut_any (size cuts : Int) (ad : Option Addr) (cp : Nat) (l : List WP) (w : World) (hs : inI size) (hc : inI cuts) (hE0 : Els w ad 3 WP.cells l) (hl : ∀ x ∈ l, WOk x) : Ret Try.prog 10 #[vi size, vi cuts, .slice ad l.length cp] w fun r w' => r = .bool true ∧ Up w w' := by
  obtain ⟨w0, rfl⟩ : ∃ w0, w0 = w := ⟨_, rfl⟩
  have hS := Sep.start no w0
  refine Calls_start (n := 170) (m := 9) Try.func10 rfl rfl rfl ?_
  refine CW.seq (CW.region (LW.p (PEv.assign (.const _)) rfl rfl rfl (LW.nil (KW.then (CW.seq (CW.region ?_))))))
  refine LW.c (enter_call0 .nil (Try.en12)) rfl rfl rfl rfl (sane_any _) ?_
  rintro _ w1 ⟨rfl, uw1⟩
  have zw1 := uw1.size
  replace hS := hS.up uw1
  refine LW.p (PEv.assign (.tmp rfl)) rfl rfl rfl (LW.nil (KW.then (CW.seq (CW.region (LW.p (PEv.move (.tmp rfl)) rfl rfl rfl ?_)))))
  refine LW.c (enter_call0 (.cons (.tmp rfl) (.cons (.const _) .nil)) (Try.en15)) rfl rfl rfl rfl (pick_any _ _ _ hs (by decide)) ?_
  rintro _ w2 ⟨rfl, uw2⟩
  have zw2 := uw2.size
  replace hS := hS.up uw2
  obtain ⟨p0, p1⟩ := pick_range (c := size) (n := 100) hs (by decide)
  obtain ⟨p, hp⟩ : ∃ p : Nat, pickI size 100 = p := ⟨(pickI size 100).toNat, by omega⟩
  rw [hp]
  refine LW.p (PEv.addN (i := 1) (.const _) (.tmp rfl) (by omega)) rfl rfl rfl ?_
  refine LW.p (PEv.assign (.tmp rfl)) rfl rfl rfl (LW.nil (KW.then (CW.seq (CW.region (LW.p (PEv.move (.tmp rfl)) rfl rfl rfl ?_)))))
  refine LW.c (enter_call0 (.cons (.tmp rfl) (.cons (.const _) .nil)) (Try.en15)) rfl rfl rfl rfl (pick_any _ _ _ hc (by decide)) ?_
  rintro _ w3 ⟨rfl, uw3⟩
  have zw3 := uw3.size
  replace hS := hS.up uw3
  obtain ⟨q0, q1⟩ := pick_range (c := cuts) (n := 20) hc (by decide)
  obtain ⟨q, hq⟩ : ∃ p : Nat, pickI cuts 20 = p := ⟨(pickI cuts 20).toNat, by omega⟩
  rw [hq]
  refine LW.p (PEv.assign (.tmp rfl)) rfl rfl rfl (LW.nil (KW.then (CW.seq (CW.region (LW.p (PEv.move (.tmp rfl)) rfl rfl rfl ?_)))))
  refine LW.c (enter_call0 (.cons (.tmp rfl) .nil) (Try.en13)) rfl rfl rfl rfl (New_ok (1 + p) _ (by omega) (by omega)) ?_
  rintro _ w4 ⟨D, rfl, hD0, hDf, uw4⟩
  have zw4 := uw4.size
  replace hS := hS.add uw4 (A' := aDisk D (newS (1 + p))) (hD0) (hDf)
  change Wx.Sep _ _ _ [_] at hS
  obtain ⟨n, hn⟩ : ∃ n, n = 1 + p := ⟨_, rfl⟩
  rw [← hn] at hS ⊢
  refine LW.p (PEv.move (.tmp rfl)) rfl rfl rfl (LW.p (PEv.extract (.tmp rfl) rfl) rfl rfl rfl (LW.p (PEv.extract (.tmp rfl) rfl) rfl rfl rfl (LW.p (PEv.assign (.tmp rfl)) rfl rfl rfl (LW.p (PEv.assign (.tmp rfl)) rfl rfl rfl (LW.nil (KW.then (CW.seq (CW.seq (CW.region (LW.p (PEv.move (.tmp rfl)) rfl rfl rfl ?_))))))))))
  refine LW.p (PEv.fa (PEv.neq (.tmp rfl) (.const _)) (rfl)) rfl rfl rfl ?_
  refine LW.p (PEv.move (.tmp rfl)) rfl rfl rfl ?_
  refine LW.yes rfl rfl rfl rfl rfl rfl ?_
  refine LW.p (PEv.move (.tmp rfl)) rfl rfl rfl ?_
  refine LW.yes rfl rfl rfl rfl rfl rfl ?_
  refine LW.p (PEv.move (.tmp rfl)) rfl rfl rfl ?_
  refine LW.yes rfl rfl rfl rfl rfl rfl ?_
  refine LW.p (PEv.add (.tmp rfl) (.const _) (by omega) (by omega)) rfl rfl rfl ?_
  refine LW.yes rfl rfl rfl rfl rfl rfl ?_
  refine LW.c (enter_call0 (.cons (.tmp rfl) (.cons (.tmp rfl) .nil)) (Try.en24)) rfl rfl rfl rfl (Cut_b _ _ (newS n) _ (hS.get 0 rfl) rfl ((q : Int) + 5) (by omega)) ?_
  rintro _ w5 ⟨rfl, uw5⟩
  have zw5 := uw5.fr.size
  replace hS := hS.stp 0 rfl uw5
  change Wx.Sep _ _ _ [_] at hS
  rw [(cut1 n q).1]
  rw [(cut1 n q).2] at hS
  refine LW.yes rfl rfl rfl rfl rfl rfl ?_
  refine LW.p (PEv.fa (PEv.neq (.tmp rfl) (.const _)) (rfl)) rfl rfl rfl ?_
  refine LW.p (PEv.pick_or (.tmp rfl) (fun hp => (by first | exact .const _ | exact .tmp rfl | exact .cond rfl (by first | assumption | simp_all)))) rfl rfl rfl ?_
  refine LW.p (PEv.move (.tmp rfl)) rfl rfl rfl ?_
  refine LW.yes rfl rfl rfl rfl rfl rfl ?_
  refine LW.p (PEv.move (.tmp rfl)) rfl rfl rfl ?_
  refine LW.yes rfl rfl rfl rfl rfl rfl ?_
  refine LW.p (PEv.move (.tmp rfl)) rfl rfl rfl ?_
  refine LW.yes rfl rfl rfl rfl rfl rfl ?_
  refine LW.c (enter_call0 (.cons (.tmp rfl) (.cons (.tmp rfl) .nil)) (Try.en24)) rfl rfl rfl rfl (Cut_b _ _ (zc1 n q) _ (hS.get 0 rfl) rfl (q : Int) (by omega)) ?_
  rintro _ w6 ⟨rfl, uw6⟩
  have zw6 := uw6.fr.size
  replace hS := hS.stp 0 rfl uw6
  change Wx.Sep _ _ _ [_] at hS
  rw [(cut2 n q).1]
  rw [(cut2 n q).2] at hS
  refine LW.yes rfl rfl rfl rfl rfl rfl ?_
  refine LW.p (PEv.fa (PEv.neq (.tmp rfl) (.const _)) (rfl)) rfl rfl rfl ?_
  refine LW.p (PEv.pick_or (.tmp rfl) (fun hp => (by first | exact .const _ | exact .tmp rfl | exact .cond rfl (by first | assumption | simp_all)))) rfl rfl rfl ?_
  refine LW.nil (KW.then ?_)
  refine CW.cond_false (.tmp rfl) ?_
  refine CW.skip (KW.then (CW.seq (CW.region (LW.p (PEv.move (.tmp rfl)) rfl rfl rfl ?_))))
  refine LW.r (REv.makeBytes (i := Try.t5) Try.underlying40 (by kernel_rfl) rfl rfl rfl (.tmp rfl) (.tmp rfl) (by omega)) rfl rfl rfl rfl ?_
  rintro _ w7 ⟨B8, rfl, NB8⟩
  have eB8 := NB8.at_
  have zB8 := NB8.size
  replace hS := hS.addB NB8
  change Wx.Sep _ _ _ [_, _] at hS
  refine LW.p (PEv.assign (.tmp rfl)) rfl rfl rfl (LW.nil (KW.then (CW.seq (CW.region (LW.p (PEv.assign (.const _)) rfl rfl rfl (LW.nil (KW.then (CW.seq (CW.seq ?_)))))))))
  replace hS := hS.add (Up.refl _) (A' := aOwn 3 1 eInt (.slice none 0 0) ([] : List Int)) (OwnS.nil _ _ _ _ _) (fun i h => by cases h)
  change Wx.Sep _ _ _ [_, _, _] at hS
  refine CW.region (LW.p (PEv.assign (.const _)) rfl rfl rfl (LW.nil (KW.then (CW.block ?_))))
  refine CW.loopB (σ := Nat × Go.Value × DS × Go.Value) (fun s w => (s.1 ≤ l.length ∧ s.1 ≤ 40) ∧ (CC s.2.2.1 n q (min s.1 q)) ∧ (Sep no w0 w [aDisk { D with pv := s.2.1 } s.2.2.1, aBlk B8 (byc s.2.2.1.vis) 5, aOwn 3 1 eInt s.2.2.2 (ups (min s.1 q))])) (fun s => [(12, .eq (vi (s.1 : Int))), (11, .eq (s.2.2.2))]) ([(0, .eq _), (1, .eq _), (2, .eq _), (7, .eq _), (8, .eq _), (10, .eq _)]) (fun s => l.length - s.1) (0, D.pv, zc2 n q, .slice none 0 0) ?_ ⟨rfl, rfl, rfl, rfl, rfl, rfl, rfl, rfl, trivial⟩ ?_
  ·exact ⟨⟨Nat.zero_le _, by omega⟩, (by rw [Nat.zero_min]; exact cc0 n q), (by rw [Nat.zero_min]; exact hS)⟩
  ·rintro ⟨k, pv, z, v⟩ w8 ⟨hkk, hz, hS⟩
   dsimp only at hkk hz hS
   refine CW.seq (CW.seq (CW.region (LW.p (PEv.move (.tmp rfl)) rfl rfl rfl (LW.p (PEv.move (.tmp rfl)) rfl rfl rfl ?_))))
   refine LW.p (PEv.lenS Try.underlying51 (.tmp rfl)) rfl rfl rfl ?_
   refine LW.p (PEv.lss (.tmp rfl) (.tmp rfl)) rfl rfl rfl ?_
   refine LW.p (PEv.move (.tmp rfl)) rfl rfl rfl ?_
   refine LW.g rfl rfl rfl rfl rfl rfl rfl (fun hc => PEv.move (.tmp rfl)) ?_
   refine LW.g rfl rfl rfl rfl rfl rfl rfl (fun hc => PEv.lss (by first | exact .tmp rfl | exact .cond rfl (by first | assumption | simp_all)) (.const _)) ?_
   refine LW.p (PEv.pick_and (.tmp rfl) (fun hp => (by first | exact .const _ | exact .tmp rfl | exact .cond rfl (by first | assumption | simp_all)))) rfl rfl rfl ?_
   refine LW.nil (KW.then ?_)
   refine CW.cond (.tmp rfl) (fun h55 => ?_) (fun h55 => ?_)
   ·first | replace h55 := of_decide_eq_true h55 | replace h55 := of_decide_eq_false h55 | skip
    refine CW.skip (KW.then (CW.seq (CW.block (CW.seq ?_))))
    have hE := hE0.up hS.upd
    have hkl : k < l.length ∧ k < 40 := by simp at h55; omega
    have hvl := (ok_of (hS.get 0 rfl)).len.trans hz.len
    refine CW.region (LW.p (PEv.move (.tmp rfl)) rfl rfl rfl (LW.p (PEv.move (.tmp rfl)) rfl rfl rfl ?_))
    obtain ⟨x, hx⟩ := getElem?_of_lt (xs := l) (i := k) (by omega)
    obtain ⟨Bx, ox, ax, hcx⟩ := hE _ x hx
    refine LW.p (PEv.indexAddr' Try.underlying51 Try.sizeOf53 (.tmp rfl) (.tmp rfl) (by omega) ax) rfl rfl rfl ?_
    refine LW.p (PEv.loadA Try.isAgg53 Try.sizeOf53 rfl (.tmp rfl) (hcx)) rfl rfl rfl ?_
    refine LW.p (PEv.move (.tmp rfl)) rfl rfl rfl ?_
    refine LW.c (enter_call0 (.cons (.tmp rfl) (.cons (.tmp rfl) .nil)) (Try.en26)) rfl rfl rfl rfl (fits_any x n _ (hl x (List.mem_of_getElem? hx)) (by omega)) ?_
    rintro _ w9 ⟨rfl, uw9⟩
    have zw9 := uw9.size
    replace hS := hS.up uw9
    replace hcx := hcx.up uw9
    refine LW.r (REv.allocA Try.zeroValue53) rfl rfl rfl rfl ?_
    rintro _ w10 ⟨B13, rfl, MB13⟩
    refine LW.s (SEv.storeA Try.sizeOf53 rfl (.tmp rfl) (.tmp rfl) (WP.one _) MB13.blk rfl) rfl rfl rfl ?_
    intro w11 LB13
    have NB13 := MB13.set LB13
    clear LB13 MB13
    have eB13 := NB13.at_
    have zB13 := NB13.size
    replace hcx := hcx.up NB13.up
    replace hS := hS.addB NB13
    change Wx.Sep _ _ _ [_, _, _, _] at hS
    refine LW.nil (KW.then (CW.seq ?_))
    cases hq13 : decide (k < q) with
    | true =>
     have hkq := of_decide_eq_true hq13
     rw [min_lt hkq] at hz hS
     have hlv := hz.live hkq (fit_le (hl x (List.mem_of_getElem? hx)).off)
     refine CW.region (LW.p (PEv.move (.tmp rfl)) rfl rfl rfl ?_)
     refine LW.p (PEv.fieldAddr (off := 0) Try.underlying53 rfl rfl Try.sizeOf3 rfl (.tmp rfl)) rfl rfl rfl ?_
     refine LW.p (PEv.load Try.isAgg3 (.tmp rfl) ((hS.blk 3 rfl).celln (v := vi (fitO x n : Int)) rfl)) rfl rfl rfl ?_
     refine LW.p (PEv.fieldAddr (off := 1) Try.underlying53 rfl rfl Try.sizeOf9 rfl (.tmp rfl)) rfl rfl rfl ?_
     refine LW.p (PEv.load Try.isAgg9 (.tmp rfl) ((hS.blk 3 rfl).celln (v := .string (fitS x n)) rfl)) rfl rfl rfl ?_
     refine LW.c (enter_call0 (.cons (.tmp rfl) (.cons (.tmp rfl) (.cons (.tmp rfl) .nil))) (Try.en21)) rfl rfl rfl rfl (Write_b _ _ z _ (hS.get 0 rfl) rfl (fitO x n : Int) (fitS x n) (by have := hz.pend; have := hz.le; omega)) ?_
     rintro _ w12 ⟨rfl, pvW, uw12⟩
     have zw12 := uw12.fr.size
     replace hS := hS.stp 0 rfl uw12
     change Wx.Sep _ _ _ [_, _, _, _] at hS
     rw [hlv.1]
     refine LW.p (PEv.assign (.tmp rfl)) rfl rfl rfl (LW.nil (KW.then (CW.seq (CW.seq (CW.region (LW.p (PEv.move (.tmp rfl)) rfl rfl rfl (LW.p (PEv.move (.tmp rfl)) rfl rfl rfl ?_)))))))
     refine LW.p (PEv.tr (PEv.lss (.tmp rfl) (.tmp rfl)) (decide_eq_true (by omega))) rfl rfl rfl ?_
     refine LW.nil (KW.then ?_)
     refine CW.cond_true (.tmp rfl) ?_
     refine CW.seq (CW.region (LW.p (PEv.move (.tmp rfl)) rfl rfl rfl ?_))
     refine LW.p (PEv.fieldAddr (off := 0) Try.underlying53 rfl rfl Try.sizeOf3 rfl (.tmp rfl)) rfl rfl rfl ?_
     refine LW.p (PEv.load Try.isAgg3 (.tmp rfl) ((hS.blk 3 rfl).celln (v := vi (fitO x n : Int)) rfl)) rfl rfl rfl ?_
     refine LW.p (PEv.fieldAddr (off := 1) Try.underlying53 rfl rfl Try.sizeOf9 rfl (.tmp rfl)) rfl rfl rfl ?_
     refine LW.p (PEv.load Try.isAgg9 (.tmp rfl) ((hS.blk 3 rfl).celln (v := .string (fitS x n)) rfl)) rfl rfl rfl ?_
     refine LW.c (enter_call0 (.cons (.tmp rfl) (.cons (.tmp rfl) (.cons (.tmp rfl) .nil))) (Try.en27)) rfl rfl rfl rfl (put_any B8 n n (fitO x n) (fitS x n) z.vis _ (hS.blk 1 rfl) hvl (fit_le (hl x (List.mem_of_getElem? hx)).off) (by omega)) ?_
     rintro _ w13 ⟨rfl, uw13⟩
     have zw13 := uw13.fr.size
     replace hS := hS.stp 1 rfl uw13
     change Wx.Sep _ _ _ [_, _, _, _] at hS
     rw [← hlv.2.2] at hS
     refine LW.nil (KW.then ?_)
     have hul := ups_length k
     refine CW.region (LW.p (PEv.move (.tmp rfl)) rfl rfl rfl (LW.p (PEv.move (.tmp rfl)) rfl rfl rfl ?_))
     refine LW.r (REv.buildSlice (xs := [(k : Int)]) (enc := eInt) (mk := vi) Try.underlying37 Try.sizeOf3 Try.zeroValue3 rfl (by decide) (fun _ => rfl) (fun _ => rfl) (.cons (.tmp rfl) .nil) rfl) rfl rfl rfl rfl ?_
     rintro _ w14 ⟨B81, cB81, rfl, NB81, yB81, xB81⟩
     have eB81 := NB81.at_
     have zB81 := NB81.size
     replace hS := hS.up NB81.up
     have hE81 := xB81
     refine LW.r (REv.appendF (enc := eInt) (bytes := 8) (i := Try.t3) Try.underlying37 (by kernel_rfl) rfl rfl rfl rfl (by decide) (fun _ => rfl) eInt_one (.tmp rfl) (.tmp rfl) (hS.own 2 rfl) (Sl.of_els hE81) (by rw [hul]; simp [maxLen]; omega) (by rw [hul]; simp; omega)) rfl rfl rfl rfl ?_
     intro v82 w15 Gw15
     have zw15 := Gw15.fr.size
     replace hS := hS.stp 2 rfl Gw15
     change Wx.Sep _ _ _ [_, _, _, _] at hS
     refine LW.p (PEv.assign (.tmp rfl)) rfl rfl rfl (LW.nil (KW.then (CW.seq (CW.region (LW.p (PEv.move (.tmp rfl)) rfl rfl rfl ?_)))))
     refine LW.p (PEv.tr (PEv.eql (.tmp rfl) (.const _)) (rfl)) rfl rfl rfl ?_
     refine LW.p (PEv.move (.tmp rfl)) rfl rfl rfl (LW.p (PEv.move (.tmp rfl)) rfl rfl rfl ?_)
     refine LW.p (PEv.tr (PEv.lss (.tmp rfl) (.tmp rfl)) (decide_eq_true (by omega))) rfl rfl rfl ?_
     refine LW.p (PEv.fa (PEv.neqB Try.underlying4 (.tmp rfl) (.tmp rfl)) (rfl)) rfl rfl rfl ?_
     refine LW.p (PEv.move (.tmp rfl)) rfl rfl rfl ?_
     refine LW.yes rfl rfl rfl rfl rfl rfl ?_
     refine LW.p (PEv.move (.tmp rfl)) rfl rfl rfl ?_
     refine LW.yes rfl rfl rfl rfl rfl rfl ?_
     refine LW.p (PEv.fa (PEv.neq (.tmp rfl) (.const _)) (rfl)) rfl rfl rfl ?_
     refine LW.yes rfl rfl rfl rfl rfl rfl ?_
     refine LW.p (PEv.move (.tmp rfl)) rfl rfl rfl ?_
     refine LW.no rfl rfl rfl rfl rfl rfl rfl rfl ?_
     refine LW.no rfl rfl rfl rfl rfl rfl rfl rfl ?_
     refine LW.yes rfl rfl rfl rfl rfl rfl ?_
     refine LW.p (PEv.pick_and (b := false) (.tmp rfl) (fun hp => absurd (show false = true from hp) (by decide))) rfl rfl rfl ?_
     refine LW.p (PEv.pick_or (.tmp rfl) (fun hp => (by first | exact .const _ | exact .tmp rfl | exact .cond rfl (by first | assumption | simp_all)))) rfl rfl rfl ?_
     refine LW.nil (KW.then ?_)
     refine CW.cond_false (.tmp rfl) ?_
     refine CW.skip (KW.inBlock (KW.then (CW.region (LW.p (PEv.move (.tmp rfl)) rfl rfl rfl ?_))))
     refine LW.p (PEv.inc (.tmp rfl) (by omega)) rfl rfl rfl ?_
     refine LW.p (PEv.assign (.tmp rfl)) rfl rfl rfl (LW.nil (KW.round ?_))
     first | exact ⟨(k + 1, pvW, writeS z (fitO x n : Int) (fitS x n), v82), ⟨⟨by omega, by omega⟩, (by rw [min_succ hkq]; exact hlv.2.1), (by first | (rw [min_succ hkq, ups_succ]; exact hS.take 3) | (rw [min_succ' hkq]; exact hS.take 3))⟩, ⟨rfl, rfl, rfl, rfl, rfl, rfl, rfl, rfl, trivial⟩, by first | omega | (dsimp only; omega)⟩ | exact ⟨(k + 1, pvW, z, v), ⟨⟨by omega, by omega⟩, (by rw [min_succ' hkq]; exact hz), (by first | (rw [min_succ hkq, ups_succ]; exact hS.take 3) | (rw [min_succ' hkq]; exact hS.take 3))⟩, ⟨rfl, rfl, rfl, rfl, rfl, rfl, rfl, rfl, trivial⟩, by first | omega | (dsimp only; omega)⟩
    | false =>
     have hkq := of_decide_eq_false hq13
     rw [min_ge hkq] at hz hS
     refine CW.region (LW.p (PEv.move (.tmp rfl)) rfl rfl rfl ?_)
     refine LW.p (PEv.fieldAddr (off := 0) Try.underlying53 rfl rfl Try.sizeOf3 rfl (.tmp rfl)) rfl rfl rfl ?_
     refine LW.p (PEv.load Try.isAgg3 (.tmp rfl) ((hS.blk 3 rfl).celln (v := vi (fitO x n : Int)) rfl)) rfl rfl rfl ?_
     refine LW.p (PEv.fieldAddr (off := 1) Try.underlying53 rfl rfl Try.sizeOf9 rfl (.tmp rfl)) rfl rfl rfl ?_
     refine LW.p (PEv.load Try.isAgg9 (.tmp rfl) ((hS.blk 3 rfl).celln (v := .string (fitS x n)) rfl)) rfl rfl rfl ?_
     refine LW.c (enter_call0 (.cons (.tmp rfl) (.cons (.tmp rfl) (.cons (.tmp rfl) .nil))) (Try.en21)) rfl rfl rfl rfl (Write_b _ _ z _ (hS.get 0 rfl) rfl (fitO x n : Int) (fitS x n) (by have := hz.pend; have := hz.le; omega)) ?_
     rintro _ w16 ⟨rfl, pvW, uw16⟩
     have zw16 := uw16.fr.size
     replace hS := hS.stp 0 rfl uw16
     change Wx.Sep _ _ _ [_, _, _, _] at hS
     rw [(dead_write hz.dead _ _).1]
     rw [(dead_write hz.dead _ _).2] at hS
     refine LW.p (PEv.assign (.tmp rfl)) rfl rfl rfl (LW.nil (KW.then (CW.seq (CW.seq (CW.region (LW.p (PEv.move (.tmp rfl)) rfl rfl rfl (LW.p (PEv.move (.tmp rfl)) rfl rfl rfl ?_)))))))
     refine LW.p (PEv.fa (PEv.lss (.tmp rfl) (.tmp rfl)) (decide_eq_false (by omega))) rfl rfl rfl ?_
     refine LW.nil (KW.then ?_)
     refine CW.cond_false (.tmp rfl) ?_
     refine CW.skip (KW.then (CW.seq (CW.region (LW.p (PEv.move (.tmp rfl)) rfl rfl rfl ?_))))
     refine LW.p (PEv.fa (PEv.eql (.tmp rfl) (.const _)) (rfl)) rfl rfl rfl ?_
     refine LW.p (PEv.move (.tmp rfl)) rfl rfl rfl (LW.p (PEv.move (.tmp rfl)) rfl rfl rfl ?_)
     refine LW.p (PEv.fa (PEv.lss (.tmp rfl) (.tmp rfl)) (decide_eq_false (by omega))) rfl rfl rfl ?_
     refine LW.p (PEv.fa (PEv.neqB Try.underlying4 (.tmp rfl) (.tmp rfl)) (rfl)) rfl rfl rfl ?_
     refine LW.p (PEv.move (.tmp rfl)) rfl rfl rfl ?_
     refine LW.yes rfl rfl rfl rfl rfl rfl ?_
     refine LW.p (PEv.move (.tmp rfl)) rfl rfl rfl ?_
     refine LW.yes rfl rfl rfl rfl rfl rfl ?_
     refine LW.p (PEv.tr (PEv.neq (.tmp rfl) (.const _)) (rfl)) rfl rfl rfl ?_
     refine LW.yes rfl rfl rfl rfl rfl rfl ?_
     refine LW.p (PEv.move (.tmp rfl)) rfl rfl rfl ?_
     refine LW.yes rfl rfl rfl rfl rfl rfl ?_
     refine LW.p (PEv.move (.tmp rfl)) rfl rfl rfl ?_
     refine LW.yes rfl rfl rfl rfl rfl rfl ?_
     refine LW.p (PEv.fa (PEv.neq (.tmp rfl) (.const _)) (rfl)) rfl rfl rfl ?_
     refine LW.yes rfl rfl rfl rfl rfl rfl ?_
     refine LW.p (PEv.pick_and (.tmp rfl) (fun hp => (by first | exact .const _ | exact .tmp rfl | exact .cond rfl (by first | assumption | simp_all)))) rfl rfl rfl ?_
     refine LW.p (PEv.pick_or (.tmp rfl) (fun hp => (by first | exact .const _ | exact .tmp rfl | exact .cond rfl (by first | assumption | simp_all)))) rfl rfl rfl ?_
     refine LW.nil (KW.then ?_)
     refine CW.cond_false (.tmp rfl) ?_
     refine CW.skip (KW.inBlock (KW.then (CW.region (LW.p (PEv.move (.tmp rfl)) rfl rfl rfl ?_))))
     refine LW.p (PEv.inc (.tmp rfl) (by omega)) rfl rfl rfl ?_
     refine LW.p (PEv.assign (.tmp rfl)) rfl rfl rfl (LW.nil (KW.round ?_))
     first | exact ⟨(k + 1, pvW, writeS z (fitO x n : Int) (fitS x n), v82), ⟨⟨by omega, by omega⟩, (by rw [min_succ hkq]; exact hlv.2.1), (by first | (rw [min_succ hkq, ups_succ]; exact hS.take 3) | (rw [min_succ' hkq]; exact hS.take 3))⟩, ⟨rfl, rfl, rfl, rfl, rfl, rfl, rfl, rfl, trivial⟩, by first | omega | (dsimp only; omega)⟩ | exact ⟨(k + 1, pvW, z, v), ⟨⟨by omega, by omega⟩, (by rw [min_succ' hkq]; exact hz), (by first | (rw [min_succ hkq, ups_succ]; exact hS.take 3) | (rw [min_succ' hkq]; exact hS.take 3))⟩, ⟨rfl, rfl, rfl, rfl, rfl, rfl, rfl, rfl, trivial⟩, by first | omega | (dsimp only; omega)⟩
   ·first | replace h55 := of_decide_eq_true h55 | replace h55 := of_decide_eq_false h55 | skip
    refine CW.exit (KW.then_exit (KW.then_exit (KW.block_hit (KW.then (CW.seq (CW.seq ?_))))))
    obtain ⟨m, hm⟩ : ∃ m, m = min k q := ⟨_, rfl⟩
    rw [← hm] at hz hS
    obtain ⟨adk, cpk, rfl, hEk⟩ := (hS.own 2 rfl).sl (fun _ => rfl)
    have hul := ups_length m
    refine CW.region (LW.p (PEv.move (.tmp rfl)) rfl rfl rfl ?_)
    refine LW.p (PEv.lenS Try.underlying37 (.tmp rfl)) rfl rfl rfl ?_
    refine LW.p (PEv.move (.tmp rfl)) rfl rfl rfl ?_
    refine LW.p (PEv.lss (.tmp rfl) (.tmp rfl)) rfl rfl rfl ?_
    refine LW.nil (KW.then ?_)
    refine CW.cond (.tmp rfl) (fun h100 => ?_) (fun h100 => ?_)
    ·first | replace h100 := of_decide_eq_true h100 | replace h100 := of_decide_eq_false h100 | skip
     have hlt : m < q := by omega
     refine CW.seq (CW.region (LW.p (PEv.move (.tmp rfl)) rfl rfl rfl (LW.p (PEv.move (.tmp rfl)) rfl rfl rfl ?_)))
     refine LW.yes rfl rfl rfl rfl rfl rfl ?_
     refine LW.p (PEv.move (.tmp rfl)) rfl rfl rfl ?_
     refine LW.yes rfl rfl rfl rfl rfl rfl ?_
     refine LW.c (enter_call0 (.cons (.tmp rfl) .nil) (Try.en23)) rfl rfl rfl rfl (Sync_b _ _ z _ (hS.get 0 rfl) rfl) ?_
     rintro _ w17 ⟨rfl, pv_w17, uw17⟩
     have zw17 := uw17.fr.size
     replace hS := hS.stp 0 rfl uw17
     change Wx.Sep _ _ _ [_, _, _] at hS
     rw [hz.check hlt]
     refine LW.yes rfl rfl rfl rfl rfl rfl ?_
     refine LW.p (PEv.tr (PEv.eql (.tmp rfl) (.const _)) (rfl)) rfl rfl rfl ?_
     refine LW.p (PEv.pick_and (.tmp rfl) (fun hp => (by first | exact .const _ | exact .tmp rfl | exact .cond rfl (by first | assumption | simp_all)))) rfl rfl rfl ?_
     refine LW.p (PEv.assign (.tmp rfl)) rfl rfl rfl (LW.nil (KW.then (CW.ret (KW.then_ret ?_))))
     refine KW.ret1 rfl rfl ⟨_, rfl, ?_⟩
     exact ⟨rfl, hS.upd⟩
    ·first | replace h100 := of_decide_eq_true h100 | replace h100 := of_decide_eq_false h100 | skip
     have hmq : m = q := by have := hz.le; omega
     have hzq : CC z n q q := by
      have h := hz
      rw [hmq] at h
      exact h
     refine CW.skip (KW.then (CW.seq (CW.region (LW.p (PEv.move (.tmp rfl)) rfl rfl rfl ?_))))
     refine LW.c (enter_call0 (.cons (.tmp rfl) (.cons (.const _) (.cons (.const _) .nil))) (Try.en14)) rfl rfl rfl rfl (Read_b _ _ z _ (hS.get 0 rfl) rfl 0 0) ?_
     rintro _ w18 ⟨rfl, uw18⟩
     have zw18 := uw18.size
     replace hS := hS.up uw18
     rw [dead_read hzq.dead]
     refine LW.p (PEv.move (.tmp rfl)) rfl rfl rfl (LW.p (PEv.extract (.tmp rfl) rfl) rfl rfl rfl (LW.p (PEv.extract (.tmp rfl) rfl) rfl rfl rfl (LW.p (PEv.assign (.tmp rfl)) rfl rfl rfl (LW.p (PEv.assign (.tmp rfl)) rfl rfl rfl (LW.nil (KW.then (CW.seq (CW.seq (CW.region (LW.p (PEv.move (.tmp rfl)) rfl rfl rfl ?_))))))))))
     refine LW.p (PEv.fa (PEv.neq (.tmp rfl) (.const _)) (rfl)) rfl rfl rfl ?_
     refine LW.p (PEv.move (.tmp rfl)) rfl rfl rfl ?_
     refine LW.yes rfl rfl rfl rfl rfl rfl ?_
     refine LW.p (PEv.move (.tmp rfl)) rfl rfl rfl ?_
     refine LW.yes rfl rfl rfl rfl rfl rfl ?_
     refine LW.c (enter_call0 (.cons (.tmp rfl) .nil) (Try.en23)) rfl rfl rfl rfl (Sync_b _ _ z _ (hS.get 0 rfl) rfl) ?_
     rintro _ w19 ⟨rfl, pv_w19, uw19⟩
     have zw19 := uw19.fr.size
     replace hS := hS.stp 0 rfl uw19
     change Wx.Sep _ _ _ [_, _, _] at hS
     rw [(dead_sync hzq.dead).1]
     rw [(dead_sync hzq.dead).2] at hS
     refine LW.yes rfl rfl rfl rfl rfl rfl ?_
     refine LW.p (PEv.fa (PEv.neq (.tmp rfl) (.const _)) (rfl)) rfl rfl rfl ?_
     refine LW.p (PEv.pick_or (.tmp rfl) (fun hp => (by first | exact .const _ | exact .tmp rfl | exact .cond rfl (by first | assumption | simp_all)))) rfl rfl rfl ?_
     refine LW.p (PEv.move (.tmp rfl)) rfl rfl rfl ?_
     refine LW.yes rfl rfl rfl rfl rfl rfl ?_
     refine LW.p (PEv.move (.tmp rfl)) rfl rfl rfl ?_
     refine LW.yes rfl rfl rfl rfl rfl rfl ?_
     refine LW.c (enter_call0 (.cons (.tmp rfl) (.cons (.const _) .nil)) (Try.en24)) rfl rfl rfl rfl (Cut_b _ _ z _ (hS.get 0 rfl) rfl 3 (by omega)) ?_
     rintro _ w20 ⟨rfl, uw20⟩
     have zw20 := uw20.fr.size
     replace hS := hS.stp 0 rfl uw20
     change Wx.Sep _ _ _ [_, _, _] at hS
     rw [(dead_cut hzq.dead 3).1]
     rw [(dead_cut hzq.dead 3).2] at hS
     refine LW.yes rfl rfl rfl rfl rfl rfl ?_
     refine LW.p (PEv.fa (PEv.neq (.tmp rfl) (.const _)) (rfl)) rfl rfl rfl ?_
     refine LW.p (PEv.pick_or (.tmp rfl) (fun hp => (by first | exact .const _ | exact .tmp rfl | exact .cond rfl (by first | assumption | simp_all)))) rfl rfl rfl ?_
     refine LW.p (PEv.move (.tmp rfl)) rfl rfl rfl ?_
     refine LW.yes rfl rfl rfl rfl rfl rfl ?_
     refine LW.p (PEv.move (.tmp rfl)) rfl rfl rfl ?_
     refine LW.yes rfl rfl rfl rfl rfl rfl ?_
     refine LW.c (enter_call0 (.cons (.tmp rfl) .nil) (Try.en17)) rfl rfl rfl rfl (Pending_b _ _ z _ (hS.get 0 rfl) rfl) ?_
     rintro _ w21 ⟨rfl, uw21⟩
     have zw21 := uw21.size
     replace hS := hS.up uw21
     refine LW.yes rfl rfl rfl rfl rfl rfl ?_
     refine LW.p (PEv.move (.tmp rfl)) rfl rfl rfl ?_
     refine LW.yes rfl rfl rfl rfl rfl rfl ?_
     refine LW.p (PEv.fa (PEv.neq (.tmp rfl) (.tmp rfl)) (by simp [hzq.pend])) rfl rfl rfl ?_
     refine LW.p (PEv.pick_or (.tmp rfl) (fun hp => (by first | exact .const _ | exact .tmp rfl | exact .cond rfl (by first | assumption | simp_all)))) rfl rfl rfl ?_
     refine LW.p (PEv.move (.tmp rfl)) rfl rfl rfl ?_
     refine LW.yes rfl rfl rfl rfl rfl rfl ?_
     refine LW.p (PEv.move (.tmp rfl)) rfl rfl rfl ?_
     refine LW.yes rfl rfl rfl rfl rfl rfl ?_
     refine LW.c (enter_call0 (.cons (.tmp rfl) .nil) (Try.en16)) rfl rfl rfl rfl (Size_b _ _ z _ (hS.get 0 rfl) rfl) ?_
     rintro _ w22 ⟨rfl, uw22⟩
     have zw22 := uw22.size
     replace hS := hS.up uw22
     refine LW.yes rfl rfl rfl rfl rfl rfl ?_
     refine LW.p (PEv.move (.tmp rfl)) rfl rfl rfl ?_
     refine LW.yes rfl rfl rfl rfl rfl rfl ?_
     refine LW.p (PEv.fa (PEv.neq (.tmp rfl) (.tmp rfl)) (by simp [hz.len])) rfl rfl rfl ?_
     refine LW.p (PEv.pick_or (.tmp rfl) (fun hp => (by first | exact .const _ | exact .tmp rfl | exact .cond rfl (by first | assumption | simp_all)))) rfl rfl rfl ?_
     refine LW.nil (KW.then ?_)
     refine CW.cond_false (.tmp rfl) ?_
     refine CW.skip (KW.then (CW.seq ?_))
     have hvf := (ok_of (hS.get 0 rfl)).len.trans hz.len
     have hcr : crashS z (ups m) (-1) = ⟨false, 0, z.vis, z.vis, []⟩ := by
      have := crash_all (z := z) (torn := -1) (by decide) hz.inv
      rw [hz.pend] at this; exact this
     obtain ⟨adk2, cpk2, ek, hEk⟩ := (hS.own 2 rfl).sl (fun _ => rfl)
     cases ek
     refine CW.region (LW.p (PEv.move (.tmp rfl)) rfl rfl rfl (LW.p (PEv.move (.tmp rfl)) rfl rfl rfl ?_))
     refine LW.c (enter_call0 (.cons (.tmp rfl) (.cons (.tmp rfl) (.cons (.const _) .nil))) (Try.en25)) rfl rfl rfl rfl (Crash_b _ _ z _ (hS.get 0 rfl) rfl hEk (-1) (by rw [ups_length]; omega)) ?_
     rintro _ w23 ⟨rfl, pv_w23, uw23⟩
     have zw23 := uw23.fr.size
     replace hS := hS.stp 0 rfl uw23
     change Wx.Sep _ _ _ [_, _, _] at hS
     rw [hcr] at hS
     refine LW.p (PEv.assign (.tmp rfl)) rfl rfl rfl (LW.nil (KW.then (CW.seq (CW.region (LW.p (PEv.move (.tmp rfl)) rfl rfl rfl (LW.p (PEv.move (.tmp rfl)) rfl rfl rfl ?_))))))
     refine LW.c (enter_call0 (.cons (.tmp rfl) (.cons (.const _) (.cons (.tmp rfl) .nil))) (Try.en14)) rfl rfl rfl rfl (Read_b _ _ _ _ (hS.get 0 rfl) rfl 0 (n : Int)) ?_
     rintro _ w24 ⟨rfl, uw24⟩
     have zw24 := uw24.size
     replace hS := hS.up uw24
     rw [((calm_plain hvf).reads hvf).1, ((calm_plain hvf).reads hvf).2]
     refine LW.p (PEv.move (.tmp rfl)) rfl rfl rfl (LW.p (PEv.extract (.tmp rfl) rfl) rfl rfl rfl (LW.p (PEv.extract (.tmp rfl) rfl) rfl rfl rfl (LW.p (PEv.assign (.tmp rfl)) rfl rfl rfl (LW.p (PEv.assign (.tmp rfl)) rfl rfl rfl (LW.nil (KW.then (CW.seq (CW.region (LW.p (PEv.move (.tmp rfl)) rfl rfl rfl (LW.p (PEv.move (.tmp rfl)) rfl rfl rfl ?_))))))))))
     refine LW.yes rfl rfl rfl rfl rfl rfl ?_
     refine LW.p (PEv.move (.tmp rfl)) rfl rfl rfl ?_
     refine LW.yes rfl rfl rfl rfl rfl rfl ?_
     refine LW.p (PEv.tr (PEv.eql (.tmp rfl) (.const _)) (rfl)) rfl rfl rfl ?_
     refine LW.p (PEv.pick_and (.tmp rfl) (fun hp => (by first | exact .const _ | exact .tmp rfl | exact .cond rfl (by first | assumption | simp_all)))) rfl rfl rfl ?_
     refine LW.p (PEv.move (.tmp rfl)) rfl rfl rfl ?_
     refine LW.yes rfl rfl rfl rfl rfl rfl ?_
     refine LW.p (PEv.move (.tmp rfl)) rfl rfl rfl ?_
     refine LW.yes rfl rfl rfl rfl rfl rfl ?_
     refine LW.p (PEv.tr (PEv.eql (.tmp rfl) (.const _)) (rfl)) rfl rfl rfl ?_
     refine LW.p (PEv.pick_and (.tmp rfl) (fun hp => (by first | exact .const _ | exact .tmp rfl | exact .cond rfl (by first | assumption | simp_all)))) rfl rfl rfl ?_
     refine LW.p (PEv.move (.tmp rfl)) rfl rfl rfl ?_
     refine LW.yes rfl rfl rfl rfl rfl rfl ?_
     refine LW.p (PEv.move (.tmp rfl)) rfl rfl rfl ?_
     refine LW.yes rfl rfl rfl rfl rfl rfl ?_
     refine LW.p (PEv.move (.tmp rfl)) rfl rfl rfl ?_
     refine LW.yes rfl rfl rfl rfl rfl rfl ?_
     refine LW.p (PEv.bytesStr0 Try.underlying40 Try.underlying5 Try.underlying9 (.tmp rfl) (hS.blk 1 rfl) hvf) rfl rfl rfl ?_
     refine LW.yes rfl rfl rfl rfl rfl rfl ?_
     refine LW.p (PEv.tr (PEv.eqlStr (.tmp rfl) (.tmp rfl)) (beq_self_eq_true _)) rfl rfl rfl ?_
     refine LW.p (PEv.pick_and (.tmp rfl) (fun hp => (by first | exact .const _ | exact .tmp rfl | exact .cond rfl (by first | assumption | simp_all)))) rfl rfl rfl ?_
     refine LW.p (PEv.move (.tmp rfl)) rfl rfl rfl ?_
     refine LW.yes rfl rfl rfl rfl rfl rfl ?_
     refine LW.p (PEv.move (.tmp rfl)) rfl rfl rfl ?_
     refine LW.yes rfl rfl rfl rfl rfl rfl ?_
     refine LW.c (enter_call0 (.cons (.tmp rfl) (.cons (.const _) (.cons (.const _) .nil))) (Try.en21)) rfl rfl rfl rfl (Write_b _ _ _ _ (hS.get 0 rfl) rfl ((0 : Nat) : Int) ⟨#[120]⟩ (by simp)) ?_
     rintro _ w25 ⟨rfl, pv_w25, uw25⟩
     have zw25 := uw25.fr.size
     replace hS := hS.stp 0 rfl uw25
     change Wx.Sep _ _ _ [_, _, _] at hS
     rw [((calm_plain hvf).write (j := 0) (s := ⟨#[120]⟩) (show 0 + 1 ≤ n by omega)).1]
     rw [((calm_plain hvf).write (j := 0) (s := ⟨#[120]⟩) (show 0 + 1 ≤ n by omega)).2] at hS
     refine LW.yes rfl rfl rfl rfl rfl rfl ?_
     refine LW.p (PEv.tr (PEv.eql (.tmp rfl) (.const _)) (rfl)) rfl rfl rfl ?_
     refine LW.p (PEv.pick_and (.tmp rfl) (fun hp => (by first | exact .const _ | exact .tmp rfl | exact .cond rfl (by first | assumption | simp_all)))) rfl rfl rfl ?_
     refine LW.p (PEv.move (.tmp rfl)) rfl rfl rfl ?_
     refine LW.yes rfl rfl rfl rfl rfl rfl ?_
     refine LW.p (PEv.move (.tmp rfl)) rfl rfl rfl ?_
     refine LW.yes rfl rfl rfl rfl rfl rfl ?_
     refine LW.c (enter_call0 (.cons (.tmp rfl) .nil) (Try.en23)) rfl rfl rfl rfl (Sync_b _ _ _ _ (hS.get 0 rfl) rfl) ?_
     rintro _ w26 ⟨rfl, pv_w26, uw26⟩
     have zw26 := uw26.fr.size
     replace hS := hS.stp 0 rfl uw26
     change Wx.Sep _ _ _ [_, _, _] at hS
     rw [((calm_plain hvf).put ((0 : Nat) : Int) ⟨#[120]⟩).sync.1]
     refine LW.yes rfl rfl rfl rfl rfl rfl ?_
     refine LW.p (PEv.tr (PEv.eql (.tmp rfl) (.const _)) (rfl)) rfl rfl rfl ?_
     refine LW.p (PEv.pick_and (.tmp rfl) (fun hp => (by first | exact .const _ | exact .tmp rfl | exact .cond rfl (by first | assumption | simp_all)))) rfl rfl rfl ?_
     refine LW.p (PEv.assign (.tmp rfl)) rfl rfl rfl (LW.nil (KW.then (CW.ret ?_)))
     refine KW.ret1 rfl rfl ⟨_, rfl, ?_⟩
     exact ⟨rfl, hS.upd⟩

end Go.Proofs.Ytkpkljbmbmjadaa
