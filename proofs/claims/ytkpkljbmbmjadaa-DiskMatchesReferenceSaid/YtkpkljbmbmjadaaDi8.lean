import Derived.Test.YtkpkljbmbmjadaaDi7
namespace Go.Wx

def ups (n : Nat) : List Int := (List.range n).map fun i : Nat => (i : Int)
theorem ups_length (n : Nat) : (ups n).length = n := by simp [ups]
theorem ups_get {n k : Nat} (h : k < n) : (ups n)[k]? = some (k : Int) := by simp [ups, h]
theorem ups_succ (n : Nat) : ups (n + 1) = ups n ++ [(n : Int)] := by simp [ups, List.range_succ]
theorem ups_lt (n : Nat) : (ups n).Pairwise fun x y => x < y := by
  unfold ups
  rw [List.pairwise_map]
  exact List.pairwise_lt_range.imp fun h => by omega
theorem ups_mem {n : Nat} : ∀ x ∈ ups n, 0 ≤ x ∧ x < n := by
  intro x hx
  obtain ⟨i, hi, rfl⟩ := List.mem_map.1 hx
  have := List.mem_range.1 hi
  omega
theorem orderS_ups (n : Nat) : orderS (ups n) n = ups n := orderS_asc (List.Perm.refl _) (ups_lt n) ups_mem
theorem orderS_nil (n : Nat) : orderS [] n = [] := orderS_asc (List.Perm.refl _) List.Pairwise.nil (by simp)
theorem crash_nil (z : DS) (torn : Int) : crashS z [] torn = ⟨false, 0, z.dur, z.dur, []⟩ := by
  unfold crashS
  rw [orderS_nil]; rfl
theorem crashWs_all (z : DS) {torn : Int} (ht : torn < 0) : crashWs z (ups z.pend.length) torn = z.pend := by
  apply List.ext_getElem?
  intro k
  by_cases hk : k < z.pend.length
  · have hx : z.pend[k]? = some z.pend[k] := by simp [hk]
    rw [crashWs_at (ups_get hk) hx, hx]
    unfold tearAt
    rw [if_neg (by omega)]
  · rw [List.getElem?_eq_none (by rw [crashWs_length, ups_length]; omega), List.getElem?_eq_none (by omega)]
theorem crash_all {z : DS} {torn : Int} (ht : torn < 0) (h : z.vis = applyAll z.dur z.pend) : crashS z (ups z.pend.length) torn = ⟨false, 0, z.vis, z.vis, []⟩ := by
  unfold crashS
  rw [orderS_ups, crashWs_all z ht, ← h]
theorem put_inv {z : DS} (h : z.vis = applyAll z.dur z.pend) (j : Int) (s : ByteArray) : (putS z j s).vis = applyAll (putS z j s).dur (putS z j s).pend := by
  show overlay z.vis j.toNat s.data.toList = applyAll z.dur (z.pend ++ [⟨j, s⟩])
  rw [applyAll_snoc, ← h]
theorem calm_plain {c : List UInt8} {n : Nat} (h : c.length = n) : DCalm ⟨false, 0, c, c, []⟩ n 0 := ⟨rfl, rfl, h, Nat.le_refl _⟩
theorem DCalm.reads {z : DS} {n k : Nat} (h : DCalm z n k) (hv : z.vis.length = n) : Wx.readE z 0 (n : Int) = 0 ∧ Wx.readB z 0 (n : Int) = ⟨z.vis.toArray⟩ := by
  have hre := h.readE (j := 0) (m := n) (by omega)
  rw [strOf_all _ hv] at hre
  exact hre
theorem els_nil (w : World) : Els w none 1 eInt ([] : List Int) := fun i x h => by simp at h

end Go.Wx
namespace Go.Proofs.Ytkpkljbmbmjadaa
open Go.Wx Go.RowKit
set_option maxHeartbeats 2000000 in
theorem DiskSynced_any (size : Int) (ad : Option Addr) (cp : Nat) (l : List WP) (torn : Int) (w : World) (hs : inI size) (hE0 : Els w ad 3 WP.cells l) (hl : ∀ x ∈ l, WOk x) : Ret Try.prog 7 #[vi size, .slice ad l.length cp, vi torn] w fun r w' => r = .bool true ∧ Up w w' := by
  obtain ⟨w0, rfl⟩ : ∃ w0, w0 = w := ⟨_, rfl⟩
  have hS := Sep.start no w0
  refine Calls_start (n := 102) (m := 9) Try.func7 rfl rfl rfl ?_
  refine CW.seq (CW.region (LW.p (PEv.assign (.const _)) rfl rfl rfl (LW.nil (KW.then (CW.seq (CW.region ?_))))))
  refine LW.c (enter_call0 .nil (Try.en12)) rfl rfl rfl rfl (sane_any _) ?_
  rintro _ w1 ⟨rfl, uw1⟩
  have zw1 := uw1.size
  replace hS := hS.up uw1
  refine LW.p (PEv.assign (.tmp rfl)) rfl rfl rfl (LW.nil (KW.then (CW.seq (CW.region (LW.p (PEv.move (.tmp rfl)) rfl rfl rfl ?_)))))
  refine LW.c (enter_call0 (.cons (.tmp rfl) (.cons (.const _) .nil)) (Try.en15)) rfl rfl rfl rfl (pick_any _ _ _ hs (by decide)) ?_
  rintro _ w2 ⟨rfl, uw2⟩
  have zw2 := uw2.size
  replace hS := hS.up uw2
  obtain ⟨hp0, hp1⟩ := pick_range (c := size) (n := 300) hs (by decide)
  obtain ⟨p, hp⟩ : ∃ p : Nat, pickI size 300 = p := ⟨(pickI size 300).toNat, by omega⟩
  rw [hp]
  refine LW.p (PEv.addN (i := 1) (.const _) (.tmp rfl) (by omega)) rfl rfl rfl ?_
  refine LW.p (PEv.assign (.tmp rfl)) rfl rfl rfl (LW.nil (KW.then (CW.seq (CW.region (LW.p (PEv.move (.tmp rfl)) rfl rfl rfl ?_)))))
  refine LW.c (enter_call0 (.cons (.tmp rfl) .nil) (Try.en13)) rfl rfl rfl rfl (New_ok (1 + p) _ (by omega) (by omega)) ?_
  rintro _ w3 ⟨D, rfl, hD0, hDf, uw3⟩
  have zw3 := uw3.size
  replace hS := hS.add uw3 (A' := aDisk D (newS (1 + p))) (hD0) (hDf)
  change Wx.Sep _ _ _ [_] at hS
  obtain ⟨n, hn⟩ : ∃ n, n = 1 + p := ⟨_, rfl⟩
  rw [← hn] at hS ⊢
  refine LW.p (PEv.move (.tmp rfl)) rfl rfl rfl (LW.p (PEv.extract (.tmp rfl) rfl) rfl rfl rfl (LW.p (PEv.extract (.tmp rfl) rfl) rfl rfl rfl (LW.p (PEv.assign (.tmp rfl)) rfl rfl rfl (LW.p (PEv.assign (.tmp rfl)) rfl rfl rfl (LW.nil (KW.then (CW.seq (CW.seq (CW.region (LW.p (PEv.move (.tmp rfl)) rfl rfl rfl ?_))))))))))
  refine LW.p (PEv.fa (PEv.neq (.tmp rfl) (.const _)) (rfl)) rfl rfl rfl ?_
  refine LW.nil (KW.then ?_)
  refine CW.cond_false (.tmp rfl) ?_
  refine CW.skip (KW.then (CW.seq (CW.region (LW.p (PEv.move (.tmp rfl)) rfl rfl rfl ?_))))
  refine LW.r (REv.makeBytes (i := Try.t5) Try.underlying40 (by kernel_rfl) rfl rfl rfl (.tmp rfl) (.tmp rfl) (by omega)) rfl rfl rfl rfl ?_
  rintro _ w4 ⟨B8, rfl, NB8⟩
  have eB8 := NB8.at_
  have zB8 := NB8.size
  replace hS := hS.addB NB8
  change Wx.Sep _ _ _ [_, _] at hS
  refine LW.p (PEv.assign (.tmp rfl)) rfl rfl rfl (LW.nil (KW.then (CW.seq (CW.region (LW.p (PEv.move (.tmp rfl)) rfl rfl rfl ?_)))))
  refine LW.p (PEv.bytesStr0 Try.underlying40 Try.underlying5 Try.underlying9 (.tmp rfl) (hS.blk 1 rfl) (by simp)) rfl rfl rfl ?_
  refine LW.p (PEv.assign (.tmp rfl)) rfl rfl rfl (LW.nil (KW.then (CW.seq (CW.seq (CW.region (LW.p (PEv.assign (.const _)) rfl rfl rfl (LW.nil (KW.then (CW.block ?_)))))))))
  refine CW.loopB (σ := Nat × Go.Value × DS) (fun s w => (s.1 ≤ l.length ∧ s.1 ≤ 60) ∧ (DCalm s.2.2 n s.1) ∧ (Sep no w0 w [aDisk { D with pv := s.2.1 } s.2.2, aBlk B8 (byc s.2.2.vis) 5])) (fun s => [(12, .eq (vi (s.1 : Int))), (11, .eq (.string ⟨s.2.2.dur.toArray⟩))]) ([(0, .eq _), (1, .eq _), (2, .eq _), (7, .eq _), (8, .eq _), (10, .eq _)]) (fun s => l.length - s.1) (0, D.pv, newS n) ?_ ⟨rfl, rfl, rfl, rfl, rfl, rfl, rfl, rfl, trivial⟩ ?_
  ·exact ⟨⟨Nat.zero_le _, by omega⟩, DCalm.new n, hS⟩
  ·rintro ⟨k, pv, z⟩ w5 ⟨hkk, hz, hS⟩
   dsimp only at hkk hz hS
   refine CW.seq (CW.seq (CW.region (LW.p (PEv.move (.tmp rfl)) rfl rfl rfl (LW.p (PEv.move (.tmp rfl)) rfl rfl rfl ?_))))
   refine LW.p (PEv.lenS Try.underlying51 (.tmp rfl)) rfl rfl rfl ?_
   refine LW.p (PEv.lss (.tmp rfl) (.tmp rfl)) rfl rfl rfl ?_
   refine LW.p (PEv.move (.tmp rfl)) rfl rfl rfl ?_
   refine LW.g rfl rfl rfl rfl rfl rfl rfl (fun hc => PEv.move (.tmp rfl)) ?_
   refine LW.g rfl rfl rfl rfl rfl rfl rfl (fun hc => PEv.lss (by first | exact .tmp rfl | exact .cond rfl (by first | assumption | simp_all)) (.const _)) ?_
   refine LW.p (PEv.pick_and (.tmp rfl) (fun hp => (by first | exact .const _ | exact .tmp rfl | exact .cond rfl (by first | assumption | simp_all)))) rfl rfl rfl ?_
   refine LW.nil (KW.then ?_)
   refine CW.cond (.tmp rfl) (fun h39 => ?_) (fun h39 => ?_)
   ·first | replace h39 := of_decide_eq_true h39 | replace h39 := of_decide_eq_false h39 | skip
    refine CW.skip (KW.then (CW.seq (CW.block (CW.seq ?_))))
    have hE := hE0.up hS.upd
    have hkl : k < l.length ∧ k < 60 := by simp at h39; omega
    have hvl := (ok_of (hS.get 0 rfl)).len.trans hz.len
    refine CW.region (LW.p (PEv.move (.tmp rfl)) rfl rfl rfl (LW.p (PEv.move (.tmp rfl)) rfl rfl rfl ?_))
    obtain ⟨x, hx⟩ := getElem?_of_lt (xs := l) (i := k) (by omega)
    obtain ⟨Bx, ox, ax, hcx⟩ := hE _ x hx
    refine LW.p (PEv.indexAddr' Try.underlying51 Try.sizeOf53 (.tmp rfl) (.tmp rfl) (by omega) ax) rfl rfl rfl ?_
    refine LW.p (PEv.loadA Try.isAgg53 Try.sizeOf53 rfl (.tmp rfl) (hcx)) rfl rfl rfl ?_
    refine LW.p (PEv.move (.tmp rfl)) rfl rfl rfl ?_
    refine LW.c (enter_call0 (.cons (.tmp rfl) (.cons (.tmp rfl) .nil)) (Try.en26)) rfl rfl rfl rfl (fits_any x n _ (hl x (List.mem_of_getElem? hx)) (by omega)) ?_
    rintro _ w6 ⟨rfl, uw6⟩
    have zw6 := uw6.size
    replace hS := hS.up uw6
    replace hcx := hcx.up uw6
    refine LW.r (REv.allocA Try.zeroValue53) rfl rfl rfl rfl ?_
    rintro _ w7 ⟨B13, rfl, MB13⟩
    refine LW.s (SEv.storeA Try.sizeOf53 rfl (.tmp rfl) (.tmp rfl) (WP.one _) MB13.blk rfl) rfl rfl rfl ?_
    intro w8 LB13
    have NB13 := MB13.set LB13
    clear LB13 MB13
    have eB13 := NB13.at_
    have zB13 := NB13.size
    replace hcx := hcx.up NB13.up
    replace hS := hS.addB NB13
    change Wx.Sep _ _ _ [_, _, _] at hS
    refine LW.nil (KW.then (CW.seq (CW.region (LW.p (PEv.move (.tmp rfl)) rfl rfl rfl ?_))))
    refine LW.p (PEv.fieldAddr (off := 0) Try.underlying53 rfl rfl Try.sizeOf3 rfl (.tmp rfl)) rfl rfl rfl ?_
    refine LW.p (PEv.load Try.isAgg3 (.tmp rfl) ((hS.blk 2 rfl).celln (v := vi (fitO x n : Int)) rfl)) rfl rfl rfl ?_
    refine LW.p (PEv.fieldAddr (off := 1) Try.underlying53 rfl rfl Try.sizeOf9 rfl (.tmp rfl)) rfl rfl rfl ?_
    refine LW.p (PEv.load Try.isAgg9 (.tmp rfl) ((hS.blk 2 rfl).celln (v := .string (fitS x n)) rfl)) rfl rfl rfl ?_
    refine LW.c (enter_call0 (.cons (.tmp rfl) (.cons (.tmp rfl) (.cons (.tmp rfl) .nil))) (Try.en27)) rfl rfl rfl rfl (put_any B8 n n (fitO x n) (fitS x n) z.vis _ (hS.blk 1 rfl) hvl (fit_le (hl x (List.mem_of_getElem? hx)).off) (by omega)) ?_
    rintro _ w9 ⟨rfl, uw9⟩
    have zw9 := uw9.fr.size
    replace hS := hS.stp 1 rfl uw9
    change Wx.Sep _ _ _ [_, _, _] at hS
    refine LW.nil (KW.then (CW.seq (CW.seq ?_)))
    cases hq13 : x.sync with
    | true =>
     refine CW.region (LW.p (PEv.move (.tmp rfl)) rfl rfl rfl ?_)
     refine LW.p (PEv.fieldAddr (off := 0) Try.underlying53 rfl rfl Try.sizeOf3 rfl (.tmp rfl)) rfl rfl rfl ?_
     refine LW.p (PEv.load Try.isAgg3 (.tmp rfl) ((hS.blk 2 rfl).celln (v := vi (fitO x n : Int)) rfl)) rfl rfl rfl ?_
     refine LW.p (PEv.fieldAddr (off := 1) Try.underlying53 rfl rfl Try.sizeOf9 rfl (.tmp rfl)) rfl rfl rfl ?_
     refine LW.p (PEv.load Try.isAgg9 (.tmp rfl) ((hS.blk 2 rfl).celln (v := .string (fitS x n)) rfl)) rfl rfl rfl ?_
     refine LW.c (enter_call0 (.cons (.tmp rfl) (.cons (.tmp rfl) (.cons (.tmp rfl) .nil))) (Try.en21)) rfl rfl rfl rfl (Write_b _ _ z _ (hS.get 0 rfl) rfl (fitO x n : Int) (fitS x n) (by have := hz.pend; omega)) ?_
     rintro _ w10 ⟨rfl, pv_w10, uw10⟩
     have zw10 := uw10.fr.size
     replace hS := hS.stp 0 rfl uw10
     change Wx.Sep _ _ _ [_, _, _] at hS
     rw [(hz.write (fit_le (hl x (List.mem_of_getElem? hx)).off)).1]
     rw [(hz.write (fit_le (hl x (List.mem_of_getElem? hx)).off)).2] at hS
     replace hz := hz.put (fitO x n : Int) (fitS x n)
     have hvs := (ok_of (hS.get 0 rfl)).len.trans hz.len
     refine LW.p (PEv.fa (PEv.neq (.tmp rfl) (.const _)) (rfl)) rfl rfl rfl ?_
     refine LW.p (PEv.move (.tmp rfl)) rfl rfl rfl ?_
     refine LW.yes rfl rfl rfl rfl rfl rfl ?_
     refine LW.p (PEv.fieldAddr (off := 2) Try.underlying53 rfl rfl Try.sizeOf4 rfl (.tmp rfl)) rfl rfl rfl ?_
     refine LW.yes rfl rfl rfl rfl rfl rfl ?_
     refine LW.p (PEv.tr (PEv.load Try.isAgg4 (.tmp rfl) ((hS.blk 2 rfl).celln (v := .bool x.sync) rfl)) (hq13)) rfl rfl rfl ?_
     refine LW.yes rfl rfl rfl rfl rfl rfl ?_
     refine LW.p (PEv.move (.tmp rfl)) rfl rfl rfl ?_
     refine LW.yes rfl rfl rfl rfl rfl rfl ?_
     refine LW.p (PEv.move (.tmp rfl)) rfl rfl rfl ?_
     refine LW.yes rfl rfl rfl rfl rfl rfl ?_
     refine LW.c (enter_call0 (.cons (.tmp rfl) .nil) (Try.en23)) rfl rfl rfl rfl (Sync_b _ _ _ _ (hS.get 0 rfl) rfl) ?_
     rintro _ w11 ⟨rfl, pv_w11, uw11⟩
     have zw11 := uw11.fr.size
     replace hS := hS.stp 0 rfl uw11
     change Wx.Sep _ _ _ [_, _, _] at hS
     rw [hz.sync.1]
     rw [hz.sync.2] at hS
     replace hz := hz.synced hvs
     refine LW.yes rfl rfl rfl rfl rfl rfl ?_
     refine LW.p (PEv.fa (PEv.neq (.tmp rfl) (.const _)) (rfl)) rfl rfl rfl ?_
     refine LW.yes rfl rfl rfl rfl rfl rfl ?_
     refine LW.p (PEv.pick_and (.tmp rfl) (fun hp => (by first | exact .const _ | exact .tmp rfl | exact .cond rfl (by first | assumption | simp_all)))) rfl rfl rfl ?_
     refine LW.p (PEv.pick_or (.tmp rfl) (fun hp => (by first | exact .const _ | exact .tmp rfl | exact .cond rfl (by first | assumption | simp_all)))) rfl rfl rfl ?_
     refine LW.nil (KW.then ?_)
     refine CW.cond_false (.tmp rfl) ?_
     refine CW.skip (KW.then (CW.seq (CW.region ?_)))
     refine LW.p (PEv.fieldAddr (off := 2) Try.underlying53 rfl rfl Try.sizeOf4 rfl (.tmp rfl)) rfl rfl rfl ?_
     refine LW.p (PEv.tr (PEv.load Try.isAgg4 (.tmp rfl) ((hS.blk 2 rfl).celln (v := .bool x.sync) rfl)) (hq13)) rfl rfl rfl ?_
     refine LW.nil (KW.then ?_)
     refine CW.cond_true (.tmp rfl) ?_
     refine CW.region (LW.p (PEv.move (.tmp rfl)) rfl rfl rfl ?_)
     refine LW.p (PEv.bytesStr0 Try.underlying40 Try.underlying5 Try.underlying9 (.tmp rfl) (hS.blk 1 rfl) hvs) rfl rfl rfl ?_
     refine LW.p (PEv.assign (.tmp rfl)) rfl rfl rfl (LW.nil (KW.inBlock (KW.then (CW.region (LW.p (PEv.move (.tmp rfl)) rfl rfl rfl ?_)))))
     refine LW.p (PEv.inc (.tmp rfl) (by omega)) rfl rfl rfl ?_
     refine LW.p (PEv.assign (.tmp rfl)) rfl rfl rfl (LW.nil (KW.round ?_))
     exact ⟨(k + 1, _, _), ⟨⟨by omega, by omega⟩, hz, hS.take 2⟩, ⟨rfl, rfl, rfl, rfl, rfl, rfl, rfl, rfl, trivial⟩, by first | omega | (dsimp only; omega)⟩
    | false =>
     refine CW.region (LW.p (PEv.move (.tmp rfl)) rfl rfl rfl ?_)
     refine LW.p (PEv.fieldAddr (off := 0) Try.underlying53 rfl rfl Try.sizeOf3 rfl (.tmp rfl)) rfl rfl rfl ?_
     refine LW.p (PEv.load Try.isAgg3 (.tmp rfl) ((hS.blk 2 rfl).celln (v := vi (fitO x n : Int)) rfl)) rfl rfl rfl ?_
     refine LW.p (PEv.fieldAddr (off := 1) Try.underlying53 rfl rfl Try.sizeOf9 rfl (.tmp rfl)) rfl rfl rfl ?_
     refine LW.p (PEv.load Try.isAgg9 (.tmp rfl) ((hS.blk 2 rfl).celln (v := .string (fitS x n)) rfl)) rfl rfl rfl ?_
     refine LW.c (enter_call0 (.cons (.tmp rfl) (.cons (.tmp rfl) (.cons (.tmp rfl) .nil))) (Try.en21)) rfl rfl rfl rfl (Write_b _ _ z _ (hS.get 0 rfl) rfl (fitO x n : Int) (fitS x n) (by have := hz.pend; omega)) ?_
     rintro _ w12 ⟨rfl, pv_w12, uw12⟩
     have zw12 := uw12.fr.size
     replace hS := hS.stp 0 rfl uw12
     change Wx.Sep _ _ _ [_, _, _] at hS
     rw [(hz.write (fit_le (hl x (List.mem_of_getElem? hx)).off)).1]
     rw [(hz.write (fit_le (hl x (List.mem_of_getElem? hx)).off)).2] at hS
     replace hz := hz.put (fitO x n : Int) (fitS x n)
     have hvs := (ok_of (hS.get 0 rfl)).len.trans hz.len
     refine LW.p (PEv.fa (PEv.neq (.tmp rfl) (.const _)) (rfl)) rfl rfl rfl ?_
     refine LW.p (PEv.move (.tmp rfl)) rfl rfl rfl ?_
     refine LW.yes rfl rfl rfl rfl rfl rfl ?_
     refine LW.p (PEv.fieldAddr (off := 2) Try.underlying53 rfl rfl Try.sizeOf4 rfl (.tmp rfl)) rfl rfl rfl ?_
     refine LW.yes rfl rfl rfl rfl rfl rfl ?_
     refine LW.p (PEv.fa (PEv.load Try.isAgg4 (.tmp rfl) ((hS.blk 2 rfl).celln (v := .bool x.sync) rfl)) (hq13)) rfl rfl rfl ?_
     refine LW.yes rfl rfl rfl rfl rfl rfl ?_
     refine LW.p (PEv.move (.tmp rfl)) rfl rfl rfl ?_
     refine LW.no rfl rfl rfl rfl rfl rfl rfl rfl ?_
     refine LW.no rfl rfl rfl rfl rfl rfl rfl rfl ?_
     refine LW.no rfl rfl rfl rfl rfl rfl rfl rfl ?_
     refine LW.yes rfl rfl rfl rfl rfl rfl ?_
     refine LW.p (PEv.pick_and (b := false) (.tmp rfl) (fun hp => absurd (show false = true from hp) (by decide))) rfl rfl rfl ?_
     refine LW.p (PEv.pick_or (.tmp rfl) (fun hp => (by first | exact .const _ | exact .tmp rfl | exact .cond rfl (by first | assumption | simp_all)))) rfl rfl rfl ?_
     refine LW.nil (KW.then ?_)
     refine CW.cond_false (.tmp rfl) ?_
     refine CW.skip (KW.then (CW.seq (CW.region ?_)))
     refine LW.p (PEv.fieldAddr (off := 2) Try.underlying53 rfl rfl Try.sizeOf4 rfl (.tmp rfl)) rfl rfl rfl ?_
     refine LW.p (PEv.fa (PEv.load Try.isAgg4 (.tmp rfl) ((hS.blk 2 rfl).celln (v := .bool x.sync) rfl)) (hq13)) rfl rfl rfl ?_
     refine LW.nil (KW.then ?_)
     refine CW.cond_false (.tmp rfl) ?_
     refine CW.skip (KW.inBlock (KW.then (CW.region (LW.p (PEv.move (.tmp rfl)) rfl rfl rfl ?_))))
     refine LW.p (PEv.inc (.tmp rfl) (by omega)) rfl rfl rfl ?_
     refine LW.p (PEv.assign (.tmp rfl)) rfl rfl rfl (LW.nil (KW.round ?_))
     exact ⟨(k + 1, _, _), ⟨⟨by omega, by omega⟩, hz, hS.take 2⟩, ⟨rfl, rfl, rfl, rfl, rfl, rfl, rfl, rfl, trivial⟩, by first | omega | (dsimp only; omega)⟩
   ·first | replace h39 := of_decide_eq_true h39 | replace h39 := of_decide_eq_false h39 | skip
    refine CW.exit (KW.then_exit (KW.then_exit (KW.block_hit (KW.then (CW.seq (CW.region (LW.p (PEv.move (.tmp rfl)) rfl rfl rfl (LW.p (PEv.move (.tmp rfl)) rfl rfl rfl ?_))))))))
    refine LW.c (enter_call0 (.cons (.tmp rfl) (.cons (.const _) (.cons (.tmp rfl) .nil))) (Try.en25)) rfl rfl rfl rfl (Crash_b _ _ z _ (hS.get 0 rfl) rfl (keep := []) (els_nil _) torn (by decide)) ?_
    rintro _ w13 ⟨rfl, pv_w13, uw13⟩
    have zw13 := uw13.fr.size
    replace hS := hS.stp 0 rfl uw13
    change Wx.Sep _ _ _ [_, _] at hS
    rw [crash_nil] at hS
    replace hz := calm_plain hz.len
    refine LW.p (PEv.assign (.tmp rfl)) rfl rfl rfl (LW.nil (KW.then (CW.seq (CW.region (LW.p (PEv.move (.tmp rfl)) rfl rfl rfl (LW.p (PEv.move (.tmp rfl)) rfl rfl rfl ?_))))))
    refine LW.c (enter_call0 (.cons (.tmp rfl) (.cons (.const _) (.cons (.tmp rfl) .nil))) (Try.en14)) rfl rfl rfl rfl (Read_b _ _ _ _ (hS.get 0 rfl) rfl 0 (n : Int)) ?_
    rintro _ w14 ⟨rfl, uw14⟩
    have zw14 := uw14.size
    replace hS := hS.up uw14
    have hvn := (ok_of (hS.get 0 rfl)).len.trans hz.len
    rw [(hz.reads hvn).1, (hz.reads hvn).2]
    refine LW.p (PEv.move (.tmp rfl)) rfl rfl rfl (LW.p (PEv.extract (.tmp rfl) rfl) rfl rfl rfl (LW.p (PEv.extract (.tmp rfl) rfl) rfl rfl rfl (LW.p (PEv.assign (.tmp rfl)) rfl rfl rfl (LW.p (PEv.assign (.tmp rfl)) rfl rfl rfl (LW.nil (KW.then (CW.seq (CW.region (LW.p (PEv.move (.tmp rfl)) rfl rfl rfl (LW.p (PEv.move (.tmp rfl)) rfl rfl rfl ?_))))))))))
    refine LW.yes rfl rfl rfl rfl rfl rfl ?_
    refine LW.p (PEv.move (.tmp rfl)) rfl rfl rfl ?_
    refine LW.yes rfl rfl rfl rfl rfl rfl ?_
    refine LW.p (PEv.tr (PEv.eql (.tmp rfl) (.const _)) (rfl)) rfl rfl rfl ?_
    refine LW.p (PEv.pick_and (.tmp rfl) (fun hp => (by first | exact .const _ | exact .tmp rfl | exact .cond rfl (by first | assumption | simp_all)))) rfl rfl rfl ?_
    refine LW.p (PEv.move (.tmp rfl)) rfl rfl rfl ?_
    refine LW.yes rfl rfl rfl rfl rfl rfl ?_
    refine LW.p (PEv.move (.tmp rfl)) rfl rfl rfl ?_
    refine LW.yes rfl rfl rfl rfl rfl rfl ?_
    refine LW.p (PEv.tr (PEv.eql (.tmp rfl) (.const _)) (rfl)) rfl rfl rfl ?_
    refine LW.p (PEv.pick_and (.tmp rfl) (fun hp => (by first | exact .const _ | exact .tmp rfl | exact .cond rfl (by first | assumption | simp_all)))) rfl rfl rfl ?_
    refine LW.p (PEv.move (.tmp rfl)) rfl rfl rfl ?_
    refine LW.yes rfl rfl rfl rfl rfl rfl ?_
    refine LW.p (PEv.move (.tmp rfl)) rfl rfl rfl ?_
    refine LW.yes rfl rfl rfl rfl rfl rfl ?_
    refine LW.p (PEv.move (.tmp rfl)) rfl rfl rfl ?_
    refine LW.yes rfl rfl rfl rfl rfl rfl ?_
    refine LW.p (PEv.tr (PEv.eqlStr (.tmp rfl) (.tmp rfl)) (beq_self_eq_true _)) rfl rfl rfl ?_
    refine LW.p (PEv.pick_and (.tmp rfl) (fun hp => (by first | exact .const _ | exact .tmp rfl | exact .cond rfl (by first | assumption | simp_all)))) rfl rfl rfl ?_
    refine LW.p (PEv.move (.tmp rfl)) rfl rfl rfl ?_
    refine LW.yes rfl rfl rfl rfl rfl rfl ?_
    refine LW.p (PEv.move (.tmp rfl)) rfl rfl rfl ?_
    refine LW.yes rfl rfl rfl rfl rfl rfl ?_
    refine LW.c (enter_call0 (.cons (.tmp rfl) .nil) (Try.en17)) rfl rfl rfl rfl (Pending_b _ _ _ _ (hS.get 0 rfl) rfl) ?_
    rintro _ w15 ⟨rfl, uw15⟩
    have zw15 := uw15.size
    replace hS := hS.up uw15
    refine LW.yes rfl rfl rfl rfl rfl rfl ?_
    refine LW.p (PEv.tr (PEv.eql (.tmp rfl) (.const _)) (rfl)) rfl rfl rfl ?_
    refine LW.p (PEv.pick_and (.tmp rfl) (fun hp => (by first | exact .const _ | exact .tmp rfl | exact .cond rfl (by first | assumption | simp_all)))) rfl rfl rfl ?_
    refine LW.p (PEv.assign (.tmp rfl)) rfl rfl rfl (LW.nil (KW.then (CW.ret ?_)))
    refine KW.ret1 rfl rfl ⟨_, rfl, ?_⟩
    exact ⟨rfl, hS.upd⟩

theorem sync_inv (z : DS) : ({ z with dur := z.vis, pend := [] } : DS).vis = applyAll ({ z with dur := z.vis, pend := [] } : DS).dur ({ z with dur := z.vis, pend := [] } : DS).pend := rfl
set_option maxHeartbeats 2000000 in
theorem DiskAllSurvive_any (size : Int) (ad : Option Addr) (cp : Nat) (l : List WP) (w : World) (hs : inI size) (hE0 : Els w ad 3 WP.cells l) (hl : ∀ x ∈ l, WOk x) : Ret Try.prog 9 #[vi size, .slice ad l.length cp] w fun r w' => r = .bool true ∧ Up w w' := by
  obtain ⟨w0, rfl⟩ : ∃ w0, w0 = w := ⟨_, rfl⟩
  have hS := Sep.start no w0
  refine Calls_start (n := 127) (m := 9) Try.func9 rfl rfl rfl ?_
  refine CW.seq (CW.region (LW.p (PEv.assign (.const _)) rfl rfl rfl (LW.nil (KW.then (CW.seq (CW.region ?_))))))
  refine LW.c (enter_call0 .nil (Try.en12)) rfl rfl rfl rfl (sane_any _) ?_
  rintro _ w1 ⟨rfl, uw1⟩
  have zw1 := uw1.size
  replace hS := hS.up uw1
  refine LW.p (PEv.assign (.tmp rfl)) rfl rfl rfl (LW.nil (KW.then (CW.seq (CW.region (LW.p (PEv.move (.tmp rfl)) rfl rfl rfl ?_)))))
  refine LW.c (enter_call0 (.cons (.tmp rfl) (.cons (.const _) .nil)) (Try.en15)) rfl rfl rfl rfl (pick_any _ _ _ hs (by decide)) ?_
  rintro _ w2 ⟨rfl, uw2⟩
  have zw2 := uw2.size
  replace hS := hS.up uw2
  obtain ⟨hp0, hp1⟩ := pick_range (c := size) (n := 300) hs (by decide)
  obtain ⟨p, hp⟩ : ∃ p : Nat, pickI size 300 = p := ⟨(pickI size 300).toNat, by omega⟩
  rw [hp]
  refine LW.p (PEv.addN (i := 1) (.const _) (.tmp rfl) (by omega)) rfl rfl rfl ?_
  refine LW.p (PEv.assign (.tmp rfl)) rfl rfl rfl (LW.nil (KW.then (CW.seq (CW.region (LW.p (PEv.move (.tmp rfl)) rfl rfl rfl ?_)))))
  refine LW.c (enter_call0 (.cons (.tmp rfl) .nil) (Try.en13)) rfl rfl rfl rfl (New_ok (1 + p) _ (by omega) (by omega)) ?_
  rintro _ w3 ⟨D, rfl, hD0, hDf, uw3⟩
  have zw3 := uw3.size
  replace hS := hS.add uw3 (A' := aDisk D (newS (1 + p))) (hD0) (hDf)
  change Wx.Sep _ _ _ [_] at hS
  obtain ⟨n, hn⟩ : ∃ n, n = 1 + p := ⟨_, rfl⟩
  rw [← hn] at hS ⊢
  refine LW.p (PEv.move (.tmp rfl)) rfl rfl rfl (LW.p (PEv.extract (.tmp rfl) rfl) rfl rfl rfl (LW.p (PEv.extract (.tmp rfl) rfl) rfl rfl rfl (LW.p (PEv.assign (.tmp rfl)) rfl rfl rfl (LW.p (PEv.assign (.tmp rfl)) rfl rfl rfl (LW.nil (KW.then (CW.seq (CW.seq (CW.region (LW.p (PEv.move (.tmp rfl)) rfl rfl rfl ?_))))))))))
  refine LW.p (PEv.fa (PEv.neq (.tmp rfl) (.const _)) (rfl)) rfl rfl rfl ?_
  refine LW.nil (KW.then ?_)
  refine CW.cond_false (.tmp rfl) ?_
  refine CW.skip (KW.then (CW.seq (CW.seq (CW.region (LW.p (PEv.assign (.const _)) rfl rfl rfl (LW.nil (KW.then (CW.block ?_))))))))
  refine CW.loopB (σ := Nat × Go.Value × DS) (fun s w => (s.1 ≤ l.length ∧ s.1 ≤ 60) ∧ (DCalm s.2.2 n s.1) ∧ (s.2.2.vis = applyAll s.2.2.dur s.2.2.pend) ∧ (Sep no w0 w [aDisk { D with pv := s.2.1 } s.2.2])) (fun s => [(8, .eq (vi (s.1 : Int)))]) ([(0, .eq _), (1, .eq _), (5, .eq _), (6, .eq _)]) (fun s => l.length - s.1) (0, D.pv, newS n) ?_ ⟨rfl, rfl, rfl, rfl, rfl, trivial⟩ ?_
  ·exact ⟨⟨Nat.zero_le _, by omega⟩, DCalm.new n, rfl, hS⟩
  ·rintro ⟨k, pv, z⟩ w4 ⟨hkk, hz, hinv, hS⟩
   dsimp only at hkk hz hinv hS
   refine CW.seq (CW.seq (CW.region (LW.p (PEv.move (.tmp rfl)) rfl rfl rfl (LW.p (PEv.move (.tmp rfl)) rfl rfl rfl ?_))))
   refine LW.p (PEv.lenS Try.underlying51 (.tmp rfl)) rfl rfl rfl ?_
   refine LW.p (PEv.lss (.tmp rfl) (.tmp rfl)) rfl rfl rfl ?_
   refine LW.p (PEv.move (.tmp rfl)) rfl rfl rfl ?_
   refine LW.g rfl rfl rfl rfl rfl rfl rfl (fun hc => PEv.move (.tmp rfl)) ?_
   refine LW.g rfl rfl rfl rfl rfl rfl rfl (fun hc => PEv.lss (by first | exact .tmp rfl | exact .cond rfl (by first | assumption | simp_all)) (.const _)) ?_
   refine LW.p (PEv.pick_and (.tmp rfl) (fun hp => (by first | exact .const _ | exact .tmp rfl | exact .cond rfl (by first | assumption | simp_all)))) rfl rfl rfl ?_
   refine LW.nil (KW.then ?_)
   refine CW.cond (.tmp rfl) (fun h38 => ?_) (fun h38 => ?_)
   ·first | replace h38 := of_decide_eq_true h38 | replace h38 := of_decide_eq_false h38 | skip
    refine CW.skip (KW.then (CW.seq (CW.block (CW.seq ?_))))
    have hE := hE0.up hS.upd
    have hkl : k < l.length ∧ k < 60 := by simp at h38; omega
    refine CW.region (LW.p (PEv.move (.tmp rfl)) rfl rfl rfl (LW.p (PEv.move (.tmp rfl)) rfl rfl rfl ?_))
    obtain ⟨x, hx⟩ := getElem?_of_lt (xs := l) (i := k) (by omega)
    obtain ⟨Bx, ox, ax, hcx⟩ := hE _ x hx
    refine LW.p (PEv.indexAddr' Try.underlying51 Try.sizeOf53 (.tmp rfl) (.tmp rfl) (by omega) ax) rfl rfl rfl ?_
    refine LW.p (PEv.loadA Try.isAgg53 Try.sizeOf53 rfl (.tmp rfl) (hcx)) rfl rfl rfl ?_
    refine LW.p (PEv.move (.tmp rfl)) rfl rfl rfl ?_
    refine LW.c (enter_call0 (.cons (.tmp rfl) (.cons (.tmp rfl) .nil)) (Try.en26)) rfl rfl rfl rfl (fits_any x n _ (hl x (List.mem_of_getElem? hx)) (by omega)) ?_
    rintro _ w5 ⟨rfl, uw5⟩
    have zw5 := uw5.size
    replace hS := hS.up uw5
    replace hcx := hcx.up uw5
    refine LW.r (REv.allocA Try.zeroValue53) rfl rfl rfl rfl ?_
    rintro _ w6 ⟨B9, rfl, MB9⟩
    refine LW.s (SEv.storeA Try.sizeOf53 rfl (.tmp rfl) (.tmp rfl) (WP.one _) MB9.blk rfl) rfl rfl rfl ?_
    intro w7 LB9
    have NB9 := MB9.set LB9
    clear LB9 MB9
    have eB9 := NB9.at_
    have zB9 := NB9.size
    replace hcx := hcx.up NB9.up
    replace hS := hS.addB NB9
    change Wx.Sep _ _ _ [_, _] at hS
    refine LW.nil (KW.then (CW.seq ?_))
    cases hq10 : x.sync with
    | true =>
     refine CW.region (LW.p (PEv.move (.tmp rfl)) rfl rfl rfl ?_)
     refine LW.p (PEv.fieldAddr (off := 0) Try.underlying53 rfl rfl Try.sizeOf3 rfl (.tmp rfl)) rfl rfl rfl ?_
     refine LW.p (PEv.load Try.isAgg3 (.tmp rfl) ((hS.blk 1 rfl).celln (v := vi (fitO x n : Int)) rfl)) rfl rfl rfl ?_
     refine LW.p (PEv.fieldAddr (off := 1) Try.underlying53 rfl rfl Try.sizeOf9 rfl (.tmp rfl)) rfl rfl rfl ?_
     refine LW.p (PEv.load Try.isAgg9 (.tmp rfl) ((hS.blk 1 rfl).celln (v := .string (fitS x n)) rfl)) rfl rfl rfl ?_
     refine LW.c (enter_call0 (.cons (.tmp rfl) (.cons (.tmp rfl) (.cons (.tmp rfl) .nil))) (Try.en21)) rfl rfl rfl rfl (Write_b _ _ z _ (hS.get 0 rfl) rfl (fitO x n : Int) (fitS x n) (by have := hz.pend; omega)) ?_
     rintro _ w8 ⟨rfl, pv_w8, uw8⟩
     have zw8 := uw8.fr.size
     replace hS := hS.stp 0 rfl uw8
     change Wx.Sep _ _ _ [_, _] at hS
     rw [(hz.write (fit_le (hl x (List.mem_of_getElem? hx)).off)).1]
     rw [(hz.write (fit_le (hl x (List.mem_of_getElem? hx)).off)).2] at hS
     replace hz := hz.put (fitO x n : Int) (fitS x n)
     have hvs := (ok_of (hS.get 0 rfl)).len.trans hz.len
     replace hinv := put_inv hinv (fitO x n : Int) (fitS x n)
     refine LW.p (PEv.fa (PEv.neq (.tmp rfl) (.const _)) (rfl)) rfl rfl rfl ?_
     refine LW.p (PEv.move (.tmp rfl)) rfl rfl rfl ?_
     refine LW.yes rfl rfl rfl rfl rfl rfl ?_
     refine LW.p (PEv.fieldAddr (off := 2) Try.underlying53 rfl rfl Try.sizeOf4 rfl (.tmp rfl)) rfl rfl rfl ?_
     refine LW.yes rfl rfl rfl rfl rfl rfl ?_
     refine LW.p (PEv.tr (PEv.load Try.isAgg4 (.tmp rfl) ((hS.blk 1 rfl).celln (v := .bool x.sync) rfl)) (hq10)) rfl rfl rfl ?_
     refine LW.yes rfl rfl rfl rfl rfl rfl ?_
     refine LW.p (PEv.move (.tmp rfl)) rfl rfl rfl ?_
     refine LW.yes rfl rfl rfl rfl rfl rfl ?_
     refine LW.p (PEv.move (.tmp rfl)) rfl rfl rfl ?_
     refine LW.yes rfl rfl rfl rfl rfl rfl ?_
     refine LW.c (enter_call0 (.cons (.tmp rfl) .nil) (Try.en23)) rfl rfl rfl rfl (Sync_b _ _ _ _ (hS.get 0 rfl) rfl) ?_
     rintro _ w9 ⟨rfl, pv_w9, uw9⟩
     have zw9 := uw9.fr.size
     replace hS := hS.stp 0 rfl uw9
     change Wx.Sep _ _ _ [_, _] at hS
     rw [hz.sync.1]
     rw [hz.sync.2] at hS
     replace hz := hz.synced hvs
     replace hinv := sync_inv (putS z (fitO x n : Int) (fitS x n))
     refine LW.yes rfl rfl rfl rfl rfl rfl ?_
     refine LW.p (PEv.fa (PEv.neq (.tmp rfl) (.const _)) (rfl)) rfl rfl rfl ?_
     refine LW.yes rfl rfl rfl rfl rfl rfl ?_
     refine LW.p (PEv.pick_and (.tmp rfl) (fun hp => (by first | exact .const _ | exact .tmp rfl | exact .cond rfl (by first | assumption | simp_all)))) rfl rfl rfl ?_
     refine LW.p (PEv.pick_or (.tmp rfl) (fun hp => (by first | exact .const _ | exact .tmp rfl | exact .cond rfl (by first | assumption | simp_all)))) rfl rfl rfl ?_
     refine LW.nil (KW.then ?_)
     refine CW.cond_false (.tmp rfl) ?_
     refine CW.skip (KW.inBlock (KW.then (CW.region (LW.p (PEv.move (.tmp rfl)) rfl rfl rfl ?_))))
     refine LW.p (PEv.inc (.tmp rfl) (by omega)) rfl rfl rfl ?_
     refine LW.p (PEv.assign (.tmp rfl)) rfl rfl rfl (LW.nil (KW.round ?_))
     exact ⟨(k + 1, _, _), ⟨⟨by omega, by omega⟩, hz, hinv, hS.take 1⟩, ⟨rfl, rfl, rfl, rfl, rfl, trivial⟩, by first | omega | (dsimp only; omega)⟩
    | false =>
     refine CW.region (LW.p (PEv.move (.tmp rfl)) rfl rfl rfl ?_)
     refine LW.p (PEv.fieldAddr (off := 0) Try.underlying53 rfl rfl Try.sizeOf3 rfl (.tmp rfl)) rfl rfl rfl ?_
     refine LW.p (PEv.load Try.isAgg3 (.tmp rfl) ((hS.blk 1 rfl).celln (v := vi (fitO x n : Int)) rfl)) rfl rfl rfl ?_
     refine LW.p (PEv.fieldAddr (off := 1) Try.underlying53 rfl rfl Try.sizeOf9 rfl (.tmp rfl)) rfl rfl rfl ?_
     refine LW.p (PEv.load Try.isAgg9 (.tmp rfl) ((hS.blk 1 rfl).celln (v := .string (fitS x n)) rfl)) rfl rfl rfl ?_
     refine LW.c (enter_call0 (.cons (.tmp rfl) (.cons (.tmp rfl) (.cons (.tmp rfl) .nil))) (Try.en21)) rfl rfl rfl rfl (Write_b _ _ z _ (hS.get 0 rfl) rfl (fitO x n : Int) (fitS x n) (by have := hz.pend; omega)) ?_
     rintro _ w10 ⟨rfl, pv_w10, uw10⟩
     have zw10 := uw10.fr.size
     replace hS := hS.stp 0 rfl uw10
     change Wx.Sep _ _ _ [_, _] at hS
     rw [(hz.write (fit_le (hl x (List.mem_of_getElem? hx)).off)).1]
     rw [(hz.write (fit_le (hl x (List.mem_of_getElem? hx)).off)).2] at hS
     replace hz := hz.put (fitO x n : Int) (fitS x n)
     have hvs := (ok_of (hS.get 0 rfl)).len.trans hz.len
     replace hinv := put_inv hinv (fitO x n : Int) (fitS x n)
     refine LW.p (PEv.fa (PEv.neq (.tmp rfl) (.const _)) (rfl)) rfl rfl rfl ?_
     refine LW.p (PEv.move (.tmp rfl)) rfl rfl rfl ?_
     refine LW.yes rfl rfl rfl rfl rfl rfl ?_
     refine LW.p (PEv.fieldAddr (off := 2) Try.underlying53 rfl rfl Try.sizeOf4 rfl (.tmp rfl)) rfl rfl rfl ?_
     refine LW.yes rfl rfl rfl rfl rfl rfl ?_
     refine LW.p (PEv.fa (PEv.load Try.isAgg4 (.tmp rfl) ((hS.blk 1 rfl).celln (v := .bool x.sync) rfl)) (hq10)) rfl rfl rfl ?_
     refine LW.yes rfl rfl rfl rfl rfl rfl ?_
     refine LW.p (PEv.move (.tmp rfl)) rfl rfl rfl ?_
     refine LW.no rfl rfl rfl rfl rfl rfl rfl rfl ?_
     refine LW.no rfl rfl rfl rfl rfl rfl rfl rfl ?_
     refine LW.no rfl rfl rfl rfl rfl rfl rfl rfl ?_
     refine LW.yes rfl rfl rfl rfl rfl rfl ?_
     refine LW.p (PEv.pick_and (b := false) (.tmp rfl) (fun hp => absurd (show false = true from hp) (by decide))) rfl rfl rfl ?_
     refine LW.p (PEv.pick_or (.tmp rfl) (fun hp => (by first | exact .const _ | exact .tmp rfl | exact .cond rfl (by first | assumption | simp_all)))) rfl rfl rfl ?_
     refine LW.nil (KW.then ?_)
     refine CW.cond_false (.tmp rfl) ?_
     refine CW.skip (KW.inBlock (KW.then (CW.region (LW.p (PEv.move (.tmp rfl)) rfl rfl rfl ?_))))
     refine LW.p (PEv.inc (.tmp rfl) (by omega)) rfl rfl rfl ?_
     refine LW.p (PEv.assign (.tmp rfl)) rfl rfl rfl (LW.nil (KW.round ?_))
     exact ⟨(k + 1, _, _), ⟨⟨by omega, by omega⟩, hz, hinv, hS.take 1⟩, ⟨rfl, rfl, rfl, rfl, rfl, trivial⟩, by first | omega | (dsimp only; omega)⟩
   ·first | replace h38 := of_decide_eq_true h38 | replace h38 := of_decide_eq_false h38 | skip
    refine CW.exit (KW.then_exit (KW.then_exit (KW.block_hit (KW.then (CW.seq ?_)))))
    have hvf := (ok_of (hS.get 0 rfl)).len.trans hz.len
    refine CW.region (LW.p (PEv.move (.tmp rfl)) rfl rfl rfl (LW.p (PEv.move (.tmp rfl)) rfl rfl rfl ?_))
    refine LW.c (enter_call0 (.cons (.tmp rfl) (.cons (.const _) (.cons (.tmp rfl) .nil))) (Try.en14)) rfl rfl rfl rfl (Read_b _ _ _ _ (hS.get 0 rfl) rfl 0 (n : Int)) ?_
    rintro _ w11 ⟨rfl, uw11⟩
    have zw11 := uw11.size
    replace hS := hS.up uw11
    rw [(hz.reads hvf).1, (hz.reads hvf).2]
    refine LW.p (PEv.move (.tmp rfl)) rfl rfl rfl (LW.p (PEv.extract (.tmp rfl) rfl) rfl rfl rfl (LW.p (PEv.extract (.tmp rfl) rfl) rfl rfl rfl (LW.p (PEv.assign (.tmp rfl)) rfl rfl rfl (LW.p (PEv.assign (.tmp rfl)) rfl rfl rfl (LW.nil (KW.then (CW.seq (CW.region (LW.p (PEv.assign (.const _)) rfl rfl rfl (LW.nil (KW.then (CW.seq (CW.seq ?_)))))))))))))
    replace hS := hS.add (Up.refl _) (A' := aOwn 3 1 eInt (.slice none 0 0) ([] : List Int)) (OwnS.nil _ _ _ _ _) (fun i h => by cases h)
    change Wx.Sep _ _ _ [_, _] at hS
    refine CW.region (LW.p (PEv.assign (.const _)) rfl rfl rfl (LW.nil (KW.then (CW.block ?_))))
    refine CW.loopB (σ := Nat × Go.Value) (fun s w => (s.1 ≤ z.pend.length) ∧ (Sep no w0 w [aDisk { D with pv := pv } z, aOwn 3 1 eInt s.2 (ups s.1)])) (fun s => [(13, .eq (vi (s.1 : Int))), (12, .eq (s.2))]) ([(0, .eq _), (5, .eq _), (6, .eq _), (10, .eq _), (11, .eq _)]) (fun s => z.pend.length - s.1) (0, .slice none 0 0) ?_ ⟨rfl, rfl, rfl, rfl, rfl, rfl, rfl, trivial⟩ ?_
    ·exact ⟨Nat.zero_le _, hS⟩
    ·rintro ⟨i, v⟩ w12 ⟨hii, hS⟩
     dsimp only at hii hS
     refine CW.seq (CW.seq (CW.region (LW.p (PEv.move (.tmp rfl)) rfl rfl rfl (LW.p (PEv.move (.tmp rfl)) rfl rfl rfl ?_))))
     refine LW.c (enter_call0 (.cons (.tmp rfl) .nil) (Try.en17)) rfl rfl rfl rfl (Pending_b _ _ _ _ (hS.get 0 rfl) rfl) ?_
     rintro _ w13 ⟨rfl, uw13⟩
     have zw13 := uw13.size
     replace hS := hS.up uw13
     refine LW.p (PEv.lss (.tmp rfl) (.tmp rfl)) rfl rfl rfl ?_
     refine LW.nil (KW.then ?_)
     refine CW.cond (.tmp rfl) (fun h72 => ?_) (fun h72 => ?_)
     ·first | replace h72 := of_decide_eq_true h72 | replace h72 := of_decide_eq_false h72 | skip
      refine CW.skip (KW.then (CW.seq (CW.block ?_)))
      have hpl := hz.pend
      have hul := ups_length i
      refine CW.region (LW.p (PEv.move (.tmp rfl)) rfl rfl rfl (LW.p (PEv.move (.tmp rfl)) rfl rfl rfl ?_))
      refine LW.r (REv.buildSlice (xs := [(i : Int)]) (enc := eInt) (mk := vi) Try.underlying37 Try.sizeOf3 Try.zeroValue3 rfl (by decide) (fun _ => rfl) (fun _ => rfl) (.cons (.tmp rfl) .nil) rfl) rfl rfl rfl rfl ?_
      rintro _ w14 ⟨B77, cB77, rfl, NB77, yB77, xB77⟩
      have eB77 := NB77.at_
      have zB77 := NB77.size
      replace hS := hS.up NB77.up
      have hE77 := xB77
      refine LW.r (REv.appendF (enc := eInt) (bytes := 8) (i := Try.t3) Try.underlying37 (by kernel_rfl) rfl rfl rfl rfl (by decide) (fun _ => rfl) eInt_one (.tmp rfl) (.tmp rfl) (hS.own 1 rfl) (Sl.of_els hE77) (by rw [hul]; simp [maxLen]; omega) (by rw [hul]; simp; omega)) rfl rfl rfl rfl ?_
      intro v78 w15 Gw15
      have zw15 := Gw15.fr.size
      replace hS := hS.stp 1 rfl Gw15
      change Wx.Sep _ _ _ [_, _] at hS
      refine LW.p (PEv.assign (.tmp rfl)) rfl rfl rfl (LW.nil (KW.inBlock (KW.then (CW.region (LW.p (PEv.move (.tmp rfl)) rfl rfl rfl ?_)))))
      refine LW.p (PEv.inc (.tmp rfl) (by omega)) rfl rfl rfl ?_
      refine LW.p (PEv.assign (.tmp rfl)) rfl rfl rfl (LW.nil (KW.round ?_))
      exact ⟨(i + 1, v78), ⟨by omega, by rw [ups_succ]; exact hS⟩, ⟨rfl, rfl, rfl, rfl, rfl, rfl, rfl, trivial⟩, by first | omega | (dsimp only; omega)⟩
     ·first | replace h72 := of_decide_eq_true h72 | replace h72 := of_decide_eq_false h72 | skip
      refine CW.exit (KW.then_exit (KW.then_exit (KW.block_hit (KW.then (CW.seq ?_)))))
      have hi2 : i = z.pend.length := by omega
      subst hi2
      obtain ⟨adk, cpk, rfl, hEk⟩ := (hS.own 1 rfl).sl (fun _ => rfl)
      refine CW.region (LW.p (PEv.move (.tmp rfl)) rfl rfl rfl (LW.p (PEv.move (.tmp rfl)) rfl rfl rfl ?_))
      refine LW.c (enter_call0 (.cons (.tmp rfl) (.cons (.tmp rfl) (.cons (.const _) .nil))) (Try.en25)) rfl rfl rfl rfl (Crash_b _ _ z _ (hS.get 0 rfl) rfl hEk (-1) (by rw [ups_length]; have := hz.pend; omega)) ?_
      rintro _ w16 ⟨rfl, pv_w16, uw16⟩
      have zw16 := uw16.fr.size
      replace hS := hS.stp 0 rfl uw16
      change Wx.Sep _ _ _ [_, _] at hS
      rw [crash_all (by decide) hinv] at hS
      refine LW.p (PEv.assign (.tmp rfl)) rfl rfl rfl (LW.nil (KW.then (CW.seq (CW.region (LW.p (PEv.move (.tmp rfl)) rfl rfl rfl (LW.p (PEv.move (.tmp rfl)) rfl rfl rfl ?_))))))
      refine LW.c (enter_call0 (.cons (.tmp rfl) (.cons (.const _) (.cons (.tmp rfl) .nil))) (Try.en14)) rfl rfl rfl rfl (Read_b _ _ _ _ (hS.get 0 rfl) rfl 0 (n : Int)) ?_
      rintro _ w17 ⟨rfl, uw17⟩
      have zw17 := uw17.size
      replace hS := hS.up uw17
      rw [((calm_plain hvf).reads hvf).1, ((calm_plain hvf).reads hvf).2]
      refine LW.p (PEv.move (.tmp rfl)) rfl rfl rfl (LW.p (PEv.extract (.tmp rfl) rfl) rfl rfl rfl (LW.p (PEv.extract (.tmp rfl) rfl) rfl rfl rfl (LW.p (PEv.assign (.tmp rfl)) rfl rfl rfl (LW.p (PEv.assign (.tmp rfl)) rfl rfl rfl (LW.nil (KW.then (CW.seq (CW.region (LW.p (PEv.move (.tmp rfl)) rfl rfl rfl ?_)))))))))
      refine LW.c (enter_call0 (.cons (.tmp rfl) (.cons (.const _) (.cons (.const _) .nil))) (Try.en25)) rfl rfl rfl rfl (Crash_b _ _ _ _ (hS.get 0 rfl) rfl (keep := []) (els_nil _) 0 (by decide)) ?_
      rintro _ w18 ⟨rfl, pv_w18, uw18⟩
      have zw18 := uw18.fr.size
      replace hS := hS.stp 0 rfl uw18
      change Wx.Sep _ _ _ [_, _] at hS
      rw [crash_nil] at hS
      refine LW.p (PEv.assign (.tmp rfl)) rfl rfl rfl (LW.nil (KW.then (CW.seq (CW.region (LW.p (PEv.move (.tmp rfl)) rfl rfl rfl (LW.p (PEv.move (.tmp rfl)) rfl rfl rfl ?_))))))
      refine LW.c (enter_call0 (.cons (.tmp rfl) (.cons (.const _) (.cons (.tmp rfl) .nil))) (Try.en14)) rfl rfl rfl rfl (Read_b _ _ _ _ (hS.get 0 rfl) rfl 0 (n : Int)) ?_
      rintro _ w19 ⟨rfl, uw19⟩
      have zw19 := uw19.size
      replace hS := hS.up uw19
      rw [((calm_plain hvf).reads hvf).1, ((calm_plain hvf).reads hvf).2]
      refine LW.p (PEv.move (.tmp rfl)) rfl rfl rfl (LW.p (PEv.extract (.tmp rfl) rfl) rfl rfl rfl (LW.p (PEv.extract (.tmp rfl) rfl) rfl rfl rfl (LW.p (PEv.assign (.tmp rfl)) rfl rfl rfl (LW.p (PEv.assign (.tmp rfl)) rfl rfl rfl (LW.nil (KW.then (CW.seq (CW.region (LW.p (PEv.move (.tmp rfl)) rfl rfl rfl (LW.p (PEv.move (.tmp rfl)) rfl rfl rfl ?_))))))))))
      refine LW.yes rfl rfl rfl rfl rfl rfl ?_
      refine LW.p (PEv.move (.tmp rfl)) rfl rfl rfl ?_
      refine LW.yes rfl rfl rfl rfl rfl rfl ?_
      refine LW.p (PEv.tr (PEv.eql (.tmp rfl) (.const _)) (rfl)) rfl rfl rfl ?_
      refine LW.p (PEv.pick_and (.tmp rfl) (fun hp => (by first | exact .const _ | exact .tmp rfl | exact .cond rfl (by first | assumption | simp_all)))) rfl rfl rfl ?_
      refine LW.p (PEv.move (.tmp rfl)) rfl rfl rfl ?_
      refine LW.yes rfl rfl rfl rfl rfl rfl ?_
      refine LW.p (PEv.move (.tmp rfl)) rfl rfl rfl ?_
      refine LW.yes rfl rfl rfl rfl rfl rfl ?_
      refine LW.p (PEv.tr (PEv.eql (.tmp rfl) (.const _)) (rfl)) rfl rfl rfl ?_
      refine LW.p (PEv.pick_and (.tmp rfl) (fun hp => (by first | exact .const _ | exact .tmp rfl | exact .cond rfl (by first | assumption | simp_all)))) rfl rfl rfl ?_
      refine LW.p (PEv.move (.tmp rfl)) rfl rfl rfl ?_
      refine LW.yes rfl rfl rfl rfl rfl rfl ?_
      refine LW.p (PEv.move (.tmp rfl)) rfl rfl rfl ?_
      refine LW.yes rfl rfl rfl rfl rfl rfl ?_
      refine LW.p (PEv.tr (PEv.eql (.tmp rfl) (.const _)) (rfl)) rfl rfl rfl ?_
      refine LW.p (PEv.pick_and (.tmp rfl) (fun hp => (by first | exact .const _ | exact .tmp rfl | exact .cond rfl (by first | assumption | simp_all)))) rfl rfl rfl ?_
      refine LW.p (PEv.move (.tmp rfl)) rfl rfl rfl ?_
      refine LW.yes rfl rfl rfl rfl rfl rfl ?_
      refine LW.p (PEv.move (.tmp rfl)) rfl rfl rfl ?_
      refine LW.yes rfl rfl rfl rfl rfl rfl ?_
      refine LW.p (PEv.tr (PEv.eql (.tmp rfl) (.const _)) (rfl)) rfl rfl rfl ?_
      refine LW.p (PEv.pick_and (.tmp rfl) (fun hp => (by first | exact .const _ | exact .tmp rfl | exact .cond rfl (by first | assumption | simp_all)))) rfl rfl rfl ?_
      refine LW.p (PEv.move (.tmp rfl)) rfl rfl rfl ?_
      refine LW.yes rfl rfl rfl rfl rfl rfl ?_
      refine LW.p (PEv.move (.tmp rfl)) rfl rfl rfl ?_
      refine LW.yes rfl rfl rfl rfl rfl rfl ?_
      refine LW.p (PEv.tr (PEv.eql (.tmp rfl) (.const _)) (rfl)) rfl rfl rfl ?_
      refine LW.p (PEv.pick_and (.tmp rfl) (fun hp => (by first | exact .const _ | exact .tmp rfl | exact .cond rfl (by first | assumption | simp_all)))) rfl rfl rfl ?_
      refine LW.p (PEv.move (.tmp rfl)) rfl rfl rfl ?_
      refine LW.yes rfl rfl rfl rfl rfl rfl ?_
      refine LW.p (PEv.move (.tmp rfl)) rfl rfl rfl ?_
      refine LW.yes rfl rfl rfl rfl rfl rfl ?_
      refine LW.p (PEv.move (.tmp rfl)) rfl rfl rfl ?_
      refine LW.yes rfl rfl rfl rfl rfl rfl ?_
      refine LW.p (PEv.tr (PEv.eqlStr (.tmp rfl) (.tmp rfl)) (beq_self_eq_true _)) rfl rfl rfl ?_
      refine LW.p (PEv.pick_and (.tmp rfl) (fun hp => (by first | exact .const _ | exact .tmp rfl | exact .cond rfl (by first | assumption | simp_all)))) rfl rfl rfl ?_
      refine LW.p (PEv.move (.tmp rfl)) rfl rfl rfl ?_
      refine LW.yes rfl rfl rfl rfl rfl rfl ?_
      refine LW.p (PEv.move (.tmp rfl)) rfl rfl rfl ?_
      refine LW.yes rfl rfl rfl rfl rfl rfl ?_
      refine LW.p (PEv.move (.tmp rfl)) rfl rfl rfl ?_
      refine LW.yes rfl rfl rfl rfl rfl rfl ?_
      refine LW.p (PEv.tr (PEv.eqlStr (.tmp rfl) (.tmp rfl)) (beq_self_eq_true _)) rfl rfl rfl ?_
      refine LW.p (PEv.pick_and (.tmp rfl) (fun hp => (by first | exact .const _ | exact .tmp rfl | exact .cond rfl (by first | assumption | simp_all)))) rfl rfl rfl ?_
      refine LW.p (PEv.assign (.tmp rfl)) rfl rfl rfl (LW.nil (KW.then (CW.ret ?_)))
      refine KW.ret1 rfl rfl ⟨_, rfl, ?_⟩
      exact ⟨rfl, hS.upd⟩

end Go.Proofs.Ytkpkljbmbmjadaa
