import Derived.Test.YtkpkljbmbmjadaaDi4
namespace Go.Wx

def pickI (c n : Int) : Int := (if c < 0 then -(c + 1) else c).tmod n
theorem pick_range {c n : Int} (hc : inI c) (hn : 0 < n) : 0 ≤ pickI c n ∧ pickI c n < n := by
  unfold pickI
  obtain ⟨h1, h2⟩ := hc
  split
  · rw [Int.tmod_eq_emod_of_nonneg (by omega)]; exact ⟨Int.emod_nonneg _ (by omega), Int.emod_lt_of_pos _ hn⟩
  · rw [Int.tmod_eq_emod_of_nonneg (by omega)]; exact ⟨Int.emod_nonneg _ (by omega), Int.emod_lt_of_pos _ hn⟩
def cutB (s : ByteArray) (n : Int) : ByteArray := s.extract 0 (if n < s.size then n else s.size).toNat
theorem cutB_size {s : ByteArray} {n : Int} (hn : 0 ≤ n) : ((cutB s n).size : Int) ≤ n := by
  unfold cutB
  rw [ByteArray.size_extract]
  split <;> omega
structure WP where
  off : Int
  s : ByteArray
  sync : Bool
def WP.cells (x : WP) : Array Go.Value := #[.int .i64 x.off, .string x.s, .bool x.sync]
theorem WP.one (x : WP) : x.cells.all (·.oneCell') = true := by simp [WP.cells, Value.oneCell']
def fitO (x : WP) (n : Nat) : Nat := (pickI x.off ((n : Int) + 1)).toNat
def fitS (x : WP) (n : Nat) : ByteArray := cutB x.s ((n : Int) - (fitO x n : Int))
theorem fitO_le {x : WP} {n : Nat} (hx : inI x.off) : (fitO x n : Int) = pickI x.off ((n : Int) + 1) ∧ fitO x n ≤ n := by
  obtain ⟨h1, h2⟩ := pick_range (n := (n : Int) + 1) hx (by omega)
  unfold fitO
  omega
theorem fit_le {x : WP} {n : Nat} (hx : inI x.off) : fitO x n + (fitS x n).size ≤ n := by
  have h1 := (fitO_le (n := n) hx).2
  have h2 := cutB_size (s := x.s) (n := (n : Int) - (fitO x n : Int)) (by omega)
  unfold fitS
  omega
structure WOk (x : WP) : Prop where
  off : inI x.off
structure DCalm (z : DS) (n k : Nat) : Prop where
  off : z.off = false
  left : z.left = 0
  len : z.dur.length = n
  pend : z.pend.length ≤ k
theorem inside_ok {n j m : Nat} (h : j + m ≤ n) : insideB n (j : Int) (m : Int) = true := by simp [insideB]; omega
theorem DCalm.write {z : DS} {n k j : Nat} {s : ByteArray} (h : DCalm z n k) (hj : j + s.size ≤ n) : writeE z (j : Int) s = 0 ∧ writeS z (j : Int) s = putS z j s := by
  have hi : insideB z.dur.length (j : Int) (s.size : Int) = true := by rw [h.len]; exact inside_ok hj
  refine ⟨by simp [writeE, h.off, hi], ?_⟩
  have : writeS z (j : Int) s = usedS (putS z j s) := by simp [writeS, h.off, hi]
  rw [this]
  unfold usedS
  exact if_pos h.left
theorem DCalm.put {z : DS} {n k : Nat} (h : DCalm z n k) (j : Int) (s : ByteArray) : DCalm (putS z j s) n (k + 1) := ⟨h.off, h.left, h.len, by have := h.pend; simp [putS]; omega⟩
theorem DCalm.sync {z : DS} {n k : Nat} (h : DCalm z n k) : checkS z = 0 ∧ syncS z = { z with dur := z.vis, pend := [] } := ⟨by simp [checkS, h.off], by simp [syncS, h.off]⟩
theorem DCalm.synced {z : DS} {n k : Nat} (h : DCalm z n k) (hv : z.vis.length = n) : DCalm { z with dur := z.vis, pend := [] } n k := ⟨h.off, h.left, hv, Nat.zero_le _⟩
theorem DCalm.readE {z : DS} {n k j m : Nat} (h : DCalm z n k) (hj : j + m ≤ n) : Wx.readE z (j : Int) (m : Int) = 0 ∧ Wx.readB z (j : Int) (m : Int) = strOf z.vis j m := by
  have hi : insideB z.dur.length (j : Int) (m : Int) = true := by rw [h.len]; exact inside_ok hj
  exact ⟨by simp [Wx.readE, h.off, hi], by simp [Wx.readB, h.off, hi]⟩
theorem strOf_all (c : List UInt8) {n : Nat} (h : c.length = n) : strOf c 0 n = ⟨c.toArray⟩ := by
  unfold strOf
  rw [List.drop_zero, List.take_of_length_le (by omega)]
theorem DCalm.new (n : Nat) : DCalm (newS n) n 0 := ⟨rfl, rfl, by simp [newS], Nat.le_refl _⟩
def newOk (n : Int) : Bool := decide (1 ≤ n) && decide (n ≤ 4194304)

end Go.Wx
namespace Go.Proofs.Ytkpkljbmbmjadaa
open Go.Wx Go.RowKit
theorem New_ok (n : Nat) (w : World) (h0 : 1 ≤ n) (h1 : n ≤ 4194304) : Ret Try.prog 13 #[vi (n : Int)] w fun r w' => ∃ D, r = .tuple #[.pointer (some ⟨D.bd, 0, none⟩), vi 0] ∧ (aDisk D (newS n)).holds w' ∧ (∀ i, (aDisk D (newS n)).foot i → w.heap.size ≤ i) ∧ Up w w' :=
  (New_any (n : Int) w).mono fun r w' ⟨_, h2, hu⟩ => by
    obtain ⟨D, e, hD, hf⟩ := h2 (by simp [newE]; omega)
    exact ⟨D, e, hD, hf, hu⟩
theorem New_bad (n : Int) (w : World) (h : newOk n = false) : Ret Try.prog 13 #[vi n] w fun r w' => r = .tuple #[.pointer none, vi 2] ∧ Up w w' :=
  (New_any n w).mono fun r w' ⟨h2, _, hu⟩ => ⟨h2 (by simp [newOk] at h; simp [newE]; omega), hu⟩
theorem Read_d (D : Dk) (s : DS) (w : World) (hD : (aDisk D s).holds w) (off m : Int) : Ret Try.prog 14 #[.pointer (some ⟨D.bd, 0, none⟩), vi off, vi m] w fun r w' => r = .tuple #[.string (readB s off m), vi (readE s off m)] ∧ Up w w' := Read_any D s w hD.1 hD.2.2.1 hD.2.2.2.2.2 off m
theorem Write_b (b : Nat) (D : Dk) (s : DS) (w : World) (hD : (aDisk D s).holds w) (hb : D.bd = b) (off : Int) (x : ByteArray) (hp : s.pend.length < 1000000) : Ret Try.prog 21 #[.pointer (some ⟨b, 0, none⟩), vi off, .string x] w fun r w' => r = vi (writeE s off x) ∧ ∃ pv, Stp (aDisk D s) (aDisk { D with pv := pv } (writeS s off x)) w w' := by subst hb; exact Write_any D s w hD off x hp
theorem Sync_b (b : Nat) (D : Dk) (s : DS) (w : World) (hD : (aDisk D s).holds w) (hb : D.bd = b) : Ret Try.prog 23 #[.pointer (some ⟨b, 0, none⟩)] w fun r w' => r = vi (checkS s) ∧ ∃ pv, Stp (aDisk D s) (aDisk { D with pv := pv } (syncS s)) w w' := by subst hb; exact Sync_any D s w hD
theorem Read_b (b : Nat) (D : Dk) (s : DS) (w : World) (hD : (aDisk D s).holds w) (hb : D.bd = b) (off m : Int) : Ret Try.prog 14 #[.pointer (some ⟨b, 0, none⟩), vi off, vi m] w fun r w' => r = .tuple #[.string (readB s off m), vi (readE s off m)] ∧ Up w w' := by subst hb; exact Read_d D s w hD off m
theorem Cut_b (b : Nat) (D : Dk) (s : DS) (w : World) (hD : (aDisk D s).holds w) (hb : D.bd = b) (m : Int) (hm : m ≤ 9223372036854775807) : Ret Try.prog 24 #[.pointer (some ⟨b, 0, none⟩), vi m] w fun r w' => r = vi (cutE s m) ∧ Stp (aDisk D s) (aDisk D (cutS s m)) w w' := by subst hb; exact Cut_any D s w hD m hm
theorem Crash_b (b : Nat) (D : Dk) (s : DS) (w : World) (hD : (aDisk D s).holds w) (hb : D.bd = b) {adk : Option Addr} {cpk : Nat} {keep : List Int} (hE : Els w adk 1 eInt keep) (torn : Int) (hkl : keep.length ≤ 1000000000) : Ret Try.prog 25 #[.pointer (some ⟨b, 0, none⟩), .slice adk keep.length cpk, vi torn] w fun r w' => r = vi 0 ∧ ∃ pv, Stp (aDisk D s) (aDisk { D with pv := pv } (crashS s keep torn)) w w' := by subst hb; exact Crash_any D s adk cpk keep torn w hD hE hkl
theorem Size_b (b : Nat) (D : Dk) (s : DS) (w : World) (hD : (aDisk D s).holds w) (hb : D.bd = b) : Ret Try.prog 16 #[.pointer (some ⟨b, 0, none⟩)] w fun r w' => r = vi (s.dur.length : Int) ∧ Up w w' := by subst hb; exact Size_any D s w hD
theorem Pending_b (b : Nat) (D : Dk) (s : DS) (w : World) (hD : (aDisk D s).holds w) (hb : D.bd = b) : Ret Try.prog 17 #[.pointer (some ⟨b, 0, none⟩)] w fun r w' => r = vi (s.pend.length : Int) ∧ Up w w' := by subst hb; exact Pending_any D s w hD
theorem ok_of {w : World} {D : Dk} {s : DS} (h : (aDisk D s).holds w) : DOk s := h.2.2.2.2.2

theorem pick_any (c n : Int) (w : World) (hc : inI c) (hn : 0 < n) : Ret Try.prog 15 #[vi c, vi n] w fun r w' => r = vi (pickI c n) ∧ Up w w' := by
  have hW := Up.refl w
  obtain ⟨hc0, hc1⟩ := hc
  refine Calls_start (n := 13) (m := 9) Try.func15 rfl rfl rfl ?_
  refine CW.seq (CW.region (LW.p (PEv.assign (.const _)) rfl rfl rfl (LW.nil (KW.then (CW.seq (CW.seq (CW.region (LW.p (PEv.move (.tmp rfl)) rfl rfl rfl ?_))))))))
  refine LW.p (PEv.lss (.tmp rfl) (.const _)) rfl rfl rfl ?_
  refine LW.nil (KW.then ?_)
  refine CW.cond (.tmp rfl) (fun h6 => ?_) (fun h6 => ?_)
  ·first | replace h6 := of_decide_eq_true h6 | replace h6 := of_decide_eq_false h6 | skip
   refine CW.region (LW.p (PEv.move (.tmp rfl)) rfl rfl rfl ?_)
   refine LW.p (PEv.add (.tmp rfl) (.const _) (by omega) (by omega)) rfl rfl rfl ?_
   refine LW.p (PEv.negI (.tmp rfl) (by omega) (by omega)) rfl rfl rfl ?_
   refine LW.p (PEv.assign (.tmp rfl)) rfl rfl rfl (LW.nil (KW.then (CW.seq (CW.region (LW.p (PEv.move (.tmp rfl)) rfl rfl rfl (LW.p (PEv.move (.tmp rfl)) rfl rfl rfl ?_))))))
   refine LW.p (PEv.rem (.tmp rfl) (.tmp rfl) (by omega)) rfl rfl rfl ?_
   refine LW.p (PEv.assign (.tmp rfl)) rfl rfl rfl (LW.nil (KW.then (CW.ret ?_)))
   refine KW.ret1 rfl rfl ⟨_, rfl, ?_⟩
   exact ⟨by first | (rw [pickI, if_pos h6]) | (rw [pickI, if_neg (by omega)]), hW⟩
  ·first | replace h6 := of_decide_eq_true h6 | replace h6 := of_decide_eq_false h6 | skip
   refine CW.skip (KW.then (CW.seq (CW.region (LW.p (PEv.move (.tmp rfl)) rfl rfl rfl (LW.p (PEv.move (.tmp rfl)) rfl rfl rfl ?_)))))
   refine LW.p (PEv.rem (.tmp rfl) (.tmp rfl) (by omega)) rfl rfl rfl ?_
   refine LW.p (PEv.assign (.tmp rfl)) rfl rfl rfl (LW.nil (KW.then (CW.ret ?_)))
   refine KW.ret1 rfl rfl ⟨_, rfl, ?_⟩
   exact ⟨by first | (rw [pickI, if_pos h6]) | (rw [pickI, if_neg (by omega)]), hW⟩

theorem cut_any (s : ByteArray) (n : Int) (w : World) (hn : 0 ≤ n) : Ret Try.prog 22 #[.string s, vi n] w fun r w' => r = .string (cutB s n) ∧ Up w w' := by
  have hW := Up.refl w
  refine Calls_start (n := 11) (m := 9) Try.func22 rfl rfl rfl ?_
  refine CW.seq (CW.region (LW.p (PEv.assign (.const _)) rfl rfl rfl (LW.nil (KW.then (CW.seq (CW.region (LW.p (PEv.move (.tmp rfl)) rfl rfl rfl (LW.p (PEv.move (.tmp rfl)) rfl rfl rfl ?_))))))))
  refine LW.p (PEv.lenStr Try.underlying9 (.tmp rfl)) rfl rfl rfl ?_
  refine LW.p (PEv.move (.tmp rfl)) rfl rfl rfl ?_
  refine LW.p (PEv.min2 (.tmp rfl) (.tmp rfl)) rfl rfl rfl ?_
  refine LW.p (PEv.strTo Try.underlying9 (.tmp rfl) (.tmp rfl) (by split <;> omega) (by split <;> omega)) rfl rfl rfl ?_
  refine LW.p (PEv.assign (.tmp rfl)) rfl rfl rfl (LW.nil (KW.then (CW.ret ?_)))
  refine KW.ret1 rfl rfl ⟨_, rfl, ?_⟩
  exact ⟨rfl, hW⟩

theorem fits_any (x : WP) (n : Nat) (w : World) (hx : WOk x) (hn : n ≤ 4194304) : Ret Try.prog 26 #[.agg x.cells, vi (n : Int)] w fun r w' => r = .agg (WP.cells ⟨(fitO x n : Int), fitS x n, x.sync⟩) ∧ Up w w' := by
  have hW := Up.refl w
  obtain ⟨hfo, hfl⟩ := fitO_le (n := n) hx.off
  refine Calls_start (n := 20) (m := 9) Try.func26 rfl rfl rfl ?_
  refine CW.seq (CW.region ?_)
  refine LW.r (REv.boxA (.tmp rfl)) rfl rfl rfl rfl ?_
  rintro _ w1 ⟨B2, rfl, NB2⟩
  have eB2 := NB2.at_
  have zB2 := NB2.size
  replace hW := hW.up NB2.up
  have hB2 := NB2.blk
  refine LW.r (REv.allocA Try.zeroValue53) rfl rfl rfl rfl ?_
  rintro _ w2 ⟨B4, rfl, NB4⟩
  have eB4 := NB4.at_
  have zB4 := NB4.size
  replace hW := hW.up NB4.up
  replace hB2 := hB2.up NB4.up
  have hB4 := NB4.blk
  refine LW.nil (KW.then (CW.seq (CW.region ?_)))
  refine LW.p (PEv.fieldAddr (off := 0) Try.underlying53 rfl rfl Try.sizeOf3 rfl (.tmp rfl)) rfl rfl rfl ?_
  refine LW.p (PEv.load Try.isAgg3 (.tmp rfl) (hB2.celln rfl)) rfl rfl rfl ?_
  refine LW.p (PEv.move (.tmp rfl)) rfl rfl rfl ?_
  refine LW.p (PEv.add (.tmp rfl) (.const _) (by omega) (by omega)) rfl rfl rfl ?_
  refine LW.c (enter_call0 (.cons (.tmp rfl) (.cons (.tmp rfl) .nil)) (Try.en15)) rfl rfl rfl rfl (pick_any _ _ _ hx.off (by omega)) ?_
  rintro _ w3 ⟨rfl, uw3⟩
  have zw3 := uw3.size
  replace hW := hW.up uw3
  replace hB2 := hB2.up uw3
  replace hB4 := hB4.up uw3
  rw [← hfo]
  refine LW.p (PEv.fieldAddr (off := 0) Try.underlying53 rfl rfl Try.sizeOf3 rfl (.tmp rfl)) rfl rfl rfl ?_
  refine LW.s (SEv.store Try.sizeOf3 (.tmp rfl) (.tmp rfl) rfl hB2 (Nat.le_of_ble_eq_true rfl)) rfl rfl rfl ?_
  intro w4 Nw4
  have zw4 := Nw4.size
  replace hW := hW.sto Nw4.sto (by omega)
  replace hB4 := hB4.sto Nw4.sto (by omega)
  replace hB2 := Nw4.blk
  replace hB2 : Blk w4 B2 (WP.cells ⟨(fitO x n : Int), x.s, x.sync⟩) _ := hB2
  refine LW.nil (KW.then (CW.seq (CW.region ?_)))
  refine LW.p (PEv.fieldAddr (off := 1) Try.underlying53 rfl rfl Try.sizeOf9 rfl (.tmp rfl)) rfl rfl rfl ?_
  refine LW.p (PEv.load Try.isAgg9 (.tmp rfl) (hB2.celln rfl)) rfl rfl rfl ?_
  refine LW.p (PEv.move (.tmp rfl)) rfl rfl rfl ?_
  refine LW.p (PEv.fieldAddr (off := 0) Try.underlying53 rfl rfl Try.sizeOf3 rfl (.tmp rfl)) rfl rfl rfl ?_
  refine LW.p (PEv.load Try.isAgg3 (.tmp rfl) (hB2.celln (v := vi (fitO x n : Int)) rfl)) rfl rfl rfl ?_
  refine LW.p (PEv.sub (.tmp rfl) (.tmp rfl) (by omega) (by omega)) rfl rfl rfl ?_
  refine LW.c (enter_call0 (.cons (.tmp rfl) (.cons (.tmp rfl) .nil)) (Try.en22)) rfl rfl rfl rfl (cut_any _ _ _ (by omega)) ?_
  rintro _ w5 ⟨rfl, uw5⟩
  have zw5 := uw5.size
  replace hW := hW.up uw5
  replace hB2 := hB2.up uw5
  replace hB4 := hB4.up uw5
  refine LW.p (PEv.fieldAddr (off := 1) Try.underlying53 rfl rfl Try.sizeOf9 rfl (.tmp rfl)) rfl rfl rfl ?_
  refine LW.s (SEv.store Try.sizeOf9 (.tmp rfl) (.tmp rfl) rfl hB2 (Nat.le_of_ble_eq_true rfl)) rfl rfl rfl ?_
  intro w6 Nw6
  have zw6 := Nw6.size
  replace hW := hW.sto Nw6.sto (by omega)
  replace hB4 := hB4.sto Nw6.sto (by omega)
  replace hB2 := Nw6.blk
  replace hB2 : Blk w6 B2 (WP.cells ⟨(fitO x n : Int), fitS x n, x.sync⟩) _ := hB2
  refine LW.nil (KW.then (CW.seq (CW.region ?_)))
  refine LW.p (PEv.loadA Try.isAgg53 Try.sizeOf53 rfl (.tmp rfl) (hB2.agg)) rfl rfl rfl ?_
  refine LW.s (SEv.storeA Try.sizeOf53 rfl (.tmp rfl) (.tmp rfl) (WP.one _) hB4 rfl) rfl rfl rfl ?_
  intro w7 Nw7
  have zw7 := Nw7.size
  replace hW := hW.sto Nw7.sto (by omega)
  replace hB2 := hB2.sto Nw7.sto (by omega)
  replace hB4 := Nw7.blk
  refine LW.nil (KW.then (CW.ret ?_))
  refine KW.retA rfl rfl Try.isAgg53 Try.sizeOf53 rfl (hB4.agg) ⟨_, rfl, ?_⟩
  exact ⟨rfl, hW⟩

theorem put_any (B m cp j : Nat) (x : ByteArray) (c : List UInt8) (w : World) (hB : Blk w B (byc c) 5) (hc : c.length = m) (hj : j + x.size ≤ m) (hm : m ≤ 4194304) : Ret Try.prog 27 #[.slice (some ⟨B, 0, none⟩) m cp, vi (j : Int), .string x] w fun r w' => r = .tuple #[] ∧ Stp (aBlk B (byc c) 5) (aBlk B (byc (overlay c j x.data.toList)) 5) w w' := by
  obtain ⟨w0, rfl⟩ : ∃ w0, w0 = w := ⟨_, rfl⟩
  have hS : Sep (aBlk B (byc c) 5).foot w0 w0 [aBlk B (byc c) 5] := Sep.cons (A := aBlk _ _ _) hB (fun _ h => h) (Sep.start _ _) (by simp)
  refine Calls_start (n := 21) (m := 9) Try.func27 rfl rfl rfl ?_
  refine CW.seq (CW.region (LW.p (PEv.assign (.const _)) rfl rfl rfl (LW.nil (KW.then (CW.block ?_)))))
  refine CW.loopB (σ := Nat) (fun s w => (s ≤ x.size) ∧ (Sep (aBlk B (byc c) 5).foot w0 w [aBlk B (byc (overlay c j (x.data.toList.take s))) 5])) (fun s => [(6, .eq (vi (s : Int)))]) ([(0, .eq _), (1, .eq _), (2, .eq _)]) (fun s => x.size - s) 0 ?_ ⟨rfl, rfl, rfl, rfl, trivial⟩ ?_
  ·exact ⟨Nat.zero_le _, by rw [List.take_zero, overlay_nil]; exact hS⟩
  ·rintro k w1 ⟨hkk, hS⟩
   refine CW.seq (CW.seq (CW.region (LW.p (PEv.move (.tmp rfl)) rfl rfl rfl (LW.p (PEv.move (.tmp rfl)) rfl rfl rfl ?_))))
   refine LW.p (PEv.lenStr Try.underlying9 (.tmp rfl)) rfl rfl rfl ?_
   refine LW.p (PEv.lss (.tmp rfl) (.tmp rfl)) rfl rfl rfl ?_
   refine LW.nil (KW.then ?_)
   refine CW.cond (.tmp rfl) (fun h10 => ?_) (fun h10 => ?_)
   ·first | replace h10 := of_decide_eq_true h10 | replace h10 := of_decide_eq_false h10 | skip
    refine CW.skip (KW.then (CW.seq (CW.block ?_)))
    have hsx := bytes_len x
    have hck : (overlay c j (x.data.toList.take k)).length = c.length := overlay_length (by simp; omega)
    refine CW.region (LW.p (PEv.move (.tmp rfl)) rfl rfl rfl (LW.p (PEv.move (.tmp rfl)) rfl rfl rfl (LW.p (PEv.move (.tmp rfl)) rfl rfl rfl ?_)))
    refine LW.p (PEv.addN (.tmp rfl) (.tmp rfl) (by omega)) rfl rfl rfl ?_
    refine LW.p (PEv.move (.tmp rfl)) rfl rfl rfl (LW.p (PEv.move (.tmp rfl)) rfl rfl rfl ?_)
    refine LW.p (PEv.strIndex Try.underlying9 (.tmp rfl) (.tmp rfl) (by omega)) rfl rfl rfl ?_
    refine LW.p (PEv.indexAddr Try.underlying40 Try.sizeOf5 (.tmp rfl) (.tmp rfl) (by omega)) rfl rfl rfl ?_
    refine LW.s (SEv.store Try.sizeOf5 (.tmp rfl) (.tmp rfl) rfl (hS.blk 0 rfl) (by rw [byc_size, hck]; omega)) rfl rfl rfl ?_
    intro w2 Nw2
    have zw2 := Nw2.size
    replace hS := hS.putB 0 rfl Nw2
    change Wx.Sep _ _ _ [_] at hS
    refine LW.nil (KW.inBlock (KW.then ?_))
    rw [Nat.zero_add, Nat.mul_one, byc_set, overlay_step (by rw [hsx]; omega) (by omega)] at hS
    refine CW.region (LW.p (PEv.move (.tmp rfl)) rfl rfl rfl ?_)
    refine LW.p (PEv.inc (.tmp rfl) (by omega)) rfl rfl rfl ?_
    refine LW.p (PEv.assign (.tmp rfl)) rfl rfl rfl (LW.nil (KW.round ?_))
    exact ⟨k + 1, ⟨by omega, hS⟩, ⟨rfl, rfl, rfl, rfl, trivial⟩, by first | omega | (dsimp only; omega)⟩
   ·first | replace h10 := of_decide_eq_true h10 | replace h10 := of_decide_eq_false h10 | skip
    have hkk2 : k = x.size := by omega
    subst hkk2
    rw [List.take_of_length_le (by rw [bytes_len]; exact Nat.le_refl _)] at hS
    refine CW.exit (KW.then_exit (KW.then_exit (KW.block_hit ?_)))
    refine KW.end0 rfl ⟨_, rfl, ?_⟩
    exact ⟨rfl, hS.fr, hS.blk 0 rfl, fun _ h => .inl h⟩

end Go.Proofs.Ytkpkljbmbmjadaa
