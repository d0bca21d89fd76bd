import Derived.Test.YtkpkljbmbmjadaaDi3
namespace Go.Wx

def applyAll (c : List UInt8) (ws : List Wr) : List UInt8 := ws.foldl (fun c x => overlay c x.off.toNat x.s.data.toList) c
theorem applyAll_snoc (c : List UInt8) (ws : List Wr) (x : Wr) : applyAll c (ws ++ [x]) = overlay (applyAll c ws) x.off.toNat x.s.data.toList := by simp [applyAll]
theorem applyAll_length {ws : List Wr} : ∀ {c : List UInt8}, (∀ x ∈ ws, x.off.toNat + x.s.size ≤ c.length) → (applyAll c ws).length = c.length := by
  induction ws with
  | nil => intro c _; rfl
  | cons x ws ih =>
    intro c h
    have h1 := h x (by simp)
    have h2 : (overlay c x.off.toNat x.s.data.toList).length = c.length := overlay_length (by rw [bytes_len]; exact h1)
    show (applyAll (overlay c x.off.toNat x.s.data.toList) ws).length = _
    rw [ih (fun y hy => by rw [h2]; exact h y (by simp [hy])), h2]
def orderS (keep : List Int) (n : Nat) : List Int := (Go.Lib.compact (keep.mergeSort fun x y => decide (x ≤ y))).filter fun i => !(decide (i < 0) || decide ((n : Int) ≤ i))
def tearAt (n : Nat) (torn : Int) (k : Nat) (x : Wr) : Wr := if k + 1 = n ∧ 0 ≤ torn then ⟨x.off, x.s.extract 0 (if (x.s.size : Int) < torn then (x.s.size : Int) else torn).toNat⟩ else x
def crashWs (z : DS) (order : List Int) (torn : Int) : List Wr := order.zipIdx.map fun p => tearAt order.length torn p.2 (z.pend.getD p.1.toNat ⟨0, ByteArray.empty⟩)
def crashS (z : DS) (keep : List Int) (torn : Int) : DS :=
  { off := false, left := 0, dur := applyAll z.dur (crashWs z (orderS keep z.pend.length) torn), vis := applyAll z.dur (crashWs z (orderS keep z.pend.length) torn), pend := [] }
theorem crashWs_at {z : DS} {order : List Int} {torn : Int} {k j : Nat} {x : Wr} (h : order[k]? = some (j : Int)) (hx : z.pend[j]? = some x) : (crashWs z order torn)[k]? = some (tearAt order.length torn k x) := by
  unfold crashWs
  rw [List.getElem?_map, List.getElem?_zipIdx, h]
  simp [List.getD, hx]
theorem crashWs_length (z : DS) (order : List Int) (torn : Int) : (crashWs z order torn).length = order.length := by simp [crashWs]
theorem extract_size (s : ByteArray) (m : Nat) : (s.extract 0 m).size ≤ s.size := by rw [ByteArray.size_extract]; omega
theorem tearAt_off (n : Nat) (torn : Int) (k : Nat) (x : Wr) : (tearAt n torn k x).off = x.off := by unfold tearAt; split <;> rfl
theorem tearAt_size (n : Nat) (torn : Int) (k : Nat) (x : Wr) : (tearAt n torn k x).s.size ≤ x.s.size := by
  unfold tearAt
  split
  · exact extract_size _ _
  · exact Nat.le_refl _
theorem crashWs_ok {z : DS} {order : List Int} {torn : Int} (hk : DOk z) (hm : ∀ x ∈ order, 0 ≤ x ∧ x < z.pend.length) : ∀ y ∈ crashWs z order torn, y.off.toNat + y.s.size ≤ z.dur.length := by
  intro y hy
  obtain ⟨k, hk1⟩ := List.mem_iff_getElem?.1 hy
  have hkl : k < order.length := by rw [← crashWs_length z order torn]; exact (List.getElem?_eq_some_iff.1 hk1).1
  obtain ⟨x, hx⟩ := getElem?_of_lt (xs := order) (i := k) hkl
  obtain ⟨h0, h1⟩ := hm x (List.mem_of_getElem? hx)
  obtain ⟨j, rfl⟩ : ∃ j : Nat, x = j := ⟨x.toNat, by omega⟩
  obtain ⟨pw, hpw⟩ := getElem?_of_lt (xs := z.pend) (i := j) (by omega)
  rw [crashWs_at hx hpw] at hk1
  cases hk1
  obtain ⟨_, h3⟩ := hk.wok pw (List.mem_of_getElem? hpw)
  have := tearAt_size order.length torn k pw
  rw [tearAt_off]; omega
theorem orderS_mem {keep : List Int} {n : Nat} : ∀ x ∈ orderS keep n, 0 ≤ x ∧ x < n := by
  intro x hx
  have := (List.mem_filter.1 hx).2
  simp at this
  omega
theorem orderS_length (keep : List Int) (n : Nat) : (orderS keep n).length ≤ keep.length := by
  unfold orderS
  have h1 := compact_le (keep.mergeSort fun x y => decide (x ≤ y))
  rw [List.length_mergeSort] at h1
  exact Nat.le_trans (List.length_filter_le _ _) h1
theorem dcells_len (D : Dk) (z : DS) (c : List UInt8) (h : c.length = z.dur.length) : dcells D { z with dur := c } = dcells D z := by simp [dcells, h]
def newS (n : Nat) : DS := ⟨false, 0, List.replicate n 0, List.replicate n 0, []⟩

end Go.Wx
namespace Go.Proofs.Ytkpkljbmbmjadaa
open Go.Wx Go.RowKit

theorem sepClose {S0 : Nat → Prop} {w0 w : World} {D : Dk} {s : DS} {rest : List Asr} (h : Sep S0 w0 w (parts D s ++ rest)) (hk : DOk s) : Sep S0 w0 w (aDisk D s :: rest) := by
  have hap := List.pairwise_append.1 h.apart
  refine ⟨h.fr, fun A hA => ?_, List.Pairwise.cons (fun B hB i hi => ?_) hap.2.1⟩
  · rcases List.mem_cons.1 hA with e | e
    · subst e
      refine ⟨⟨h.blk 0 rfl, h.blk 1 rfl, h.blk 2 rfl, h.own 3 rfl, ⟨?_, ?_, ?_, ?_, ?_, ?_⟩, hk⟩, ?_⟩
      · exact fun e => h.ne (i := 0) (j := 1) (by omega) rfl rfl _ rfl e
      · exact fun e => h.ne (i := 0) (j := 2) (by omega) rfl rfl _ rfl e
      · exact fun e => h.ne (i := 1) (j := 2) (by omega) rfl rfl _ rfl e
      · exact fun e => h.ne (i := 0) (j := 3) (by omega) rfl rfl _ rfl e
      · exact fun e => h.ne (i := 1) (j := 3) (by omega) rfl rfl _ rfl e
      · exact fun e => h.ne (i := 2) (j := 3) (by omega) rfl rfl _ rfl e
      · rintro i (e | e | e | e)
        · exact h.foot 0 rfl i e
        · exact h.foot 1 rfl i e
        · exact h.foot 2 rfl i e
        · exact h.foot 3 rfl i e
    · exact h.each A (List.mem_append_right _ e)
  · rcases hi with e | e | e | e
    · exact hap.2.2 (aBlk D.bd (dcells D s) 65) (by simp [parts]) B hB i e
    · exact hap.2.2 (aBlk D.du (byc s.dur) 5) (by simp [parts]) B hB i e
    · exact hap.2.2 (aBlk D.vi (byc s.vis) 5) (by simp [parts]) B hB i e
    · exact hap.2.2 (aOwn 69 2 Wr.cells D.pv s.pend) (by simp [parts]) B hB i e
theorem sepOpen {S0 : Nat → Prop} {w0 w : World} {D : Dk} {s : DS} {rest : List Asr} (h : Sep S0 w0 w (aDisk D s :: rest)) : Sep S0 w0 w (parts D s ++ rest) ∧ DOk s := by
  obtain ⟨hP, hk⟩ := diskOpen (h.get 0 rfl)
  have hfoot : ∀ A ∈ parts D s, ∀ i, A.foot i → (aDisk D s).foot i := by
    intro A hA i hi
    simp only [parts, List.mem_cons, List.mem_nil_iff, or_false] at hA
    rcases hA with rfl | rfl | rfl | rfl
    · exact .inl hi
    · exact .inr (.inl hi)
    · exact .inr (.inr (.inl hi))
    · exact .inr (.inr (.inr hi))
  have hap := List.pairwise_cons.1 h.apart
  refine ⟨⟨h.fr, fun A hA => ?_, List.pairwise_append.2 ⟨hP.apart, hap.2, fun A hA B hB i hi => hap.1 B hB i (hfoot A hA i hi)⟩⟩, hk⟩
  rcases List.mem_append.1 hA with h1 | h1
  · exact ⟨(hP.each A h1).1, fun i hi => h.foot 0 rfl i (hfoot A h1 i hi)⟩
  · exact h.each A (List.mem_cons_of_mem _ h1)


def newE (n : Int) : Int := if decide (n < 1) || decide (4194304 < n) then 2 else 0
theorem newDisk {w : World} {n : Nat} {a b c : Nat} (h1 : n ≤ 4194304) (ha : Blk w a #[.bool false, vi 0, .slice (some ⟨b, 0, none⟩) n n, .slice (some ⟨c, 0, none⟩) n n, .slice none 0 0] 65) (hb : Blk w b (byc (List.replicate n 0)) 5) (hc : Blk w c (byc (List.replicate n 0)) 5) (n1 : a ≠ b) (n2 : a ≠ c) (n3 : b ≠ c) : (aDisk ⟨a, b, c, .slice none 0 0⟩ (newS n)).holds w := by
  refine ⟨?_, hb, hc, OwnS.nil _ _ _ _ _, ⟨n1, n2, n3, by simp [Value.ownBlock], by simp [Value.ownBlock], by simp [Value.ownBlock]⟩, ⟨rfl, by simp [newS]; exact h1, Int.le_refl _, (show (0 : Int) ≤ _ by decide), by simp [newS], by simp [newS]⟩⟩
  have : dcells ⟨a, b, c, .slice none 0 0⟩ (newS n) = #[.bool false, vi 0, .slice (some ⟨b, 0, none⟩) n n, .slice (some ⟨c, 0, none⟩) n n, .slice none 0 0] := by simp [dcells, newS]
  rw [this]; exact ha

set_option maxHeartbeats 1000000 in
theorem New_any (n : Int) (w : World) : Ret Try.prog 13 #[vi n] w fun r w' => (newE n = 2 → r = .tuple #[.pointer none, vi 2]) ∧ (newE n = 0 → ∃ D, r = .tuple #[.pointer (some ⟨D.bd, 0, none⟩), vi 0] ∧ (aDisk D (newS n.toNat)).holds w' ∧ ∀ i, (aDisk D (newS n.toNat)).foot i → w.heap.size ≤ i) ∧ Up w w' := by
  have hS := Sep.start no w
  refine Calls_start (n := 16) (m := 9) Try.func13 rfl rfl rfl ?_
  refine CW.seq (CW.region (LW.p (PEv.assign (.const _)) rfl rfl rfl (LW.p (PEv.assign (.const _)) rfl rfl rfl (LW.nil (KW.then (CW.seq (CW.seq (CW.region (LW.p (PEv.move (.tmp rfl)) rfl rfl rfl ?_)))))))))
  refine LW.p (PEv.lss (.tmp rfl) (.const _)) rfl rfl rfl ?_
  refine LW.p (PEv.move (.tmp rfl)) rfl rfl rfl ?_
  refine LW.g rfl rfl rfl rfl rfl rfl rfl (fun hc => PEv.move (.tmp rfl)) ?_
  refine LW.g rfl rfl rfl rfl rfl rfl rfl (fun hc => PEv.gtr (by first | exact .tmp rfl | exact .cond rfl (by first | assumption | simp_all)) (.const _)) ?_
  refine LW.p (PEv.pick_or (.tmp rfl) (fun hp => (by first | exact .const _ | exact .tmp rfl | exact .cond rfl (by first | assumption | simp_all)))) rfl rfl rfl ?_
  refine LW.nil (KW.then ?_)
  refine CW.cond (.tmp rfl) (fun h9 => ?_) (fun h9 => ?_)
  ·first | replace h9 := of_decide_eq_true h9 | replace h9 := of_decide_eq_false h9 | skip
   have hr9 : newE n = 2 := by unfold newE; rw [h9]; rfl
   refine CW.seq (CW.region (LW.p (PEv.assign (.const _)) rfl rfl rfl (LW.p (PEv.assign (.const _)) rfl rfl rfl (LW.nil (KW.then (CW.ret (KW.then_ret ?_)))))))
   refine KW.ret2 rfl rfl rfl ⟨_, rfl, ?_⟩
   exact ⟨fun _ => rfl, fun h => absurd (hr9.symm.trans h) (by decide), hS.upd⟩
  ·first | replace h9 := of_decide_eq_true h9 | replace h9 := of_decide_eq_false h9 | skip
   have hr9 : newE n = 0 := by unfold newE; rw [h9]; rfl
   have h9b : 1 ≤ n ∧ n ≤ 4194304 := by simp at h9; omega
   obtain ⟨n, rfl⟩ : ∃ m : Nat, n = m := ⟨n.toNat, by omega⟩
   have hr0 : 1 ≤ n := by omega
   have hr1 : n ≤ 4194304 := by omega
   refine CW.skip (KW.then (CW.seq ?_))
   refine CW.explode (by kernel_rfl) rfl ?_
   obtain ⟨w1, hdr⟩ : ∃ W, W = w.drew := ⟨_, rfl⟩
   have uw1 : Up w w1 := by rw [hdr]; exact Up.drew _
   rw [← hdr]
   clear hdr
   have zw1 := uw1.size
   replace hS := hS.up uw1
   refine AW.step (rs := [0, 2]) (by kernel_rfl) (by decide) ?_
   intro i hi
   simp only [List.mem_cons, List.mem_nil_iff, or_false] at hi
   rcases hi with rfl | rfl
   ·skip
    refine ⟨_, rfl, rfl, ?_⟩
    refine OW.p (PEv.move (.tmp rfl)) rfl rfl ?_
    refine AW.step (rs := [1, 2]) (by kernel_rfl) (by decide) ?_
    intro i hi
    simp only [List.mem_cons, List.mem_nil_iff, or_false] at hi
    rcases hi with rfl | rfl
    ·skip
     refine ⟨_, rfl, rfl, ?_⟩
     refine OW.r (REv.makeBytes (i := Try.t5) Try.underlying40 (by kernel_rfl) rfl rfl rfl (.tmp rfl) (.tmp rfl) (by omega)) rfl rfl rfl ?_
     rintro _ w2 ⟨B11, rfl, NB11⟩
     have eB11 := NB11.at_
     have zB11 := NB11.size
     replace hS := hS.addB NB11
     change Wx.Sep _ _ _ [_] at hS
     refine AW.step (rs := [2]) (by kernel_rfl) (by decide) ?_
     intro i hi
     obtain rfl := List.mem_singleton.1 hi
     refine ⟨_, rfl, rfl, ?_⟩
     refine OW.p (PEv.move (.tmp rfl)) rfl rfl ?_
     refine AW.step (rs := [3]) (by kernel_rfl) (by decide) ?_
     intro i hi
     obtain rfl := List.mem_singleton.1 hi
     refine ⟨_, rfl, rfl, ?_⟩
     refine OW.r (REv.makeBytes (i := Try.t5) Try.underlying40 (by kernel_rfl) rfl rfl rfl (.tmp rfl) (.tmp rfl) (by omega)) rfl rfl rfl ?_
     rintro _ w3 ⟨B13, rfl, NB13⟩
     have eB13 := NB13.at_
     have zB13 := NB13.size
     replace hS := hS.addB NB13
     change Wx.Sep _ _ _ [_, _] at hS
     refine AW.step (rs := [4]) (by kernel_rfl) (by decide) ?_
     intro i hi
     obtain rfl := List.mem_singleton.1 hi
     refine ⟨_, rfl, rfl, ?_⟩
     refine OW.p (PEv.build (cs := #[.bool false, vi 0, .slice (some ⟨B11, 0, none⟩) n n, .slice (some ⟨B13, 0, none⟩) n n, .slice none 0 0]) Try.underlying65 Try.zeroValue65 Try.places65 (.cons (.tmp rfl) (.cons (.tmp rfl) .nil)) rfl) rfl rfl ?_
     refine AW.step (rs := [5]) (by kernel_rfl) (by decide) ?_
     intro i hi
     obtain rfl := List.mem_singleton.1 hi
     refine ⟨_, rfl, rfl, ?_⟩
     refine OW.r (REv.boxA (.tmp rfl)) rfl rfl rfl ?_
     rintro _ w4 ⟨B15, rfl, NB15⟩
     have eB15 := NB15.at_
     have zB15 := NB15.size
     replace hS := hS.addB NB15
     change Wx.Sep _ _ _ [_, _, _] at hS
     refine AW.step (rs := [6]) (by kernel_rfl) (by decide) ?_
     intro i hi
     obtain rfl := List.mem_singleton.1 hi
     refine ⟨_, rfl, rfl, ?_⟩
     refine OW.p (PEv.assign (.tmp rfl)) rfl rfl ?_
     refine AW.step (rs := [7]) (by kernel_rfl) (by decide) ?_
     intro i hi
     obtain rfl := List.mem_singleton.1 hi
     refine ⟨_, rfl, rfl, ?_⟩
     refine OW.p (PEv.assign (.const _)) rfl rfl ?_
     refine AW.done (by kernel_rfl) ?_
     refine KW.then (CW.ret ?_)
     refine KW.ret2 rfl rfl rfl ⟨_, rfl, ?_⟩
     refine ⟨fun h => absurd (hr9.symm.trans h) (by decide), fun _ => ⟨⟨B15, B11, B13, .slice none 0 0⟩, rfl, newDisk hr1 (hS.blk 2 rfl) (hS.blk 0 rfl) (hS.blk 1 rfl) (hS.blkNe 2 0 (by decide) rfl rfl) (hS.blkNe 2 1 (by decide) rfl rfl) (hS.blkNe 0 1 (by decide) rfl rfl), fun i hi => ?_⟩, hS.upd⟩
     rcases hi with rfl | rfl | rfl | hi
     ·exact (hS.foot 2 rfl _ rfl).elim (fun h => h.elim) id
     ·exact (hS.foot 0 rfl _ rfl).elim (fun h => h.elim) id
     ·exact (hS.foot 1 rfl _ rfl).elim (fun h => h.elim) id
     ·cases hi
    ·skip
     refine ⟨_, rfl, rfl, ?_⟩
     refine OW.p (PEv.move (.tmp rfl)) rfl rfl ?_
     refine AW.step (rs := [1, 3]) (by kernel_rfl) (by decide) ?_
     intro i hi
     simp only [List.mem_cons, List.mem_nil_iff, or_false] at hi
     rcases hi with rfl | rfl
     ·skip
      refine ⟨_, rfl, rfl, ?_⟩
      refine OW.r (REv.makeBytes (i := Try.t5) Try.underlying40 (by kernel_rfl) rfl rfl rfl (.tmp rfl) (.tmp rfl) (by omega)) rfl rfl rfl ?_
      rintro _ w5 ⟨B11, rfl, NB11⟩
      have eB11 := NB11.at_
      have zB11 := NB11.size
      replace hS := hS.addB NB11
      change Wx.Sep _ _ _ [_] at hS
      refine AW.step (rs := [3]) (by kernel_rfl) (by decide) ?_
      intro i hi
      obtain rfl := List.mem_singleton.1 hi
      refine ⟨_, rfl, rfl, ?_⟩
      refine OW.r (REv.makeBytes (i := Try.t5) Try.underlying40 (by kernel_rfl) rfl rfl rfl (.tmp rfl) (.tmp rfl) (by omega)) rfl rfl rfl ?_
      rintro _ w6 ⟨B13, rfl, NB13⟩
      have eB13 := NB13.at_
      have zB13 := NB13.size
      replace hS := hS.addB NB13
      change Wx.Sep _ _ _ [_, _] at hS
      refine AW.step (rs := [4]) (by kernel_rfl) (by decide) ?_
      intro i hi
      obtain rfl := List.mem_singleton.1 hi
      refine ⟨_, rfl, rfl, ?_⟩
      refine OW.p (PEv.build (cs := #[.bool false, vi 0, .slice (some ⟨B11, 0, none⟩) n n, .slice (some ⟨B13, 0, none⟩) n n, .slice none 0 0]) Try.underlying65 Try.zeroValue65 Try.places65 (.cons (.tmp rfl) (.cons (.tmp rfl) .nil)) rfl) rfl rfl ?_
      refine AW.step (rs := [5]) (by kernel_rfl) (by decide) ?_
      intro i hi
      obtain rfl := List.mem_singleton.1 hi
      refine ⟨_, rfl, rfl, ?_⟩
      refine OW.r (REv.boxA (.tmp rfl)) rfl rfl rfl ?_
      rintro _ w7 ⟨B15, rfl, NB15⟩
      have eB15 := NB15.at_
      have zB15 := NB15.size
      replace hS := hS.addB NB15
      change Wx.Sep _ _ _ [_, _, _] at hS
      refine AW.step (rs := [6]) (by kernel_rfl) (by decide) ?_
      intro i hi
      obtain rfl := List.mem_singleton.1 hi
      refine ⟨_, rfl, rfl, ?_⟩
      refine OW.p (PEv.assign (.tmp rfl)) rfl rfl ?_
      refine AW.step (rs := [7]) (by kernel_rfl) (by decide) ?_
      intro i hi
      obtain rfl := List.mem_singleton.1 hi
      refine ⟨_, rfl, rfl, ?_⟩
      refine OW.p (PEv.assign (.const _)) rfl rfl ?_
      refine AW.done (by kernel_rfl) ?_
      refine KW.then (CW.ret ?_)
      refine KW.ret2 rfl rfl rfl ⟨_, rfl, ?_⟩
      refine ⟨fun h => absurd (hr9.symm.trans h) (by decide), fun _ => ⟨⟨B15, B11, B13, .slice none 0 0⟩, rfl, newDisk hr1 (hS.blk 2 rfl) (hS.blk 0 rfl) (hS.blk 1 rfl) (hS.blkNe 2 0 (by decide) rfl rfl) (hS.blkNe 2 1 (by decide) rfl rfl) (hS.blkNe 0 1 (by decide) rfl rfl), fun i hi => ?_⟩, hS.upd⟩
      rcases hi with rfl | rfl | rfl | hi
      ·exact (hS.foot 2 rfl _ rfl).elim (fun h => h.elim) id
      ·exact (hS.foot 0 rfl _ rfl).elim (fun h => h.elim) id
      ·exact (hS.foot 1 rfl _ rfl).elim (fun h => h.elim) id
      ·cases hi
     ·skip
      refine ⟨_, rfl, rfl, ?_⟩
      refine OW.r (REv.makeBytes (i := Try.t5) Try.underlying40 (by kernel_rfl) rfl rfl rfl (.tmp rfl) (.tmp rfl) (by omega)) rfl rfl rfl ?_
      rintro _ w8 ⟨B13, rfl, NB13⟩
      have eB13 := NB13.at_
      have zB13 := NB13.size
      replace hS := hS.addB NB13
      change Wx.Sep _ _ _ [_] at hS
      refine AW.step (rs := [1]) (by kernel_rfl) (by decide) ?_
      intro i hi
      obtain rfl := List.mem_singleton.1 hi
      refine ⟨_, rfl, rfl, ?_⟩
      refine OW.r (REv.makeBytes (i := Try.t5) Try.underlying40 (by kernel_rfl) rfl rfl rfl (.tmp rfl) (.tmp rfl) (by omega)) rfl rfl rfl ?_
      rintro _ w9 ⟨B11, rfl, NB11⟩
      have eB11 := NB11.at_
      have zB11 := NB11.size
      replace hS := hS.addB NB11
      change Wx.Sep _ _ _ [_, _] at hS
      refine AW.step (rs := [4]) (by kernel_rfl) (by decide) ?_
      intro i hi
      obtain rfl := List.mem_singleton.1 hi
      refine ⟨_, rfl, rfl, ?_⟩
      refine OW.p (PEv.build (cs := #[.bool false, vi 0, .slice (some ⟨B11, 0, none⟩) n n, .slice (some ⟨B13, 0, none⟩) n n, .slice none 0 0]) Try.underlying65 Try.zeroValue65 Try.places65 (.cons (.tmp rfl) (.cons (.tmp rfl) .nil)) rfl) rfl rfl ?_
      refine AW.step (rs := [5]) (by kernel_rfl) (by decide) ?_
      intro i hi
      obtain rfl := List.mem_singleton.1 hi
      refine ⟨_, rfl, rfl, ?_⟩
      refine OW.r (REv.boxA (.tmp rfl)) rfl rfl rfl ?_
      rintro _ w10 ⟨B15, rfl, NB15⟩
      have eB15 := NB15.at_
      have zB15 := NB15.size
      replace hS := hS.addB NB15
      change Wx.Sep _ _ _ [_, _, _] at hS
      refine AW.step (rs := [6]) (by kernel_rfl) (by decide) ?_
      intro i hi
      obtain rfl := List.mem_singleton.1 hi
      refine ⟨_, rfl, rfl, ?_⟩
      refine OW.p (PEv.assign (.tmp rfl)) rfl rfl ?_
      refine AW.step (rs := [7]) (by kernel_rfl) (by decide) ?_
      intro i hi
      obtain rfl := List.mem_singleton.1 hi
      refine ⟨_, rfl, rfl, ?_⟩
      refine OW.p (PEv.assign (.const _)) rfl rfl ?_
      refine AW.done (by kernel_rfl) ?_
      refine KW.then (CW.ret ?_)
      refine KW.ret2 rfl rfl rfl ⟨_, rfl, ?_⟩
      refine ⟨fun h => absurd (hr9.symm.trans h) (by decide), fun _ => ⟨⟨B15, B11, B13, .slice none 0 0⟩, rfl, newDisk hr1 (hS.blk 2 rfl) (hS.blk 1 rfl) (hS.blk 0 rfl) (hS.blkNe 2 1 (by decide) rfl rfl) (hS.blkNe 2 0 (by decide) rfl rfl) (hS.blkNe 1 0 (by decide) rfl rfl), fun i hi => ?_⟩, hS.upd⟩
      rcases hi with rfl | rfl | rfl | hi
      ·exact (hS.foot 2 rfl _ rfl).elim (fun h => h.elim) id
      ·exact (hS.foot 1 rfl _ rfl).elim (fun h => h.elim) id
      ·exact (hS.foot 0 rfl _ rfl).elim (fun h => h.elim) id
      ·cases hi
   ·skip
    refine ⟨_, rfl, rfl, ?_⟩
    refine OW.p (PEv.move (.tmp rfl)) rfl rfl ?_
    refine AW.step (rs := [0, 3]) (by kernel_rfl) (by decide) ?_
    intro i hi
    simp only [List.mem_cons, List.mem_nil_iff, or_false] at hi
    rcases hi with rfl | rfl
    ·skip
     refine ⟨_, rfl, rfl, ?_⟩
     refine OW.p (PEv.move (.tmp rfl)) rfl rfl ?_
     refine AW.step (rs := [1, 3]) (by kernel_rfl) (by decide) ?_
     intro i hi
     simp only [List.mem_cons, List.mem_nil_iff, or_false] at hi
     rcases hi with rfl | rfl
     ·skip
      refine ⟨_, rfl, rfl, ?_⟩
      refine OW.r (REv.makeBytes (i := Try.t5) Try.underlying40 (by kernel_rfl) rfl rfl rfl (.tmp rfl) (.tmp rfl) (by omega)) rfl rfl rfl ?_
      rintro _ w11 ⟨B11, rfl, NB11⟩
      have eB11 := NB11.at_
      have zB11 := NB11.size
      replace hS := hS.addB NB11
      change Wx.Sep _ _ _ [_] at hS
      refine AW.step (rs := [3]) (by kernel_rfl) (by decide) ?_
      intro i hi
      obtain rfl := List.mem_singleton.1 hi
      refine ⟨_, rfl, rfl, ?_⟩
      refine OW.r (REv.makeBytes (i := Try.t5) Try.underlying40 (by kernel_rfl) rfl rfl rfl (.tmp rfl) (.tmp rfl) (by omega)) rfl rfl rfl ?_
      rintro _ w12 ⟨B13, rfl, NB13⟩
      have eB13 := NB13.at_
      have zB13 := NB13.size
      replace hS := hS.addB NB13
      change Wx.Sep _ _ _ [_, _] at hS
      refine AW.step (rs := [4]) (by kernel_rfl) (by decide) ?_
      intro i hi
      obtain rfl := List.mem_singleton.1 hi
      refine ⟨_, rfl, rfl, ?_⟩
      refine OW.p (PEv.build (cs := #[.bool false, vi 0, .slice (some ⟨B11, 0, none⟩) n n, .slice (some ⟨B13, 0, none⟩) n n, .slice none 0 0]) Try.underlying65 Try.zeroValue65 Try.places65 (.cons (.tmp rfl) (.cons (.tmp rfl) .nil)) rfl) rfl rfl ?_
      refine AW.step (rs := [5]) (by kernel_rfl) (by decide) ?_
      intro i hi
      obtain rfl := List.mem_singleton.1 hi
      refine ⟨_, rfl, rfl, ?_⟩
      refine OW.r (REv.boxA (.tmp rfl)) rfl rfl rfl ?_
      rintro _ w13 ⟨B15, rfl, NB15⟩
      have eB15 := NB15.at_
      have zB15 := NB15.size
      replace hS := hS.addB NB15
      change Wx.Sep _ _ _ [_, _, _] at hS
      refine AW.step (rs := [6]) (by kernel_rfl) (by decide) ?_
      intro i hi
      obtain rfl := List.mem_singleton.1 hi
      refine ⟨_, rfl, rfl, ?_⟩
      refine OW.p (PEv.assign (.tmp rfl)) rfl rfl ?_
      refine AW.step (rs := [7]) (by kernel_rfl) (by decide) ?_
      intro i hi
      obtain rfl := List.mem_singleton.1 hi
      refine ⟨_, rfl, rfl, ?_⟩
      refine OW.p (PEv.assign (.const _)) rfl rfl ?_
      refine AW.done (by kernel_rfl) ?_
      refine KW.then (CW.ret ?_)
      refine KW.ret2 rfl rfl rfl ⟨_, rfl, ?_⟩
      refine ⟨fun h => absurd (hr9.symm.trans h) (by decide), fun _ => ⟨⟨B15, B11, B13, .slice none 0 0⟩, rfl, newDisk hr1 (hS.blk 2 rfl) (hS.blk 0 rfl) (hS.blk 1 rfl) (hS.blkNe 2 0 (by decide) rfl rfl) (hS.blkNe 2 1 (by decide) rfl rfl) (hS.blkNe 0 1 (by decide) rfl rfl), fun i hi => ?_⟩, hS.upd⟩
      rcases hi with rfl | rfl | rfl | hi
      ·exact (hS.foot 2 rfl _ rfl).elim (fun h => h.elim) id
      ·exact (hS.foot 0 rfl _ rfl).elim (fun h => h.elim) id
      ·exact (hS.foot 1 rfl _ rfl).elim (fun h => h.elim) id
      ·cases hi
     ·skip
      refine ⟨_, rfl, rfl, ?_⟩
      refine OW.r (REv.makeBytes (i := Try.t5) Try.underlying40 (by kernel_rfl) rfl rfl rfl (.tmp rfl) (.tmp rfl) (by omega)) rfl rfl rfl ?_
      rintro _ w14 ⟨B13, rfl, NB13⟩
      have eB13 := NB13.at_
      have zB13 := NB13.size
      replace hS := hS.addB NB13
      change Wx.Sep _ _ _ [_] at hS
      refine AW.step (rs := [1]) (by kernel_rfl) (by decide) ?_
      intro i hi
      obtain rfl := List.mem_singleton.1 hi
      refine ⟨_, rfl, rfl, ?_⟩
      refine OW.r (REv.makeBytes (i := Try.t5) Try.underlying40 (by kernel_rfl) rfl rfl rfl (.tmp rfl) (.tmp rfl) (by omega)) rfl rfl rfl ?_
      rintro _ w15 ⟨B11, rfl, NB11⟩
      have eB11 := NB11.at_
      have zB11 := NB11.size
      replace hS := hS.addB NB11
      change Wx.Sep _ _ _ [_, _] at hS
      refine AW.step (rs := [4]) (by kernel_rfl) (by decide) ?_
      intro i hi
      obtain rfl := List.mem_singleton.1 hi
      refine ⟨_, rfl, rfl, ?_⟩
      refine OW.p (PEv.build (cs := #[.bool false, vi 0, .slice (some ⟨B11, 0, none⟩) n n, .slice (some ⟨B13, 0, none⟩) n n, .slice none 0 0]) Try.underlying65 Try.zeroValue65 Try.places65 (.cons (.tmp rfl) (.cons (.tmp rfl) .nil)) rfl) rfl rfl ?_
      refine AW.step (rs := [5]) (by kernel_rfl) (by decide) ?_
      intro i hi
      obtain rfl := List.mem_singleton.1 hi
      refine ⟨_, rfl, rfl, ?_⟩
      refine OW.r (REv.boxA (.tmp rfl)) rfl rfl rfl ?_
      rintro _ w16 ⟨B15, rfl, NB15⟩
      have eB15 := NB15.at_
      have zB15 := NB15.size
      replace hS := hS.addB NB15
      change Wx.Sep _ _ _ [_, _, _] at hS
      refine AW.step (rs := [6]) (by kernel_rfl) (by decide) ?_
      intro i hi
      obtain rfl := List.mem_singleton.1 hi
      refine ⟨_, rfl, rfl, ?_⟩
      refine OW.p (PEv.assign (.tmp rfl)) rfl rfl ?_
      refine AW.step (rs := [7]) (by kernel_rfl) (by decide) ?_
      intro i hi
      obtain rfl := List.mem_singleton.1 hi
      refine ⟨_, rfl, rfl, ?_⟩
      refine OW.p (PEv.assign (.const _)) rfl rfl ?_
      refine AW.done (by kernel_rfl) ?_
      refine KW.then (CW.ret ?_)
      refine KW.ret2 rfl rfl rfl ⟨_, rfl, ?_⟩
      refine ⟨fun h => absurd (hr9.symm.trans h) (by decide), fun _ => ⟨⟨B15, B11, B13, .slice none 0 0⟩, rfl, newDisk hr1 (hS.blk 2 rfl) (hS.blk 1 rfl) (hS.blk 0 rfl) (hS.blkNe 2 1 (by decide) rfl rfl) (hS.blkNe 2 0 (by decide) rfl rfl) (hS.blkNe 1 0 (by decide) rfl rfl), fun i hi => ?_⟩, hS.upd⟩
      rcases hi with rfl | rfl | rfl | hi
      ·exact (hS.foot 2 rfl _ rfl).elim (fun h => h.elim) id
      ·exact (hS.foot 1 rfl _ rfl).elim (fun h => h.elim) id
      ·exact (hS.foot 0 rfl _ rfl).elim (fun h => h.elim) id
      ·cases hi
    ·skip
     refine ⟨_, rfl, rfl, ?_⟩
     refine OW.r (REv.makeBytes (i := Try.t5) Try.underlying40 (by kernel_rfl) rfl rfl rfl (.tmp rfl) (.tmp rfl) (by omega)) rfl rfl rfl ?_
     rintro _ w17 ⟨B13, rfl, NB13⟩
     have eB13 := NB13.at_
     have zB13 := NB13.size
     replace hS := hS.addB NB13
     change Wx.Sep _ _ _ [_] at hS
     refine AW.step (rs := [0]) (by kernel_rfl) (by decide) ?_
     intro i hi
     obtain rfl := List.mem_singleton.1 hi
     refine ⟨_, rfl, rfl, ?_⟩
     refine OW.p (PEv.move (.tmp rfl)) rfl rfl ?_
     refine AW.step (rs := [1]) (by kernel_rfl) (by decide) ?_
     intro i hi
     obtain rfl := List.mem_singleton.1 hi
     refine ⟨_, rfl, rfl, ?_⟩
     refine OW.r (REv.makeBytes (i := Try.t5) Try.underlying40 (by kernel_rfl) rfl rfl rfl (.tmp rfl) (.tmp rfl) (by omega)) rfl rfl rfl ?_
     rintro _ w18 ⟨B11, rfl, NB11⟩
     have eB11 := NB11.at_
     have zB11 := NB11.size
     replace hS := hS.addB NB11
     change Wx.Sep _ _ _ [_, _] at hS
     refine AW.step (rs := [4]) (by kernel_rfl) (by decide) ?_
     intro i hi
     obtain rfl := List.mem_singleton.1 hi
     refine ⟨_, rfl, rfl, ?_⟩
     refine OW.p (PEv.build (cs := #[.bool false, vi 0, .slice (some ⟨B11, 0, none⟩) n n, .slice (some ⟨B13, 0, none⟩) n n, .slice none 0 0]) Try.underlying65 Try.zeroValue65 Try.places65 (.cons (.tmp rfl) (.cons (.tmp rfl) .nil)) rfl) rfl rfl ?_
     refine AW.step (rs := [5]) (by kernel_rfl) (by decide) ?_
     intro i hi
     obtain rfl := List.mem_singleton.1 hi
     refine ⟨_, rfl, rfl, ?_⟩
     refine OW.r (REv.boxA (.tmp rfl)) rfl rfl rfl ?_
     rintro _ w19 ⟨B15, rfl, NB15⟩
     have eB15 := NB15.at_
     have zB15 := NB15.size
     replace hS := hS.addB NB15
     change Wx.Sep _ _ _ [_, _, _] at hS
     refine AW.step (rs := [6]) (by kernel_rfl) (by decide) ?_
     intro i hi
     obtain rfl := List.mem_singleton.1 hi
     refine ⟨_, rfl, rfl, ?_⟩
     refine OW.p (PEv.assign (.tmp rfl)) rfl rfl ?_
     refine AW.step (rs := [7]) (by kernel_rfl) (by decide) ?_
     intro i hi
     obtain rfl := List.mem_singleton.1 hi
     refine ⟨_, rfl, rfl, ?_⟩
     refine OW.p (PEv.assign (.const _)) rfl rfl ?_
     refine AW.done (by kernel_rfl) ?_
     refine KW.then (CW.ret ?_)
     refine KW.ret2 rfl rfl rfl ⟨_, rfl, ?_⟩
     refine ⟨fun h => absurd (hr9.symm.trans h) (by decide), fun _ => ⟨⟨B15, B11, B13, .slice none 0 0⟩, rfl, newDisk hr1 (hS.blk 2 rfl) (hS.blk 1 rfl) (hS.blk 0 rfl) (hS.blkNe 2 1 (by decide) rfl rfl) (hS.blkNe 2 0 (by decide) rfl rfl) (hS.blkNe 1 0 (by decide) rfl rfl), fun i hi => ?_⟩, hS.upd⟩
     rcases hi with rfl | rfl | rfl | hi
     ·exact (hS.foot 2 rfl _ rfl).elim (fun h => h.elim) id
     ·exact (hS.foot 1 rfl _ rfl).elim (fun h => h.elim) id
     ·exact (hS.foot 0 rfl _ rfl).elim (fun h => h.elim) id
     ·cases hi


theorem durOk {z : DS} {c : List UInt8} (h : DOk z) (hc : c.length = z.dur.length) : DOk { z with dur := c } := ⟨h.len.trans hc.symm, hc ▸ h.max, h.left0, h.left1, h.pmax, fun x hx => by have := h.wok x hx; rw [← hc] at this; exact this⟩
theorem crashOk {z : DS} {c : List UInt8} (h : DOk z) (hc : c.length = z.dur.length) : DOk { z with dur := c, vis := c, pend := [], off := false, left := 0 } := ⟨rfl, hc ▸ h.max, Int.le_refl _, (show (0 : Int) ≤ _ by decide), by simp, by simp⟩

set_option maxHeartbeats 4000000 in
theorem Crash_any (D : Dk) (z : DS) (adk : Option Addr) (cpk : Nat) (keep : List Int) (torn : Int) (w : World) (hD : (aDisk D z).holds w) (hE : Els w adk 1 eInt keep) (hkl : keep.length ≤ 1000000000) : Ret Try.prog 25 #[.pointer (some ⟨D.bd, 0, none⟩), .slice adk keep.length cpk, vi torn] w fun r w' => r = vi 0 ∧ ∃ pv, Stp (aDisk D z) (aDisk { D with pv := pv } (crashS z keep torn)) w w' := by
  obtain ⟨w0, rfl⟩ : ∃ w0, w0 = w := ⟨_, rfl⟩
  obtain ⟨bd, du, vi0, pv⟩ := D
  obtain ⟨hS, hk⟩ := diskOpen hD
  obtain ⟨adp, cpp, hpv, _⟩ := (hS.own 3 rfl).sl (fun _ => rfl)
  dsimp only at hpv
  subst hpv
  have hlen := hk.len
  have hmax := hk.max
  have hpm := hk.pmax
  refine Calls_start (n := 73) (m := 9) Try.func25 rfl rfl rfl ?_
  refine CW.seq (CW.region ?_)
  refine LW.r (REv.box1 (.tmp rfl) rfl) rfl rfl rfl rfl ?_
  rintro _ w1 ⟨B3, rfl, NB3⟩
  have eB3 := NB3.at_
  have zB3 := NB3.size
  replace hE := hE.up NB3.up
  replace hS := hS.addB NB3
  change Wx.Sep _ _ _ [_, _, _, _, _] at hS
  refine LW.p (PEv.assign (.const _)) rfl rfl rfl (LW.nil (KW.then (CW.seq (CW.seq (CW.region ?_)))))
  refine LW.p (PEv.load Try.isAgg23 (.tmp rfl) ((hS.blk 4 rfl).celln rfl)) rfl rfl rfl ?_
  refine LW.p (PEv.eqlNil Try.underlying23 (.tmp rfl)) rfl rfl rfl ?_
  refine LW.nil (KW.then ?_)
  refine CW.cond_false (.tmp rfl) ?_
  refine CW.skip (KW.then (CW.seq (CW.region (LW.p (PEv.move (.tmp rfl)) rfl rfl rfl ?_))))
  refine LW.c (enter_call0 (.cons (.tmp rfl) .nil) (Try.en40)) rfl rfl rfl rfl (values_any _ rfl _) ?_
  rintro _ w2 ⟨⟨BV, rfl, hBV, zBV⟩, uw2⟩
  have zw2 := uw2.size
  replace hS := hS.up uw2
  replace hE := hE.up uw2
  refine LW.c (enter_call0 (.cons (.tmp rfl) .nil) (Try.en39)) rfl rfl rfl rfl (sorted_any _ _ (fun ys => ys = keep) (fun pre => pre <+: keep) keep.length _ Try.en47 (fun W X u hX => values_iter X _ BV adk cpk keep _ W u hX (fun _ h => h.elim) (fun h => by have := hX _ h; have := hBV.lt; omega) (hBV.up u) hE (by omega)) hkl (fun ks h => by have h2 : ks = keep := h; rw [h2]; exact hkl)) ?_
  rintro v15 w3 ⟨ks, hks, hO15, uw3⟩
  have zw3 := uw3.size
  replace hE := hE.up uw3
  replace hBV := hBV.up uw3
  replace hS := hS.add uw3 (A' := aOwn 3 1 eInt v15 (keep.mergeSort fun x y => decide (x ≤ y))) (by have h2 : ks = keep := hks; rw [← h2]; exact hO15.mono (Nat.zero_le _)) (hO15.base)
  change Wx.Sep _ _ _ [_, _, _, _, _, _] at hS
  refine LW.c (enter_call0 (.cons (.tmp rfl) .nil) (Try.en38)) rfl rfl rfl rfl (compact_any _ _ _ (hS.own 5 rfl) (by rw [List.length_mergeSort]; omega)) ?_
  rintro v16 w4 uw4
  have zw4 := uw4.fr.size
  replace hS := hS.stp 5 rfl uw4
  change Wx.Sep _ _ _ [_, _, _, _, _, _] at hS
  refine LW.p (PEv.assign (.tmp rfl)) rfl rfl rfl (LW.nil (KW.then (CW.seq (CW.region (LW.p (PEv.move (.tmp rfl)) rfl rfl rfl ?_)))))
  refine LW.p (PEv.makeFunc (.cons (.tmp rfl) .nil)) rfl rfl rfl ?_
  refine LW.c (enter_call0 (.cons (.tmp rfl) (.cons (.tmp rfl) .nil)) (Try.en41)) rfl rfl rfl rfl (deleteFunc_any _ _ B3 bd _ _ _ _ _ adp z.pend.length cpp _ (hS.blk 4 rfl) (hS.blk 0 rfl) (hS.own 5 rfl) (by have := compact_le (keep.mergeSort fun x y => decide (x ≤ y)); rw [List.length_mergeSort] at this; omega) (fun i hi => ⟨fun e => hS.ne (i := 4) (j := 5) (by omega) rfl rfl i e hi, fun e => hS.ne (i := 0) (j := 5) (by omega) rfl rfl i e hi⟩)) ?_
  rintro v19 w5 uw5
  have zw5 := uw5.fr.size
  replace hS := hS.stp 5 rfl uw5
  change Wx.Sep _ _ _ [_, _, _, _, _, _] at hS
  change Sep _ _ _ [_, _, _, _, _, aOwn 3 1 eInt v19 (orderS keep z.pend.length)] at hS
  obtain ⟨order, hor⟩ : ∃ o, o = orderS keep z.pend.length := ⟨_, rfl⟩
  rw [← hor] at hS
  obtain ⟨ado, cpo, rfl, _⟩ := (hS.own 5 rfl).sl (fun _ => rfl)
  have hmem : ∀ x ∈ order, 0 ≤ x ∧ x < z.pend.length := by rw [hor]; exact orderS_mem
  have hol : order.length ≤ 1000000000 := by rw [hor]; exact Nat.le_trans (orderS_length _ _) hkl
  refine LW.p (PEv.assign (.tmp rfl)) rfl rfl rfl (LW.nil (KW.then (CW.seq (CW.seq (CW.region (LW.p (PEv.move (.tmp rfl)) rfl rfl rfl ?_))))))
  refine LW.p (PEv.lenS Try.underlying37 (.tmp rfl)) rfl rfl rfl ?_
  refine LW.p (PEv.move (.const _)) rfl rfl rfl ?_
  refine LW.nil (KW.then (CW.block ?_))
  refine CW.loopB (σ := Nat) (fun s w => (s ≤ order.length) ∧ (Sep (aDisk ⟨bd, du, vi0, .slice adp z.pend.length cpp⟩ z).foot w0 w [aBlk bd (dcells ⟨bd, du, vi0, .slice adp z.pend.length cpp⟩ z) 65, aBlk du (byc (applyAll z.dur ((crashWs z order torn).take s))) 5, aBlk vi0 (byc z.vis) 5, aOwn 69 2 Wr.cells (.slice adp z.pend.length cpp) z.pend, aBlk B3 #[.pointer (some ⟨bd, 0, none⟩)] 23, aOwn 3 1 eInt (.slice ado order.length cpo) order])) (fun s => [(22, .eq (vi (s : Int)))]) ([(2, .eq _), (3, .eq _), (6, .eq _), (7, .eq _), (20, .eq _), (21, .eq _)]) (fun s => order.length - s) 0 ?_ ⟨rfl, rfl, rfl, rfl, rfl, rfl, rfl, trivial⟩ ?_
  ·exact ⟨Nat.zero_le _, hS⟩
  ·rintro k w6 ⟨hkk, hS⟩
   refine CW.seq (CW.region ?_)
   refine LW.p (PEv.lss (.tmp rfl) (.tmp rfl)) rfl rfl rfl ?_
   refine LW.nil (KW.then (CW.seq ?_))
   refine CW.cond (.tmp rfl) (fun h23 => ?_) (fun h23 => ?_)
   ·first | replace h23 := of_decide_eq_true h23 | replace h23 := of_decide_eq_false h23 | skip
    refine CW.skip (KW.then (CW.seq (CW.block (CW.seq ?_))))
    obtain ⟨ad', cp', e', hEo⟩ := (hS.own 5 rfl).sl (fun _ => rfl)
    cases e'
    refine CW.region (LW.p (PEv.move (.tmp rfl)) rfl rfl rfl ?_)
    obtain ⟨x, hx⟩ := getElem?_of_lt (xs := order) (i := k) (by omega)
    obtain ⟨Bx, ox, ax, hcx⟩ := hEo _ x hx
    refine LW.p (PEv.indexAddr' Try.underlying37 Try.sizeOf3 (.tmp rfl) (.tmp rfl) (by omega) ax) rfl rfl rfl ?_
    refine LW.p (PEv.load Try.isAgg3 (.tmp rfl) (hcx.nth (j := 0) rfl)) rfl rfl rfl ?_
    refine LW.p (PEv.assign (.tmp rfl)) rfl rfl rfl (LW.p (PEv.assign (.tmp rfl)) rfl rfl rfl (LW.nil (KW.then (CW.seq ?_))))
    obtain ⟨hx0, hx1⟩ := hmem x (List.mem_of_getElem? hx)
    obtain ⟨j, rfl⟩ : ∃ j : Nat, x = j := ⟨x.toNat, by omega⟩
    obtain ⟨⟨po, ps⟩, hpw⟩ := getElem?_of_lt (xs := z.pend) (i := j) (by omega)
    obtain ⟨hp0, hp1⟩ := hk.wok _ (List.mem_of_getElem? hpw)
    dsimp only at hp0 hp1
    obtain ⟨jo, rfl⟩ : ∃ jo : Nat, po = jo := ⟨po.toNat, by omega⟩
    obtain ⟨ad2, cp2, e2, hEp⟩ := (hS.own 3 rfl).sl (fun _ => rfl)
    cases e2
    obtain ⟨Bp, op, hadp, hcp⟩ := hEp j _ hpw
    have hcl : (applyAll z.dur ((crashWs z order torn).take k)).length = z.dur.length := applyAll_length (fun y hy => crashWs_ok hk hmem y (List.mem_of_mem_take hy))
    have hwk := crashWs_at (torn := torn) hx hpw
    refine CW.region ?_
    refine LW.p (PEv.load Try.isAgg23 (.tmp rfl) ((hS.blk 4 rfl).celln rfl)) rfl rfl rfl ?_
    refine LW.p (PEv.nilCheck (.tmp rfl)) rfl rfl rfl ?_
    refine LW.p (PEv.fieldAddr (off := 4) Try.underlying65 rfl rfl Try.sizeOf63 rfl (.tmp rfl)) rfl rfl rfl ?_
    refine LW.p (PEv.load Try.isAgg63 (.tmp rfl) ((hS.blk 0 rfl).celln rfl)) rfl rfl rfl ?_
    refine LW.p (PEv.move (.tmp rfl)) rfl rfl rfl ?_
    refine LW.p (PEv.indexAddr' Try.underlying63 Try.sizeOf69 (.tmp rfl) (.tmp rfl) (by omega) hadp) rfl rfl rfl ?_
    refine LW.p (PEv.loadA Try.isAgg69 Try.sizeOf69 rfl (.tmp rfl) (hcp)) rfl rfl rfl ?_
    refine LW.r (REv.allocA Try.zeroValue69) rfl rfl rfl rfl ?_
    rintro _ w7 ⟨B10, rfl, MB10⟩
    refine LW.s (SEv.storeA Try.sizeOf69 rfl (.tmp rfl) (.tmp rfl) (Wr.one _) MB10.blk rfl) rfl rfl rfl ?_
    intro w8 LB10
    have NB10 := MB10.set LB10
    clear LB10 MB10
    have eB10 := NB10.at_
    have zB10 := NB10.size
    replace hS := hS.addB NB10
    change Wx.Sep _ _ _ [_, _, _, _, _, _, _] at hS
    refine LW.nil (KW.then (CW.seq (CW.seq (CW.region (LW.p (PEv.move (.tmp rfl)) rfl rfl rfl (LW.p (PEv.move (.tmp rfl)) rfl rfl rfl ?_))))))
    refine LW.p (PEv.lenS Try.underlying37 (.tmp rfl)) rfl rfl rfl ?_
    refine LW.p (PEv.sub (.tmp rfl) (.const _) (by omega) (by omega)) rfl rfl rfl ?_
    refine LW.p (PEv.eql (.tmp rfl) (.tmp rfl)) rfl rfl rfl ?_
    refine LW.p (PEv.move (.tmp rfl)) rfl rfl rfl ?_
    refine LW.g rfl rfl rfl rfl rfl rfl rfl (fun hc => PEv.move (.tmp rfl)) ?_
    refine LW.g rfl rfl rfl rfl rfl rfl rfl (fun hc => PEv.geq (by first | exact .tmp rfl | exact .cond rfl (by first | assumption | simp_all)) (.const _)) ?_
    refine LW.p (PEv.pick_and (.tmp rfl) (fun hp => (by first | exact .const _ | exact .tmp rfl | exact .cond rfl (by first | assumption | simp_all)))) rfl rfl rfl ?_
    refine LW.nil (KW.then ?_)
    refine CW.cond (.tmp rfl) (fun h42 => ?_) (fun h42 => ?_)
    ·first | replace h42 := of_decide_eq_true h42 | replace h42 := of_decide_eq_false h42 | skip
     have h42b : (k : Int) = (order.length : Int) - 1 ∧ 0 ≤ torn := by simpa using h42
     have ht0 := h42b.2
     rw [show tearAt order.length torn k ⟨(jo : Int), ps⟩ = ⟨(jo : Int), ps.extract 0 (if (ps.size : Int) < torn then (ps.size : Int) else torn).toNat⟩ from if_pos ⟨by omega, ht0⟩] at hwk
     have hjo : jo + (ps.extract 0 (if (ps.size : Int) < torn then (ps.size : Int) else torn).toNat).size ≤ z.dur.length := by have := extract_size ps (if (ps.size : Int) < torn then (ps.size : Int) else torn).toNat; simp only [Int.toNat_natCast] at hp1; omega
     refine CW.region ?_
     refine LW.p (PEv.fieldAddr (off := 1) Try.underlying69 rfl rfl Try.sizeOf9 rfl (.tmp rfl)) rfl rfl rfl ?_
     refine LW.p (PEv.load Try.isAgg9 (.tmp rfl) ((hS.blk 6 rfl).celln rfl)) rfl rfl rfl ?_
     refine LW.p (PEv.move (.tmp rfl)) rfl rfl rfl ?_
     refine LW.p (PEv.fieldAddr (off := 1) Try.underlying69 rfl rfl Try.sizeOf9 rfl (.tmp rfl)) rfl rfl rfl ?_
     refine LW.p (PEv.load Try.isAgg9 (.tmp rfl) ((hS.blk 6 rfl).celln rfl)) rfl rfl rfl ?_
     refine LW.p (PEv.lenStr Try.underlying9 (.tmp rfl)) rfl rfl rfl ?_
     refine LW.p (PEv.min2 (.tmp rfl) (.tmp rfl)) rfl rfl rfl ?_
     refine LW.p (PEv.strTo Try.underlying9 (.tmp rfl) (.tmp rfl) (by split <;> omega) (by split <;> omega)) rfl rfl rfl ?_
     refine LW.p (PEv.fieldAddr (off := 1) Try.underlying69 rfl rfl Try.sizeOf9 rfl (.tmp rfl)) rfl rfl rfl ?_
     refine LW.s (SEv.store Try.sizeOf9 (.tmp rfl) (.tmp rfl) rfl (hS.blk 6 rfl) (Nat.le_of_ble_eq_true rfl)) rfl rfl rfl ?_
     intro w9 Nw9
     have zw9 := Nw9.size
     replace hS := hS.putB 6 rfl (show Set_ _ w9 _ (Wr.cells ⟨(jo : Int), ps.extract 0 (if (ps.size : Int) < torn then (ps.size : Int) else torn).toNat⟩) _ from Nw9)
     change Wx.Sep _ _ _ [_, _, _, _, _, _, _] at hS
     refine LW.nil (KW.then ?_)
     refine CW.draws_then 5 (by kernel_rfl) (by kernel_rfl) (by kernel_rfl) (by kernel_rfl) (by kernel_rfl) rfl rfl ?_
     refine HW.p (PEv.loadA Try.isAgg69 Try.sizeOf69 rfl (.tmp rfl) ((hS.blk 6 rfl).agg)) rfl rfl ?_
     refine HW.p (PEv.load Try.isAgg23 (.tmp rfl) ((hS.blk 4 rfl).celln rfl)) rfl rfl ?_
     refine HW.p (PEv.nilCheck (.tmp rfl)) rfl rfl ?_
     refine HW.p (PEv.fieldAddr (off := 2) Try.underlying65 rfl rfl Try.sizeOf40 rfl (.tmp rfl)) rfl rfl ?_
     refine HW.p (PEv.load Try.isAgg40 (.tmp rfl) ((hS.blk 0 rfl).celln rfl)) rfl rfl ?_
     refine HW.nil ?_
     intro w10 uw10
     have zw10 := uw10.size
     replace hS := hS.up uw10
     refine LW.c (enter_call0 (.cons (.tmp rfl) (.cons (.tmp rfl) .nil)) (Try.en35)) rfl rfl rfl rfl (onto_any jo _ du _ _ _ (hS.blk 1 rfl) hcl hjo) ?_
     rintro _ w11 ⟨rfl, uw11⟩
     have zw11 := uw11.fr.size
     replace hS := hS.stp 1 rfl uw11
     change Wx.Sep _ _ _ [_, _, _, _, _, _, _] at hS
     refine LW.nil (KW.inBlock (KW.then ?_))
     have hdn := congrArg (applyAll z.dur) (take_succ_of hwk)
     rw [applyAll_snoc] at hdn
     refine CW.region ?_
     refine LW.p (PEv.inc (.tmp rfl) (by omega)) rfl rfl rfl ?_
     refine LW.p (PEv.move (.tmp rfl)) rfl rfl rfl (LW.nil (KW.round ?_))
     exact ⟨k + 1, ⟨by omega, by rw [hdn]; exact hS.take 6⟩, ⟨rfl, rfl, rfl, rfl, rfl, rfl, rfl, trivial⟩, by first | omega | (dsimp only; omega)⟩
    ·first | replace h42 := of_decide_eq_true h42 | replace h42 := of_decide_eq_false h42 | skip
     rw [show tearAt order.length torn k ⟨(jo : Int), ps⟩ = ⟨(jo : Int), ps⟩ from if_neg (fun h => by simp at h42; omega)] at hwk
     have hjo : jo + ps.size ≤ z.dur.length := by simpa using hp1
     refine CW.skip (KW.then ?_)
     refine CW.draws_then 5 (by kernel_rfl) (by kernel_rfl) (by kernel_rfl) (by kernel_rfl) (by kernel_rfl) rfl rfl ?_
     refine HW.p (PEv.loadA Try.isAgg69 Try.sizeOf69 rfl (.tmp rfl) ((hS.blk 6 rfl).agg)) rfl rfl ?_
     refine HW.p (PEv.load Try.isAgg23 (.tmp rfl) ((hS.blk 4 rfl).celln rfl)) rfl rfl ?_
     refine HW.p (PEv.nilCheck (.tmp rfl)) rfl rfl ?_
     refine HW.p (PEv.fieldAddr (off := 2) Try.underlying65 rfl rfl Try.sizeOf40 rfl (.tmp rfl)) rfl rfl ?_
     refine HW.p (PEv.load Try.isAgg40 (.tmp rfl) ((hS.blk 0 rfl).celln rfl)) rfl rfl ?_
     refine HW.nil ?_
     intro w12 uw12
     have zw12 := uw12.size
     replace hS := hS.up uw12
     refine LW.c (enter_call0 (.cons (.tmp rfl) (.cons (.tmp rfl) .nil)) (Try.en35)) rfl rfl rfl rfl (onto_any jo _ du _ _ _ (hS.blk 1 rfl) hcl hjo) ?_
     rintro _ w13 ⟨rfl, uw13⟩
     have zw13 := uw13.fr.size
     replace hS := hS.stp 1 rfl uw13
     change Wx.Sep _ _ _ [_, _, _, _, _, _, _] at hS
     refine LW.nil (KW.inBlock (KW.then ?_))
     have hdn := congrArg (applyAll z.dur) (take_succ_of hwk)
     rw [applyAll_snoc] at hdn
     refine CW.region ?_
     refine LW.p (PEv.inc (.tmp rfl) (by omega)) rfl rfl rfl ?_
     refine LW.p (PEv.move (.tmp rfl)) rfl rfl rfl (LW.nil (KW.round ?_))
     exact ⟨k + 1, ⟨by omega, by rw [hdn]; exact hS.take 6⟩, ⟨rfl, rfl, rfl, rfl, rfl, rfl, rfl, trivial⟩, by first | omega | (dsimp only; omega)⟩
   ·first | replace h23 := of_decide_eq_true h23 | replace h23 := of_decide_eq_false h23 | skip
    have hkk2 : k = order.length := by omega
    subst hkk2
    rw [List.take_of_length_le (by rw [crashWs_length]; exact Nat.le_refl _)] at hS
    refine CW.exit (KW.then_exit (KW.then_exit (KW.block_hit (KW.then (CW.seq ?_)))))
    have hcl : (applyAll z.dur (crashWs z order torn)).length = z.dur.length := applyAll_length (crashWs_ok hk hmem)
    replace hS := sepClose (D := ⟨bd, du, vi0, .slice adp z.pend.length cpp⟩) (s := ({ z with dur := applyAll z.dur (crashWs z order torn) } : DS)) (rest := [_, _]) (by simp only [parts, dcells_len _ z _ hcl]; exact hS) (durOk hk hcl)
    refine CW.draws_then 9 (by kernel_rfl) (by kernel_rfl) (by kernel_rfl) (by kernel_rfl) (by kernel_rfl) rfl rfl ?_
    refine HW.p (PEv.load Try.isAgg23 (.tmp rfl) ((hS.blk 1 rfl).celln rfl)) rfl rfl ?_
    refine HW.p (PEv.load Try.isAgg23 (.tmp rfl) ((hS.blk 1 rfl).celln rfl)) rfl rfl ?_
    refine HW.p (PEv.nilCheck (.tmp rfl)) rfl rfl ?_
    refine HW.p (PEv.fieldAddr (off := 2) Try.underlying65 rfl rfl Try.sizeOf40 rfl (.tmp rfl)) rfl rfl ?_
    refine HW.p (PEv.load Try.isAgg40 (.tmp rfl) ((hS.get 0 rfl).1.celln rfl)) rfl rfl ?_
    refine HW.p (PEv.load Try.isAgg23 (.tmp rfl) ((hS.blk 1 rfl).celln rfl)) rfl rfl ?_
    refine HW.p (PEv.nilCheck (.tmp rfl)) rfl rfl ?_
    refine HW.p (PEv.fieldAddr (off := 3) Try.underlying65 rfl rfl Try.sizeOf40 rfl (.tmp rfl)) rfl rfl ?_
    refine HW.p (PEv.load Try.isAgg40 (.tmp rfl) ((hS.get 0 rfl).1.celln rfl)) rfl rfl ?_
    refine HW.nil ?_
    intro w14 uw14
    have zw14 := uw14.size
    replace hS := hS.up uw14
    refine LW.c (enter_call0 (.cons (.tmp rfl) (.cons (.tmp rfl) (.cons (.tmp rfl) .nil))) (Try.en37)) rfl rfl rfl rfl (settle_crash ⟨bd, du, vi0, .slice adp z.pend.length cpp⟩ ({ z with dur := applyAll z.dur (crashWs z order torn) } : DS) _ (hS.get 0 rfl)) ?_
    rintro _ w15 ⟨rfl, uw15⟩
    have zw15 := uw15.fr.size
    replace hS := hS.stp 0 rfl uw15
    change Wx.Sep _ _ _ [_, _, _] at hS
    refine LW.nil (KW.then (CW.seq ?_))
    obtain ⟨hS, hk2⟩ := sepOpen hS
    refine CW.region ?_
    refine LW.p (PEv.load Try.isAgg23 (.tmp rfl) ((hS.blk 4 rfl).celln rfl)) rfl rfl rfl ?_
    refine LW.p (PEv.build (cs := #[.bool false, vi 0]) Try.underlying62 Try.zeroValue62 Try.places62 .nil rfl) rfl rfl rfl ?_
    refine LW.p (PEv.nilCheck (.tmp rfl)) rfl rfl rfl ?_
    refine LW.p (PEv.fieldAddr (off := 0) Try.underlying65 rfl rfl Try.sizeOf62 rfl (.tmp rfl)) rfl rfl rfl ?_
    refine LW.s (SEv.storePart (o := 0) Try.sizeOf62 rfl (.tmp rfl) (.tmp rfl) (by simp [Value.oneCell']) (hS.blk 0 rfl) (Nat.le_of_ble_eq_true rfl)) rfl rfl rfl ?_
    intro w16 Nw16
    replace hS := hS.putB 0 rfl (show Set_ _ w16 bd (dcells ⟨bd, du, vi0, .slice adp 0 cpp⟩ { ({ z with dur := applyAll z.dur (crashWs z order torn) } : DS) with vis := applyAll z.dur (crashWs z order torn), pend := [], off := false, left := 0 }) _ from Nw16)
    change Wx.Sep _ _ _ [_, _, _, _, _, _] at hS
    refine LW.nil (KW.then (CW.seq (CW.region (LW.p (PEv.assign (.const _)) rfl rfl rfl (LW.nil (KW.then (CW.ret ?_)))))))
    refine KW.ret1 rfl rfl ⟨_, rfl, ?_⟩
    subst hor
    exact ⟨rfl, .slice adp 0 cpp, diskClose (pv := .slice adp 0 cpp) (D := ⟨bd, du, vi0, .slice adp z.pend.length cpp⟩) (rest := [_, _]) hS (crashOk hk hcl)⟩

end Go.Proofs.Ytkpkljbmbmjadaa
