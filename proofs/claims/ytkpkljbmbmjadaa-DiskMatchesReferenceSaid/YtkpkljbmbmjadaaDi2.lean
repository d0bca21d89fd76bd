import Derived.Test.YtkpkljbmbmjadaaDi1
namespace Go.Wx

theorem empty_eq : (⟨#[]⟩ : ByteArray) = ByteArray.empty := rfl
theorem usedOk {s : DS} (h : DOk s) : DOk (usedS s) := by
  unfold usedS
  by_cases h0 : s.left = 0
  · rw [if_pos h0]; exact h
  · rw [if_neg h0]
    exact ⟨h.len, h.max, by have := h.left0; show 0 ≤ s.left - 1; omega, by have := h.left1; show s.left - 1 ≤ _; omega, h.pmax, h.wok⟩
theorem bytes_len (x : ByteArray) : x.data.toList.length = x.size := by rw [Array.length_toList]; rfl
theorem putOk {s : DS} {j : Nat} {x : ByteArray} (h : DOk s) (hj : j + x.size ≤ s.dur.length) (hp : s.pend.length < 1000000) : DOk (putS s j x) :=
  ⟨by show (overlay s.vis (j : Int).toNat x.data.toList).length = s.dur.length; rw [Int.toNat_natCast, overlay_length (by rw [bytes_len, h.len]; exact hj)]; exact h.len, h.max, h.left0, h.left1, by simp [putS]; omega, fun y hy => by
    rcases List.mem_append.1 hy with h1 | h1
    · exact h.wok y h1
    · rw [List.mem_singleton] at h1; subst h1; exact ⟨Int.natCast_nonneg j, hj⟩⟩
theorem cut0_one {α : Type} {enc : α → Array Go.Value} {w : World} {b k : Nat} {e : TypeId} {v : Go.Value} {xs : List α} (h : OwnS w b e k enc v xs) : (cut0 v).oneCell' = true := by
  obtain ⟨_, ⟨rfl, _⟩ | ⟨g, cap, cur, rfl, _⟩⟩ := h <;> rfl
theorem lenCells {w : World} {D : Dk} {s : DS} {T : TypeId} {ad : Option Addr} {n c : Nat} (h : Blk w D.bd (dcells D s) T) (hv : D.pv = .slice ad n c) : Blk w D.bd #[.bool s.off, .int .i64 s.left, .slice (some ⟨D.du, 0, none⟩) s.dur.length s.dur.length, .slice (some ⟨D.vi, 0, none⟩) s.dur.length s.dur.length, .slice ad n c] T := by
  unfold dcells at h; rw [hv] at h; exact h

end Go.Wx
namespace Go.Proofs.Ytkpkljbmbmjadaa
open Go.Wx Go.RowKit
theorem usedP {F : Nat → Prop} {w0 w : World} {D : Dk} {pv : Go.Value} (s : DS) {rest : List Asr} {c : List UInt8} {xs : List Wr} {du : List UInt8} (h : Sep F w0 w (aBlk D.bd (dcells { D with pv := pv } (usedS s)) 65 :: aBlk D.du (byc du) 5 :: aBlk D.vi (byc c) 5 :: aOwn 69 2 Wr.cells pv xs :: rest)) (h1 : du = s.dur := by rfl) (h2 : c = s.vis := by rfl) (h3 : xs = s.pend := by rfl) : Sep F w0 w (parts { D with pv := pv } (usedS s) ++ rest) := by
  subst h1
  subst h2
  subst h3
  have e : (usedS s).dur = s.dur ∧ (usedS s).vis = s.vis ∧ (usedS s).pend = s.pend := by unfold usedS; split <;> exact ⟨rfl, rfl, rfl⟩
  simp only [parts, e.1, e.2.1, e.2.2]
  exact h

theorem onto_any (j : Nat) (x : ByteArray) (B n : Nat) (c : List UInt8) (w : World) (hB : Blk w B (byc c) 5) (hc : c.length = n) (hj : j + x.size ≤ n) : Ret Try.prog 35 #[.agg (Wr.cells ⟨(j : Int), x⟩), .slice (some ⟨B, 0, none⟩) n n] w fun r w' => r = .tuple #[] ∧ Stp (aBlk B (byc c) 5) (aBlk B (byc (overlay c j x.data.toList)) 5) w w' := by
  have hS : Sep (aBlk B (byc c) 5).foot w w [aBlk B (byc c) 5] := Sep.cons (A := aBlk _ _ _) hB (fun _ h => h) (Sep.start _ _) (by simp)
  refine Calls_start (n := 11) (m := 9) Try.func35 rfl rfl rfl ?_
  refine CW.seq (CW.region ?_)
  refine LW.r (REv.boxA (.tmp rfl)) rfl rfl rfl rfl ?_
  rintro _ w1 ⟨B2, rfl, NB2⟩
  have eB2 := NB2.at_
  have zB2 := NB2.size
  replace hS := hS.addB NB2
  change Wx.Sep _ _ _ [_, _] at hS
  refine LW.nil (KW.then ?_)
  refine CW.draws_then 6 (by kernel_rfl) (by kernel_rfl) (by kernel_rfl) (by kernel_rfl) (by kernel_rfl) rfl rfl ?_
  refine HW.p (PEv.move (.tmp rfl)) rfl rfl ?_
  refine HW.p (PEv.fieldAddr (off := 0) Try.underlying69 rfl rfl Try.sizeOf3 rfl (.tmp rfl)) rfl rfl ?_
  refine HW.p (PEv.load Try.isAgg3 (.tmp rfl) ((hS.blk 1 rfl).celln rfl)) rfl rfl ?_
  refine HW.p (PEv.sliceLo Try.underlying40 Try.sizeOf5 (.tmp rfl) (.tmp rfl) (by omega) (Nat.le_refl _)) rfl rfl ?_
  refine HW.p (PEv.fieldAddr (off := 1) Try.underlying69 rfl rfl Try.sizeOf9 rfl (.tmp rfl)) rfl rfl ?_
  refine HW.p (PEv.load Try.isAgg9 (.tmp rfl) ((hS.blk 1 rfl).celln rfl)) rfl rfl ?_
  refine HW.nil ?_
  intro w2 uw2
  have zw2 := uw2.size
  replace hS := hS.up uw2
  refine LW.r (REv.copyStr Try.underlying40 (by kernel_rfl) (.tmp rfl) (.tmp rfl) (hS.blk 0 rfl) hc hj) rfl rfl rfl rfl ?_
  intro v10 w3 Nw3
  have zw3 := Nw3.size
  replace hS := hS.putB 0 rfl Nw3
  change Wx.Sep _ _ _ [_, _] at hS
  refine LW.nil ?_
  refine KW.end0 rfl ⟨_, rfl, ?_⟩
  exact ⟨rfl, hS.fr, hS.blk 0 rfl, fun _ h => .inl h⟩

theorem used_any (D : Dk) (s : DS) (w : World) (hB : Blk w D.bd (dcells D s) 65) (hl0 : 0 ≤ s.left) (hl1 : s.left ≤ 9223372036854775807) : Ret Try.prog 36 #[.pointer (some ⟨D.bd, 0, none⟩)] w fun r w' => r = .tuple #[] ∧ Stp (aBlk D.bd (dcells D s) 65) (aBlk D.bd (dcells D (usedS s)) 65) w w' := by
  have hS : Sep (aBlk D.bd (dcells D s) 65).foot w w [aBlk D.bd (dcells D s) 65] := Sep.cons (A := aBlk _ _ _) hB (fun _ h => h) (Sep.start _ _) (by simp)
  refine Calls_start (n := 22) (m := 9) Try.func36 rfl rfl rfl ?_
  refine CW.seq (CW.seq (CW.region (LW.p (PEv.move (.tmp rfl)) rfl rfl rfl ?_)))
  refine LW.p (PEv.nilCheck (.tmp rfl)) rfl rfl rfl ?_
  refine LW.p (PEv.fieldAddr (off := 1) Try.underlying62 rfl rfl Try.sizeOf3 rfl (.tmp rfl)) rfl rfl rfl ?_
  refine LW.p (PEv.load Try.isAgg3 (.tmp rfl) ((hS.blk 0 rfl).celln rfl)) rfl rfl rfl ?_
  refine LW.p (PEv.eql (.tmp rfl) (.const _)) rfl rfl rfl ?_
  refine LW.nil (KW.then ?_)
  refine CW.cond (.tmp rfl) (fun h6 => ?_) (fun h6 => ?_)
  ·first | replace h6 := of_decide_eq_true h6 | replace h6 := of_decide_eq_false h6 | skip
   have he : usedS s = s := by simp [usedS, h6]
   refine CW.ret (KW.then_ret ?_)
   refine KW.ret0 rfl ⟨_, rfl, ?_⟩
   exact ⟨rfl, by rw [he]; exact ⟨hS.fr, hS.blk 0 rfl, fun _ h => .inl h⟩⟩
  ·first | replace h6 := of_decide_eq_true h6 | replace h6 := of_decide_eq_false h6 | skip
   have he : usedS s = { s with left := s.left - 1, off := decide (s.left - 1 = 0) } := by simp [usedS, h6]
   refine CW.skip (KW.then (CW.seq (CW.region (LW.p (PEv.move (.tmp rfl)) rfl rfl rfl ?_))))
   refine LW.p (PEv.nilCheck (.tmp rfl)) rfl rfl rfl ?_
   refine LW.p (PEv.fieldAddr (off := 1) Try.underlying62 rfl rfl Try.sizeOf3 rfl (.tmp rfl)) rfl rfl rfl ?_
   refine LW.p (PEv.load Try.isAgg3 (.tmp rfl) ((hS.blk 0 rfl).celln rfl)) rfl rfl rfl ?_
   refine LW.p (PEv.sub (.tmp rfl) (.const _) (by omega) (by omega)) rfl rfl rfl ?_
   refine LW.p (PEv.nilCheck (.tmp rfl)) rfl rfl rfl ?_
   refine LW.p (PEv.fieldAddr (off := 1) Try.underlying62 rfl rfl Try.sizeOf3 rfl (.tmp rfl)) rfl rfl rfl ?_
   refine LW.s (SEv.store Try.sizeOf3 (.tmp rfl) (.tmp rfl) rfl (hS.blk 0 rfl) (Nat.le_of_ble_eq_true rfl)) rfl rfl rfl ?_
   intro w1 Nw1
   have zw1 := Nw1.size
   replace hS := hS.putB 0 rfl (show Set_ _ w1 _ (dcells D { s with left := s.left - 1 }) _ from Nw1)
   change Wx.Sep _ _ _ [_] at hS
   refine LW.nil (KW.then (CW.region (LW.p (PEv.move (.tmp rfl)) rfl rfl rfl (LW.p (PEv.move (.tmp rfl)) rfl rfl rfl ?_))))
   refine LW.p (PEv.nilCheck (.tmp rfl)) rfl rfl rfl ?_
   refine LW.p (PEv.fieldAddr (off := 1) Try.underlying62 rfl rfl Try.sizeOf3 rfl (.tmp rfl)) rfl rfl rfl ?_
   refine LW.p (PEv.load Try.isAgg3 (.tmp rfl) ((hS.blk 0 rfl).celln rfl)) rfl rfl rfl ?_
   refine LW.p (PEv.eql (.tmp rfl) (.const _)) rfl rfl rfl ?_
   refine LW.p (PEv.nilCheck (.tmp rfl)) rfl rfl rfl ?_
   refine LW.p (PEv.fieldAddr (off := 0) Try.underlying62 rfl rfl Try.sizeOf4 rfl (.tmp rfl)) rfl rfl rfl ?_
   refine LW.s (SEv.store Try.sizeOf4 (.tmp rfl) (.tmp rfl) rfl (hS.blk 0 rfl) (Nat.le_of_ble_eq_true rfl)) rfl rfl rfl ?_
   intro w2 Nw2
   have zw2 := Nw2.size
   replace hS := hS.putB 0 rfl (show Set_ _ w2 _ (dcells D { s with left := s.left - 1, off := decide (s.left - 1 = 0) }) _ from Nw2)
   change Wx.Sep _ _ _ [_] at hS
   refine LW.nil ?_
   refine KW.end0 rfl ⟨_, rfl, ?_⟩
   exact ⟨rfl, by rw [he]; exact ⟨hS.fr, hS.blk 0 rfl, fun _ h => .inl h⟩⟩

theorem settle_sync (D : Dk) (s : DS) (w : World) (hD : (aDisk D s).holds w) : Ret Try.prog 37 #[.pointer (some ⟨D.bd, 0, none⟩), .slice (some ⟨D.vi, 0, none⟩) s.dur.length s.dur.length, .slice (some ⟨D.du, 0, none⟩) s.dur.length s.dur.length] w fun r w' => r = .tuple #[] ∧ Stp (aDisk D s) (aDisk { D with pv := cut0 D.pv } ({ s with dur := s.vis, pend := [] } : DS)) w w' := by
  obtain ⟨hS, hk⟩ := diskOpen hD
  have hl0 := hk.left0
  have hl1 := hk.left1
  have hlen := hk.len
  have hmax := hk.max
  refine Calls_start (n := 21) (m := 9) Try.func37 rfl rfl rfl ?_
  refine CW.seq (CW.region (LW.p (PEv.move (.tmp rfl)) rfl rfl rfl (LW.p (PEv.move (.tmp rfl)) rfl rfl rfl ?_)))
  refine LW.r (REv.copyAll Try.underlying40 (by kernel_rfl) (.tmp rfl) (.tmp rfl) (hS.blk 1 rfl) (hS.blk 2 rfl) rfl hlen) rfl rfl rfl rfl ?_
  intro v8 w1 Nw1
  have zw1 := Nw1.size
  replace hS := hS.putB 1 rfl Nw1
  change Wx.Sep _ _ _ [_, _, _, _] at hS
  refine LW.nil (KW.then (CW.seq (CW.region (LW.p (PEv.move (.tmp rfl)) rfl rfl rfl ?_))))
  refine LW.p (PEv.nilCheck (.tmp rfl)) rfl rfl rfl ?_
  refine LW.p (PEv.fieldAddr (off := 4) Try.underlying65 rfl rfl Try.sizeOf63 rfl (.tmp rfl)) rfl rfl rfl ?_
  refine LW.p (PEv.load Try.isAgg63 (.tmp rfl) ((hS.blk 0 rfl).celln rfl)) rfl rfl rfl ?_
  refine LW.rn (REv.clearOwn Try.underlying63 Try.zeroValue69 rfl (by simp [Value.cells, Value.oneCell']) (.tmp rfl) (hS.own 3 rfl)) rfl rfl rfl ?_
  intro v_ w2 Gw2
  have zw2 := Gw2.fr.size
  replace hS := hS.stp 3 rfl Gw2
  change Wx.Sep _ _ _ [_, _, _, _] at hS
  refine LW.nil (KW.then (CW.region (LW.p (PEv.move (.tmp rfl)) rfl rfl rfl (LW.p (PEv.move (.tmp rfl)) rfl rfl rfl ?_))))
  refine LW.p (PEv.nilCheck (.tmp rfl)) rfl rfl rfl ?_
  refine LW.p (PEv.fieldAddr (off := 4) Try.underlying65 rfl rfl Try.sizeOf63 rfl (.tmp rfl)) rfl rfl rfl ?_
  refine LW.p (PEv.load Try.isAgg63 (.tmp rfl) ((hS.blk 0 rfl).celln rfl)) rfl rfl rfl ?_
  refine LW.p (PEv.sliceCut0 Try.underlying63 Try.sizeOf69 (.tmp rfl) hD.2.2.2.1) rfl rfl rfl ?_
  refine LW.p (PEv.nilCheck (.tmp rfl)) rfl rfl rfl ?_
  refine LW.p (PEv.fieldAddr (off := 4) Try.underlying65 rfl rfl Try.sizeOf63 rfl (.tmp rfl)) rfl rfl rfl ?_
  refine LW.s (SEv.store Try.sizeOf63 (.tmp rfl) (.tmp rfl) (cut0_one hD.2.2.2.1) (hS.blk 0 rfl) (Nat.le_of_ble_eq_true rfl)) rfl rfl rfl ?_
  intro w3 Nw3
  have zw3 := Nw3.size
  replace hS := hS.putB 0 rfl Nw3
  change Wx.Sep _ _ _ [_, _, _, _] at hS
  refine LW.nil ?_
  refine KW.end0 rfl ⟨_, rfl, ?_⟩
  have e : dcells { D with pv := cut0 D.pv } ({ s with dur := s.vis, pend := [] } : DS) = (dcells D s).setIfInBounds (0 + 4) (cut0 D.pv) := by simp [dcells, hlen]
  rw [← e] at hS
  exact ⟨rfl, diskClose (rest := []) hS ⟨rfl, by simp [hlen]; omega, hl0, hl1, by simp, by simp⟩⟩

theorem settle_crash (D : Dk) (s : DS) (w : World) (hD : (aDisk D s).holds w) : Ret Try.prog 37 #[.pointer (some ⟨D.bd, 0, none⟩), .slice (some ⟨D.du, 0, none⟩) s.dur.length s.dur.length, .slice (some ⟨D.vi, 0, none⟩) s.dur.length s.dur.length] w fun r w' => r = .tuple #[] ∧ Stp (aDisk D s) (aDisk { D with pv := cut0 D.pv } ({ s with vis := s.dur, pend := [] } : DS)) w w' := by
  obtain ⟨hS, hk⟩ := diskOpen hD
  have hl0 := hk.left0
  have hl1 := hk.left1
  have hlen := hk.len
  have hmax := hk.max
  refine Calls_start (n := 21) (m := 9) Try.func37 rfl rfl rfl ?_
  refine CW.seq (CW.region (LW.p (PEv.move (.tmp rfl)) rfl rfl rfl (LW.p (PEv.move (.tmp rfl)) rfl rfl rfl ?_)))
  refine LW.r (REv.copyAll Try.underlying40 (by kernel_rfl) (.tmp rfl) (.tmp rfl) (hS.blk 2 rfl) (hS.blk 1 rfl) hlen rfl) rfl rfl rfl rfl ?_
  intro v8 w1 Nw1
  have zw1 := Nw1.size
  replace hS := hS.putB 2 rfl Nw1
  change Wx.Sep _ _ _ [_, _, _, _] at hS
  refine LW.nil (KW.then (CW.seq (CW.region (LW.p (PEv.move (.tmp rfl)) rfl rfl rfl ?_))))
  refine LW.p (PEv.nilCheck (.tmp rfl)) rfl rfl rfl ?_
  refine LW.p (PEv.fieldAddr (off := 4) Try.underlying65 rfl rfl Try.sizeOf63 rfl (.tmp rfl)) rfl rfl rfl ?_
  refine LW.p (PEv.load Try.isAgg63 (.tmp rfl) ((hS.blk 0 rfl).celln rfl)) rfl rfl rfl ?_
  refine LW.rn (REv.clearOwn Try.underlying63 Try.zeroValue69 rfl (by simp [Value.cells, Value.oneCell']) (.tmp rfl) (hS.own 3 rfl)) rfl rfl rfl ?_
  intro v_ w2 Gw2
  have zw2 := Gw2.fr.size
  replace hS := hS.stp 3 rfl Gw2
  change Wx.Sep _ _ _ [_, _, _, _] at hS
  refine LW.nil (KW.then (CW.region (LW.p (PEv.move (.tmp rfl)) rfl rfl rfl (LW.p (PEv.move (.tmp rfl)) rfl rfl rfl ?_))))
  refine LW.p (PEv.nilCheck (.tmp rfl)) rfl rfl rfl ?_
  refine LW.p (PEv.fieldAddr (off := 4) Try.underlying65 rfl rfl Try.sizeOf63 rfl (.tmp rfl)) rfl rfl rfl ?_
  refine LW.p (PEv.load Try.isAgg63 (.tmp rfl) ((hS.blk 0 rfl).celln rfl)) rfl rfl rfl ?_
  refine LW.p (PEv.sliceCut0 Try.underlying63 Try.sizeOf69 (.tmp rfl) hD.2.2.2.1) rfl rfl rfl ?_
  refine LW.p (PEv.nilCheck (.tmp rfl)) rfl rfl rfl ?_
  refine LW.p (PEv.fieldAddr (off := 4) Try.underlying65 rfl rfl Try.sizeOf63 rfl (.tmp rfl)) rfl rfl rfl ?_
  refine LW.s (SEv.store Try.sizeOf63 (.tmp rfl) (.tmp rfl) (cut0_one hD.2.2.2.1) (hS.blk 0 rfl) (Nat.le_of_ble_eq_true rfl)) rfl rfl rfl ?_
  intro w3 Nw3
  have zw3 := Nw3.size
  replace hS := hS.putB 0 rfl Nw3
  change Wx.Sep _ _ _ [_, _, _, _] at hS
  refine LW.nil ?_
  refine KW.end0 rfl ⟨_, rfl, ?_⟩
  have e : dcells { D with pv := cut0 D.pv } ({ s with vis := s.dur, pend := [] } : DS) = (dcells D s).setIfInBounds (0 + 4) (cut0 D.pv) := by rfl
  rw [← e] at hS
  exact ⟨rfl, diskClose (rest := []) hS ⟨rfl, hmax, hl0, hl1, by simp, by simp⟩⟩

theorem Write_any (D : Dk) (s : DS) (w : World) (hD : (aDisk D s).holds w) (off : Int) (x : ByteArray) (hp : s.pend.length < 1000000) : Ret Try.prog 21 #[.pointer (some ⟨D.bd, 0, none⟩), vi off, .string x] w fun r w' => r = vi (writeE s off x) ∧ ∃ pv, Stp (aDisk D s) (aDisk { D with pv := pv } (writeS s off x)) w w' := by
  obtain ⟨w0, rfl⟩ : ∃ w0, w0 = w := ⟨_, rfl⟩
  obtain ⟨hS, hk⟩ := diskOpen hD
  have hl0 := hk.left0
  have hl1 := hk.left1
  have hlen := hk.len
  have hmax := hk.max
  refine Calls_start (n := 43) (m := 9) Try.func21 rfl rfl rfl ?_
  refine CW.seq (CW.region (LW.p (PEv.assign (.const _)) rfl rfl rfl (LW.nil (KW.then (CW.seq (CW.seq (CW.region (LW.p (PEv.move (.tmp rfl)) rfl rfl rfl ?_))))))))
  refine LW.c (enter_call0 (.cons (.tmp rfl) .nil) (Try.en28)) rfl rfl rfl rfl (check_any D s _ (hS.blk 0 rfl)) ?_
  rintro _ w1 ⟨rfl, uw1⟩
  have zw1 := uw1.size
  replace hS := hS.up uw1
  refine LW.p (PEv.assign (.tmp rfl)) rfl rfl rfl (LW.nil (KW.then (CW.seq ?_)))
  cases hq2 : s.off with
  | true =>
   have hck : checkS s = 241 := by simp [checkS, hq2]
   rw [hck]
   refine CW.region (LW.p (PEv.move (.tmp rfl)) rfl rfl rfl ?_)
   refine LW.p (PEv.neq (.tmp rfl) (.const _)) rfl rfl rfl ?_
   refine LW.nil (KW.then ?_)
   refine CW.cond_true (.tmp rfl) ?_
   refine CW.seq (CW.region (LW.p (PEv.move (.tmp rfl)) rfl rfl rfl (LW.p (PEv.assign (.tmp rfl)) rfl rfl rfl (LW.nil (KW.then (CW.ret (KW.then_ret ?_)))))))
   refine KW.ret1 rfl rfl ⟨_, rfl, ?_⟩
   exact ⟨by simp [writeE, hq2], D.pv, by simp only [writeS, hq2, if_true]; exact diskClose (rest := []) hS hk⟩
  | false =>
   have hck : checkS s = 0 := by simp [checkS, hq2]
   rw [hck]
   refine CW.region (LW.p (PEv.move (.tmp rfl)) rfl rfl rfl ?_)
   refine LW.p (PEv.neq (.tmp rfl) (.const _)) rfl rfl rfl ?_
   refine LW.nil (KW.then ?_)
   refine CW.cond_false (.tmp rfl) ?_
   refine CW.skip (KW.then (CW.seq (CW.seq (CW.region (LW.p (PEv.move (.tmp rfl)) rfl rfl rfl (LW.p (PEv.move (.tmp rfl)) rfl rfl rfl (LW.p (PEv.move (.tmp rfl)) rfl rfl rfl ?_)))))))
   refine LW.p (PEv.lenStr Try.underlying9 (.tmp rfl)) rfl rfl rfl ?_
   refine LW.c (enter_call0 (.cons (.tmp rfl) (.cons (.tmp rfl) (.cons (.tmp rfl) .nil))) (Try.en29)) rfl rfl rfl rfl (inside_any D s _ (hS.blk 0 rfl) _ _ hmax) ?_
   rintro _ w2 ⟨rfl, uw2⟩
   have zw2 := uw2.size
   replace hS := hS.up uw2
   refine LW.p (PEv.not (.tmp rfl)) rfl rfl rfl ?_
   refine LW.nil (KW.then ?_)
   refine CW.cond (.tmp rfl) (fun h19 => ?_) (fun h19 => ?_)
   ·first | replace h19 := of_decide_eq_true h19 | replace h19 := of_decide_eq_false h19 | skip
    have hi : insideB s.dur.length off x.size = false := by simpa using h19
    refine CW.seq (CW.region (LW.p (PEv.assign (.const _)) rfl rfl rfl (LW.nil (KW.then (CW.ret (KW.then_ret ?_))))))
    refine KW.ret1 rfl rfl ⟨_, rfl, ?_⟩
    first | exact ⟨by simp [writeE, hq2, hi], D.pv, by rw [show writeS s off x = s by simp [writeS, hq2, hi]]; exact diskClose (rest := []) hS hk⟩ | exact ⟨by simp [writeE, hq2, hi], v30, by rw [show writeS s (j : Int) x = usedS (putS s j x) by simp [writeS, hq2, hi]]; exact diskClose (rest := [_]) (usedP (putS s j x) hS) (usedOk (putOk hk hjx hp))⟩
   ·first | replace h19 := of_decide_eq_true h19 | replace h19 := of_decide_eq_false h19 | skip
    have hi : insideB s.dur.length off x.size = true := by simpa using h19
    obtain ⟨j, rfl⟩ : ∃ j : Nat, off = j := ⟨off.toNat, by simp [insideB] at hi; omega⟩
    have hjx : j + x.size ≤ s.dur.length := by simp [insideB] at hi; omega
    refine CW.skip (KW.then (CW.seq (CW.region (LW.p (PEv.move (.tmp rfl)) rfl rfl rfl (LW.p (PEv.move (.tmp rfl)) rfl rfl rfl ?_)))))
    refine LW.p (PEv.build (cs := Wr.cells ⟨(j : Int), x⟩) Try.underlying69 Try.zeroValue69 Try.places69 (.cons (.tmp rfl) (.cons (.tmp rfl) .nil)) rfl) rfl rfl rfl ?_
    refine LW.r (REv.allocA Try.zeroValue69) rfl rfl rfl rfl ?_
    rintro _ w3 ⟨B8, rfl, MB8⟩
    refine LW.s (SEv.storeA Try.sizeOf69 rfl (.tmp rfl) (.tmp rfl) (Wr.one _) MB8.blk rfl) rfl rfl rfl ?_
    intro w4 LB8
    have NB8 := MB8.set LB8
    clear LB8 MB8
    have eB8 := NB8.at_
    have zB8 := NB8.size
    replace hS := hS.addB NB8
    change Wx.Sep _ _ _ [_, _, _, _, _] at hS
    refine LW.nil (KW.then (CW.seq ?_))
    refine CW.draws_heavy 7 (fun v w'' => Sep (aDisk D s).foot w0 w'' [aBlk D.bd (dcells D s) 65, aBlk D.du (byc s.dur) 5, aBlk D.vi (byc s.vis) 5, aOwn 69 2 Wr.cells v (s.pend ++ [⟨(j : Int), x⟩]), aBlk B8 (Wr.cells ⟨(j : Int), x⟩) 69]) (by kernel_rfl) (by kernel_rfl) (by kernel_rfl) (by kernel_rfl) (by kernel_rfl) (by kernel_rfl) rfl rfl rfl rfl rfl ?_
    refine HW.p (PEv.move (.tmp rfl)) rfl rfl ?_
    refine HW.p (PEv.move (.tmp rfl)) rfl rfl ?_
    refine HW.p (PEv.nilCheck (.tmp rfl)) rfl rfl ?_
    refine HW.p (PEv.fieldAddr (off := 4) Try.underlying65 rfl rfl Try.sizeOf63 rfl (.tmp rfl)) rfl rfl ?_
    refine HW.p (PEv.load Try.isAgg63 (.tmp rfl) ((hS.blk 0 rfl).celln rfl)) rfl rfl ?_
    refine HW.p (PEv.loadA Try.isAgg69 Try.sizeOf69 rfl (.tmp rfl) ((hS.blk 4 rfl).agg)) rfl rfl ?_
    refine HW.r (p := fun v w => Sl w v 2 (Wr.cells) [(⟨(j : Int), x⟩ : Wr)]) (fun _ _ _ h u => Sl.up h u) rfl (fun w hu a ha => let ⟨v, w', h1, h2⟩ := REv.buildSlice (xs := [(⟨(j : Int), x⟩ : Wr)]) (enc := Wr.cells) (mk := fun f => .agg f.cells) Try.underlying63 Try.sizeOf69 Try.zeroValue69 rfl (Nat.le_of_ble_eq_true rfl) (fun _ => rfl) (fun _ => rfl) (.cons (.tmp rfl) .nil) rfl a ha; ⟨v, w', h1, h2.q⟩) rfl ?_
    refine HW.nil ⟨fun a w' hu ha => ?_, ?_⟩
    ·exact (REv.open (d := 29) (p := fun v w => Sl w v 2 Wr.cells [(⟨(j : Int), x⟩ : Wr)]) rfl fun v hv => (REv.appendF (bytes := 24) (i := Try.t69) Try.underlying63 (by kernel_rfl) rfl rfl rfl rfl (by decide) (fun _ => rfl) Wr.one (.tmp rfl) (.tmp rfl) ((hS.up hu).own 3 rfl) hv (by simp [maxLen]; omega) (by simp; omega)).mono fun v' w'' h => (hS.up hu).stp 3 rfl h).y ha
    intro v30 w5 hS
    refine LW.p (PEv.nilCheck (.tmp rfl)) rfl rfl rfl ?_
    refine LW.p (PEv.fieldAddr (off := 4) Try.underlying65 rfl rfl Try.sizeOf63 rfl (.tmp rfl)) rfl rfl rfl ?_
    refine LW.s (SEv.store Try.sizeOf63 (.tmp rfl) (.tmp rfl) (hS.own 3 rfl).one (hS.blk 0 rfl) (Nat.le_of_ble_eq_true rfl)) rfl rfl rfl ?_
    intro w6 Nw6
    have zw6 := Nw6.size
    replace hS := hS.putB 0 rfl (show Set_ _ w6 _ (dcells { D with pv := v30 } (putS s j x)) _ from Nw6)
    change Wx.Sep _ _ _ [_, _, _, _, _] at hS
    refine LW.nil (KW.then (CW.seq ?_))
    refine CW.draws_then 5 (by kernel_rfl) (by kernel_rfl) (by kernel_rfl) (by kernel_rfl) (by kernel_rfl) rfl rfl ?_
    refine HW.p (PEv.loadA Try.isAgg69 Try.sizeOf69 rfl (.tmp rfl) ((hS.blk 4 rfl).agg)) rfl rfl ?_
    refine HW.p (PEv.move (.tmp rfl)) rfl rfl ?_
    refine HW.p (PEv.nilCheck (.tmp rfl)) rfl rfl ?_
    refine HW.p (PEv.fieldAddr (off := 3) Try.underlying65 rfl rfl Try.sizeOf40 rfl (.tmp rfl)) rfl rfl ?_
    refine HW.p (PEv.load Try.isAgg40 (.tmp rfl) ((hS.blk 0 rfl).celln rfl)) rfl rfl ?_
    refine HW.nil ?_
    intro w7 uw7
    have zw7 := uw7.size
    replace hS := hS.up uw7
    refine LW.c (enter_call0 (.cons (.tmp rfl) (.cons (.tmp rfl) .nil)) (Try.en35)) rfl rfl rfl rfl (onto_any j x D.vi _ s.vis _ (hS.blk 2 rfl) hlen hjx) ?_
    rintro _ w8 ⟨rfl, uw8⟩
    have zw8 := uw8.fr.size
    replace hS := hS.stp 2 rfl uw8
    change Wx.Sep _ _ _ [_, _, _, _, _] at hS
    refine LW.nil (KW.then (CW.seq (CW.region (LW.p (PEv.move (.tmp rfl)) rfl rfl rfl ?_))))
    refine LW.p (PEv.nilCheck (.tmp rfl)) rfl rfl rfl ?_
    refine LW.p (PEv.fieldAddr (off := 0) Try.underlying65 rfl rfl Try.sizeOf62 rfl (.tmp rfl)) rfl rfl rfl ?_
    refine LW.c (enter_call0 (.cons (.tmp rfl) .nil) (Try.en36)) rfl rfl rfl rfl (used_any { D with pv := v30 } (putS s j x) _ (hS.blk 0 rfl) hl0 hl1) ?_
    rintro _ w9 ⟨rfl, uw9⟩
    have zw9 := uw9.fr.size
    replace hS := hS.stp 0 rfl uw9
    change Wx.Sep _ _ _ [_, _, _, _, _] at hS
    refine LW.nil (KW.then (CW.seq (CW.region (LW.p (PEv.assign (.const _)) rfl rfl rfl (LW.nil (KW.then (CW.ret ?_)))))))
    refine KW.ret1 rfl rfl ⟨_, rfl, ?_⟩
    first | exact ⟨by simp [writeE, hq2, hi], D.pv, by rw [show writeS s off x = s by simp [writeS, hq2, hi]]; exact diskClose (rest := []) hS hk⟩ | exact ⟨by simp [writeE, hq2, hi], v30, by rw [show writeS s (j : Int) x = usedS (putS s j x) by simp [writeS, hq2, hi]]; exact diskClose (rest := [_]) (usedP (putS s j x) hS) (usedOk (putOk hk hjx hp))⟩

theorem Sync_any (D : Dk) (s : DS) (w : World) (hD : (aDisk D s).holds w) : Ret Try.prog 23 #[.pointer (some ⟨D.bd, 0, none⟩)] w fun r w' => r = vi (checkS s) ∧ ∃ pv, Stp (aDisk D s) (aDisk { D with pv := pv } (syncS s)) w w' := by
  obtain ⟨hS, hk⟩ := diskOpen hD
  have hl0 := hk.left0
  have hl1 := hk.left1
  have hlen := hk.len
  have hmax := hk.max
  refine Calls_start (n := 19) (m := 9) Try.func23 rfl rfl rfl ?_
  refine CW.seq (CW.region (LW.p (PEv.assign (.const _)) rfl rfl rfl (LW.nil (KW.then (CW.seq (CW.region (LW.p (PEv.move (.tmp rfl)) rfl rfl rfl ?_)))))))
  refine LW.c (enter_call0 (.cons (.tmp rfl) .nil) (Try.en28)) rfl rfl rfl rfl (check_any D s _ (hS.blk 0 rfl)) ?_
  rintro _ w1 ⟨rfl, uw1⟩
  have zw1 := uw1.size
  replace hS := hS.up uw1
  refine LW.p (PEv.assign (.tmp rfl)) rfl rfl rfl (LW.nil (KW.then (CW.seq (CW.seq ?_))))
  cases hq2 : s.off with
  | true =>
   have hck : checkS s = 241 := by simp [checkS, hq2]
   rw [hck]
   refine CW.region (LW.p (PEv.move (.tmp rfl)) rfl rfl rfl ?_)
   refine LW.p (PEv.eql (.tmp rfl) (.const _)) rfl rfl rfl ?_
   refine LW.nil (KW.then ?_)
   refine CW.cond_false (.tmp rfl) ?_
   refine CW.skip (KW.then (CW.seq (CW.region (LW.p (PEv.move (.tmp rfl)) rfl rfl rfl (LW.p (PEv.assign (.tmp rfl)) rfl rfl rfl (LW.nil (KW.then (CW.ret ?_))))))))
   refine KW.ret1 rfl rfl ⟨_, rfl, ?_⟩
   exact ⟨rfl, D.pv, by simp only [syncS, hq2, if_true]; exact diskClose (rest := []) hS hk⟩
  | false =>
   have hck : checkS s = 0 := by simp [checkS, hq2]
   rw [hck]
   refine CW.region (LW.p (PEv.move (.tmp rfl)) rfl rfl rfl ?_)
   refine LW.p (PEv.eql (.tmp rfl) (.const _)) rfl rfl rfl ?_
   refine LW.nil (KW.then ?_)
   refine CW.cond_true (.tmp rfl) ?_
   refine CW.draws_then 9 (by kernel_rfl) (by kernel_rfl) (by kernel_rfl) (by kernel_rfl) (by kernel_rfl) rfl rfl ?_
   refine HW.p (PEv.move (.tmp rfl)) rfl rfl ?_
   refine HW.p (PEv.move (.tmp rfl)) rfl rfl ?_
   refine HW.p (PEv.nilCheck (.tmp rfl)) rfl rfl ?_
   refine HW.p (PEv.fieldAddr (off := 3) Try.underlying65 rfl rfl Try.sizeOf40 rfl (.tmp rfl)) rfl rfl ?_
   refine HW.p (PEv.load Try.isAgg40 (.tmp rfl) ((hS.blk 0 rfl).celln rfl)) rfl rfl ?_
   refine HW.p (PEv.move (.tmp rfl)) rfl rfl ?_
   refine HW.p (PEv.nilCheck (.tmp rfl)) rfl rfl ?_
   refine HW.p (PEv.fieldAddr (off := 2) Try.underlying65 rfl rfl Try.sizeOf40 rfl (.tmp rfl)) rfl rfl ?_
   refine HW.p (PEv.load Try.isAgg40 (.tmp rfl) ((hS.blk 0 rfl).celln rfl)) rfl rfl ?_
   refine HW.nil ?_
   intro w2 uw2
   have zw2 := uw2.size
   replace hS := hS.up uw2
   refine LW.c (enter_call0 (.cons (.tmp rfl) (.cons (.tmp rfl) (.cons (.tmp rfl) .nil))) (Try.en37)) rfl rfl rfl rfl (settle_sync D s _ ((diskClose (rest := []) hS hk).holds)) ?_
   rintro _ w3 ⟨rfl, hG⟩
   refine LW.nil (KW.then (CW.seq (CW.region (LW.p (PEv.move (.tmp rfl)) rfl rfl rfl (LW.p (PEv.assign (.tmp rfl)) rfl rfl rfl (LW.nil (KW.then (CW.ret ?_))))))))
   refine KW.ret1 rfl rfl ⟨_, rfl, ?_⟩
   exact ⟨rfl, cut0 D.pv, by rw [show syncS s = { s with dur := s.vis, pend := [] } by simp [syncS, hq2]]; exact (diskClose (rest := []) hS hk).trans hG⟩

theorem Read_any (D : Dk) (s : DS) (w : World) (hB0 : Blk w D.bd (dcells D s) 65) (hB2 : Blk w D.vi (byc s.vis) 5) (hk : DOk s) (off m : Int) : Ret Try.prog 14 #[.pointer (some ⟨D.bd, 0, none⟩), vi off, vi m] w fun r w' => r = .tuple #[.string (readB s off m), vi (readE s off m)] ∧ Up w w' := by
  have hW := Up.refl w
  have hmax := hk.max
  have hlen := hk.len
  refine Calls_start (n := 28) (m := 9) Try.func14 rfl rfl rfl ?_
  refine CW.seq (CW.region (LW.p (PEv.assign (.const _)) rfl rfl rfl (LW.p (PEv.assign (.const _)) rfl rfl rfl (LW.nil (KW.then (CW.seq (CW.seq (CW.region (LW.p (PEv.move (.tmp rfl)) rfl rfl rfl ?_)))))))))
  refine LW.c (enter_call0 (.cons (.tmp rfl) .nil) (Try.en28)) rfl rfl rfl rfl (check_any D s _ hB0) ?_
  rintro _ w1 ⟨rfl, uw1⟩
  have zw1 := uw1.size
  replace hB0 := hB0.up uw1
  replace hB2 := hB2.up uw1
  replace hW := hW.up uw1
  refine LW.p (PEv.assign (.tmp rfl)) rfl rfl rfl (LW.nil (KW.then (CW.seq ?_)))
  cases hq2 : s.off with
  | true =>
   have hck : checkS s = 241 := by simp [checkS, hq2]
   rw [hck]
   refine CW.region (LW.p (PEv.move (.tmp rfl)) rfl rfl rfl ?_)
   refine LW.p (PEv.neq (.tmp rfl) (.const _)) rfl rfl rfl ?_
   refine LW.nil (KW.then ?_)
   refine CW.cond_true (.tmp rfl) ?_
   refine CW.seq (CW.region (LW.p (PEv.move (.tmp rfl)) rfl rfl rfl (LW.p (PEv.assign (.const _)) rfl rfl rfl (LW.p (PEv.assign (.tmp rfl)) rfl rfl rfl (LW.nil (KW.then (CW.ret (KW.then_ret ?_))))))))
   refine KW.ret2 rfl rfl rfl ⟨_, rfl, ?_⟩
   exact ⟨by simp [readB, readE, hq2, empty_eq], hW⟩
  | false =>
   have hck : checkS s = 0 := by simp [checkS, hq2]
   rw [hck]
   refine CW.region (LW.p (PEv.move (.tmp rfl)) rfl rfl rfl ?_)
   refine LW.p (PEv.neq (.tmp rfl) (.const _)) rfl rfl rfl ?_
   refine LW.nil (KW.then ?_)
   refine CW.cond_false (.tmp rfl) ?_
   refine CW.skip (KW.then (CW.seq (CW.seq (CW.region (LW.p (PEv.move (.tmp rfl)) rfl rfl rfl (LW.p (PEv.move (.tmp rfl)) rfl rfl rfl (LW.p (PEv.move (.tmp rfl)) rfl rfl rfl ?_)))))))
   refine LW.c (enter_call0 (.cons (.tmp rfl) (.cons (.tmp rfl) (.cons (.tmp rfl) .nil))) (Try.en29)) rfl rfl rfl rfl (inside_any D s _ hB0 _ _ hmax) ?_
   rintro _ w2 ⟨rfl, uw2⟩
   have zw2 := uw2.size
   replace hB0 := hB0.up uw2
   replace hB2 := hB2.up uw2
   replace hW := hW.up uw2
   refine LW.p (PEv.not (.tmp rfl)) rfl rfl rfl ?_
   refine LW.nil (KW.then ?_)
   refine CW.cond (.tmp rfl) (fun h18 => ?_) (fun h18 => ?_)
   ·first | replace h18 := of_decide_eq_true h18 | replace h18 := of_decide_eq_false h18 | skip
    have hi : insideB s.dur.length off m = false := by simpa using h18
    refine CW.seq (CW.region (LW.p (PEv.assign (.const _)) rfl rfl rfl (LW.p (PEv.assign (.const _)) rfl rfl rfl (LW.nil (KW.then (CW.ret (KW.then_ret ?_)))))))
    refine KW.ret2 rfl rfl rfl ⟨_, rfl, ?_⟩
    exact ⟨by simp [readB, readE, hq2, hi] <;> rfl, hW⟩
   ·first | replace h18 := of_decide_eq_true h18 | replace h18 := of_decide_eq_false h18 | skip
    have hi : insideB s.dur.length off m = true := by simpa using h18
    obtain ⟨j, rfl⟩ : ∃ j : Nat, off = j := ⟨off.toNat, by simp [insideB] at hi; omega⟩
    obtain ⟨k, rfl⟩ : ∃ k : Nat, m = k := ⟨m.toNat, by simp [insideB] at hi; omega⟩
    have hjk : j + k ≤ s.dur.length := by simp [insideB] at hi; omega
    refine CW.skip (KW.then (CW.seq (CW.region (LW.p (PEv.move (.tmp rfl)) rfl rfl rfl ?_))))
    refine LW.p (PEv.nilCheck (.tmp rfl)) rfl rfl rfl ?_
    refine LW.p (PEv.fieldAddr (off := 3) Try.underlying65 rfl rfl Try.sizeOf40 rfl (.tmp rfl)) rfl rfl rfl ?_
    refine LW.p (PEv.load Try.isAgg40 (.tmp rfl) (hB0.celln rfl)) rfl rfl rfl ?_
    refine LW.p (PEv.move (.tmp rfl)) rfl rfl rfl ?_
    refine LW.p (PEv.sliceLo Try.underlying40 Try.sizeOf5 (.tmp rfl) (.tmp rfl) (by omega) (Nat.le_refl _)) rfl rfl rfl ?_
    refine LW.p (PEv.move (.tmp rfl)) rfl rfl rfl ?_
    refine LW.p (PEv.sliceHi Try.underlying40 Try.sizeOf5 (.tmp rfl) (.tmp rfl) (by omega)) rfl rfl rfl ?_
    refine LW.p (PEv.bytesStr Try.underlying40 Try.underlying5 Try.underlying9 (.tmp rfl) hB2 hlen hjk) rfl rfl rfl ?_
    refine LW.p (PEv.assign (.tmp rfl)) rfl rfl rfl (LW.p (PEv.assign (.const _)) rfl rfl rfl (LW.nil (KW.then (CW.ret ?_))))
    refine KW.ret2 rfl rfl rfl ⟨_, rfl, ?_⟩
    exact ⟨by simp [readB, readE, hq2, hi] <;> rfl, hW⟩

theorem Cut_any (D : Dk) (s : DS) (w : World) (hD : (aDisk D s).holds w) (m : Int) (hm : m ≤ 9223372036854775807) : Ret Try.prog 24 #[.pointer (some ⟨D.bd, 0, none⟩), vi m] w fun r w' => r = vi (cutE s m) ∧ Stp (aDisk D s) (aDisk D (cutS s m)) w w' := by
  obtain ⟨hS, hk⟩ := diskOpen hD
  have hl0 := hk.left0
  have hl1 := hk.left1
  have hlen := hk.len
  have hmax := hk.max
  refine Calls_start (n := 20) (m := 9) Try.func24 rfl rfl rfl ?_
  refine CW.seq (CW.region (LW.p (PEv.assign (.const _)) rfl rfl rfl (LW.nil (KW.then (CW.seq (CW.seq (CW.region (LW.p (PEv.move (.tmp rfl)) rfl rfl rfl ?_))))))))
  refine LW.c (enter_call0 (.cons (.tmp rfl) .nil) (Try.en28)) rfl rfl rfl rfl (check_any D s _ (hS.blk 0 rfl)) ?_
  rintro _ w1 ⟨rfl, uw1⟩
  have zw1 := uw1.size
  replace hS := hS.up uw1
  refine LW.p (PEv.assign (.tmp rfl)) rfl rfl rfl (LW.nil (KW.then (CW.seq ?_)))
  cases hq2 : s.off with
  | true =>
   have hck : checkS s = 241 := by simp [checkS, hq2]
   rw [hck]
   refine CW.region (LW.p (PEv.move (.tmp rfl)) rfl rfl rfl ?_)
   refine LW.p (PEv.neq (.tmp rfl) (.const _)) rfl rfl rfl ?_
   refine LW.nil (KW.then ?_)
   refine CW.cond_true (.tmp rfl) ?_
   refine CW.seq (CW.region (LW.p (PEv.move (.tmp rfl)) rfl rfl rfl (LW.p (PEv.assign (.tmp rfl)) rfl rfl rfl (LW.nil (KW.then (CW.ret (KW.then_ret ?_)))))))
   refine KW.ret1 rfl rfl ⟨_, rfl, ?_⟩
   exact ⟨by simp [cutE, hq2], by simp only [cutS, hq2, if_true]; exact diskClose (rest := []) hS hk⟩
  | false =>
   have hck : checkS s = 0 := by simp [checkS, hq2]
   rw [hck]
   refine CW.region (LW.p (PEv.move (.tmp rfl)) rfl rfl rfl ?_)
   refine LW.p (PEv.neq (.tmp rfl) (.const _)) rfl rfl rfl ?_
   refine LW.nil (KW.then ?_)
   refine CW.cond_false (.tmp rfl) ?_
   refine CW.skip (KW.then (CW.seq (CW.seq (CW.region (LW.p (PEv.move (.tmp rfl)) rfl rfl rfl ?_)))))
   refine LW.p (PEv.lss (.tmp rfl) (.const _)) rfl rfl rfl ?_
   refine LW.nil (KW.then ?_)
   refine CW.cond (.tmp rfl) (fun h12 => ?_) (fun h12 => ?_)
   ·first | replace h12 := of_decide_eq_true h12 | replace h12 := of_decide_eq_false h12 | skip
    refine CW.seq (CW.region (LW.p (PEv.assign (.const _)) rfl rfl rfl (LW.nil (KW.then (CW.ret (KW.then_ret ?_))))))
    refine KW.ret1 rfl rfl ⟨_, rfl, ?_⟩
    first | exact ⟨by simp [cutE, hq2, h12], by rw [show cutS s m = s by simp [cutS, hq2, h12]]; exact diskClose (rest := []) hS hk⟩ | exact ⟨by simp [cutE, hq2, h12], by rw [show cutS s m = { s with off := decide (m = 0), left := m } by simp [cutS, hq2, h12]]; exact diskClose (rest := []) hS ⟨hlen, hmax, (by show 0 ≤ m; omega), hm, hk.pmax, hk.wok⟩⟩
   ·first | replace h12 := of_decide_eq_true h12 | replace h12 := of_decide_eq_false h12 | skip
    refine CW.skip (KW.then (CW.seq (CW.region (LW.p (PEv.move (.tmp rfl)) rfl rfl rfl (LW.p (PEv.move (.tmp rfl)) rfl rfl rfl ?_)))))
    refine LW.p (PEv.eql (.tmp rfl) (.const _)) rfl rfl rfl ?_
    refine LW.p (PEv.move (.tmp rfl)) rfl rfl rfl ?_
    refine LW.p (PEv.build (cs := #[.bool (decide (m = 0)), vi m]) Try.underlying62 Try.zeroValue62 Try.places62 (.cons (.tmp rfl) (.cons (.tmp rfl) .nil)) rfl) rfl rfl rfl ?_
    refine LW.p (PEv.nilCheck (.tmp rfl)) rfl rfl rfl ?_
    refine LW.p (PEv.fieldAddr (off := 0) Try.underlying65 rfl rfl Try.sizeOf62 rfl (.tmp rfl)) rfl rfl rfl ?_
    refine LW.s (SEv.storePart (o := 0) Try.sizeOf62 rfl (.tmp rfl) (.tmp rfl) (by simp [Value.oneCell']) (hS.blk 0 rfl) (Nat.le_of_ble_eq_true rfl)) rfl rfl rfl ?_
    intro w2 Nw2
    replace hS := hS.putB 0 rfl (show Set_ _ w2 D.bd (dcells D { s with off := decide (m = 0), left := m }) _ from Nw2)
    change Wx.Sep _ _ _ [_, _, _, _] at hS
    refine LW.nil (KW.then (CW.seq (CW.region (LW.p (PEv.assign (.const _)) rfl rfl rfl (LW.nil (KW.then (CW.ret ?_)))))))
    refine KW.ret1 rfl rfl ⟨_, rfl, ?_⟩
    first | exact ⟨by simp [cutE, hq2, h12], by rw [show cutS s m = s by simp [cutS, hq2, h12]]; exact diskClose (rest := []) hS hk⟩ | exact ⟨by simp [cutE, hq2, h12], by rw [show cutS s m = { s with off := decide (m = 0), left := m } by simp [cutS, hq2, h12]]; exact diskClose (rest := []) hS ⟨hlen, hmax, (by show 0 ≤ m; omega), hm, hk.pmax, hk.wok⟩⟩

theorem Size_any (D : Dk) (s : DS) (w : World) (hD : (aDisk D s).holds w) : Ret Try.prog 16 #[.pointer (some ⟨D.bd, 0, none⟩)] w fun r w' => r = vi (s.dur.length : Int) ∧ Up w w' := by
  have hW := Up.refl w
  refine Calls_start (n := 10) (m := 9) Try.func16 rfl rfl rfl ?_
  refine CW.seq (CW.region (LW.p (PEv.assign (.const _)) rfl rfl rfl (LW.nil (KW.then (CW.seq (CW.seq (CW.region (LW.p (PEv.move (.tmp rfl)) rfl rfl rfl ?_))))))))
  refine LW.p (PEv.eqlNil Try.underlying23 (.tmp rfl)) rfl rfl rfl ?_
  refine LW.nil (KW.then ?_)
  refine CW.cond_false (.tmp rfl) ?_
  refine CW.skip (KW.then (CW.seq ?_))
  obtain ⟨hB0, _, _, hO, _⟩ := hD
  refine CW.region (LW.p (PEv.move (.tmp rfl)) rfl rfl rfl ?_)
  refine LW.p (PEv.nilCheck (.tmp rfl)) rfl rfl rfl ?_
  refine LW.p (PEv.fieldAddr (off := 2) Try.underlying65 rfl rfl Try.sizeOf40 rfl (.tmp rfl)) rfl rfl rfl ?_
  refine LW.p (PEv.load Try.isAgg40 (.tmp rfl) (hB0.celln rfl)) rfl rfl rfl ?_
  refine LW.p (PEv.lenS Try.underlying40 (.tmp rfl)) rfl rfl rfl ?_
  refine LW.p (PEv.assign (.tmp rfl)) rfl rfl rfl (LW.nil (KW.then (CW.ret ?_)))
  refine KW.ret1 rfl rfl ⟨_, rfl, ?_⟩
  exact ⟨rfl, hW⟩

theorem Pending_any (D : Dk) (s : DS) (w : World) (hD : (aDisk D s).holds w) : Ret Try.prog 17 #[.pointer (some ⟨D.bd, 0, none⟩)] w fun r w' => r = vi (s.pend.length : Int) ∧ Up w w' := by
  have hW := Up.refl w
  refine Calls_start (n := 10) (m := 9) Try.func17 rfl rfl rfl ?_
  refine CW.seq (CW.region (LW.p (PEv.assign (.const _)) rfl rfl rfl (LW.nil (KW.then (CW.seq (CW.seq (CW.region (LW.p (PEv.move (.tmp rfl)) rfl rfl rfl ?_))))))))
  refine LW.p (PEv.eqlNil Try.underlying23 (.tmp rfl)) rfl rfl rfl ?_
  refine LW.nil (KW.then ?_)
  refine CW.cond_false (.tmp rfl) ?_
  refine CW.skip (KW.then (CW.seq ?_))
  obtain ⟨hB0, _, _, hO, _⟩ := hD
  obtain ⟨adp, cpp, hpv, _⟩ := hO.sl (fun _ => rfl)
  have hB0 := lenCells hB0 hpv
  refine CW.region (LW.p (PEv.move (.tmp rfl)) rfl rfl rfl ?_)
  refine LW.p (PEv.nilCheck (.tmp rfl)) rfl rfl rfl ?_
  refine LW.p (PEv.fieldAddr (off := 4) Try.underlying65 rfl rfl Try.sizeOf63 rfl (.tmp rfl)) rfl rfl rfl ?_
  refine LW.p (PEv.load Try.isAgg63 (.tmp rfl) (hB0.celln rfl)) rfl rfl rfl ?_
  refine LW.p (PEv.lenS Try.underlying63 (.tmp rfl)) rfl rfl rfl ?_
  refine LW.p (PEv.assign (.tmp rfl)) rfl rfl rfl (LW.nil (KW.then (CW.ret ?_)))
  refine KW.ret1 rfl rfl ⟨_, rfl, ?_⟩
  exact ⟨rfl, hW⟩

end Go.Proofs.Ytkpkljbmbmjadaa
