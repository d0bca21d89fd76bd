import Derived.Test.YtdelcaegofkknaaGreatBn1
namespace Go.Wx

theorem encZ_small {z : Nat} (h : z < 128) : encZ z = [UInt8.ofNat z] := by unfold encZ; rw [grp_small h]; rfl
theorem encZ_big {z : Nat} (h : ¬ z < 128) (hz : z < 18446744073709551616) : encZ z = (UInt8.ofNat (z % 128) ||| 128) :: encZ (z / 128) := by
  unfold encZ; rw [grp_big h hz]; rfl
theorem rbyte {z : Nat} : Value.int .u8 (IntKind.u8.wrap (IntKind.u64.wrap ((z : Int).tmod 128 + 128))) = bv (UInt8.ofNat (z % 128) ||| 128) := by
  have h1 : (UInt8.ofNat (z % 128) ||| 128).toNat = z % 128 + 128 := or_toNat (Nat.mod_lt _ (by decide))
  have h2 : (z : Int).tmod 128 = ((z % 128 : Nat) : Int) := rfl
  unfold bv
  rw [h1, h2, u64_wrap, show IntKind.u8.wrap = fun i => i % 256 from by funext i; rw [IntKind.wrap_u8]]
  have := Nat.mod_lt z (show 0 < 128 by decide)
  congr 1
  dsimp only
  omega
theorem encZ_len (z : Nat) : (encZ z).length ≤ 10 := by unfold encZ; rw [List.length_map]; exact grp_len z

end Go.Wx
namespace Go.Proofs.YtdelcaegofkknaaGreat
open Go.Wx Go.RowKit
theorem rzigzag_any (n : Int) (w : World) (hn : inW n) : Ret Tryz.prog 109 #[vi n] w fun r w' => r = vu (zig n) ∧ Up w w' := by
  have hW := Up.refl w
  obtain ⟨w0, rfl⟩ : ∃ w0, w0 = w := ⟨_, rfl⟩
  refine Calls_start (n := 13) (m := 9) Tryz.func109 rfl rfl rfl ?_
  refine CW.seq (CW.region (LW.p (PEv.assign (.const _)) rfl rfl rfl (LW.nil (KW.then (CW.seq (CW.seq (CW.region (LW.p (PEv.move (.tmp rfl)) rfl rfl rfl ?_))))))))
  refine LW.p (PEv.lss (.tmp rfl) (.const _)) rfl rfl rfl ?_
  refine LW.nil (KW.then ?_)
  refine CW.cond (.tmp rfl) (fun h4 => ?_) (fun h4 => ?_)
  ·first | replace h4 := of_decide_eq_true h4 | replace h4 := of_decide_eq_false h4 | skip
   refine CW.seq (CW.region (LW.p (PEv.move (.tmp rfl)) rfl rfl rfl ?_))
   refine LW.p (PEv.negI (.tmp rfl) (by unfold inW at hn; omega) (by unfold inW at hn; omega)) rfl rfl rfl ?_
   refine LW.p (PEv.conv (k' := .u64) (by rw [Tryz.underlying3]; rfl) Tryz.underlying118 (.tmp rfl)) rfl rfl rfl ?_
   refine LW.p (PEv.mul_w (.tmp rfl) (.const _)) rfl rfl rfl ?_
   refine LW.p (PEv.val (v' := vu (zig n)) (PEv.sub_w (.tmp rfl) (.const _)) (by rw [u64_wrap, u64_wrap, u64_wrap, vu]; congr 1; unfold inW at hn; unfold zig; split <;> omega)) rfl rfl rfl ?_
   refine LW.p (PEv.assign (.tmp rfl)) rfl rfl rfl (LW.nil (KW.then (CW.ret (KW.then_ret ?_))))
   refine KW.ret1 rfl rfl ⟨_, rfl, ?_⟩
   exact ⟨rfl, hW⟩
  ·first | replace h4 := of_decide_eq_true h4 | replace h4 := of_decide_eq_false h4 | skip
   refine CW.skip (KW.then (CW.seq (CW.region (LW.p (PEv.move (.tmp rfl)) rfl rfl rfl ?_))))
   refine LW.p (PEv.conv (k' := .u64) (by rw [Tryz.underlying3]; rfl) Tryz.underlying118 (.tmp rfl)) rfl rfl rfl ?_
   refine LW.p (PEv.val (v' := vu (zig n)) (PEv.mul_w (.tmp rfl) (.const _)) (by rw [u64_wrap, u64_wrap, vu]; congr 1; unfold inW at hn; unfold zig; split <;> omega)) rfl rfl rfl ?_
   refine LW.p (PEv.assign (.tmp rfl)) rfl rfl rfl (LW.nil (KW.then (CW.ret ?_)))
   refine KW.ret1 rfl rfl ⟨_, rfl, ?_⟩
   exact ⟨rfl, hW⟩

theorem rPutInt_any (n : Int) (w : World) : Ret Tryz.prog 71 #[vi n] w fun r w' => r = .tuple #[.string ⟨(encI n).toArray⟩, vi (putO n)] ∧ Up w w' := by
  have hW := Up.refl w
  obtain ⟨w0, rfl⟩ : ∃ w0, w0 = w := ⟨_, rfl⟩
  refine Calls_start (n := 31) (m := 9) Tryz.func71 rfl rfl rfl ?_
  refine CW.seq (CW.region (LW.p (PEv.assign (.const _)) rfl rfl rfl (LW.p (PEv.assign (.const _)) rfl rfl rfl (LW.nil (KW.then (CW.seq (CW.seq ?_)))))))
  cases hq1 : decide (inW n) with
  | true =>
   have hin := of_decide_eq_true hq1
   obtain ⟨hin1, hin2⟩ := hin
   have hin : inW n := ⟨hin1, hin2⟩
   refine CW.region (LW.p (PEv.move (.tmp rfl)) rfl rfl rfl ?_)
   refine LW.p (PEv.fa (PEv.lss (.tmp rfl) (.const _)) (decide_eq_false (by omega))) rfl rfl rfl ?_
   refine LW.p (PEv.move (.tmp rfl)) rfl rfl rfl ?_
   refine LW.yes rfl rfl rfl rfl rfl rfl ?_
   refine LW.p (PEv.move (.tmp rfl)) rfl rfl rfl ?_
   refine LW.yes rfl rfl rfl rfl rfl rfl ?_
   refine LW.p (PEv.fa (PEv.gtr (.tmp rfl) (.const _)) (decide_eq_false (by omega))) rfl rfl rfl ?_
   refine LW.p (PEv.pick_or (.tmp rfl) (fun hp => (by first | exact .const _ | exact .tmp rfl | exact .cond rfl (by first | assumption | simp_all)))) rfl rfl rfl ?_
   refine LW.nil (KW.then ?_)
   refine CW.cond_false (.tmp rfl) ?_
   refine CW.skip (KW.then (CW.seq (CW.region (LW.p (PEv.move (.tmp rfl)) rfl rfl rfl ?_))))
   refine LW.c (enter_call0 (.cons (.tmp rfl) .nil) (Tryz.en109)) rfl rfl rfl rfl (rzigzag_any n _ hin) ?_
   rintro _ w1 ⟨rfl, uw1⟩
   have zw1 := uw1.size
   replace hW := hW.up uw1
   refine LW.p (PEv.assign (.tmp rfl)) rfl rfl rfl (LW.nil (KW.then (CW.seq ?_)))
   have hS := (Sep.start no w1).add (Up.refl _) (A' := aOwn 5 1 eBy (.slice none 0 0) ([] : List UInt8)) (OwnS.nil _ _ _ _ _) (fun i h => by cases h)
   change Wx.Sep _ _ _ [_] at hS
   refine CW.region (LW.p (PEv.assign (.const _)) rfl rfl rfl (LW.nil (KW.then (CW.seq (CW.block ?_)))))
   refine CW.loopB (σ := Nat × Go.Value × List UInt8) (fun s w => (s.1 < 18446744073709551616) ∧ (s.2.2 ++ encZ s.1 = encZ (zig n)) ∧ (Wx.Sep no w1 w [aOwn 5 1 eBy s.2.1 (s.2.2)])) (fun s => [(4, .eq (vu s.1)), (5, .eq (s.2.1))]) ([(2, .eq _), (3, .eq _)]) (fun s => s.1) (zig n, .slice none 0 0, []) ?_ ⟨rfl, rfl, rfl, rfl, trivial⟩ ?_
   ·exact ⟨zig_lt hin.1 hin.2, rfl, hS⟩
   ·rintro ⟨z, v, bs⟩ w2 ⟨hz, he, hS⟩
    dsimp only at hz he hS
    change CW _ _ _ _ _ _ _ ([(4, .eq (vu z)), (5, .eq (v))] ++ _) _
    refine CW.seq (CW.seq (CW.region (LW.p (PEv.move (.tmp rfl)) rfl rfl rfl ?_)))
    refine LW.p (PEv.geq (.tmp rfl) (.const _)) rfl rfl rfl ?_
    refine LW.nil (KW.then ?_)
    refine CW.cond (.tmp rfl) (fun h15 => ?_) (fun h15 => ?_)
    ·first | replace h15 := of_decide_eq_true h15 | replace h15 := of_decide_eq_false h15 | skip
     have hz8 : 128 ≤ z := by omega
     refine CW.skip (KW.then (CW.block (CW.seq (CW.region (LW.p (PEv.move (.tmp rfl)) rfl rfl rfl (LW.p (PEv.move (.tmp rfl)) rfl rfl rfl ?_))))))
     refine LW.p (PEv.rem (.tmp rfl) (.const _) (by decide)) rfl rfl rfl ?_
     refine LW.p (PEv.add_w (.tmp rfl) (.const _)) rfl rfl rfl ?_
     refine LW.p (PEv.val (v' := bv (UInt8.ofNat (z % 128) ||| 128)) (PEv.conv (k' := .u8) (by rw [Tryz.underlying118]; rfl) Tryz.underlying5 (.tmp rfl)) rbyte) rfl rfl rfl ?_
     refine LW.r (REv.buildSlice (xs := [_]) (enc := eBy) (mk := bv) Tryz.underlying67 Tryz.sizeOf5 Tryz.zeroValue5 rfl (by decide) (fun _ => rfl) (fun _ => rfl) (.cons (.tmp rfl) .nil) rfl) rfl rfl rfl rfl ?_
     rintro _ w3 ⟨B21, cB21, rfl, NB21, yB21, xB21⟩
     have eB21 := NB21.at_
     have zB21 := NB21.size
     replace hS := hS.up NB21.up
     have hE21 := xB21
     refine LW.r (REv.appendF (enc := eBy) (bytes := 1) (i := Tryz.t5) Tryz.underlying67 (by kernel_rfl) rfl rfl rfl rfl (by decide) (fun _ => rfl) eBy_one (.tmp rfl) (.tmp rfl) (hS.own 0 rfl) (Sl.of_els hE21) (by have hl := congrArg List.length he; have := encZ_len (zig n); have := encZ_len z; rw [List.length_append] at hl; simp [maxLen]; omega) (by have hl := congrArg List.length he; have := encZ_len (zig n); rw [List.length_append] at hl; simp; omega)) rfl rfl rfl rfl ?_
     intro v22 w4 Gw4
     have zw4 := Gw4.fr.size
     replace hS := hS.stp 0 rfl Gw4
     change Wx.Sep _ _ _ [_] at hS
     refine LW.p (PEv.assign (.tmp rfl)) rfl rfl rfl (LW.nil (KW.then (CW.region (LW.p (PEv.move (.tmp rfl)) rfl rfl rfl ?_))))
     refine LW.p (PEv.val (v' := vu (z / 128)) (PEv.quo (.tmp rfl) (.const _) (by decide)) (by rw [u64_wrap, vu, show ((z : Int).tdiv 128) = ((z / 128 : Nat) : Int) from rfl]; congr 1; omega)) rfl rfl rfl ?_
     refine LW.p (PEv.assign (.tmp rfl)) rfl rfl rfl (LW.nil (KW.inBlock (KW.round ?_)))
     exact ⟨(z / 128, v22, bs ++ [UInt8.ofNat (z % 128) ||| 128]), ⟨by show z / 128 < 18446744073709551616; omega, by rw [← he, encZ_big (z := z) (by omega) hz, List.append_assoc]; rfl, hS⟩, ⟨rfl, rfl, rfl, rfl, trivial⟩, by show z / 128 < z; omega⟩
    ·first | replace h15 := of_decide_eq_true h15 | replace h15 := of_decide_eq_false h15 | skip
     have hz8 : z < 128 := by omega
     refine CW.exit (KW.then_exit (KW.then_exit (KW.block_hit (KW.then (CW.seq (CW.region (LW.p (PEv.move (.tmp rfl)) rfl rfl rfl (LW.p (PEv.move (.tmp rfl)) rfl rfl rfl ?_))))))))
     refine LW.p (PEv.val (v' := bv (UInt8.ofNat z)) (PEv.conv (k' := .u8) (by rw [Tryz.underlying118]; rfl) Tryz.underlying5 (.tmp rfl)) byte_of) rfl rfl rfl ?_
     refine LW.r (REv.buildSlice (xs := [_]) (enc := eBy) (mk := bv) Tryz.underlying67 Tryz.sizeOf5 Tryz.zeroValue5 rfl (by decide) (fun _ => rfl) (fun _ => rfl) (.cons (.tmp rfl) .nil) rfl) rfl rfl rfl rfl ?_
     rintro _ w5 ⟨B28, cB28, rfl, NB28, yB28, xB28⟩
     have eB28 := NB28.at_
     have zB28 := NB28.size
     replace hS := hS.up NB28.up
     have hE28 := xB28
     refine LW.r (REv.appendF (enc := eBy) (bytes := 1) (i := Tryz.t5) Tryz.underlying67 (by kernel_rfl) rfl rfl rfl rfl (by decide) (fun _ => rfl) eBy_one (.tmp rfl) (.tmp rfl) (hS.own 0 rfl) (Sl.of_els hE28) (by have hl := congrArg List.length he; have := encZ_len (zig n); have := encZ_len z; rw [List.length_append] at hl; simp [maxLen]; omega) (by have hl := congrArg List.length he; have := encZ_len (zig n); rw [List.length_append] at hl; simp; omega)) rfl rfl rfl rfl ?_
     intro v29 w6 Gw6
     have zw6 := Gw6.fr.size
     replace hS := hS.stp 0 rfl Gw6
     change Wx.Sep _ _ _ [_] at hS
     refine LW.p (PEv.ownStr Tryz.underlying67 Tryz.underlying5 Tryz.underlying9 (.tmp rfl) (hS.own 0 rfl)) rfl rfl rfl ?_
     refine LW.p (PEv.assign (.tmp rfl)) rfl rfl rfl (LW.p (PEv.assign (.const _)) rfl rfl rfl (LW.nil (KW.then (CW.ret ?_))))
     refine KW.ret2 rfl rfl rfl ⟨_, rfl, ?_⟩
     first | (rw [encI_out hin, putO, if_neg hin]; exact ⟨rfl, hW⟩) | (rw [show encI n = encZ (zig n) from encI_in hin, putO, if_pos hin, ← he, encZ_small hz8]; exact ⟨rfl, hW.trans hS.upd⟩)
  | false =>
   have hin := of_decide_eq_false hq1
   refine CW.region (LW.p (PEv.move (.tmp rfl)) rfl rfl rfl ?_)
   refine LW.p (PEv.lss (.tmp rfl) (.const _)) rfl rfl rfl ?_
   refine LW.p (PEv.move (.tmp rfl)) rfl rfl rfl ?_
   refine LW.g rfl rfl rfl rfl rfl rfl rfl (fun hc => PEv.move (.tmp rfl)) ?_
   refine LW.g rfl rfl rfl rfl rfl rfl rfl (fun hc => PEv.gtr (by first | exact .tmp rfl | exact .cond rfl (by first | assumption | simp_all)) (.const _)) ?_
   refine LW.p (PEv.pick_or (.tmp rfl) (fun hp => (by first | exact .const _ | exact .tmp rfl | exact .cond rfl (by first | assumption | simp_all)))) rfl rfl rfl ?_
   refine LW.nil (KW.then ?_)
   refine CW.cond (.tmp rfl) (fun h11 => ?_) (fun h11 => ?_)
   ·first | replace h11 := of_decide_eq_true h11 | replace h11 := of_decide_eq_false h11 | skip
    refine CW.seq (CW.region (LW.p (PEv.assign (.const _)) rfl rfl rfl (LW.p (PEv.assign (.const _)) rfl rfl rfl (LW.nil (KW.then (CW.ret (KW.then_ret ?_)))))))
    refine KW.ret2 rfl rfl rfl ⟨_, rfl, ?_⟩
    first | (rw [encI_out hin, putO, if_neg hin]; exact ⟨rfl, hW⟩) | (rw [show encI n = encZ (zig n) from encI_in hin, putO, if_pos hin, ← he, encZ_small hz8]; exact ⟨rfl, hW.trans hS.upd⟩)
   ·first | replace h11 := of_decide_eq_true h11 | replace h11 := of_decide_eq_false h11 | skip
    exfalso
    apply hin
    unfold inW
    simp at h11
    omega

theorem rPutString_any (t : ByteArray) (w : World) (ht : t.size ≤ 65536) : Ret Tryz.prog 110 #[.string t] w fun r w' => r = .tuple #[.string ⟨(encT t.data.toList).toArray⟩, vi 0] ∧ Up w w' := by
  have hW := Up.refl w
  obtain ⟨w0, rfl⟩ : ∃ w0, w0 = w := ⟨_, rfl⟩
  refine Calls_start (n := 18) (m := 9) Tryz.func110 rfl rfl rfl ?_
  refine CW.seq (CW.region (LW.p (PEv.assign (.const _)) rfl rfl rfl (LW.p (PEv.assign (.const _)) rfl rfl rfl (LW.nil (KW.then (CW.seq (CW.seq (CW.region (LW.p (PEv.move (.tmp rfl)) rfl rfl rfl ?_)))))))))
  refine LW.p (PEv.lenStr Tryz.underlying9 (.tmp rfl)) rfl rfl rfl ?_
  refine LW.p (PEv.fa (PEv.gtr (.tmp rfl) (.const _)) (decide_eq_false (by omega))) rfl rfl rfl ?_
  refine LW.nil (KW.then ?_)
  refine CW.cond_false (.tmp rfl) ?_
  refine CW.skip (KW.then (CW.seq (CW.region (LW.p (PEv.move (.tmp rfl)) rfl rfl rfl ?_))))
  refine LW.p (PEv.lenStr Tryz.underlying9 (.tmp rfl)) rfl rfl rfl ?_
  refine LW.c (enter_call0 (.cons (.tmp rfl) .nil) (Tryz.en71)) rfl rfl rfl rfl (rPutInt_any _ _) ?_
  rintro _ w1 ⟨rfl, uw1⟩
  have zw1 := uw1.size
  replace hW := hW.up uw1
  refine LW.p (PEv.move (.tmp rfl)) rfl rfl rfl (LW.p (PEv.extract (.tmp rfl) rfl) rfl rfl rfl (LW.p (PEv.extract (.tmp rfl) rfl) rfl rfl rfl (LW.p (PEv.assign (.tmp rfl)) rfl rfl rfl (LW.p (PEv.assign (.tmp rfl)) rfl rfl rfl (LW.nil (KW.then (CW.seq (CW.region (LW.p (PEv.move (.tmp rfl)) rfl rfl rfl (LW.p (PEv.move (.tmp rfl)) rfl rfl rfl ?_))))))))))
  refine LW.p (PEv.addStr (.tmp rfl) (.tmp rfl) (by rw [enc_size]; have := encI_len (t.size : Int); omega)) rfl rfl rfl ?_
  refine LW.p (PEv.assign (.tmp rfl)) rfl rfl rfl (LW.p (PEv.assign (.const _)) rfl rfl rfl (LW.nil (KW.then (CW.ret ?_))))
  refine KW.ret2 rfl rfl rfl ⟨_, rfl, ?_⟩
  refine ⟨?_, hW⟩
  rw [bytes_app, encT, ba_size]

end Go.Proofs.YtdelcaegofkknaaGreat
