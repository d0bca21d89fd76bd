import Derived.Test.YtdkfjllchhoojaaHo1
namespace Go.Proofs.Ytdkfjllchhoojaa
open Go.Wx Go.RowKit
theorem all_any (ad : Addr) (w : World) : Ret Try.prog 16 #[.pointer (some ad)] w fun r w' => (∃ B, r = .func (.func 24) #[] #[.pointer (some ⟨B, 0, none⟩)] ∧ Blk w' B #[.pointer (some ad)] 43 ∧ w.heap.size ≤ B) ∧ Up w w' := by
  have hW := Up.refl w
  refine Calls_start (n := 4) (m := 9) Try.func16 rfl rfl rfl ?_
  refine CW.seq ?_
  -- region 0
  refine CW.region ?_
  refine LW.r (REv.box1 (.tmp rfl) rfl) rfl rfl rfl rfl ?_
  rintro _ w1 ⟨B1, rfl, NB1⟩
  have eB1 := NB1.at_
  have zB1 := NB1.size
  replace hW := hW.up NB1.up
  have hB1 := NB1.blk
  refine LW.p (PEv.assign (.const _)) rfl rfl rfl ?_
  refine LW.nil ?_
  refine KW.then ?_
  refine CW.seq ?_
  -- region 1
  refine CW.region ?_
  refine LW.p (PEv.makeFunc (.cons (.tmp rfl) .nil)) rfl rfl rfl ?_
  refine LW.p (PEv.assign (.tmp rfl)) rfl rfl rfl ?_
  refine LW.nil ?_
  refine KW.then ?_
  refine CW.ret ?_
  refine KW.ret1 rfl rfl ⟨_, rfl, ?_⟩
  exact ⟨⟨_, rfl, hB1, by omega⟩, hW⟩

theorem all_iter (X Y : Nat → Prop) (B1 Bb : Nat) (bc : Array Go.Value) (b : Base) (w1 w : World) (hU0 : Up w1 w) (hX : ∀ i, X i → w1.heap.size ≤ i) (hYY : ∀ i, Y i → w1.heap.size ≤ i) (hQX : ¬ X B1) (hQ0 : Blk w B1 #[.pointer (some ⟨Bb, 0, none⟩)] 43) (hb1 : Blk w1 Bb bc 29) (hC1 : BaseC w1 bc b) (hlen : b.Holds.length < 9223372036854775807) :
    IterS Try.prog 24 #[.pointer (some ⟨B1, 0, none⟩)] (fun f => #[.agg (holdCells f ⟨Bb, 0, none⟩)]) X Y (fun ys => ys = b.Holds.filter isHoldB) (fun pre => pre <+: b.Holds.filter isHoldB) (b.Holds.filter isHoldB).length w := by
  have z1 := hU0.size
  refine IterS.of ?_
  intro lp J Jx w0 hUw _ hY hJ
  obtain ⟨Bd, hBd⟩ : ∃ Bd, Bd = w0.heap.size := ⟨_, rfl⟩
  rw [← hBd] at hJ hY
  clear hBd
  have hQ := hQ0.up hUw
  have hU := hU0.trans hUw
  refine Calls_start (n := 26) (m := 9) Try.func24 rfl rfl rfl ?_
  refine CW.seq ?_
  obtain ⟨v6, h6, hr⟩ := hC1.at6
  obtain ⟨ad, cp, rfl, hE1⟩ := hr
  -- region 0
  refine CW.region ?_
  refine LW.p (PEv.load Try.isAgg43 (.tmp rfl) (hQ.celln rfl)) rfl rfl rfl ?_
  refine LW.p (PEv.nilCheck (.tmp rfl)) rfl rfl rfl ?_
  refine LW.p (PEv.fieldAddr (off := 6) Try.underlying29 rfl rfl Try.sizeOf27 rfl (.tmp rfl)) rfl rfl rfl ?_
  refine LW.p (PEv.load Try.isAgg27 (.tmp rfl) ((hb1.up hU).cell h6)) rfl rfl rfl ?_
  refine LW.p (PEv.lenS Try.underlying27 (.tmp rfl)) rfl rfl rfl ?_
  refine LW.p (PEv.move (.const _)) rfl rfl rfl ?_
  refine LW.nil ?_
  refine KW.then ?_
  refine CW.block ?_
  refine CW.loop (σ := Nat) (fun s w => s ≤ b.Holds.length ∧ Jw Bd J ((b.Holds.take s).filter isHoldB) w ∧ Up w1 w ∧ Blk w B1 #[.pointer (some ⟨Bb, 0, none⟩)] 43) (fun s => [(0, .eq (.func (.yield lp) #[] #[])), (1, .eq (.pointer (some ⟨B1, 0, none⟩))), (8, .eq (.slice ad b.Holds.length cp)), (9, .eq (vi (b.Holds.length : Int))), (10, .eq (vi (s : Int)))]) (fun s => b.Holds.length - s) 0 ?_ ?_ ?_
  · exact ⟨Nat.zero_le _, hJ, hU, hQ⟩
  · exact ⟨rfl, rfl, rfl, rfl, rfl, trivial⟩
  · rintro k w1 ⟨hk, hJ, hU, hQ⟩
    refine CW.seq ?_
    -- region 1
    refine CW.region ?_
    refine LW.p (PEv.lss (.tmp rfl) (.tmp rfl)) rfl rfl rfl ?_
    refine LW.nil ?_
    refine KW.then ?_
    refine CW.seq ?_
    refine CW.cond (.tmp rfl) (fun h11 => ?_) (fun h11 => ?_)
    · first | replace h11 := of_decide_eq_true h11 | replace h11 := of_decide_eq_false h11 | skip
      refine CW.skip ?_
      refine KW.then ?_
      refine CW.seq ?_
      refine CW.block ?_
      refine CW.seq ?_
      obtain ⟨x, hx⟩ := getElem?_of_lt (xs := b.Holds) (i := k) (by omega)
      obtain ⟨B, o, had, hc1⟩ := hE1 k x hx
      subst had
      have hcell := hc1.up hU
      -- region 2
      refine CW.region ?_
      refine LW.p (PEv.indexAddr Try.underlying27 Try.sizeOf23 (.tmp rfl) (.tmp rfl) (by omega)) rfl rfl rfl ?_
      refine LW.p (PEv.loadA Try.isAgg23 Try.sizeOf23 rfl (.tmp rfl) (hcell)) rfl rfl rfl ?_
      refine LW.r (REv.allocA Try.zeroValue23) rfl rfl rfl rfl ?_
      rintro _ w2 ⟨B4, rfl, MB4⟩
      refine LW.s (SEv.storeA Try.sizeOf23 rfl (.tmp rfl) (.tmp rfl) (by first | rfl | exact Fact.one _ | exact GAct.one _ | exact holdCells_one _ _ | exact hold0_one | (simp [Value.oneCell'])) MB4.blk rfl) rfl rfl rfl ?_
      intro w3 LB4
      have NB4 := MB4.set LB4
      clear LB4 MB4
      have eB4 := NB4.at_
      have zB4 := NB4.size
      replace hJ := hJ.up NB4.up
      replace hU := hU.up NB4.up
      replace hQ := hQ.up NB4.up
      have hB4 := NB4.blk
      refine LW.nil ?_
      refine KW.then ?_
      refine CW.seq ?_
      cases hq3 : isHoldB x with
      | false =>
        -- region 3
        refine CW.region ?_
        refine LW.p (PEv.fieldAddr (off := 0) Try.underlying23 rfl rfl Try.sizeOf3 rfl (.tmp rfl)) rfl rfl rfl ?_
        refine LW.p (PEv.load Try.isAgg3 (.tmp rfl) (hB4.celln rfl)) rfl rfl rfl ?_
        refine LW.p (PEv.eql (.tmp rfl) (.const _)) rfl rfl rfl ?_
        refine LW.p (PEv.move (.tmp rfl)) rfl rfl rfl ?_
        rw [show decide (x.Kind = 7) = false from hq3]
        refine LW.no rfl rfl rfl rfl rfl rfl rfl rfl ?_
        refine LW.no rfl rfl rfl rfl rfl rfl rfl rfl ?_
        refine LW.no rfl rfl rfl rfl rfl rfl rfl rfl ?_
        refine LW.no rfl rfl rfl rfl rfl rfl rfl rfl ?_
        refine LW.no rfl rfl rfl rfl rfl rfl rfl rfl ?_
        refine LW.no rfl rfl rfl rfl rfl rfl rfl rfl ?_
        refine LW.p (PEv.pick_and (b := false) (.tmp rfl) (fun hp => absurd (show false = true from hp) (by decide))) rfl rfl rfl ?_
        refine LW.nil ?_
        refine KW.then ?_
        refine CW.cond (.tmp rfl) (fun h24 => ?_) (fun h24 => ?_)
        · first | replace h24 := of_decide_eq_true h24 | replace h24 := of_decide_eq_false h24 | skip
          cases h24
        · first | replace h24 := of_decide_eq_true h24 | replace h24 := of_decide_eq_false h24 | skip
          refine CW.skip ?_
          refine KW.inBlock ?_
          refine KW.then ?_
          -- region 4
          refine CW.region ?_
          refine LW.p (PEv.inc (.tmp rfl) (by omega)) rfl rfl rfl ?_
          refine LW.p (PEv.move (.tmp rfl)) rfl rfl rfl ?_
          refine LW.nil ?_
          refine KW.round ?_
          first | exact ⟨k + 1, ⟨by omega, hJ2, hU, hQ⟩, ⟨rfl, rfl, rfl, rfl, rfl, trivial⟩, by omega⟩ | exact ⟨k + 1, ⟨by omega, by rw [filt_no hx hq3]; exact hJ, hU, hQ⟩, ⟨rfl, rfl, rfl, rfl, rfl, trivial⟩, by omega⟩
      | true =>
        -- region 3
        refine CW.region ?_
        refine LW.p (PEv.fieldAddr (off := 0) Try.underlying23 rfl rfl Try.sizeOf3 rfl (.tmp rfl)) rfl rfl rfl ?_
        refine LW.p (PEv.load Try.isAgg3 (.tmp rfl) (hB4.celln rfl)) rfl rfl rfl ?_
        refine LW.p (PEv.eql (.tmp rfl) (.const _)) rfl rfl rfl ?_
        refine LW.p (PEv.move (.tmp rfl)) rfl rfl rfl ?_
        rw [show decide (x.Kind = 7) = true from hq3]
        refine LW.yes rfl rfl rfl rfl rfl rfl ?_
        refine LW.p (PEv.move (.tmp rfl)) rfl rfl rfl ?_
        refine LW.yes rfl rfl rfl rfl rfl rfl ?_
        refine LW.p (PEv.loadA Try.isAgg23 Try.sizeOf23 rfl (.tmp rfl) (hB4.agg)) rfl rfl rfl ?_
        refine LW.yes rfl rfl rfl rfl rfl rfl ?_
        refine LW.p (PEv.load Try.isAgg43 (.tmp rfl) (hQ.celln rfl)) rfl rfl rfl ?_
        refine LW.yes rfl rfl rfl rfl rfl rfl ?_
        refine LW.p (PEv.build (cs := holdCells x ⟨Bb, 0, none⟩) Try.underlying45 Try.zeroValue45 Try.places45 (.cons (.tmp rfl) (.cons (.tmp rfl) .nil)) (fill_hold _ _ rfl)) rfl rfl rfl ?_
        refine LW.yes rfl rfl rfl rfl rfl rfl ?_
        refine LW.y (.tmp rfl) (.cons (.tmp rfl) .nil) rfl rfl (hY _ x _ hJ (filt_lt hx hq3)) ?_
        rintro _ w4 ⟨y, rfl, hcase⟩
        refine LW.yes rfl rfl rfl rfl rfl rfl ?_
        refine LW.p (PEv.not (.tmp rfl)) rfl rfl rfl ?_
        refine LW.p (PEv.pick_and (.tmp rfl) (fun hp => (by first | exact .const _ | exact .tmp rfl | exact .cond rfl (by first | assumption | simp_all)))) rfl rfl rfl ?_
        refine LW.nil ?_
        refine KW.then ?_
        refine CW.cond (.tmp rfl) (fun h24 => ?_) (fun h24 => ?_)
        · first | replace h24 := of_decide_eq_true h24 | replace h24 := of_decide_eq_false h24 | skip
          have hy : y = false := by simpa using h24
          subst hy
          obtain ⟨_, hJx⟩ := hcase.resolve_left (by simp)
          refine CW.ret ?_
          refine KW.block_ret ?_
          refine KW.then_ret ?_
          refine KW.then_ret ?_
          refine KW.block_ret ?_
          refine KW.ret0 rfl ⟨_, rfl, ?_⟩
          first | exact .inl ⟨_, rfl, by rw [hkk, List.take_length] at hJ; exact hJ.j⟩ | exact .inr ⟨_, by rw [← filt_yes hx hq3]; exact filt_prefix _ _ _, hJx⟩
        · first | replace h24 := of_decide_eq_true h24 | replace h24 := of_decide_eq_false h24 | skip
          have hy : y = true := by simpa using h24
          subst hy
          obtain ⟨_, hJ2, hN⟩ := hcase.resolve_right (by simp)
          replace hU := hU.kx hN hX hYY z1
          replace hQ := hQ.kx hN hQX
          rw [← filt_yes hx hq3] at hJ2
          refine CW.skip ?_
          refine KW.inBlock ?_
          refine KW.then ?_
          -- region 4
          refine CW.region ?_
          refine LW.p (PEv.inc (.tmp rfl) (by omega)) rfl rfl rfl ?_
          refine LW.p (PEv.move (.tmp rfl)) rfl rfl rfl ?_
          refine LW.nil ?_
          refine KW.round ?_
          first | exact ⟨k + 1, ⟨by omega, hJ2, hU, hQ⟩, ⟨rfl, rfl, rfl, rfl, rfl, trivial⟩, by omega⟩ | exact ⟨k + 1, ⟨by omega, by rw [filt_no hx hq3]; exact hJ, hU, hQ⟩, ⟨rfl, rfl, rfl, rfl, rfl, trivial⟩, by omega⟩
    · first | replace h11 := of_decide_eq_true h11 | replace h11 := of_decide_eq_false h11 | skip
      have hkk : k = b.Holds.length := by omega
      refine CW.exit ?_
      refine KW.then_exit ?_
      refine KW.then_exit ?_
      refine KW.block_hit ?_
      refine KW.end0 rfl ⟨_, rfl, ?_⟩
      first | exact .inl ⟨_, rfl, by rw [hkk, List.take_length] at hJ; exact hJ.j⟩ | exact .inr ⟨_, by rw [← filt_yes hx hq3]; exact filt_prefix _ _ _, hJx⟩

end Go.Proofs.Ytdkfjllchhoojaa
