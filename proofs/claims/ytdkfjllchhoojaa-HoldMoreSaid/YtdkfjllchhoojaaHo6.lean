import Derived.Test.YtdkfjllchhoojaaHo5
namespace Go.Wx

theorem take_eq_step {xs ys : List Int} {k : Nat} {x y : Int} (h : xs.take k = ys.take k) (hx : xs[k]? = some x) (hy : ys[k]? = some y) (e : x = y) : xs.take (k + 1) = ys.take (k + 1) := by rw [take_succ_of hx, take_succ_of hy, h, e]
theorem ne_of_at {xs ys : List Int} {k : Nat} {x y : Int} (hx : xs[k]? = some x) (hy : ys[k]? = some y) (e : ¬ x = y) : ¬ xs = ys := fun h => e (by subst h; rw [hx] at hy; cases hy; rfl)

end Go.Wx
namespace Go.Proofs.Ytdkfjllchhoojaa
open Go.Wx Go.RowKit
theorem sameInts_any (v1 v2 : Value) (xs ys : List Int) (w : World) (h1 : Sl w v1 1 eInt xs) (h2 : Sl w v2 1 eInt ys) (hx0 : xs.length ≤ 1000000000) (hy0 : ys.length ≤ 1000000000) : Ret Try.prog 14 #[v1, v2] w fun r w' => r = .bool (decide (xs = ys)) ∧ Up w w' := by
  have hW := Up.refl w
  obtain ⟨w0, rfl⟩ : ∃ w0, w0 = w := ⟨_, rfl⟩
  obtain ⟨ad, cp, rfl, hE1⟩ := h1
  obtain ⟨ad', cp', rfl, hE2⟩ := h2
  refine Calls_start (n := 26) (m := 9) Try.func14 rfl rfl rfl ?_
  refine CW.seq ?_
  -- region 0
  refine CW.region ?_
  refine LW.p (PEv.assign (.const _)) rfl rfl rfl ?_
  refine LW.nil ?_
  refine KW.then ?_
  refine CW.seq ?_
  refine CW.seq ?_
  -- region 1
  refine CW.region ?_
  refine LW.p (PEv.move (.tmp rfl)) rfl rfl rfl ?_
  refine LW.p (PEv.lenS Try.underlying35 (.tmp rfl)) rfl rfl rfl ?_
  refine LW.p (PEv.move (.tmp rfl)) rfl rfl rfl ?_
  refine LW.p (PEv.lenS Try.underlying35 (.tmp rfl)) rfl rfl rfl ?_
  refine LW.p (PEv.neq (.tmp rfl) (.tmp rfl)) rfl rfl rfl ?_
  refine LW.nil ?_
  refine KW.then ?_
  refine CW.cond (.tmp rfl) (fun h10 => ?_) (fun h10 => ?_)
  · first | replace h10 := of_decide_eq_true h10 | replace h10 := of_decide_eq_false h10 | skip
    have hr : decide (xs = ys) = false := decide_eq_false (fun h => by subst h; simp at h10)
    refine CW.seq ?_
    -- region 2
    refine CW.region ?_
    refine LW.p (PEv.assign (.const _)) rfl rfl rfl ?_
    refine LW.nil ?_
    refine KW.then ?_
    refine CW.ret ?_
    refine KW.then_ret ?_
    refine KW.ret1 rfl rfl ⟨_, rfl, ?_⟩
    exact ⟨by rw [hr], hW⟩
  · first | replace h10 := of_decide_eq_true h10 | replace h10 := of_decide_eq_false h10 | skip
    have hlen : xs.length = ys.length := Int.ofNat.inj (show Int.ofNat _ = Int.ofNat _ from (by simpa using h10 : (xs.length : Int) = ys.length))
    refine CW.skip ?_
    refine KW.then ?_
    refine CW.seq ?_
    refine CW.seq ?_
    -- region 3
    refine CW.region ?_
    refine LW.p (PEv.assign (.const _)) rfl rfl rfl ?_
    refine LW.nil ?_
    refine KW.then ?_
    refine CW.block ?_
    refine CW.loop (σ := Nat) (fun s w => (s ≤ xs.length ∧ xs.take s = ys.take s) ∧ Els w ad 1 eInt xs ∧ Els w ad' 1 eInt ys ∧ Up w0 w) (fun s => [(0, .eq (.slice ad xs.length cp)), (1, .eq (.slice ad' ys.length cp')), (5, .eq (vi (s : Int)))]) (fun s => xs.length - s) 0 ?_ ?_ ?_
    · exact ⟨⟨Nat.zero_le _, rfl⟩, hE1, hE2, hW⟩
    · exact ⟨rfl, rfl, rfl, trivial⟩
    · rintro k w1 ⟨⟨hk, hT⟩, hE1, hE2, hW⟩
      refine CW.seq ?_
      refine CW.seq ?_
      -- region 4
      refine CW.region ?_
      refine LW.p (PEv.move (.tmp rfl)) rfl rfl rfl ?_
      refine LW.p (PEv.move (.tmp rfl)) rfl rfl rfl ?_
      refine LW.p (PEv.lenS Try.underlying35 (.tmp rfl)) rfl rfl rfl ?_
      refine LW.p (PEv.lss (.tmp rfl) (.tmp rfl)) rfl rfl rfl ?_
      refine LW.nil ?_
      refine KW.then ?_
      refine CW.cond (.tmp rfl) (fun h14 => ?_) (fun h14 => ?_)
      · first | replace h14 := of_decide_eq_true h14 | replace h14 := of_decide_eq_false h14 | skip
        refine CW.skip ?_
        refine KW.then ?_
        refine CW.seq ?_
        refine CW.block ?_
        refine CW.seq ?_
        obtain ⟨x, hx⟩ := getElem?_of_lt (xs := xs) (i := k) (by omega)
        obtain ⟨y, hy⟩ := getElem?_of_lt (xs := ys) (i := k) (by omega)
        obtain ⟨B, o, had, hcell⟩ := hE1 k x hx
        obtain ⟨B', o', had', hcell'⟩ := hE2 k y hy
        -- region 6 draws its order
        refine CW.draws (by kernel_rfl) (by kernel_rfl) rfl rfl ?_
        refine HW.p (PEv.move (.tmp rfl)) rfl rfl ?_
        refine HW.p (PEv.move (.tmp rfl)) rfl rfl ?_
        refine HW.p (PEv.indexAddr' Try.underlying35 Try.sizeOf3 (.tmp rfl) (.tmp rfl) (by omega) had) rfl rfl ?_
        refine HW.p (PEv.load Try.isAgg3 (.tmp rfl) (hcell.nth (j := 0) rfl)) rfl rfl ?_
        refine HW.p (PEv.move (.tmp rfl)) rfl rfl ?_
        refine HW.p (PEv.move (.tmp rfl)) rfl rfl ?_
        refine HW.p (PEv.indexAddr' Try.underlying35 Try.sizeOf3 (.tmp rfl) (.tmp rfl) (by omega) had') rfl rfl ?_
        refine HW.p (PEv.load Try.isAgg3 (.tmp rfl) (hcell'.nth (j := 0) rfl)) rfl rfl ?_
        refine HW.p (PEv.neq (.tmp rfl) (.tmp rfl)) rfl rfl ?_
        refine HW.nil ?_
        intro w2 uw2
        have zw2 := uw2.size
        replace hE1 := hE1.up uw2
        replace hE2 := hE2.up uw2
        replace hW := hW.up uw2
        refine KW.then ?_
        refine CW.cond (.tmp rfl) (fun h25 => ?_) (fun h25 => ?_)
        · first | replace h25 := of_decide_eq_true h25 | replace h25 := of_decide_eq_false h25 | skip
          have hr : decide (xs = ys) = false := decide_eq_false (ne_of_at hx hy (by simpa using h25))
          refine CW.seq ?_
          -- region 7
          refine CW.region ?_
          refine LW.p (PEv.assign (.const _)) rfl rfl rfl ?_
          refine LW.nil ?_
          refine KW.then ?_
          refine CW.ret ?_
          refine KW.block_ret ?_
          refine KW.then_ret ?_
          refine KW.then_ret ?_
          refine KW.block_ret ?_
          refine KW.then_ret ?_
          refine KW.ret1 rfl rfl ⟨_, rfl, ?_⟩
          exact ⟨by rw [hr], hW⟩
        · first | replace h25 := of_decide_eq_true h25 | replace h25 := of_decide_eq_false h25 | skip
          refine CW.skip ?_
          refine KW.inBlock ?_
          refine KW.then ?_
          -- region 5
          refine CW.region ?_
          refine LW.p (PEv.move (.tmp rfl)) rfl rfl rfl ?_
          refine LW.p (PEv.inc (.tmp rfl) (by omega)) rfl rfl rfl ?_
          refine LW.p (PEv.assign (.tmp rfl)) rfl rfl rfl ?_
          refine LW.nil ?_
          refine KW.round ?_
          exact ⟨k + 1, ⟨⟨by omega, take_eq_step hT hx hy (by simpa using h25)⟩, hE1, hE2, hW⟩, ⟨rfl, rfl, rfl, trivial⟩, by omega⟩
      · first | replace h14 := of_decide_eq_true h14 | replace h14 := of_decide_eq_false h14 | skip
        have hr : decide (xs = ys) = true := decide_eq_true (by have := hT; rw [show k = xs.length by omega, List.take_length, hlen, List.take_length] at this; exact this)
        refine CW.exit ?_
        refine KW.then_exit ?_
        refine KW.then_exit ?_
        refine KW.block_hit ?_
        refine KW.then ?_
        refine CW.seq ?_
        -- region 8
        refine CW.region ?_
        refine LW.p (PEv.assign (.const _)) rfl rfl rfl ?_
        refine LW.nil ?_
        refine KW.then ?_
        refine CW.ret ?_
        refine KW.ret1 rfl rfl ⟨_, rfl, ?_⟩
        exact ⟨by rw [hr], hW⟩

end Go.Proofs.Ytdkfjllchhoojaa
