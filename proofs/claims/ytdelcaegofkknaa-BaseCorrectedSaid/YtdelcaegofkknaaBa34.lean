import Derived.Test.YtdelcaegofkknaaBa33
namespace Go.Wx

def allN (b : Base) : Nat → List Fact
  | 0 => []
  | k + 1 => allN b k ++ lstOf b k
theorem allN_len {b : Base} (h : short b) : ∀ k, (allN b k).length ≤ k * 100000
  | 0 => Nat.le_refl _
  | k + 1 => by
    have h1 := allN_len h k
    have h2 := h k
    rw [allN, List.length_append]; omega

end Go.Wx
namespace Go.Proofs.Ytdelcaegofkknaa
open Go.Wx Go.RowKit
theorem All_any (bc : Array Go.Value) (b : Base) (w : World) (hC : BaseC w bc b) (hsh : short b) : Ret Try.prog 15 #[.agg bc] w fun r w' => OwnS w' 0 28 19 Fact.cells r (allN b 11) ∧ Up w w' := by
  have hW := Up.refl w
  obtain ⟨w0, rfl⟩ : ∃ w0, w0 = w := ⟨_, rfl⟩
  refine Calls_start (n := 21) (m := 9) Try.func15 rfl rfl rfl ?_
  refine CW.seq ?_
  -- region 0
  refine CW.region ?_
  refine LW.r (REv.boxA (.tmp rfl)) rfl rfl rfl rfl ?_
  rintro _ w1 ⟨B1, rfl, NB1⟩
  have eB1 := NB1.at_
  have zB1 := NB1.size
  replace hW := hW.up NB1.up
  have hB1 := NB1.blk
  refine LW.p (PEv.assign (.const _)) rfl rfl rfl ?_
  refine LW.nil ?_
  refine KW.then ?_
  refine CW.seq ?_
  -- region 1
  refine CW.region ?_
  refine LW.p (PEv.assign (.const _)) rfl rfl rfl ?_
  refine LW.nil ?_
  refine KW.then ?_
  refine CW.seq ?_
  -- region 2
  refine CW.region ?_
  refine LW.p (PEv.loadA Try.isAgg31 Try.sizeOf31 (hC.size) (.tmp rfl) (hB1.agg)) rfl rfl rfl ?_
  refine LW.c (enter_call0 (.cons (.tmp rfl) .nil) (Try.en17)) rfl rfl rfl rfl (Lists_any bc b _ (hC.up hW)) ?_
  rintro _ w2 ⟨ads, cps, ss, rfl, hEs, hL, uw2⟩
  have zw2 := uw2.size
  replace hW := hW.up uw2
  replace hB1 := hB1.up uw2
  have hss := hL.1
  have hWL := hW
  refine LW.p (PEv.assign (.tmp rfl)) rfl rfl rfl ?_
  refine LW.nil ?_
  refine KW.then ?_
  refine CW.seq ?_
  refine CW.seq ?_
  have hS := (Sep.start no w2).add (Up.refl _) (A' := aOwn 28 19 Fact.cells (.slice none 0 0) ([] : List Fact)) (OwnS.nil _ _ _ _ _) (fun i h => by cases h)
  change Wx.Sep _ _ _ [_] at hS
  -- region 3
  refine CW.region ?_
  refine LW.p (PEv.assign (.const _)) rfl rfl rfl ?_
  refine LW.nil ?_
  refine KW.then ?_
  refine CW.block ?_
  refine CW.loopB (σ := Nat × Go.Value) (fun s w => (s.1 ≤ 11) ∧ (Wx.Sep no w2 w [aOwn 28 19 Fact.cells s.2 (allN b s.1)]) ∧ (Up w2 w)) (fun s => [(5, .eq (vi (s.1 : Int))), (3, .eq (s.2))]) ([(2, .eq _), (4, .eq _)]) (fun s => ss.length - s.1) (0, .slice none 0 0) ?_ ⟨rfl, rfl, rfl, rfl, trivial⟩ ?_
  · exact ⟨Nat.zero_le _, hS, hS.upd⟩
  · rintro ⟨k, v⟩ w3 ⟨hk, hS, hUL⟩
    dsimp only at hk hS
    change CW _ _ _ _ _ _ _ ([(5, .eq (vi (k : Int))), (3, .eq (v))] ++ _) _
    refine CW.seq ?_
    refine CW.seq ?_
    -- region 4
    refine CW.region ?_
    refine LW.p (PEv.move (.tmp rfl)) rfl rfl rfl ?_
    refine LW.p (PEv.move (.tmp rfl)) rfl rfl rfl ?_
    refine LW.p (PEv.lenS Try.underlying39 (.tmp rfl)) rfl rfl rfl ?_
    refine LW.p (PEv.lss (.tmp rfl) (.tmp rfl)) rfl rfl rfl ?_
    refine LW.nil ?_
    refine KW.then ?_
    refine CW.cond (.tmp rfl) (fun h11 => ?_) (fun h11 => ?_)
    · first | replace h11 := of_decide_eq_true h11 | replace h11 := of_decide_eq_false h11 | skip
      refine CW.skip ?_
      refine KW.then ?_
      refine CW.seq ?_
      refine CW.block ?_
      have hk11 : k < 11 := by omega
      obtain ⟨⟨a1, n1, c1⟩, hs1, hn1, hx1⟩ := (hL.up hUL).2 k hk11
      dsimp only at hn1 hx1
      subst hn1
      obtain ⟨Bs, os_, as_, hcs⟩ := (Els.up hEs hUL) k _ hs1
      have hal := allN_len hsh k
      have hll := hsh k
      -- region 6
      refine CW.region ?_
      refine LW.p (PEv.move (.tmp rfl)) rfl rfl rfl ?_
      refine LW.p (PEv.move (.tmp rfl)) rfl rfl rfl ?_
      refine LW.p (PEv.move (.tmp rfl)) rfl rfl rfl ?_
      refine LW.p (PEv.indexAddr' Try.underlying39 Try.sizeOf22 (.tmp rfl) (.tmp rfl) (by omega) as_) rfl rfl rfl ?_
      refine LW.p (PEv.val (v' := .slice a1 (lstOf b k).length c1) (PEv.load Try.isAgg22 (.tmp rfl) (hcs.nth (j := 0) rfl)) rfl) rfl rfl rfl ?_
      refine LW.r (REv.appendF (enc := Fact.cells) (bytes := 160) (i := Try.t28) Try.underlying22 (by kernel_rfl) rfl rfl rfl rfl (by decide) (fun _ => rfl) Fact.one (.tmp rfl) (.tmp rfl) (hS.own 0 rfl) ⟨a1, c1, rfl, hx1⟩ (by simp only [maxLen]; omega) (by omega)) rfl rfl rfl rfl ?_
      intro v19 w4 Gw4
      have zw4 := Gw4.fr.size
      replace hS := hS.stp 0 rfl Gw4
      change Wx.Sep _ _ _ [_] at hS
      refine LW.p (PEv.assign (.tmp rfl)) rfl rfl rfl ?_
      refine LW.nil ?_
      refine KW.inBlock ?_
      refine KW.then ?_
      -- region 5
      refine CW.region ?_
      refine LW.p (PEv.move (.tmp rfl)) rfl rfl rfl ?_
      refine LW.p (PEv.inc (.tmp rfl) (by omega)) rfl rfl rfl ?_
      refine LW.p (PEv.assign (.tmp rfl)) rfl rfl rfl ?_
      refine LW.nil ?_
      refine KW.round ?_
      exact ⟨(k + 1, v19), ⟨by show k + 1 ≤ 11; omega, hS, hS.upd⟩, ⟨rfl, rfl, rfl, rfl, trivial⟩, by show ss.length - (k + 1) < ss.length - k; omega⟩
    · first | replace h11 := of_decide_eq_true h11 | replace h11 := of_decide_eq_false h11 | skip
      refine CW.exit ?_
      refine KW.then_exit ?_
      refine KW.then_exit ?_
      refine KW.block_hit ?_
      refine KW.then ?_
      refine CW.seq ?_
      -- region 7
      refine CW.region ?_
      refine LW.p (PEv.move (.tmp rfl)) rfl rfl rfl ?_
      refine LW.p (PEv.assign (.tmp rfl)) rfl rfl rfl ?_
      refine LW.nil ?_
      refine KW.then ?_
      refine CW.ret ?_
      refine KW.ret1 rfl rfl ⟨_, rfl, ?_⟩
      have hke : k = 11 := by omega
      rw [hke] at hS
      exact ⟨hS.own 0 rfl, hWL.trans hUL⟩

end Go.Proofs.Ytdelcaegofkknaa
