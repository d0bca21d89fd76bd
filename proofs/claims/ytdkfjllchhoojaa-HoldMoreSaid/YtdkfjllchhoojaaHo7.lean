import Derived.Test.YtdkfjllchhoojaaHo6
namespace Go.Wx

def pickI (c n : Int) : Int := (if c < 0 then IntKind.i64.wrap (-(IntKind.i64.wrap (c + 1))) else c).tmod n
def heldH : Fact := ⟨7, 4, 1, 0, false, 0, 100, 0, 0, 0, 0, 3, 0, 0, 0, 0, 0, 5, ByteArray.empty⟩
def heldR1 : Fact := ⟨8, 0, 1, 0, false, 20, 0, 0, 4, 0, 0, 0, 0, 0, 0, 0, 0, 1, ByteArray.empty⟩
def heldR2 : Fact := ⟨8, 0, 1, 0, false, 50, 0, 0, 4, 0, 0, 0, 0, 0, 0, 0, 0, 4, ByteArray.empty⟩
def heldB : Base := ⟨[], [], [], [], [], [], [heldH], [heldR1, heldR2], [], [], []⟩
def actA : GAct := ⟨1, 0, 2, 1, 1, 1, 30⟩
def actO : GAct := ⟨1, 0, 3, 1, 1, 1, 30⟩
def actL : GAct := ⟨1, 0, 2, 1, 1, 1, 50⟩
theorem sane_p10 : partiesOf heldB.Releases 4 10 = 0 := by decide
theorem sane_p20 : partiesOf heldB.Releases 4 20 = 1 := by decide
theorem sane_p50 : partiesOf heldB.Releases 4 50 = 5 := by decide
theorem sane_r10 : releasedB heldB 4 10 = false := by decide
theorem sane_r20 : releasedB heldB 4 20 = false := by decide
theorem sane_r50 : releasedB heldB 4 50 = true := by decide
theorem sane_nA : namesB heldH heldB.Lots actA = true := by decide
theorem sane_nO : namesB heldH heldB.Lots actO = false := by decide
theorem sane_kA : stopKs heldB actA (heldB.Holds.filter isHoldB) = [4] := by decide
theorem sane_kO : stopKs heldB actO (heldB.Holds.filter isHoldB) = [] := by decide
theorem sane_kL : stopKs heldB actL (heldB.Holds.filter isHoldB) = [] := by decide
theorem sane_sA : stopsOf heldB actA = [4] := by unfold stopsOf; rw [sane_kA]; simp
theorem sane_sO : stopsOf heldB actO = [] := by unfold stopsOf; rw [sane_kO]; simp
theorem sane_sL : stopsOf heldB actL = [] := by unfold stopsOf; rw [sane_kL]; simp

end Go.Wx
namespace Go.Proofs.Ytdkfjllchhoojaa
open Go.Wx Go.RowKit
theorem pick_any (c n : Int) (w : World) (hn : n ≠ 0) : Ret Try.prog 7 #[vi c, vi n] w fun r w' => r = vi (pickI c n) ∧ Up w w' := by
  have hW := Up.refl w
  refine Calls_start (n := 13) (m := 9) Try.func7 rfl rfl rfl ?_
  refine CW.seq ?_
  -- region 0
  refine CW.region ?_
  refine LW.p (PEv.assign (.const _)) rfl rfl rfl ?_
  refine LW.nil ?_
  refine KW.then ?_
  refine CW.seq ?_
  refine CW.seq ?_
  -- region 1
  refine CW.region ?_
  refine LW.p (PEv.move (.tmp rfl)) rfl rfl rfl ?_
  refine LW.p (PEv.lss (.tmp rfl) (.const _)) rfl rfl rfl ?_
  refine LW.nil ?_
  refine KW.then ?_
  refine CW.cond (.tmp rfl) (fun h6 => ?_) (fun h6 => ?_)
  · first | replace h6 := of_decide_eq_true h6 | replace h6 := of_decide_eq_false h6 | skip
    -- region 2
    refine CW.region ?_
    refine LW.p (PEv.move (.tmp rfl)) rfl rfl rfl ?_
    refine LW.p (PEv.add_w (.tmp rfl) (.const _)) rfl rfl rfl ?_
    refine LW.p (PEv.neg Try.underlying3 (.tmp rfl)) rfl rfl rfl ?_
    refine LW.p (PEv.assign (.tmp rfl)) rfl rfl rfl ?_
    refine LW.nil ?_
    refine KW.then ?_
    refine CW.seq ?_
    -- region 3
    refine CW.region ?_
    refine LW.p (PEv.move (.tmp rfl)) rfl rfl rfl ?_
    refine LW.p (PEv.move (.tmp rfl)) rfl rfl rfl ?_
    refine LW.p (PEv.rem (.tmp rfl) (.tmp rfl) (by omega)) rfl rfl rfl ?_
    refine LW.p (PEv.assign (.tmp rfl)) rfl rfl rfl ?_
    refine LW.nil ?_
    refine KW.then ?_
    refine CW.ret ?_
    refine KW.ret1 rfl rfl ⟨_, rfl, ?_⟩
    exact ⟨by first | (rw [pickI, if_pos h6]) | (rw [pickI, if_neg (by omega)]), hW⟩
  · first | replace h6 := of_decide_eq_true h6 | replace h6 := of_decide_eq_false h6 | skip
    refine CW.skip ?_
    refine KW.then ?_
    refine CW.seq ?_
    -- region 3
    refine CW.region ?_
    refine LW.p (PEv.move (.tmp rfl)) rfl rfl rfl ?_
    refine LW.p (PEv.move (.tmp rfl)) rfl rfl rfl ?_
    refine LW.p (PEv.rem (.tmp rfl) (.tmp rfl) (by omega)) rfl rfl rfl ?_
    refine LW.p (PEv.assign (.tmp rfl)) rfl rfl rfl ?_
    refine LW.nil ?_
    refine KW.then ?_
    refine CW.ret ?_
    refine KW.ret1 rfl rfl ⟨_, rfl, ?_⟩
    exact ⟨by first | (rw [pickI, if_pos h6]) | (rw [pickI, if_neg (by omega)]), hW⟩

theorem held_any (w : World) : Ret Try.prog 12 #[] w fun r w' => (∃ bc, r = .agg bc ∧ BaseC w' bc heldB) ∧ Up w w' := by
  have hW := Up.refl w
  refine Calls_start (n := 7) (m := 9) Try.func12 rfl rfl rfl ?_
  refine CW.seq ?_
  -- region 0
  refine CW.region ?_
  refine LW.r (REv.allocA Try.zeroValue29) rfl rfl rfl rfl ?_
  rintro _ w1 ⟨B0, rfl, NB0⟩
  have eB0 := NB0.at_
  have zB0 := NB0.size
  replace hW := hW.up NB0.up
  have hB0 := NB0.blk
  refine LW.nil ?_
  refine KW.then ?_
  refine CW.seq ?_
  -- region 1
  refine CW.region ?_
  refine LW.p (PEv.build (cs := heldH.cells) Try.underlying23 Try.zeroValue23 Try.places23 (.cons (.const _) (.cons (.const _) (.cons (.const _) (.cons (.const _) (.cons (.const _) (.cons (.const _) .nil)))))) rfl) rfl rfl rfl ?_
  refine LW.r (REv.buildSlice (xs := [heldH]) (enc := Fact.cells) (mk := fun f => .agg f.cells) Try.underlying27 Try.sizeOf23 Try.zeroValue23 rfl (by decide) (fun _ => rfl) (fun _ => rfl) (.cons (.tmp rfl) .nil) rfl) rfl rfl rfl rfl ?_
  rintro _ w2 ⟨B2, cB2, rfl, NB2, yB2, xB2⟩
  have eB2 := NB2.at_
  have zB2 := NB2.size
  replace hW := hW.up NB2.up
  replace hB0 := hB0.up NB2.up
  have hB2 := NB2.blk
  have hE2 := xB2
  refine LW.p (PEv.build (cs := heldR1.cells) Try.underlying23 Try.zeroValue23 Try.places23 (.cons (.const _) (.cons (.const _) (.cons (.const _) (.cons (.const _) (.cons (.const _) .nil))))) rfl) rfl rfl rfl ?_
  refine LW.p (PEv.build (cs := heldR2.cells) Try.underlying23 Try.zeroValue23 Try.places23 (.cons (.const _) (.cons (.const _) (.cons (.const _) (.cons (.const _) (.cons (.const _) .nil))))) rfl) rfl rfl rfl ?_
  refine LW.r (REv.buildSlice (xs := [heldR1, heldR2]) (enc := Fact.cells) (mk := fun f => .agg f.cells) Try.underlying27 Try.sizeOf23 Try.zeroValue23 rfl (by decide) (fun _ => rfl) (fun _ => rfl) (.cons (.tmp rfl) (.cons (.tmp rfl) .nil)) rfl) rfl rfl rfl rfl ?_
  rintro _ w3 ⟨B5, cB5, rfl, NB5, yB5, xB5⟩
  have eB5 := NB5.at_
  have zB5 := NB5.size
  replace hW := hW.up NB5.up
  replace hB0 := hB0.up NB5.up
  replace hB2 := hB2.up NB5.up
  replace hE2 := hE2.up NB5.up
  have hB5 := NB5.blk
  have hE5 := xB5
  refine LW.p (PEv.build (cs := #[.slice none 0 0, .slice none 0 0, .slice none 0 0, .slice none 0 0, .slice none 0 0, .slice none 0 0, .slice (some ⟨B2, 0, none⟩) 1 1, .slice (some ⟨B5, 0, none⟩) 2 2, .slice none 0 0, .slice none 0 0, .slice none 0 0]) Try.underlying29 Try.zeroValue29 Try.places29 (.cons (.tmp rfl) (.cons (.tmp rfl) .nil)) rfl) rfl rfl rfl ?_
  refine LW.s (SEv.storeA Try.sizeOf29 rfl (.tmp rfl) (.tmp rfl) (by first | rfl | exact Fact.one _ | exact GAct.one _ | exact holdCells_one _ _ | exact hold0_one | (simp [Value.oneCell'])) hB0 rfl) rfl rfl rfl ?_
  intro w4 Nw4
  have zw4 := Nw4.size
  replace hW := hW.sto Nw4.sto (by omega)
  replace hB2 := hB2.sto Nw4.sto (by omega)
  replace hE2 := hE2.sto Nw4.sto (by omega)
  replace hB5 := hB5.sto Nw4.sto (by omega)
  replace hE5 := hE5.sto Nw4.sto (by omega)
  replace hB0 := Nw4.blk
  refine LW.nil ?_
  refine KW.then ?_
  refine CW.ret ?_
  refine KW.retA rfl rfl Try.isAgg29 Try.sizeOf29 rfl (hB0.agg) ⟨_, rfl, ?_⟩
  exact ⟨⟨_, rfl, _, _, _, _, _, _, _, _, _, _, _, rfl, Sl.nil _ _ _, Sl.nil _ _ _, Sl.nil _ _ _, Sl.nil _ _ _, Sl.nil _ _ _, Sl.nil _ _ _, Sl.of_els hE2, Sl.of_els hE5, Sl.nil _ _ _, Sl.nil _ _ _, Sl.nil _ _ _⟩, hW⟩

end Go.Proofs.Ytdkfjllchhoojaa
