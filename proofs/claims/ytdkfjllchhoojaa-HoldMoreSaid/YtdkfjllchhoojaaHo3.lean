import Derived.Test.YtdkfjllchhoojaaHo2
namespace Go.Wx

def findB (l : List Fact) (id : Int) : Option Fact := (l.filter isHoldB).find? fun f => decide (f.ID = id)
def foundCells (p : Addr) : Option Fact → Array Go.Value
  | some f => holdCells f p
  | none => hold0
def releasedB (b : Base) (id t : Int) : Bool := match findB b.Holds id with | none => false | some f => overB f b.Releases t
theorem find_prefix {α : Type} {p : α → Bool} {xs ys : List α} {y : α} (h : xs <+: ys) (hf : xs.find? p = some y) : ys.find? p = some y := by
  obtain ⟨t, rfl⟩ := h; rw [List.find?_append, hf]; rfl

end Go.Wx
namespace Go.Proofs.Ytdkfjllchhoojaa
open Go.Wx Go.RowKit
theorem find_any (Bb : Nat) (bc : Array Go.Value) (b : Base) (id : Int) (w : World) (hb : Blk w Bb bc 29) (hC : BaseC w bc b) (hlen : b.Holds.length < 9223372036854775807) : Ret Try.prog 20 #[.pointer (some ⟨Bb, 0, none⟩), vi id] w fun r w' => r = .tuple #[.agg (foundCells ⟨Bb, 0, none⟩ (findB b.Holds id)), .bool (findB b.Holds id).isSome] ∧ Up w w' := by
  have hW := Up.refl w
  obtain ⟨w0, rfl⟩ : ∃ w0, w0 = w := ⟨_, rfl⟩
  refine Calls_startM (n := 17) Try.func20 rfl rfl rfl ?_
  refine CW.seq ?_
  -- region 0
  refine CW.region ?_
  refine LW.r (REv.box1 (.tmp rfl) rfl) rfl rfl rfl rfl ?_
  rintro _ w1 ⟨B3, rfl, NB3⟩
  have eB3 := NB3.at_
  have zB3 := NB3.size
  replace hb := hb.up NB3.up
  replace hC := hC.up NB3.up
  replace hW := hW.up NB3.up
  have hB3 := NB3.blk
  refine LW.r (REv.allocA Try.zeroValue45) rfl rfl rfl rfl ?_
  rintro _ w2 ⟨B4, rfl, NB4⟩
  have eB4 := NB4.at_
  have zB4 := NB4.size
  replace hb := hb.up NB4.up
  replace hC := hC.up NB4.up
  replace hW := hW.up NB4.up
  replace hB3 := hB3.up NB4.up
  have hB4 := NB4.blk
  refine LW.r (REv.alloc1 Try.zeroValue4 rfl) rfl rfl rfl rfl ?_
  rintro _ w3 ⟨B5, rfl, NB5⟩
  have eB5 := NB5.at_
  have zB5 := NB5.size
  replace hb := hb.up NB5.up
  replace hC := hC.up NB5.up
  replace hW := hW.up NB5.up
  replace hB3 := hB3.up NB5.up
  replace hB4 := hB4.up NB5.up
  have hB5 := NB5.blk
  refine LW.nil ?_
  refine KW.then ?_
  refine CW.seq ?_
  refine CW.seq ?_
  -- region 1
  refine CW.region ?_
  refine LW.p (PEv.move (.tmp rfl)) rfl rfl rfl ?_
  refine LW.c (enter_call0 (.cons (.tmp rfl) .nil) (Try.en16)) rfl rfl rfl rfl (all_any _ _) ?_
  rintro _ w4 ⟨⟨BA, rfl, hA, zA⟩, uw4⟩
  have zw4 := uw4.size
  replace hb := hb.up uw4
  replace hC := hC.up uw4
  replace hW := hW.up uw4
  replace hB3 := hB3.up uw4
  replace hB4 := hB4.up uw4
  replace hB5 := hB5.up uw4
  refine LW.nil ?_
  refine KW.then ?_
  refine CW.block ?_
  obtain ⟨bq, hbq⟩ : ∃ bq, bq = w4.heap.size := ⟨_, rfl⟩
  refine CW.rangeFunc (fun _ => False) (fun _ => False) (fun pre W => Sz bq W ∧ (pre.find? fun f => decide (f.ID = id)) = none ∧ Blk W B3 #[vi id] 3 ∧ Blk W B4 hold0 45 ∧ Blk W B5 #[.bool false] 4 ∧ Up w0 W) (fun c pre W => Sz bq W ∧ ∃ y : Fact, c = .ret ∧ (pre.find? fun f => decide (f.ID = id)) = some y ∧ Blk W B4 (holdCells y ⟨Bb, 0, none⟩) 45 ∧ Blk W B5 #[.bool true] 4 ∧ Up w0 W) (fun x a' W => ∃ BX, Ag 17 [] ([(6, .eq (.pointer (some ⟨BX, 0, none⟩))), (3, .eq (.pointer (some ⟨B3, 0, none⟩))), (4, .eq (.pointer (some ⟨B4, 0, none⟩))), (5, .eq (.pointer (some ⟨B5, 0, none⟩)))]) a' W ∧ bq ≤ BX ∧ Blk W BX (holdCells x ⟨Bb, 0, none⟩) 45) (.tmp rfl) (fun args w => Try.en24 args w) (all_iter _ _ _ _ _ _ _ _ (Up.refl _) (fun _ h => h.elim) (fun _ h => h.elim) (fun h => h.elim) hA hb hC hlen) (fun _ => rfl) rfl ?_ ?_ ?_ ?_ ?_ ?_ ?_ ?_
  · rw [← hbq]
    intro pre W W' row hs hg hr
    obtain ⟨hZ, hp, hB3, hB4, hB5, hW⟩ := hs
    exact ⟨hZ.ko (Ko.grown hg hr), hp, hB3.ko (Ko.grown hg hr), hB4.ko (Ko.grown hg hr), hB5.ko (Ko.grown hg hr), hW.ko (Ko.grown hg hr) (by omega)⟩
  · rw [← hbq]
    intro c pre W W' row hs hg hr
    obtain ⟨hZ, y, hc, hf, hB4, hB5, hW⟩ := hs
    exact ⟨hZ.ko (Ko.grown hg hr), y, hc, hf, hB4.ko (Ko.grown hg hr), hB5.ko (Ko.grown hg hr), hW.ko (Ko.grown hg hr) (by omega)⟩
  · rw [← hbq]
    intro x a' u W W' row hs hg hr
    obtain ⟨BX, ha, hBX, hBX6⟩ := hs
    exact ⟨BX, ha.world rfl _, hBX, hBX6.ko (Ko.grown hg hr)⟩
  · exact ⟨Nat.le_of_eq hbq, rfl, hB3, hB4, hB5, hW⟩
  · rw [← hbq]
    intro lp pre x w5 K hs hk a ha
    obtain ⟨hZ, hp, hB3, hB4, hB5, hW⟩ := hs
    have zq := hZ.le
    have hK := Kf.refl bq w5
    have hN := Kx.refl bq (fun _ => False) (fun _ => False) w5
    revert a
    refine CW.assign1 (p := 9) rfl ?_
    -- region 2
    refine CW.region ?_
    refine LW.r (REv.allocA Try.zeroValue45) rfl rfl rfl rfl ?_
    rintro _ w6 ⟨B6, rfl, MB6⟩
    refine LW.s (SEv.storeA Try.sizeOf45 rfl (.tmp rfl) (.tmp rfl) (by first | rfl | exact Fact.one _ | exact GAct.one _ | exact holdCells_one _ _ | exact hold0_one | (simp [Value.oneCell'])) MB6.blk rfl) rfl rfl rfl ?_
    intro w7 LB6
    have NB6 := MB6.set LB6
    clear LB6 MB6
    have eB6 := NB6.at_
    have zB6 := NB6.size
    replace hZ := hZ.up NB6.up
    replace hB3 := hB3.up NB6.up
    replace hB4 := hB4.up NB6.up
    replace hB5 := hB5.up NB6.up
    replace hW := hW.up NB6.up
    replace hK := hK.up NB6.up
    replace hN := hN.up NB6.up
    have hB6 := NB6.blk
    refine LW.nil ?_
    exact fun a ha => hk a _ hK hN ⟨hZ, hp, hB3, hB4, hB5, hW⟩ ⟨_, ha.sub ⟨rfl, rfl, rfl, rfl, trivial⟩, by omega, hB6⟩
  · rw [← hbq]
    intro lp pre x a' w8 hs hx hlt
    obtain ⟨hZ, hp, hB3, hB4, hB5, hW⟩ := hs
    obtain ⟨BX, ha, hBX, hBX6⟩ := hx
    have zq := hZ.le
    have hK := Kf.refl bq w8
    have hN := Kx.refl bq (fun _ => False) (fun _ => False) w8
    refine (show CW (some lp) 8 _ 17 [] _ (ownPostG bq (Kx bq (fun _ => False) (fun _ => False)) _ _ (pre ++ [x]) w8) ([(6, .eq (.pointer (some ⟨BX, 0, none⟩))), (3, .eq (.pointer (some ⟨B3, 0, none⟩))), (4, .eq (.pointer (some ⟨B4, 0, none⟩))), (5, .eq (.pointer (some ⟨B5, 0, none⟩)))]) w8 from ?_) a' ha
    refine CW.block ?_
    refine CW.seq ?_
    -- region 3
    refine CW.region ?_
    refine LW.p (PEv.fieldAddr (off := 0) Try.underlying45 rfl rfl Try.sizeOf23 rfl (.tmp rfl)) rfl rfl rfl ?_
    refine LW.p (PEv.fieldAddr (off := 1) Try.underlying23 rfl rfl Try.sizeOf3 rfl (.tmp rfl)) rfl rfl rfl ?_
    refine LW.p (PEv.load Try.isAgg3 (.tmp rfl) (hBX6.celln rfl)) rfl rfl rfl ?_
    refine LW.p (PEv.load Try.isAgg3 (.tmp rfl) (hB3.celln rfl)) rfl rfl rfl ?_
    refine LW.p (PEv.eql (.tmp rfl) (.tmp rfl)) rfl rfl rfl ?_
    refine LW.nil ?_
    refine KW.then ?_
    refine CW.cond (.tmp rfl) (fun h14 => ?_) (fun h14 => ?_)
    · first | replace h14 := of_decide_eq_true h14 | replace h14 := of_decide_eq_false h14 | skip
      refine CW.seq ?_
      -- region 4
      refine CW.region ?_
      refine LW.p (PEv.loadA Try.isAgg45 Try.sizeOf45 rfl (.tmp rfl) (hBX6.agg)) rfl rfl rfl ?_
      refine LW.s (SEv.storeA Try.sizeOf45 rfl (.tmp rfl) (.tmp rfl) (by first | rfl | exact Fact.one _ | exact GAct.one _ | exact holdCells_one _ _ | exact hold0_one | (simp [Value.oneCell'])) hB4 rfl) rfl rfl rfl ?_
      intro w9 Nw9
      have zw9 := Nw9.size
      replace hZ := hZ.sto Nw9.sto (by omega)
      replace hB3 := hB3.sto Nw9.sto (by omega)
      replace hB5 := hB5.sto Nw9.sto (by omega)
      replace hW := hW.sto Nw9.sto (by omega)
      replace hBX6 := hBX6.sto Nw9.sto (by omega)
      replace hK := hK.sto Nw9.sto (.inr (.inr ⟨_, _, hB4⟩))
      replace hB4 := Nw9.blk
      refine LW.s (SEv.store Try.sizeOf4 (.tmp rfl) (.const _) rfl hB5 (Nat.le_of_ble_eq_true rfl)) rfl rfl rfl ?_
      intro w10 Nw10
      have zw10 := Nw10.size
      replace hZ := hZ.sto Nw10.sto (by omega)
      replace hB3 := hB3.sto Nw10.sto (by omega)
      replace hB4 := hB4.sto Nw10.sto (by omega)
      replace hW := hW.sto Nw10.sto (by omega)
      replace hBX6 := hBX6.sto Nw10.sto (by omega)
      replace hK := hK.sto Nw10.sto (.inr (.inr ⟨_, _, hB5⟩))
      replace hB5 := Nw10.blk
      refine LW.nil ?_
      refine KW.then ?_
      refine CW.ret ?_
      refine KW.block_ret ?_
      exact fun a ha => ⟨hK, hZ, x, rfl, by rw [List.find?_append, hp]; simp [h14], hB4, hB5, hW⟩
    · first | replace h14 := of_decide_eq_true h14 | replace h14 := of_decide_eq_false h14 | skip
      refine CW.skip ?_
      refine KW.inBlock ?_
      exact fun a ha => ⟨hK, hN, hZ, by rw [List.find?_append, hp]; simp [h14], hB3, hB4, hB5, hW⟩
  · intro D ys w11 hDb hS hs hD
    rw [← hbq] at hDb
    obtain ⟨hZ, hp, hB3, hB4, hB5, hW⟩ := hs
    replace hD : Ob w11 D (.deferred (some [])) := hD
    have zD := hD.lt
    have zq := hZ.le
    subst hS
    have hr : findB b.Holds id = none := hp
    refine KW.inBlock ?_
    refine KW.then ?_
    refine CW.seq ?_
    -- region 5
    refine CW.region ?_
    refine LW.p (PEv.build (cs := hold0) Try.underlying45 Try.zeroValue45 Try.places45 .nil rfl) rfl rfl rfl ?_
    refine LW.s (SEv.storeA Try.sizeOf45 rfl (.tmp rfl) (.tmp rfl) (by first | rfl | exact Fact.one _ | exact GAct.one _ | exact holdCells_one _ _ | exact hold0_one | (simp [Value.oneCell'])) hB4 rfl) rfl rfl rfl ?_
    intro w12 Nw12
    have zw12 := Nw12.size
    replace hZ := hZ.sto Nw12.sto (by omega)
    replace hB3 := hB3.sto Nw12.sto (by omega)
    replace hB5 := hB5.sto Nw12.sto (by omega)
    replace hW := hW.sto Nw12.sto (by omega)
    replace hD := hD.sto Nw12.sto (by omega)
    replace hB4 := Nw12.blk
    refine LW.s (SEv.store Try.sizeOf4 (.tmp rfl) (.const _) rfl hB5 (Nat.le_of_ble_eq_true rfl)) rfl rfl rfl ?_
    intro w13 Nw13
    have zw13 := Nw13.size
    replace hZ := hZ.sto Nw13.sto (by omega)
    replace hB3 := hB3.sto Nw13.sto (by omega)
    replace hB4 := hB4.sto Nw13.sto (by omega)
    replace hW := hW.sto Nw13.sto (by omega)
    replace hD := hD.sto Nw13.sto (by omega)
    replace hB5 := Nw13.blk
    refine LW.nil ?_
    refine KW.then ?_
    refine CW.ret ?_
    refine KW.unmark hD rfl ?_
    replace hZ := hZ.ko (Ko.putObj (.deferred none) hD rfl hDb)
    replace hB3 := hB3.ko (Ko.putObj (.deferred none) hD rfl hDb)
    replace hB4 := hB4.ko (Ko.putObj (.deferred none) hD rfl hDb)
    replace hB5 := hB5.ko (Ko.putObj (.deferred none) hD rfl hDb)
    replace hW := hW.putObj (D := D) (.deferred none) (by omega)
    refine KW.retAB rfl rfl rfl Try.isAgg45 Try.sizeOf45 rfl hB4.agg Try.isAgg4 (hB5.celln rfl) ⟨_, rfl, ?_⟩
    exact ⟨by rw [hr] <;> rfl, hW⟩
  · intro D c pre w14 hDb hpre hs hD
    rw [← hbq] at hDb
    obtain ⟨hZ, y, hc, hf, hB4, hB5, hW⟩ := hs
    replace hD : Ob w14 D (.deferred (some [])) := hD
    have zD := hD.lt
    have zq := hZ.le
    have hr : findB b.Holds id = some y := find_prefix hpre hf
    subst hc
    refine CW.ret ?_
    refine KW.block_ret ?_
    refine KW.then_ret ?_
    refine KW.unmark hD rfl ?_
    replace hZ := hZ.ko (Ko.putObj (.deferred none) hD rfl hDb)
    replace hB4 := hB4.ko (Ko.putObj (.deferred none) hD rfl hDb)
    replace hB5 := hB5.ko (Ko.putObj (.deferred none) hD rfl hDb)
    replace hW := hW.putObj (D := D) (.deferred none) (by omega)
    refine KW.retAB rfl rfl rfl Try.isAgg45 Try.sizeOf45 rfl hB4.agg Try.isAgg4 (hB5.celln rfl) ⟨_, rfl, ?_⟩
    exact ⟨by rw [hr] <;> rfl, hW⟩

theorem Released_any (bc : Array Go.Value) (b : Base) (id t : Int) (w : World) (hC : BaseC w bc b) (hH : b.Holds.length < 9223372036854775807) (hR : b.Releases.length < 9223372036854775807) : Ret Try.prog 13 #[.agg bc, vi id, vi t] w fun r w' => r = .tuple #[vi (partiesOf b.Releases id t), .bool (releasedB b id t)] ∧ Up w w' := by
  have hW := Up.refl w
  refine Calls_start (n := 24) (m := 9) Try.func13 rfl rfl rfl ?_
  refine CW.seq ?_
  -- region 0
  refine CW.region ?_
  refine LW.r (REv.boxA (.tmp rfl)) rfl rfl rfl rfl ?_
  rintro _ w1 ⟨B3, rfl, NB3⟩
  have eB3 := NB3.at_
  have zB3 := NB3.size
  replace hC := hC.up NB3.up
  replace hW := hW.up NB3.up
  have hB3 := NB3.blk
  refine LW.p (PEv.assign (.const _)) rfl rfl rfl ?_
  refine LW.p (PEv.assign (.const _)) rfl rfl rfl ?_
  refine LW.nil ?_
  refine KW.then ?_
  refine CW.seq ?_
  cases hq1 : findB b.Holds id with
  | none =>
    -- region 1
    refine CW.region ?_
    refine LW.p (PEv.move (.tmp rfl)) rfl rfl rfl ?_
    refine LW.c (enter_call0 (.cons (.tmp rfl) (.cons (.tmp rfl) .nil)) (Try.en20)) rfl rfl rfl rfl (find_any _ _ _ _ _ hB3 hC hH) ?_
    rintro _ w2 ⟨rfl, uw2⟩
    have zw2 := uw2.size
    replace hC := hC.up uw2
    replace hW := hW.up uw2
    replace hB3 := hB3.up uw2
    rw [hq1]
    refine LW.p (PEv.move (.tmp rfl)) rfl rfl rfl ?_
    refine LW.p (PEv.extract (.tmp rfl) rfl) rfl rfl rfl ?_
    refine LW.p (PEv.extract (.tmp rfl) rfl) rfl rfl rfl ?_
    refine LW.r (REv.allocA Try.zeroValue45) rfl rfl rfl rfl ?_
    rintro _ w3 ⟨B8, rfl, MB8⟩
    refine LW.s (SEv.storeA Try.sizeOf45 rfl (.tmp rfl) (.tmp rfl) (by first | exact hold0_one | exact holdCells_one _ _) MB8.blk rfl) rfl rfl rfl ?_
    intro w4 LB8
    have NB8 := MB8.set LB8
    clear LB8 MB8
    have eB8 := NB8.at_
    have zB8 := NB8.size
    replace hC := hC.up NB8.up
    replace hW := hW.up NB8.up
    replace hB3 := hB3.up NB8.up
    have hB8 := NB8.blk
    refine LW.p (PEv.assign (.tmp rfl)) rfl rfl rfl ?_
    refine LW.nil ?_
    refine KW.then ?_
    refine CW.seq ?_
    -- region 2
    refine CW.region ?_
    refine LW.p (PEv.move (.tmp rfl)) rfl rfl rfl ?_
    refine LW.p (PEv.move (.tmp rfl)) rfl rfl rfl ?_
    refine LW.c (enter_call0 (.cons (.tmp rfl) (.cons (.tmp rfl) (.cons (.tmp rfl) .nil))) (Try.en21)) rfl rfl rfl rfl (parties_any _ _ _ _ _ _ hB3 hC hR) ?_
    rintro _ w5 ⟨rfl, uw5⟩
    have zw5 := uw5.size
    replace hC := hC.up uw5
    replace hW := hW.up uw5
    replace hB3 := hB3.up uw5
    replace hB8 := hB8.up uw5
    refine LW.p (PEv.move (.tmp rfl)) rfl rfl rfl ?_
    refine LW.p (PEv.move (.tmp rfl)) rfl rfl rfl ?_
    refine LW.no rfl rfl rfl rfl rfl rfl rfl rfl ?_
    refine LW.no rfl rfl rfl rfl rfl rfl rfl rfl ?_
    refine LW.no rfl rfl rfl rfl rfl rfl rfl rfl ?_
    refine LW.p (PEv.pick_and (b := false) (.tmp rfl) (fun hp => absurd (show false = true from hp) (by decide))) rfl rfl rfl ?_
    refine LW.p (PEv.assign (.tmp rfl)) rfl rfl rfl ?_
    refine LW.p (PEv.assign (.tmp rfl)) rfl rfl rfl ?_
    refine LW.nil ?_
    refine KW.then ?_
    refine CW.ret ?_
    refine KW.ret2 rfl rfl rfl ⟨_, rfl, ?_⟩
    exact ⟨by simp [releasedB, hq1], hW⟩
  | some f =>
    -- region 1
    refine CW.region ?_
    refine LW.p (PEv.move (.tmp rfl)) rfl rfl rfl ?_
    refine LW.c (enter_call0 (.cons (.tmp rfl) (.cons (.tmp rfl) .nil)) (Try.en20)) rfl rfl rfl rfl (find_any _ _ _ _ _ hB3 hC hH) ?_
    rintro _ w6 ⟨rfl, uw6⟩
    have zw6 := uw6.size
    replace hC := hC.up uw6
    replace hW := hW.up uw6
    replace hB3 := hB3.up uw6
    rw [hq1]
    refine LW.p (PEv.move (.tmp rfl)) rfl rfl rfl ?_
    refine LW.p (PEv.extract (.tmp rfl) rfl) rfl rfl rfl ?_
    refine LW.p (PEv.extract (.tmp rfl) rfl) rfl rfl rfl ?_
    refine LW.r (REv.allocA Try.zeroValue45) rfl rfl rfl rfl ?_
    rintro _ w7 ⟨B8, rfl, MB8⟩
    refine LW.s (SEv.storeA Try.sizeOf45 rfl (.tmp rfl) (.tmp rfl) (by first | exact hold0_one | exact holdCells_one _ _) MB8.blk rfl) rfl rfl rfl ?_
    intro w8 LB8
    have NB8 := MB8.set LB8
    clear LB8 MB8
    have eB8 := NB8.at_
    have zB8 := NB8.size
    replace hC := hC.up NB8.up
    replace hW := hW.up NB8.up
    replace hB3 := hB3.up NB8.up
    have hB8 := NB8.blk
    refine LW.p (PEv.assign (.tmp rfl)) rfl rfl rfl ?_
    refine LW.nil ?_
    refine KW.then ?_
    refine CW.seq ?_
    -- region 2
    refine CW.region ?_
    refine LW.p (PEv.move (.tmp rfl)) rfl rfl rfl ?_
    refine LW.p (PEv.move (.tmp rfl)) rfl rfl rfl ?_
    refine LW.c (enter_call0 (.cons (.tmp rfl) (.cons (.tmp rfl) (.cons (.tmp rfl) .nil))) (Try.en21)) rfl rfl rfl rfl (parties_any _ _ _ _ _ _ hB3 hC hR) ?_
    rintro _ w9 ⟨rfl, uw9⟩
    have zw9 := uw9.size
    replace hC := hC.up uw9
    replace hW := hW.up uw9
    replace hB3 := hB3.up uw9
    replace hB8 := hB8.up uw9
    refine LW.p (PEv.move (.tmp rfl)) rfl rfl rfl ?_
    refine LW.p (PEv.move (.tmp rfl)) rfl rfl rfl ?_
    refine LW.yes rfl rfl rfl rfl rfl rfl ?_
    refine LW.p (PEv.loadA Try.isAgg45 Try.sizeOf45 rfl (.tmp rfl) (hB8.agg)) rfl rfl rfl ?_
    refine LW.yes rfl rfl rfl rfl rfl rfl ?_
    refine LW.p (PEv.move (.tmp rfl)) rfl rfl rfl ?_
    refine LW.yes rfl rfl rfl rfl rfl rfl ?_
    refine LW.c (enter_call0 (.cons (.tmp rfl) (.cons (.tmp rfl) .nil)) (Try.en17)) rfl rfl rfl rfl (isOver_any _ _ _ _ _ _ hB3 hC hR) ?_
    rintro _ w10 ⟨rfl, uw10⟩
    have zw10 := uw10.size
    replace hC := hC.up uw10
    replace hW := hW.up uw10
    replace hB3 := hB3.up uw10
    replace hB8 := hB8.up uw10
    refine LW.p (PEv.pick_and (.tmp rfl) (fun hp => (by first | exact .const _ | exact .tmp rfl | exact .cond rfl (by first | assumption | simp_all)))) rfl rfl rfl ?_
    refine LW.p (PEv.assign (.tmp rfl)) rfl rfl rfl ?_
    refine LW.p (PEv.assign (.tmp rfl)) rfl rfl rfl ?_
    refine LW.nil ?_
    refine KW.then ?_
    refine CW.ret ?_
    refine KW.ret2 rfl rfl rfl ⟨_, rfl, ?_⟩
    exact ⟨by simp [releasedB, hq1], hW⟩

end Go.Proofs.Ytdkfjllchhoojaa
