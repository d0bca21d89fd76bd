import Derived.Test.YtdkfjllchhoojaaHo8
namespace Go.Wx

def cutF (f : Fact) : Fact := { f with Text := f.Text.extract 0 (if (50 : Int) < f.Text.size then (50 : Int) else f.Text.size).toNat }
def fewL (l : List Fact) : List Fact := (l.take 40).map cutF
theorem cut_snoc {l : List Fact} {k : Nat} {x : Fact} (h : l[k]? = some x) : (l.take (k + 1)).map cutF = (l.take k).map cutF ++ [cutF x] := by rw [take_succ_of h]; simp
theorem few_end {l : List Fact} {k : Nat} (hk : k ≤ l.length) (h40 : k ≤ 40) (h : (decide (k < l.length) && decide (k < 40)) = false) : (l.take k).map cutF = fewL l := by
  unfold fewL
  congr 1
  by_cases h1 : k < l.length
  · have : k = 40 := by simp [h1] at h; omega
    rw [this]
  · rw [show k = l.length by omega, List.take_length, List.take_of_length_le (by omega)]
def rawB (l : List Fact) : Base := ⟨l, [], l, l, [], [], l, l, [], [], []⟩
def rawCells (v : Go.Value) : Array Go.Value := #[v, .slice none 0 0, v, v, .slice none 0 0, .slice none 0 0, v, v, .slice none 0 0, .slice none 0 0, .slice none 0 0]
theorem rawCells_one (ad : Option Addr) (n cp : Nat) : (rawCells (.slice ad n cp)).all (·.oneCell') = true := by simp [rawCells, Value.oneCell']
theorem baseC_raw {w : World} {v : Go.Value} {l : List Fact} (h : Sl w v 19 Fact.cells l) : BaseC w (rawCells v) (rawB l) := ⟨_, _, _, _, _, _, _, _, _, _, _, rfl, h, Sl.nil _ _ _, h, h, Sl.nil _ _ _, Sl.nil _ _ _, h, h, Sl.nil _ _ _, Sl.nil _ _ _, Sl.nil _ _ _⟩

end Go.Wx
namespace Go.Proofs.Ytdkfjllchhoojaa
open Go.Wx Go.RowKit
theorem has_any (v : Value) (xs : List Int) (n : Int) (w : World) (h : Sl w v 1 eInt xs) (hx0 : xs.length ≤ 1000000000) : Ret Try.prog 11 #[v, vi n] w fun r w' => r = .bool (xs.any fun x => decide (x = n)) ∧ Up w w' := by
  have hW := Up.refl w
  obtain ⟨w0, rfl⟩ : ∃ w0, w0 = w := ⟨_, rfl⟩
  obtain ⟨ad, cp, rfl, hE⟩ := h
  refine Calls_start (n := 18) (m := 9) Try.func11 rfl rfl rfl ?_
  refine CW.seq ?_
  -- region 0
  refine CW.region ?_
  refine LW.p (PEv.assign (.const _)) rfl rfl rfl ?_
  refine LW.nil ?_
  refine KW.then ?_
  refine CW.seq ?_
  refine CW.seq ?_
  -- region 1
  refine CW.region ?_
  refine LW.p (PEv.assign (.const _)) rfl rfl rfl ?_
  refine LW.nil ?_
  refine KW.then ?_
  refine CW.block ?_
  refine CW.loop (σ := Nat) (fun s w => (s ≤ xs.length ∧ ((xs.take s).any fun x => decide (x = n)) = false) ∧ Els w ad 1 eInt xs ∧ Up w0 w) (fun s => [(0, .eq (.slice ad xs.length cp)), (1, .eq (vi n)), (5, .eq (vi (s : Int)))]) (fun s => xs.length - s) 0 ?_ ?_ ?_
  · exact ⟨⟨Nat.zero_le _, by simp⟩, hE, hW⟩
  · exact ⟨rfl, rfl, rfl, trivial⟩
  · rintro k w1 ⟨⟨hk, hT⟩, hE, hW⟩
    refine CW.seq ?_
    refine CW.seq ?_
    -- region 2
    refine CW.region ?_
    refine LW.p (PEv.move (.tmp rfl)) rfl rfl rfl ?_
    refine LW.p (PEv.move (.tmp rfl)) rfl rfl rfl ?_
    refine LW.p (PEv.lenS Try.underlying35 (.tmp rfl)) rfl rfl rfl ?_
    refine LW.p (PEv.lss (.tmp rfl) (.tmp rfl)) rfl rfl rfl ?_
    refine LW.nil ?_
    refine KW.then ?_
    refine CW.cond (.tmp rfl) (fun h9 => ?_) (fun h9 => ?_)
    · first | replace h9 := of_decide_eq_true h9 | replace h9 := of_decide_eq_false h9 | skip
      refine CW.skip ?_
      refine KW.then ?_
      refine CW.seq ?_
      refine CW.block ?_
      refine CW.seq ?_
      obtain ⟨x, hx⟩ := getElem?_of_lt (xs := xs) (i := k) (by omega)
      obtain ⟨B, o, had, hcell⟩ := hE k x hx
      -- region 4
      refine CW.region ?_
      refine LW.p (PEv.move (.tmp rfl)) rfl rfl rfl ?_
      refine LW.p (PEv.move (.tmp rfl)) rfl rfl rfl ?_
      refine LW.p (PEv.indexAddr' Try.underlying35 Try.sizeOf3 (.tmp rfl) (.tmp rfl) (by omega) had) rfl rfl rfl ?_
      refine LW.p (PEv.load Try.isAgg3 (.tmp rfl) (hcell.nth (j := 0) rfl)) rfl rfl rfl ?_
      refine LW.p (PEv.move (.tmp rfl)) rfl rfl rfl ?_
      refine LW.p (PEv.eql (.tmp rfl) (.tmp rfl)) rfl rfl rfl ?_
      refine LW.nil ?_
      refine KW.then ?_
      refine CW.cond (.tmp rfl) (fun h17 => ?_) (fun h17 => ?_)
      · first | replace h17 := of_decide_eq_true h17 | replace h17 := of_decide_eq_false h17 | skip
        have hr : (xs.any fun x => decide (x = n)) = true := List.any_eq_true.2 ⟨x, List.mem_of_getElem? hx, by simpa using h17⟩
        refine CW.seq ?_
        -- region 5
        refine CW.region ?_
        refine LW.p (PEv.assign (.const _)) rfl rfl rfl ?_
        refine LW.nil ?_
        refine KW.then ?_
        refine CW.ret ?_
        refine KW.block_ret ?_
        refine KW.then_ret ?_
        refine KW.then_ret ?_
        refine KW.block_ret ?_
        refine KW.then_ret ?_
        refine KW.ret1 rfl rfl ⟨_, rfl, ?_⟩
        exact ⟨by rw [hr], hW⟩
      · first | replace h17 := of_decide_eq_true h17 | replace h17 := of_decide_eq_false h17 | skip
        refine CW.skip ?_
        refine KW.inBlock ?_
        refine KW.then ?_
        -- region 3
        refine CW.region ?_
        refine LW.p (PEv.move (.tmp rfl)) rfl rfl rfl ?_
        refine LW.p (PEv.inc (.tmp rfl) (by omega)) rfl rfl rfl ?_
        refine LW.p (PEv.assign (.tmp rfl)) rfl rfl rfl ?_
        refine LW.nil ?_
        refine KW.round ?_
        exact ⟨k + 1, ⟨⟨by omega, by rw [take_succ_of hx, List.any_append, hT]; simpa using h17⟩, hE, hW⟩, ⟨rfl, rfl, rfl, trivial⟩, by omega⟩
    · first | replace h9 := of_decide_eq_true h9 | replace h9 := of_decide_eq_false h9 | skip
      have hr : (xs.any fun x => decide (x = n)) = false := by have := hT; rw [show k = xs.length by omega, List.take_length] at this; exact this
      refine CW.exit ?_
      refine KW.then_exit ?_
      refine KW.then_exit ?_
      refine KW.block_hit ?_
      refine KW.then ?_
      refine CW.seq ?_
      -- region 6
      refine CW.region ?_
      refine LW.p (PEv.assign (.const _)) rfl rfl rfl ?_
      refine LW.nil ?_
      refine KW.then ?_
      refine CW.ret ?_
      refine KW.ret1 rfl rfl ⟨_, rfl, ?_⟩
      exact ⟨by rw [hr], hW⟩

theorem few_any (ad : Option Addr) (cp : Nat) (l : List Fact) (w : World) (hE : Els w ad 19 Fact.cells l) : Ret Try.prog 9 #[.slice ad l.length cp] w fun r w' => OwnS w' w.heap.size 23 19 Fact.cells r (fewL l) ∧ Up w w' := by
  have hW := Up.refl w
  obtain ⟨w0, rfl⟩ : ∃ w0, w0 = w := ⟨_, rfl⟩
  refine Calls_start (n := 33) (m := 9) Try.func9 rfl rfl rfl ?_
  refine CW.seq ?_
  -- region 0
  refine CW.region ?_
  refine LW.p (PEv.assign (.const _)) rfl rfl rfl ?_
  refine LW.nil ?_
  refine KW.then ?_
  refine CW.seq ?_
  -- region 1
  refine CW.region ?_
  refine LW.p (PEv.assign (.const _)) rfl rfl rfl ?_
  refine LW.nil ?_
  refine KW.then ?_
  refine CW.seq ?_
  refine CW.seq ?_
  -- region 2
  refine CW.region ?_
  refine LW.p (PEv.assign (.const _)) rfl rfl rfl ?_
  refine LW.nil ?_
  refine KW.then ?_
  refine CW.block ?_
  refine CW.loop (σ := Nat × Value) (fun s w => (s.1 ≤ l.length ∧ s.1 ≤ 40) ∧ OwnS w w0.heap.size 23 19 Fact.cells s.2 ((l.take s.1).map cutF) ∧ Up w0 w) (fun s => [(0, .eq (.slice ad l.length cp)), (3, .eq s.2), (4, .eq (vi (s.1 : Int)))]) (fun s => l.length - s.1) (0, .slice none 0 0) ?_ ?_ ?_
  · exact ⟨⟨Nat.zero_le _, by omega⟩, OwnS.nil _ _ _ _ _, hW⟩
  · exact ⟨rfl, rfl, rfl, trivial⟩
  · rintro ⟨k, v⟩ w1 ⟨⟨hk, hk40⟩, hO, hW⟩
    dsimp only at hk hk40 hO
    have zW := hW.size
    refine CW.seq ?_
    refine CW.seq ?_
    -- region 3
    refine CW.region ?_
    refine LW.p (PEv.move (.tmp rfl)) rfl rfl rfl ?_
    refine LW.p (PEv.move (.tmp rfl)) rfl rfl rfl ?_
    refine LW.p (PEv.lenS Try.underlying27 (.tmp rfl)) rfl rfl rfl ?_
    refine LW.p (PEv.lss (.tmp rfl) (.tmp rfl)) rfl rfl rfl ?_
    refine LW.p (PEv.move (.tmp rfl)) rfl rfl rfl ?_
    refine LW.g rfl rfl rfl rfl rfl rfl rfl (fun hc => PEv.move (.tmp rfl)) ?_
    refine LW.g rfl rfl rfl rfl rfl rfl rfl (fun hc => PEv.lss (by first | exact .tmp rfl | exact .cond rfl (by first | assumption | simp_all)) (.const _)) ?_
    refine LW.p (PEv.pick_and (.tmp rfl) (fun hp => (by first | exact .const _ | exact .tmp rfl | exact .cond rfl (by first | assumption | simp_all)))) rfl rfl rfl ?_
    refine LW.nil ?_
    refine KW.then ?_
    refine CW.cond (.tmp rfl) (fun h13 => ?_) (fun h13 => ?_)
    · first | replace h13 := of_decide_eq_true h13 | replace h13 := of_decide_eq_false h13 | skip
      have hk1 : k < l.length ∧ k < 40 := by simp at h13; omega
      refine CW.skip ?_
      refine KW.then ?_
      refine CW.seq ?_
      refine CW.block ?_
      refine CW.seq ?_
      obtain ⟨x, hx⟩ := getElem?_of_lt (xs := l) (i := k) (by omega)
      obtain ⟨B, o, had, hc0⟩ := hE k x hx
      have hcell := hc0.up hW
      have hlen : ((l.take k).map cutF).length = k := by rw [List.length_map, List.length_take]; omega
      have hO4 := hO
      have hU4 := Up.refl w1
      -- region 5
      refine CW.region ?_
      refine LW.p (PEv.move (.tmp rfl)) rfl rfl rfl ?_
      refine LW.p (PEv.move (.tmp rfl)) rfl rfl rfl ?_
      refine LW.p (PEv.indexAddr' Try.underlying27 Try.sizeOf23 (.tmp rfl) (.tmp rfl) (by omega) had) rfl rfl rfl ?_
      refine LW.p (PEv.loadA Try.isAgg23 Try.sizeOf23 rfl (.tmp rfl) (hcell)) rfl rfl rfl ?_
      refine LW.r (REv.allocA Try.zeroValue23) rfl rfl rfl rfl ?_
      rintro _ w2 ⟨B5, rfl, MB5⟩
      refine LW.s (SEv.storeA Try.sizeOf23 rfl (.tmp rfl) (.tmp rfl) (by first | rfl | exact Fact.one _ | exact GAct.one _ | exact holdCells_one _ _ | exact hold0_one | (simp [Value.oneCell'])) MB5.blk rfl) rfl rfl rfl ?_
      intro w3 LB5
      have NB5 := MB5.set LB5
      clear LB5 MB5
      have eB5 := NB5.at_
      have zB5 := NB5.size
      replace hW := hW.up NB5.up
      replace hU4 := hU4.up NB5.up
      have hB5 := NB5.blk
      refine LW.nil ?_
      refine KW.then ?_
      refine CW.seq ?_
      -- region 6
      refine CW.region ?_
      refine LW.p (PEv.fieldAddr (off := 18) Try.underlying23 rfl rfl Try.sizeOf9 rfl (.tmp rfl)) rfl rfl rfl ?_
      refine LW.p (PEv.load Try.isAgg9 (.tmp rfl) (hB5.celln rfl)) rfl rfl rfl ?_
      refine LW.p (PEv.fieldAddr (off := 18) Try.underlying23 rfl rfl Try.sizeOf9 rfl (.tmp rfl)) rfl rfl rfl ?_
      refine LW.p (PEv.load Try.isAgg9 (.tmp rfl) (hB5.celln rfl)) rfl rfl rfl ?_
      refine LW.p (PEv.lenStr Try.underlying9 (.tmp rfl)) rfl rfl rfl ?_
      refine LW.p (PEv.min2 (.tmp rfl) (.const _)) rfl rfl rfl ?_
      refine LW.p (PEv.strTo Try.underlying9 (.tmp rfl) (.tmp rfl) (by split <;> omega) (by split <;> omega)) rfl rfl rfl ?_
      refine LW.p (PEv.fieldAddr (off := 18) Try.underlying23 rfl rfl Try.sizeOf9 rfl (.tmp rfl)) rfl rfl rfl ?_
      refine LW.s (SEv.store Try.sizeOf9 (.tmp rfl) (.tmp rfl) rfl hB5 (Nat.le_of_ble_eq_true rfl)) rfl rfl rfl ?_
      intro w4 Nw4
      have zw4 := Nw4.size
      replace hW := hW.sto Nw4.sto (by omega)
      replace hU4 := hU4.sto Nw4.sto (by omega)
      replace hB5 := Nw4.blk
      replace hB5 : Blk w4 B5 (cutF x).cells _ := hB5
      refine LW.nil ?_
      refine KW.then ?_
      have hO := hO4.up hU4
      -- region 7
      refine CW.region ?_
      refine LW.p (PEv.move (.tmp rfl)) rfl rfl rfl ?_
      refine LW.p (PEv.loadA Try.isAgg23 Try.sizeOf23 rfl (.tmp rfl) (hB5.agg)) rfl rfl rfl ?_
      refine LW.r (REv.buildSlice (xs := [cutF x]) (enc := Fact.cells) (mk := fun f => .agg f.cells) Try.underlying27 Try.sizeOf23 Try.zeroValue23 rfl (by decide) (fun _ => rfl) (fun _ => rfl) (.cons (.tmp rfl) .nil) rfl) rfl rfl rfl rfl ?_
      rintro _ w5 ⟨B30, cB30, rfl, NB30, yB30, xB30⟩
      have eB30 := NB30.at_
      have zB30 := NB30.size
      replace hW := hW.up NB30.up
      replace hB5 := hB5.up NB30.up
      replace hO := hO.up NB30.up
      have hB30 := NB30.blk
      have hE30 := xB30
      refine LW.r (REv.append (enc := Fact.cells) (base := w0.heap.size) (bytes := 160) (i := Try.t23) Try.underlying27 (by kernel_rfl) rfl rfl rfl rfl (by decide) (fun _ => rfl) Fact.one (.tmp rfl) (.tmp rfl) hO (Sl.of_els hE30) (by simp) (by rw [hlen]; simp [maxLen]; omega) (by rw [hlen]; simp; omega) (by omega)) rfl rfl rfl rfl ?_
      rintro v31 w6 ⟨Ow6, Gw6⟩
      have zw6 := Gw6.size
      replace hW := hW.gr Gw6 (by omega)
      replace hO := Ow6
      refine LW.p (PEv.assign (.tmp rfl)) rfl rfl rfl ?_
      refine LW.nil ?_
      refine KW.inBlock ?_
      refine KW.then ?_
      -- region 4
      refine CW.region ?_
      refine LW.p (PEv.move (.tmp rfl)) rfl rfl rfl ?_
      refine LW.p (PEv.inc (.tmp rfl) (by omega)) rfl rfl rfl ?_
      refine LW.p (PEv.assign (.tmp rfl)) rfl rfl rfl ?_
      refine LW.nil ?_
      refine KW.round ?_
      exact ⟨(k + 1, v31), ⟨⟨by omega, by omega⟩, by rw [cut_snoc hx]; exact hO, hW⟩, ⟨rfl, rfl, rfl, trivial⟩, by dsimp only; omega⟩
    · first | replace h13 := of_decide_eq_true h13 | replace h13 := of_decide_eq_false h13 | skip
      have hr : (l.take k).map cutF = fewL l := few_end hk hk40 (by simp at h13 ⊢; intro h; have := h13 h; omega)
      refine CW.exit ?_
      refine KW.then_exit ?_
      refine KW.then_exit ?_
      refine KW.block_hit ?_
      refine KW.then ?_
      refine CW.seq ?_
      -- region 8
      refine CW.region ?_
      refine LW.p (PEv.move (.tmp rfl)) rfl rfl rfl ?_
      refine LW.p (PEv.assign (.tmp rfl)) rfl rfl rfl ?_
      refine LW.nil ?_
      refine KW.then ?_
      refine CW.ret ?_
      refine KW.ret1 rfl rfl ⟨_, rfl, ?_⟩
      exact ⟨hr ▸ hO, hW⟩

theorem raw_any (ad : Option Addr) (n cp : Nat) (w : World) : Ret Try.prog 8 #[.slice ad n cp] w fun r w' => r = .agg (rawCells (.slice ad n cp)) ∧ Up w w' := by
  have hW := Up.refl w
  refine Calls_start (n := 9) (m := 9) Try.func8 rfl rfl rfl ?_
  refine CW.seq ?_
  -- region 0
  refine CW.region ?_
  refine LW.r (REv.allocA Try.zeroValue29) rfl rfl rfl rfl ?_
  rintro _ w1 ⟨B2, rfl, NB2⟩
  have eB2 := NB2.at_
  have zB2 := NB2.size
  replace hW := hW.up NB2.up
  have hB2 := NB2.blk
  refine LW.nil ?_
  refine KW.then ?_
  refine CW.seq ?_
  -- region 1
  refine CW.region ?_
  refine LW.p (PEv.move (.tmp rfl)) rfl rfl rfl ?_
  refine LW.p (PEv.move (.tmp rfl)) rfl rfl rfl ?_
  refine LW.p (PEv.move (.tmp rfl)) rfl rfl rfl ?_
  refine LW.p (PEv.move (.tmp rfl)) rfl rfl rfl ?_
  refine LW.p (PEv.move (.tmp rfl)) rfl rfl rfl ?_
  refine LW.p (PEv.build (cs := rawCells (.slice ad n cp)) Try.underlying29 Try.zeroValue29 Try.places29 (.cons (.tmp rfl) (.cons (.tmp rfl) (.cons (.tmp rfl) (.cons (.tmp rfl) (.cons (.tmp rfl) .nil))))) rfl) rfl rfl rfl ?_
  refine LW.s (SEv.storeA Try.sizeOf29 rfl (.tmp rfl) (.tmp rfl) (rawCells_one _ _ _) hB2 rfl) rfl rfl rfl ?_
  intro w2 Nw2
  have zw2 := Nw2.size
  replace hW := hW.sto Nw2.sto (by omega)
  replace hB2 := Nw2.blk
  refine LW.nil ?_
  refine KW.then ?_
  refine CW.ret ?_
  refine KW.retA rfl rfl Try.isAgg29 Try.sizeOf29 rfl (hB2.agg) ⟨_, rfl, ?_⟩
  exact ⟨rfl, hW⟩

end Go.Proofs.Ytdkfjllchhoojaa
