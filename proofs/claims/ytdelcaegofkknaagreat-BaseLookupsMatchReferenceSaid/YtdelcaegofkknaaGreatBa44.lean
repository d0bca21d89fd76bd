import Derived.Test.YtdelcaegofkknaaGreatBa43
import Derived.Test.YtdelcaegofkknaaGreatIa
namespace Go.Wx

structure SB where
  v0 : Go.Value
  v1 : Go.Value
  v2 : Go.Value
  v3 : Go.Value
  v4 : Go.Value
  v5 : Go.Value
  v6 : Go.Value
  v7 : Go.Value
  v8 : Go.Value
  v9 : Go.Value
  v10 : Go.Value
def SB.cells (s : SB) : Array Go.Value := #[s.v0, s.v1, s.v2, s.v3, s.v4, s.v5, s.v6, s.v7, s.v8, s.v9, s.v10]
theorem BaseV.sb {w : World} {v : Go.Value} {b : Base} (h : BaseV w v b) : ∃ s : SB, v = .agg s.cells ∧ BaseC w s.cells b := by
  obtain ⟨bc, rfl, hC⟩ := h
  obtain ⟨v0, v1, v2, v3, v4, v5, v6, v7, v8, v9, v10, rfl, h⟩ := hC
  exact ⟨⟨v0, v1, v2, v3, v4, v5, v6, v7, v8, v9, v10⟩, rfl, v0, v1, v2, v3, v4, v5, v6, v7, v8, v9, v10, rfl, h⟩
def rawB (l : List Fact) : Base := ⟨l, l, [], [], l, l, [], [], [], l, []⟩
def rawS (v : Go.Value) : SB := ⟨v, v, .slice none 0 0, .slice none 0 0, v, v, .slice none 0 0, .slice none 0 0, .slice none 0 0, v, .slice none 0 0⟩
theorem raw_c {w : World} {v : Go.Value} {l : List Fact} (h : Sl w v 19 Fact.cells l) : BaseC w (rawS v).cells (rawB l) :=
  ⟨_, _, _, _, _, _, _, _, _, _, _, rfl, h, h, Sl.nil _ _ _, Sl.nil _ _ _, h, h, Sl.nil _ _ _, Sl.nil _ _ _, Sl.nil _ _ _, h, Sl.nil _ _ _⟩
theorem short_of {b : Base} (h : ∀ x ∈ [b.Processes, b.Measures, b.Swaps, b.Lots, b.Flows, b.Qualified, b.Holds, b.Releases, b.Resets, b.Targets, b.Gaps], x.length ≤ 100000) : short b := fun j => by
  unfold lstOf
  rw [List.getD_eq_getElem?_getD]
  cases h2 : [b.Processes, b.Measures, b.Swaps, b.Lots, b.Flows, b.Qualified, b.Holds, b.Releases, b.Resets, b.Targets, b.Gaps][j]? with
  | none => simp
  | some x => exact h x (List.mem_of_getElem? h2)
theorem raw_short {l : List Fact} (h : l.length ≤ 100000) : short (rawB l) := short_of fun x hx => by
  simp only [rawB, List.mem_cons, List.mem_nil_iff, or_false] at hx
  rcases hx with rfl | rfl | rfl | rfl | rfl | rfl | rfl | rfl | rfl | rfl | rfl <;> first | exact h | exact Nat.zero_le _

end Go.Wx
namespace Go.Proofs.YtdelcaegofkknaaGreat
open Go.Wx Go.RowKit
theorem sameFacts_v (v1 v2 : Go.Value) (l m : List Fact) (w : World) (h1 : OwnS w 0 35 19 Fact.cells v1 l) (h2 : OwnS w 0 35 19 Fact.cells v2 m) (hl : l.length ≤ 100000) : Ret Tryz.prog 22 #[v1, v2] w fun r w' => r = .bool (eqFs l m) ∧ Up w w' := by
  obtain ⟨ad, cp, rfl, hE⟩ := h1.sl (fun _ => rfl)
  obtain ⟨ad', cp', rfl, hE'⟩ := h2.sl (fun _ => rfl)
  exact sameFacts_any ad ad' cp cp' l m w hE hE' hl
theorem runs_short {b : Base} {t c : Int} (h : b.Processes.length ≤ 100000) : (runsB b t c).length ≤ 100000 := by
  unfold runsB
  rw [(sortK_sts (key := runK) (b.Processes.filter (runP t c))).same.length]
  exact Nat.le_trans (List.length_filter_le _ _) h

set_option maxHeartbeats 8000000 in
set_option maxRecDepth 8000 in
theorem BaseLookups_any (ad : Option Addr) (cp : Nat) (l : List Fact) (n : I5) (w : World) (hE1 : Els w ad 19 Fact.cells l) : Ret Tryz.prog 4 #[.slice ad l.length cp, .agg n.cells] w fun r w' => r = .bool true ∧ Up w w' := by
  have hW := Up.refl w
  obtain ⟨w0, rfl⟩ : ∃ w0, w0 = w := ⟨_, rfl⟩
  refine Calls_start (n := 249) (m := 9) Tryz.func4 rfl rfl rfl ?_
  refine CW.seq (CW.region ?_)
  refine LW.r (REv.boxA (.tmp rfl)) rfl rfl rfl rfl ?_
  rintro _ w1 ⟨B3, rfl, NB3⟩
  have eB3 := NB3.at_
  have zB3 := NB3.size
  replace hW := hW.up NB3.up
  have hB3 := NB3.blk
  refine LW.p (PEv.assign (.const _)) rfl rfl rfl (LW.nil (KW.then (CW.seq (CW.region ?_))))
  refine LW.c (enter_call0 .nil (Tryz.en5)) rfl rfl rfl rfl (sane_any _) ?_
  rintro _ w2 ⟨rfl, uw2⟩
  have zw2 := uw2.size
  replace hW := hW.up uw2
  replace hB3 := hB3.up uw2
  refine LW.p (PEv.assign (.tmp rfl)) rfl rfl rfl (LW.nil (KW.then (CW.seq (CW.region (LW.p (PEv.move (.tmp rfl)) rfl rfl rfl ?_)))))
  refine LW.c (enter_call0 (.cons (.tmp rfl) (.cons (.const _) .nil)) (Tryz.en6)) rfl rfl rfl rfl (few_any _ _ 40 l _ (Els.up hE1 hW) (by decide)) ?_
  rintro v31 w3 ⟨hO31, uw3⟩
  have zw3 := uw3.size
  replace hW := hW.up uw3
  replace hB3 := hB3.up uw3
  obtain ⟨ad31, cp31, rfl, hEf0⟩ := hO31.sl (fun _ => rfl)
  have hEf : Els w3 ad31 19 Fact.cells (fewL 40 l) := hEf0
  clear hEf0 hO31
  have hf40 := fewL_length 40 l
  refine LW.p (PEv.assign (.tmp rfl)) rfl rfl rfl (LW.nil (KW.then (CW.seq ?_)))
  have hCr : BaseC w3 (rawS (.slice ad31 (fewL 40 l).length cp31)).cells (rawB (fewL 40 l)) := raw_c (Sl.of_els hEf)
  refine CW.region (LW.p (PEv.move (.tmp rfl)) rfl rfl rfl (LW.p (PEv.move (.tmp rfl)) rfl rfl rfl (LW.p (PEv.move (.tmp rfl)) rfl rfl rfl (LW.p (PEv.move (.tmp rfl)) rfl rfl rfl (LW.p (PEv.move (.tmp rfl)) rfl rfl rfl ?_)))))
  refine LW.p (PEv.build (cs := (rawS (.slice ad31 (fewL 40 l).length cp31)).cells) Tryz.underlying26 Tryz.zeroValue26 Tryz.places26 (.cons (.tmp rfl) (.cons (.tmp rfl) (.cons (.tmp rfl) (.cons (.tmp rfl) (.cons (.tmp rfl) .nil))))) rfl) rfl rfl rfl ?_
  refine LW.r (REv.allocA Tryz.zeroValue26) rfl rfl rfl rfl ?_
  rintro _ w4 ⟨B6, rfl, MB6⟩
  refine LW.s (SEv.storeA Tryz.sizeOf26 rfl (.tmp rfl) (.tmp rfl) (hCr.one) MB6.blk rfl) rfl rfl rfl ?_
  intro w5 LB6
  have NB6 := MB6.set LB6
  clear LB6 MB6
  have eB6 := NB6.at_
  have zB6 := NB6.size
  replace hW := hW.up NB6.up
  replace hB3 := hB3.up NB6.up
  replace hEf := hEf.up NB6.up
  replace hCr := hCr.up NB6.up
  have hB6 := NB6.blk
  refine LW.nil (KW.then (CW.seq (CW.seq ?_)))
  refine CW.free 6 [.eq ((.slice ad31 (fewL 40 l).length cp31)), .pred fun v W => BaseV W v (ofB (fewL 40 l) 100000), .eq (.agg (rawS (.slice ad31 (fewL 40 l).length cp31)).cells), .pred fun (v : Go.Value) (W : World) => ∃ B s1 s2, v = .slice (some ⟨B, 0, none⟩) 2 2 ∧ Els W (some ⟨B, 0, none⟩) 11 SB.cells [s1, s2] ∧ BaseC W s1.cells (ofB (fewL 40 l) 100000) ∧ BaseC W s2.cells (rawB (fewL 40 l)), .eq (vi 2), .eq (vi 0)] [41, 42, 43] (by kernel_rfl) rfl (by kernel_rfl) (by kernel_rfl) (by kernel_rfl) (by kernel_rfl) (by kernel_rfl) (by kernel_rfl) (by kernel_rfl) ⟨PhU.eq _, PhU.pred fun _ _ _ h u => BaseV.up h u, PhU.eq _, PhU.pred fun _ _ _ h u => let ⟨B, s1, s2, e, h1, h2, h3⟩ := h; ⟨B, s1, s2, e, h1.up u, h2.up u, h3.up u⟩, PhU.eq _, PhU.eq _, trivial⟩ ?_ ?_
  ·intro W hU0
   have hU := (Up.drew w5).trans hU0
   refine allL.cons ⟨rfl, TU.p (PEv.move (.tmp rfl)) rfl⟩ ?_
   refine allL.cons ⟨rfl, TU.c (enter_call0 (.cons (.tmp rfl) (.cons (.const _) .nil)) (Tryz.en7)) (Of_any ad31 cp31 (fewL 40 l) 100000 W (Els.up hEf hU) (by omega)) (fun v W' h => let ⟨bc', e, hB, u⟩ := h; ⟨u, bc', e, hB⟩)⟩ ?_
   refine allL.cons ⟨rfl, TU.p (PEv.loadA Tryz.isAgg26 Tryz.sizeOf26 rfl (.tmp rfl) ((hB6.up hU).agg)) rfl⟩ ?_
   refine allL.cons ⟨rfl, TU.open (d := 39) rfl fun v hv => by obtain ⟨s1, rfl, hC1⟩ := hv.sb; exact TU.r (REv.buildSlice (xs := [s1, rawS (.slice ad31 (fewL 40 l).length cp31)]) (enc := SB.cells) (mk := fun s => .agg s.cells) Tryz.underlying32 Tryz.sizeOf26 Tryz.zeroValue26 rfl (Nat.le_of_ble_eq_true rfl) (fun _ => rfl) (fun _ => rfl) (.cons (.tmp rfl) (.cons (.tmp rfl) .nil)) rfl) (fun v W' h => let ⟨B, cs, e, N, _, hE1⟩ := h; ⟨N.up, B, s1, rawS (.slice ad31 (fewL 40 l).length cp31), e, hE1, hC1.up N.up, (hCr.up hU).up N.up⟩)⟩ ?_
   refine allL.cons ⟨rfl, TU.open (d := 41) rfl fun v hv => by obtain ⟨B, s1, s2, rfl, _⟩ := hv; exact TU.p (PEv.lenS Tryz.underlying32 (.tmp rfl)) rfl⟩ ?_
   refine allL.cons ⟨rfl, TU.p (PEv.move (.const _)) rfl⟩ ?_
   exact allL.nil
  ·intro w6 g hU0 hg
   have hU := (Up.drew w5).trans hU0
   have zw6 := hU.size
   replace hW := hW.up hU
   replace hB3 := hB3.up hU
   replace hEf := hEf.up hU
   replace hCr := hCr.up hU
   replace hB6 := hB6.up hU
   obtain ⟨B41, s1, s2, e41, hE41, hC1, hC2⟩ : (fun (v : Go.Value) (W : World) => ∃ B s1 s2, v = .slice (some ⟨B, 0, none⟩) 2 2 ∧ Els W (some ⟨B, 0, none⟩) 11 SB.cells [s1, s2] ∧ BaseC W s1.cells (ofB (fewL 40 l) 100000) ∧ BaseC W s2.cells (rawB (fewL 40 l))) (g 41) w6 := hg 3 _ 41 (by decide) rfl rfl
   have e42 : g 42 = vi 2 := hg 4 _ 42 (by decide) rfl rfl
   have e43 : g 43 = vi 0 := hg 5 _ 43 (by decide) rfl rfl
   change LW _ _ _ _ _ _ _ _ ((41, .eq (g 41)) :: (42, .eq (g 42)) :: (43, .eq (g 43)) :: _) _
   rw [e41, e42, e43]
   have hsO : short (ofB (fewL 40 l) 100000) := ofB_short (by omega) _
   have hsR : short (rawB (fewL 40 l)) := raw_short (by omega)
   refine LW.nil (KW.then (CW.block ?_))
   refine CW.loopB (σ := Nat) (fun s w => (s ≤ 2) ∧ (Up w0 w) ∧ (Blk w B3 n.cells 31) ∧ (Els w (some ⟨B41, 0, none⟩) 11 SB.cells [s1, s2]) ∧ (BaseC w s1.cells (ofB (fewL 40 l) 100000)) ∧ (BaseC w s2.cells (rawB (fewL 40 l)))) (fun s => [(43, .eq (vi (s : Int)))]) ([(3, .eq _), (5, .eq _), (41, .eq _), (42, .eq _)]) (fun s => 2 - s) 0 ?_ ⟨rfl, rfl, rfl, rfl, rfl, trivial⟩ ?_
   ·exact ⟨Nat.zero_le _, hW, hB3, hE41, hC1, hC2⟩
   ·rintro i w7 ⟨hi, hW, hB3, hE41, hC1, hC2⟩
    refine CW.seq (CW.region ?_)
    refine LW.p (PEv.lss (.tmp rfl) (.tmp rfl)) rfl rfl rfl ?_
    refine LW.nil (KW.then (CW.seq ?_))
    refine CW.cond (.tmp rfl) (fun h44 => ?_) (fun h44 => ?_)
    ·first | replace h44 := of_decide_eq_true h44 | replace h44 := of_decide_eq_false h44 | skip
     refine CW.skip (KW.then (CW.seq (CW.block (CW.seq ?_))))
     obtain ⟨sb, hs⟩ := getElem?_of_lt (xs := [s1, s2]) (i := i) (by simp; omega)
     obtain ⟨Bs, os, as_, hcs⟩ := hE41 i sb hs
     obtain ⟨bb, hC, hsh⟩ : ∃ bb, BaseC w7 sb.cells bb ∧ short bb := by
      rcases (show i = 0 ∨ i = 1 by omega) with rfl | rfl
      · cases hs; exact ⟨_, hC1, hsO⟩
      · cases hs; exact ⟨_, hC2, hsR⟩
     refine CW.region ?_
     refine LW.p (PEv.indexAddr' Tryz.underlying32 Tryz.sizeOf26 (.tmp rfl) (.tmp rfl) (by omega) as_) rfl rfl rfl ?_
     refine LW.p (PEv.loadA Tryz.isAgg26 Tryz.sizeOf26 rfl (.tmp rfl) (hcs)) rfl rfl rfl ?_
     refine LW.r (REv.allocA Tryz.zeroValue26) rfl rfl rfl rfl ?_
     rintro _ w8 ⟨B8, rfl, MB8⟩
     refine LW.s (SEv.storeA Tryz.sizeOf26 rfl (.tmp rfl) (.tmp rfl) (hC.one) MB8.blk rfl) rfl rfl rfl ?_
     intro w9 LB8
     have NB8 := MB8.set LB8
     clear LB8 MB8
     have eB8 := NB8.at_
     have zB8 := NB8.size
     replace hW := hW.up NB8.up
     replace hB3 := hB3.up NB8.up
     replace hE41 := hE41.up NB8.up
     replace hC1 := hC1.up NB8.up
     replace hC2 := hC2.up NB8.up
     replace hC := hC.up NB8.up
     have hB8 := NB8.blk
     refine LW.nil (KW.then (CW.seq ?_))
     refine CW.free 20 [.eq (.agg n.cells), .eq (.pointer (some ⟨B3, 0, none⟩)), .eq (vi n.a), .eq (vi (pickI n.a 30)), .eq (.pointer (some ⟨B3, 1, none⟩)), .eq (vi n.b), .eq (vi (pickI n.b 4)), .eq (.pointer (some ⟨B3, 2, none⟩)), .eq (vi n.c), .eq (vi (pickI n.c 6)), .eq (.pointer (some ⟨B3, 3, none⟩)), .eq (vi n.d), .eq (vi (pickI n.d 6)), .eq (.pointer (some ⟨B3, 4, none⟩)), .eq (vi n.e), .eq (vi (pickI n.e 90)), .eq (.agg (I5.cells (⟨pickI n.a 30, pickI n.b 4, pickI n.c 6, pickI n.d 6, pickI n.e 90⟩ : I5))), .pred fun (v : Go.Value) (W : World) => ∃ B, v = .slice (some ⟨B, 0, none⟩) 2 2 ∧ Els W (some ⟨B, 0, none⟩) 5 I5.cells [n, (⟨pickI n.a 30, pickI n.b 4, pickI n.c 6, pickI n.d 6, pickI n.e 90⟩ : I5)], .eq (vi 2), .eq (vi 0)] [64, 65, 66] (by kernel_rfl) rfl (by kernel_rfl) (by kernel_rfl) (by kernel_rfl) (by kernel_rfl) (by kernel_rfl) (by kernel_rfl) (by kernel_rfl) ⟨PhU.eq _, PhU.eq _, PhU.eq _, PhU.eq _, PhU.eq _, PhU.eq _, PhU.eq _, PhU.eq _, PhU.eq _, PhU.eq _, PhU.eq _, PhU.eq _, PhU.eq _, PhU.eq _, PhU.eq _, PhU.eq _, PhU.eq _, PhU.pred fun _ _ _ h u => let ⟨B, e, h1⟩ := h; ⟨B, e, h1.up u⟩, PhU.eq _, PhU.eq _, trivial⟩ ?_ ?_
     ·intro W hU0
      have hU := (Up.drew w9).trans hU0
      replace hB3 := hB3.up hU
      refine allL.cons ⟨rfl, TU.p (PEv.loadA Tryz.isAgg31 Tryz.sizeOf31 rfl (.tmp rfl) (hB3.agg)) rfl⟩ ?_
      refine allL.cons ⟨rfl, TU.p (PEv.indexArr (j := 0) Tryz.underlying31 Tryz.sizeOf3 (.tmp rfl) (.const _) (by decide)) rfl⟩ ?_
      refine allL.cons ⟨rfl, TU.p (PEv.load Tryz.isAgg3 (.tmp rfl) (hB3.celln rfl)) rfl⟩ ?_
      refine allL.cons ⟨rfl, TU.c (enter_call0 (.cons (.tmp rfl) (.cons (.const _) .nil)) (Tryz.en8)) (pick_any n.a 30 W (by decide)) (fun v W' h => ⟨h.2, h.1⟩)⟩ ?_
      refine allL.cons ⟨rfl, TU.p (PEv.indexArr (j := 1) Tryz.underlying31 Tryz.sizeOf3 (.tmp rfl) (.const _) (by decide)) rfl⟩ ?_
      refine allL.cons ⟨rfl, TU.p (PEv.load Tryz.isAgg3 (.tmp rfl) (hB3.celln rfl)) rfl⟩ ?_
      refine allL.cons ⟨rfl, TU.c (enter_call0 (.cons (.tmp rfl) (.cons (.const _) .nil)) (Tryz.en8)) (pick_any n.b 4 W (by decide)) (fun v W' h => ⟨h.2, h.1⟩)⟩ ?_
      refine allL.cons ⟨rfl, TU.p (PEv.indexArr (j := 2) Tryz.underlying31 Tryz.sizeOf3 (.tmp rfl) (.const _) (by decide)) rfl⟩ ?_
      refine allL.cons ⟨rfl, TU.p (PEv.load Tryz.isAgg3 (.tmp rfl) (hB3.celln rfl)) rfl⟩ ?_
      refine allL.cons ⟨rfl, TU.c (enter_call0 (.cons (.tmp rfl) (.cons (.const _) .nil)) (Tryz.en8)) (pick_any n.c 6 W (by decide)) (fun v W' h => ⟨h.2, h.1⟩)⟩ ?_
      refine allL.cons ⟨rfl, TU.p (PEv.indexArr (j := 3) Tryz.underlying31 Tryz.sizeOf3 (.tmp rfl) (.const _) (by decide)) rfl⟩ ?_
      refine allL.cons ⟨rfl, TU.p (PEv.load Tryz.isAgg3 (.tmp rfl) (hB3.celln rfl)) rfl⟩ ?_
      refine allL.cons ⟨rfl, TU.c (enter_call0 (.cons (.tmp rfl) (.cons (.const _) .nil)) (Tryz.en8)) (pick_any n.d 6 W (by decide)) (fun v W' h => ⟨h.2, h.1⟩)⟩ ?_
      refine allL.cons ⟨rfl, TU.p (PEv.indexArr (j := 4) Tryz.underlying31 Tryz.sizeOf3 (.tmp rfl) (.const _) (by decide)) rfl⟩ ?_
      refine allL.cons ⟨rfl, TU.p (PEv.load Tryz.isAgg3 (.tmp rfl) (hB3.celln rfl)) rfl⟩ ?_
      refine allL.cons ⟨rfl, TU.c (enter_call0 (.cons (.tmp rfl) (.cons (.const _) .nil)) (Tryz.en8)) (pick_any n.e 90 W (by decide)) (fun v W' h => ⟨h.2, h.1⟩)⟩ ?_
      refine allL.cons ⟨rfl, TU.p (PEv.buildArr (cs := I5.cells (⟨pickI n.a 30, pickI n.b 4, pickI n.c 6, pickI n.d 6, pickI n.e 90⟩ : I5)) Tryz.underlying31 Tryz.zeroValue31 Tryz.sizeOf3 (.cons (.tmp rfl) (.cons (.tmp rfl) (.cons (.tmp rfl) (.cons (.tmp rfl) (.cons (.tmp rfl) .nil))))) rfl) rfl⟩ ?_
      refine allL.cons ⟨rfl, TU.r (REv.buildSlice (xs := [n, (⟨pickI n.a 30, pickI n.b 4, pickI n.c 6, pickI n.d 6, pickI n.e 90⟩ : I5)]) (enc := I5.cells) (mk := fun x => .agg x.cells) Tryz.underlying33 Tryz.sizeOf31 Tryz.zeroValue31 rfl (Nat.le_of_ble_eq_true rfl) (fun _ => rfl) (fun _ => rfl) (.cons (.tmp rfl) (.cons (.tmp rfl) .nil)) rfl) (fun v W' h => let ⟨B, cs, e, N, _, hE1⟩ := h; ⟨N.up, B, e, hE1⟩)⟩ ?_
      refine allL.cons ⟨rfl, TU.open (d := 64) rfl fun v hv => by obtain ⟨B, rfl, _⟩ := hv; exact TU.p (PEv.lenS Tryz.underlying33 (.tmp rfl)) rfl⟩ ?_
      refine allL.cons ⟨rfl, TU.p (PEv.move (.const _)) rfl⟩ ?_
      exact allL.nil
     ·intro w10 g hU0 hg
      have hU := (Up.drew w9).trans hU0
      have zw10 := hU.size
      replace hW := hW.up hU
      replace hB3 := hB3.up hU
      replace hE41 := hE41.up hU
      replace hC1 := hC1.up hU
      replace hC2 := hC2.up hU
      replace hC := hC.up hU
      replace hB8 := hB8.up hU
      obtain ⟨B64, e64, hE64⟩ : (fun (v : Go.Value) (W : World) => ∃ B, v = .slice (some ⟨B, 0, none⟩) 2 2 ∧ Els W (some ⟨B, 0, none⟩) 5 I5.cells [n, (⟨pickI n.a 30, pickI n.b 4, pickI n.c 6, pickI n.d 6, pickI n.e 90⟩ : I5)]) (g 64) w10 := hg 17 _ 64 (by decide) rfl rfl
      have e65 : g 65 = vi 2 := hg 18 _ 65 (by decide) rfl rfl
      have e66 : g 66 = vi 0 := hg 19 _ 66 (by decide) rfl rfl
      change LW _ _ _ _ _ _ _ _ ((64, .eq (g 64)) :: (65, .eq (g 65)) :: (66, .eq (g 66)) :: _) _
      rw [e64, e65, e66]
      refine LW.nil (KW.then (CW.block ?_))
      refine CW.loopB (σ := Nat) (fun s w => (s ≤ 2) ∧ (Up w0 w) ∧ (Blk w B3 n.cells 31) ∧ (Els w (some ⟨B41, 0, none⟩) 11 SB.cells [s1, s2]) ∧ (BaseC w s1.cells (ofB (fewL 40 l) 100000)) ∧ (BaseC w s2.cells (rawB (fewL 40 l))) ∧ (Blk w B8 sb.cells 26) ∧ (BaseC w sb.cells bb) ∧ (Els w (some ⟨B64, 0, none⟩) 5 I5.cells [n, (⟨pickI n.a 30, pickI n.b 4, pickI n.c 6, pickI n.d 6, pickI n.e 90⟩ : I5)])) (fun s => [(66, .eq (vi (s : Int)))]) ([(3, .eq _), (5, .eq _), (8, .eq _), (41, .eq _), (42, .eq _), (43, .eq _), (64, .eq _), (65, .eq _)]) (fun s => 2 - s) 0 ?_ ⟨rfl, rfl, rfl, rfl, rfl, rfl, rfl, rfl, rfl, trivial⟩ ?_
      ·exact ⟨Nat.zero_le _, hW, hB3, hE41, hC1, hC2, hB8, hC, hE64⟩
      ·rintro p w11 ⟨hp, hW, hB3, hE41, hC1, hC2, hB8, hC, hE64⟩
       refine CW.seq (CW.region ?_)
       refine LW.p (PEv.lss (.tmp rfl) (.tmp rfl)) rfl rfl rfl ?_
       refine LW.nil (KW.then (CW.seq ?_))
       refine CW.cond (.tmp rfl) (fun h67 => ?_) (fun h67 => ?_)
       ·first | replace h67 := of_decide_eq_true h67 | replace h67 := of_decide_eq_false h67 | skip
        refine CW.skip (KW.then (CW.seq (CW.block (CW.seq ?_))))
        obtain ⟨y, hy⟩ := getElem?_of_lt (xs := [n, (⟨pickI n.a 30, pickI n.b 4, pickI n.c 6, pickI n.d 6, pickI n.e 90⟩ : I5)]) (i := p) (by simp; omega)
        obtain ⟨By, oy, ay, hcy⟩ := hE64 p y hy
        refine CW.region ?_
        refine LW.p (PEv.indexAddr' Tryz.underlying33 Tryz.sizeOf31 (.tmp rfl) (.tmp rfl) (by omega) ay) rfl rfl rfl ?_
        refine LW.p (PEv.loadA Tryz.isAgg31 Tryz.sizeOf31 rfl (.tmp rfl) (hcy)) rfl rfl rfl ?_
        refine LW.r (REv.allocA Tryz.zeroValue31) rfl rfl rfl rfl ?_
        rintro _ w12 ⟨B10, rfl, MB10⟩
        refine LW.s (SEv.storeA Tryz.sizeOf31 rfl (.tmp rfl) (.tmp rfl) (I5.one _) MB10.blk rfl) rfl rfl rfl ?_
        intro w13 LB10
        have NB10 := MB10.set LB10
        clear LB10 MB10
        have eB10 := NB10.at_
        have zB10 := NB10.size
        replace hW := hW.up NB10.up
        replace hB3 := hB3.up NB10.up
        replace hE41 := hE41.up NB10.up
        replace hC1 := hC1.up NB10.up
        replace hC2 := hC2.up NB10.up
        replace hB8 := hB8.up NB10.up
        replace hC := hC.up NB10.up
        replace hE64 := hE64.up NB10.up
        have hB10 := NB10.blk
        refine LW.nil (KW.then (CW.seq (CW.region ?_)))
        refine LW.p (PEv.loadA Tryz.isAgg26 Tryz.sizeOf26 rfl (.tmp rfl) (hB8.agg)) rfl rfl rfl ?_
        refine LW.p (PEv.indexArr (j := 0) Tryz.underlying31 Tryz.sizeOf3 (.tmp rfl) (.const _) (by decide)) rfl rfl rfl ?_
        refine LW.p (PEv.load Tryz.isAgg3 (.tmp rfl) (hB10.celln rfl)) rfl rfl rfl ?_
        refine LW.c (enter_call0 (.cons (.tmp rfl) (.cons (.tmp rfl) .nil)) (Tryz.en12)) rfl rfl rfl rfl (Process_any sb.cells bb y.a _ hC (hsh 0)) ?_
        rintro _ w14 ⟨rfl, uw14⟩
        have zw14 := uw14.size
        replace hW := hW.up uw14
        replace hB3 := hB3.up uw14
        replace hE41 := hE41.up uw14
        replace hC1 := hC1.up uw14
        replace hC2 := hC2.up uw14
        replace hB8 := hB8.up uw14
        replace hC := hC.up uw14
        replace hE64 := hE64.up uw14
        replace hB10 := hB10.up uw14
        refine LW.p (PEv.move (.tmp rfl)) rfl rfl rfl (LW.p (PEv.extract (.tmp rfl) rfl) rfl rfl rfl (LW.p (PEv.extract (.tmp rfl) rfl) rfl rfl rfl ?_))
        refine LW.r (REv.allocA Tryz.zeroValue35) rfl rfl rfl rfl ?_
        rintro _ w15 ⟨B11, rfl, MB11⟩
        refine LW.s (SEv.storeA Tryz.sizeOf35 rfl (.tmp rfl) (.tmp rfl) (by first | rfl | exact Fact.one _ | exact GAct.one _ | exact holdCells_one _ _ | exact hold0_one | (simp [Value.oneCell'])) MB11.blk rfl) rfl rfl rfl ?_
        intro w16 LB11
        have NB11 := MB11.set LB11
        clear LB11 MB11
        have eB11 := NB11.at_
        have zB11 := NB11.size
        replace hW := hW.up NB11.up
        replace hB3 := hB3.up NB11.up
        replace hE41 := hE41.up NB11.up
        replace hC1 := hC1.up NB11.up
        replace hC2 := hC2.up NB11.up
        replace hB8 := hB8.up NB11.up
        replace hC := hC.up NB11.up
        replace hE64 := hE64.up NB11.up
        replace hB10 := hB10.up NB11.up
        have hB11 := NB11.blk
        refine LW.p (PEv.assign (.tmp rfl)) rfl rfl rfl (LW.nil (KW.then (CW.seq (CW.region ?_))))
        refine LW.p (PEv.loadA Tryz.isAgg26 Tryz.sizeOf26 rfl (.tmp rfl) (hB8.agg)) rfl rfl rfl ?_
        refine LW.p (PEv.indexArr (j := 0) Tryz.underlying31 Tryz.sizeOf3 (.tmp rfl) (.const _) (by decide)) rfl rfl rfl ?_
        refine LW.p (PEv.load Tryz.isAgg3 (.tmp rfl) (hB10.celln rfl)) rfl rfl rfl ?_
        refine LW.c (enter_call0 (.cons (.tmp rfl) (.cons (.tmp rfl) .nil)) (Tryz.en13)) rfl rfl rfl rfl (rProcess_any sb.cells bb y.a _ hC (hsh 0)) ?_
        rintro _ w17 ⟨rfl, uw17⟩
        have zw17 := uw17.size
        replace hW := hW.up uw17
        replace hB3 := hB3.up uw17
        replace hE41 := hE41.up uw17
        replace hC1 := hC1.up uw17
        replace hC2 := hC2.up uw17
        replace hB8 := hB8.up uw17
        replace hC := hC.up uw17
        replace hE64 := hE64.up uw17
        replace hB10 := hB10.up uw17
        replace hB11 := hB11.up uw17
        refine LW.p (PEv.move (.tmp rfl)) rfl rfl rfl (LW.p (PEv.extract (.tmp rfl) rfl) rfl rfl rfl (LW.p (PEv.extract (.tmp rfl) rfl) rfl rfl rfl ?_))
        refine LW.r (REv.allocA Tryz.zeroValue35) rfl rfl rfl rfl ?_
        rintro _ w18 ⟨B13, rfl, MB13⟩
        refine LW.s (SEv.storeA Tryz.sizeOf35 rfl (.tmp rfl) (.tmp rfl) (by first | rfl | exact Fact.one _ | exact GAct.one _ | exact holdCells_one _ _ | exact hold0_one | (simp [Value.oneCell'])) MB13.blk rfl) rfl rfl rfl ?_
        intro w19 LB13
        have NB13 := MB13.set LB13
        clear LB13 MB13
        have eB13 := NB13.at_
        have zB13 := NB13.size
        replace hW := hW.up NB13.up
        replace hB3 := hB3.up NB13.up
        replace hE41 := hE41.up NB13.up
        replace hC1 := hC1.up NB13.up
        replace hC2 := hC2.up NB13.up
        replace hB8 := hB8.up NB13.up
        replace hC := hC.up NB13.up
        replace hE64 := hE64.up NB13.up
        replace hB10 := hB10.up NB13.up
        replace hB11 := hB11.up NB13.up
        have hB13 := NB13.blk
        refine LW.p (PEv.assign (.tmp rfl)) rfl rfl rfl (LW.nil (KW.then (CW.seq (CW.region ?_))))
        refine LW.p (PEv.loadA Tryz.isAgg26 Tryz.sizeOf26 rfl (.tmp rfl) (hB8.agg)) rfl rfl rfl ?_
        refine LW.p (PEv.indexArr (j := 0) Tryz.underlying31 Tryz.sizeOf3 (.tmp rfl) (.const _) (by decide)) rfl rfl rfl ?_
        refine LW.p (PEv.load Tryz.isAgg3 (.tmp rfl) (hB10.celln rfl)) rfl rfl rfl ?_
        refine LW.c (enter_call0 (.cons (.tmp rfl) (.cons (.tmp rfl) .nil)) (Tryz.en14)) rfl rfl rfl rfl (Measure_any sb.cells bb y.a _ hC (hsh 1)) ?_
        rintro _ w20 ⟨rfl, uw20⟩
        have zw20 := uw20.size
        replace hW := hW.up uw20
        replace hB3 := hB3.up uw20
        replace hE41 := hE41.up uw20
        replace hC1 := hC1.up uw20
        replace hC2 := hC2.up uw20
        replace hB8 := hB8.up uw20
        replace hC := hC.up uw20
        replace hE64 := hE64.up uw20
        replace hB10 := hB10.up uw20
        replace hB11 := hB11.up uw20
        replace hB13 := hB13.up uw20
        refine LW.p (PEv.move (.tmp rfl)) rfl rfl rfl (LW.p (PEv.extract (.tmp rfl) rfl) rfl rfl rfl (LW.p (PEv.extract (.tmp rfl) rfl) rfl rfl rfl ?_))
        refine LW.r (REv.allocA Tryz.zeroValue35) rfl rfl rfl rfl ?_
        rintro _ w21 ⟨B15, rfl, MB15⟩
        refine LW.s (SEv.storeA Tryz.sizeOf35 rfl (.tmp rfl) (.tmp rfl) (by first | rfl | exact Fact.one _ | exact GAct.one _ | exact holdCells_one _ _ | exact hold0_one | (simp [Value.oneCell'])) MB15.blk rfl) rfl rfl rfl ?_
        intro w22 LB15
        have NB15 := MB15.set LB15
        clear LB15 MB15
        have eB15 := NB15.at_
        have zB15 := NB15.size
        replace hW := hW.up NB15.up
        replace hB3 := hB3.up NB15.up
        replace hE41 := hE41.up NB15.up
        replace hC1 := hC1.up NB15.up
        replace hC2 := hC2.up NB15.up
        replace hB8 := hB8.up NB15.up
        replace hC := hC.up NB15.up
        replace hE64 := hE64.up NB15.up
        replace hB10 := hB10.up NB15.up
        replace hB11 := hB11.up NB15.up
        replace hB13 := hB13.up NB15.up
        have hB15 := NB15.blk
        refine LW.p (PEv.assign (.tmp rfl)) rfl rfl rfl (LW.nil (KW.then (CW.seq (CW.region ?_))))
        refine LW.p (PEv.loadA Tryz.isAgg26 Tryz.sizeOf26 rfl (.tmp rfl) (hB8.agg)) rfl rfl rfl ?_
        refine LW.p (PEv.indexArr (j := 0) Tryz.underlying31 Tryz.sizeOf3 (.tmp rfl) (.const _) (by decide)) rfl rfl rfl ?_
        refine LW.p (PEv.load Tryz.isAgg3 (.tmp rfl) (hB10.celln rfl)) rfl rfl rfl ?_
        refine LW.c (enter_call0 (.cons (.tmp rfl) (.cons (.tmp rfl) .nil)) (Tryz.en15)) rfl rfl rfl rfl (rMeasure_any sb.cells bb y.a _ hC (hsh 1)) ?_
        rintro _ w23 ⟨rfl, uw23⟩
        have zw23 := uw23.size
        replace hW := hW.up uw23
        replace hB3 := hB3.up uw23
        replace hE41 := hE41.up uw23
        replace hC1 := hC1.up uw23
        replace hC2 := hC2.up uw23
        replace hB8 := hB8.up uw23
        replace hC := hC.up uw23
        replace hE64 := hE64.up uw23
        replace hB10 := hB10.up uw23
        replace hB11 := hB11.up uw23
        replace hB13 := hB13.up uw23
        replace hB15 := hB15.up uw23
        refine LW.p (PEv.move (.tmp rfl)) rfl rfl rfl (LW.p (PEv.extract (.tmp rfl) rfl) rfl rfl rfl (LW.p (PEv.extract (.tmp rfl) rfl) rfl rfl rfl ?_))
        refine LW.r (REv.allocA Tryz.zeroValue35) rfl rfl rfl rfl ?_
        rintro _ w24 ⟨B17, rfl, MB17⟩
        refine LW.s (SEv.storeA Tryz.sizeOf35 rfl (.tmp rfl) (.tmp rfl) (by first | rfl | exact Fact.one _ | exact GAct.one _ | exact holdCells_one _ _ | exact hold0_one | (simp [Value.oneCell'])) MB17.blk rfl) rfl rfl rfl ?_
        intro w25 LB17
        have NB17 := MB17.set LB17
        clear LB17 MB17
        have eB17 := NB17.at_
        have zB17 := NB17.size
        replace hW := hW.up NB17.up
        replace hB3 := hB3.up NB17.up
        replace hE41 := hE41.up NB17.up
        replace hC1 := hC1.up NB17.up
        replace hC2 := hC2.up NB17.up
        replace hB8 := hB8.up NB17.up
        replace hC := hC.up NB17.up
        replace hE64 := hE64.up NB17.up
        replace hB10 := hB10.up NB17.up
        replace hB11 := hB11.up NB17.up
        replace hB13 := hB13.up NB17.up
        replace hB15 := hB15.up NB17.up
        have hB17 := NB17.blk
        refine LW.p (PEv.assign (.tmp rfl)) rfl rfl rfl (LW.nil (KW.then (CW.seq (CW.region ?_))))
        refine LW.p (PEv.loadA Tryz.isAgg26 Tryz.sizeOf26 rfl (.tmp rfl) (hB8.agg)) rfl rfl rfl ?_
        refine LW.p (PEv.indexArr (j := 2) Tryz.underlying31 Tryz.sizeOf3 (.tmp rfl) (.const _) (by decide)) rfl rfl rfl ?_
        refine LW.p (PEv.load Tryz.isAgg3 (.tmp rfl) (hB10.celln rfl)) rfl rfl rfl ?_
        refine LW.c (enter_call0 (.cons (.tmp rfl) (.cons (.tmp rfl) .nil)) (Tryz.en16)) rfl rfl rfl rfl (Flow_any sb.cells bb y.c _ hC (hsh 4)) ?_
        rintro _ w26 ⟨rfl, uw26⟩
        have zw26 := uw26.size
        replace hW := hW.up uw26
        replace hB3 := hB3.up uw26
        replace hE41 := hE41.up uw26
        replace hC1 := hC1.up uw26
        replace hC2 := hC2.up uw26
        replace hB8 := hB8.up uw26
        replace hC := hC.up uw26
        replace hE64 := hE64.up uw26
        replace hB10 := hB10.up uw26
        replace hB11 := hB11.up uw26
        replace hB13 := hB13.up uw26
        replace hB15 := hB15.up uw26
        replace hB17 := hB17.up uw26
        refine LW.p (PEv.move (.tmp rfl)) rfl rfl rfl (LW.p (PEv.extract (.tmp rfl) rfl) rfl rfl rfl (LW.p (PEv.extract (.tmp rfl) rfl) rfl rfl rfl ?_))
        refine LW.r (REv.allocA Tryz.zeroValue35) rfl rfl rfl rfl ?_
        rintro _ w27 ⟨B19, rfl, MB19⟩
        refine LW.s (SEv.storeA Tryz.sizeOf35 rfl (.tmp rfl) (.tmp rfl) (by first | rfl | exact Fact.one _ | exact GAct.one _ | exact holdCells_one _ _ | exact hold0_one | (simp [Value.oneCell'])) MB19.blk rfl) rfl rfl rfl ?_
        intro w28 LB19
        have NB19 := MB19.set LB19
        clear LB19 MB19
        have eB19 := NB19.at_
        have zB19 := NB19.size
        replace hW := hW.up NB19.up
        replace hB3 := hB3.up NB19.up
        replace hE41 := hE41.up NB19.up
        replace hC1 := hC1.up NB19.up
        replace hC2 := hC2.up NB19.up
        replace hB8 := hB8.up NB19.up
        replace hC := hC.up NB19.up
        replace hE64 := hE64.up NB19.up
        replace hB10 := hB10.up NB19.up
        replace hB11 := hB11.up NB19.up
        replace hB13 := hB13.up NB19.up
        replace hB15 := hB15.up NB19.up
        replace hB17 := hB17.up NB19.up
        have hB19 := NB19.blk
        refine LW.p (PEv.assign (.tmp rfl)) rfl rfl rfl (LW.nil (KW.then (CW.seq (CW.region ?_))))
        refine LW.p (PEv.loadA Tryz.isAgg26 Tryz.sizeOf26 rfl (.tmp rfl) (hB8.agg)) rfl rfl rfl ?_
        refine LW.p (PEv.indexArr (j := 2) Tryz.underlying31 Tryz.sizeOf3 (.tmp rfl) (.const _) (by decide)) rfl rfl rfl ?_
        refine LW.p (PEv.load Tryz.isAgg3 (.tmp rfl) (hB10.celln rfl)) rfl rfl rfl ?_
        refine LW.c (enter_call0 (.cons (.tmp rfl) (.cons (.tmp rfl) .nil)) (Tryz.en17)) rfl rfl rfl rfl (rFlow_any sb.cells bb y.c _ hC (hsh 4)) ?_
        rintro _ w29 ⟨rfl, uw29⟩
        have zw29 := uw29.size
        replace hW := hW.up uw29
        replace hB3 := hB3.up uw29
        replace hE41 := hE41.up uw29
        replace hC1 := hC1.up uw29
        replace hC2 := hC2.up uw29
        replace hB8 := hB8.up uw29
        replace hC := hC.up uw29
        replace hE64 := hE64.up uw29
        replace hB10 := hB10.up uw29
        replace hB11 := hB11.up uw29
        replace hB13 := hB13.up uw29
        replace hB15 := hB15.up uw29
        replace hB17 := hB17.up uw29
        replace hB19 := hB19.up uw29
        refine LW.p (PEv.move (.tmp rfl)) rfl rfl rfl (LW.p (PEv.extract (.tmp rfl) rfl) rfl rfl rfl (LW.p (PEv.extract (.tmp rfl) rfl) rfl rfl rfl ?_))
        refine LW.r (REv.allocA Tryz.zeroValue35) rfl rfl rfl rfl ?_
        rintro _ w30 ⟨B21, rfl, MB21⟩
        refine LW.s (SEv.storeA Tryz.sizeOf35 rfl (.tmp rfl) (.tmp rfl) (by first | rfl | exact Fact.one _ | exact GAct.one _ | exact holdCells_one _ _ | exact hold0_one | (simp [Value.oneCell'])) MB21.blk rfl) rfl rfl rfl ?_
        intro w31 LB21
        have NB21 := MB21.set LB21
        clear LB21 MB21
        have eB21 := NB21.at_
        have zB21 := NB21.size
        replace hW := hW.up NB21.up
        replace hB3 := hB3.up NB21.up
        replace hE41 := hE41.up NB21.up
        replace hC1 := hC1.up NB21.up
        replace hC2 := hC2.up NB21.up
        replace hB8 := hB8.up NB21.up
        replace hC := hC.up NB21.up
        replace hE64 := hE64.up NB21.up
        replace hB10 := hB10.up NB21.up
        replace hB11 := hB11.up NB21.up
        replace hB13 := hB13.up NB21.up
        replace hB15 := hB15.up NB21.up
        replace hB17 := hB17.up NB21.up
        replace hB19 := hB19.up NB21.up
        have hB21 := NB21.blk
        refine LW.p (PEv.assign (.tmp rfl)) rfl rfl rfl (LW.nil (KW.then (CW.seq (CW.region ?_))))
        refine LW.p (PEv.loadA Tryz.isAgg26 Tryz.sizeOf26 rfl (.tmp rfl) (hB8.agg)) rfl rfl rfl ?_
        refine LW.p (PEv.indexArr (j := 2) Tryz.underlying31 Tryz.sizeOf3 (.tmp rfl) (.const _) (by decide)) rfl rfl rfl ?_
        refine LW.p (PEv.load Tryz.isAgg3 (.tmp rfl) (hB10.celln rfl)) rfl rfl rfl ?_
        refine LW.p (PEv.indexArr (j := 4) Tryz.underlying31 Tryz.sizeOf3 (.tmp rfl) (.const _) (by decide)) rfl rfl rfl ?_
        refine LW.p (PEv.load Tryz.isAgg3 (.tmp rfl) (hB10.celln rfl)) rfl rfl rfl ?_
        refine LW.c (enter_call0 (.cons (.tmp rfl) (.cons (.tmp rfl) (.cons (.tmp rfl) .nil))) (Tryz.en18)) rfl rfl rfl rfl (Target_any sb.cells bb y.c y.e _ hC (hsh 9)) ?_
        rintro _ w32 ⟨rfl, uw32⟩
        have zw32 := uw32.size
        replace hW := hW.up uw32
        replace hB3 := hB3.up uw32
        replace hE41 := hE41.up uw32
        replace hC1 := hC1.up uw32
        replace hC2 := hC2.up uw32
        replace hB8 := hB8.up uw32
        replace hC := hC.up uw32
        replace hE64 := hE64.up uw32
        replace hB10 := hB10.up uw32
        replace hB11 := hB11.up uw32
        replace hB13 := hB13.up uw32
        replace hB15 := hB15.up uw32
        replace hB17 := hB17.up uw32
        replace hB19 := hB19.up uw32
        replace hB21 := hB21.up uw32
        refine LW.p (PEv.move (.tmp rfl)) rfl rfl rfl (LW.p (PEv.extract (.tmp rfl) rfl) rfl rfl rfl (LW.p (PEv.extract (.tmp rfl) rfl) rfl rfl rfl (LW.p (PEv.assign (.tmp rfl)) rfl rfl rfl (LW.p (PEv.assign (.tmp rfl)) rfl rfl rfl (LW.nil (KW.then (CW.seq (CW.region ?_))))))))
        refine LW.p (PEv.loadA Tryz.isAgg26 Tryz.sizeOf26 rfl (.tmp rfl) (hB8.agg)) rfl rfl rfl ?_
        refine LW.p (PEv.indexArr (j := 2) Tryz.underlying31 Tryz.sizeOf3 (.tmp rfl) (.const _) (by decide)) rfl rfl rfl ?_
        refine LW.p (PEv.load Tryz.isAgg3 (.tmp rfl) (hB10.celln rfl)) rfl rfl rfl ?_
        refine LW.p (PEv.indexArr (j := 4) Tryz.underlying31 Tryz.sizeOf3 (.tmp rfl) (.const _) (by decide)) rfl rfl rfl ?_
        refine LW.p (PEv.load Tryz.isAgg3 (.tmp rfl) (hB10.celln rfl)) rfl rfl rfl ?_
        refine LW.c (enter_call0 (.cons (.tmp rfl) (.cons (.tmp rfl) (.cons (.tmp rfl) .nil))) (Tryz.en19)) rfl rfl rfl rfl (rTarget_any sb.cells bb y.c y.e _ hC (hsh 9)) ?_
        rintro _ w33 ⟨rfl, uw33⟩
        have zw33 := uw33.size
        replace hW := hW.up uw33
        replace hB3 := hB3.up uw33
        replace hE41 := hE41.up uw33
        replace hC1 := hC1.up uw33
        replace hC2 := hC2.up uw33
        replace hB8 := hB8.up uw33
        replace hC := hC.up uw33
        replace hE64 := hE64.up uw33
        replace hB10 := hB10.up uw33
        replace hB11 := hB11.up uw33
        replace hB13 := hB13.up uw33
        replace hB15 := hB15.up uw33
        replace hB17 := hB17.up uw33
        replace hB19 := hB19.up uw33
        replace hB21 := hB21.up uw33
        refine LW.p (PEv.move (.tmp rfl)) rfl rfl rfl (LW.p (PEv.extract (.tmp rfl) rfl) rfl rfl rfl (LW.p (PEv.extract (.tmp rfl) rfl) rfl rfl rfl (LW.p (PEv.assign (.tmp rfl)) rfl rfl rfl (LW.p (PEv.assign (.tmp rfl)) rfl rfl rfl (LW.nil (KW.then (CW.seq (CW.seq (CW.region ?_)))))))))
        refine LW.p (PEv.loadA Tryz.isAgg35 Tryz.sizeOf35 rfl (.tmp rfl) (hB11.agg)) rfl rfl rfl ?_
        refine LW.p (PEv.loadA Tryz.isAgg35 Tryz.sizeOf35 rfl (.tmp rfl) (hB13.agg)) rfl rfl rfl ?_
        refine LW.p (PEv.fa (PEv.neqA Tryz.eqGuardType35 (Tryz.eqFact _ _) (.tmp rfl) (.tmp rfl)) (by rw [eqb_refl]; rfl)) rfl rfl rfl ?_
        refine LW.p (PEv.move (.tmp rfl)) rfl rfl rfl ?_
        refine LW.yes rfl rfl rfl rfl rfl rfl ?_
        refine LW.p (PEv.move (.tmp rfl)) rfl rfl rfl ?_
        refine LW.yes rfl rfl rfl rfl rfl rfl ?_
        refine LW.p (PEv.move (.tmp rfl)) rfl rfl rfl ?_
        refine LW.yes rfl rfl rfl rfl rfl rfl ?_
        refine LW.p (PEv.fa (PEv.neqB Tryz.underlying4 (.tmp rfl) (.tmp rfl)) (by simp)) rfl rfl rfl ?_
        refine LW.p (PEv.pick_or (.tmp rfl) (fun hp => (by first | exact .const _ | exact .tmp rfl | exact .cond rfl (by first | assumption | simp_all)))) rfl rfl rfl ?_
        refine LW.p (PEv.move (.tmp rfl)) rfl rfl rfl ?_
        refine LW.yes rfl rfl rfl rfl rfl rfl ?_
        refine LW.p (PEv.loadA Tryz.isAgg35 Tryz.sizeOf35 rfl (.tmp rfl) (hB15.agg)) rfl rfl rfl ?_
        refine LW.yes rfl rfl rfl rfl rfl rfl ?_
        refine LW.p (PEv.loadA Tryz.isAgg35 Tryz.sizeOf35 rfl (.tmp rfl) (hB17.agg)) rfl rfl rfl ?_
        refine LW.yes rfl rfl rfl rfl rfl rfl ?_
        refine LW.p (PEv.fa (PEv.neqA Tryz.eqGuardType35 (Tryz.eqFact _ _) (.tmp rfl) (.tmp rfl)) (by rw [eqb_refl]; rfl)) rfl rfl rfl ?_
        refine LW.p (PEv.pick_or (.tmp rfl) (fun hp => (by first | exact .const _ | exact .tmp rfl | exact .cond rfl (by first | assumption | simp_all)))) rfl rfl rfl ?_
        refine LW.p (PEv.move (.tmp rfl)) rfl rfl rfl ?_
        refine LW.yes rfl rfl rfl rfl rfl rfl ?_
        refine LW.p (PEv.move (.tmp rfl)) rfl rfl rfl ?_
        refine LW.yes rfl rfl rfl rfl rfl rfl ?_
        refine LW.p (PEv.move (.tmp rfl)) rfl rfl rfl ?_
        refine LW.yes rfl rfl rfl rfl rfl rfl ?_
        refine LW.p (PEv.fa (PEv.neqB Tryz.underlying4 (.tmp rfl) (.tmp rfl)) (by simp)) rfl rfl rfl ?_
        refine LW.p (PEv.pick_or (.tmp rfl) (fun hp => (by first | exact .const _ | exact .tmp rfl | exact .cond rfl (by first | assumption | simp_all)))) rfl rfl rfl ?_
        refine LW.p (PEv.move (.tmp rfl)) rfl rfl rfl ?_
        refine LW.yes rfl rfl rfl rfl rfl rfl ?_
        refine LW.p (PEv.loadA Tryz.isAgg35 Tryz.sizeOf35 rfl (.tmp rfl) (hB19.agg)) rfl rfl rfl ?_
        refine LW.yes rfl rfl rfl rfl rfl rfl ?_
        refine LW.p (PEv.loadA Tryz.isAgg35 Tryz.sizeOf35 rfl (.tmp rfl) (hB21.agg)) rfl rfl rfl ?_
        refine LW.yes rfl rfl rfl rfl rfl rfl ?_
        refine LW.p (PEv.fa (PEv.neqA Tryz.eqGuardType35 (Tryz.eqFact _ _) (.tmp rfl) (.tmp rfl)) (by rw [eqb_refl]; rfl)) rfl rfl rfl ?_
        refine LW.p (PEv.pick_or (.tmp rfl) (fun hp => (by first | exact .const _ | exact .tmp rfl | exact .cond rfl (by first | assumption | simp_all)))) rfl rfl rfl ?_
        refine LW.p (PEv.move (.tmp rfl)) rfl rfl rfl ?_
        refine LW.yes rfl rfl rfl rfl rfl rfl ?_
        refine LW.p (PEv.move (.tmp rfl)) rfl rfl rfl ?_
        refine LW.yes rfl rfl rfl rfl rfl rfl ?_
        refine LW.p (PEv.move (.tmp rfl)) rfl rfl rfl ?_
        refine LW.yes rfl rfl rfl rfl rfl rfl ?_
        refine LW.p (PEv.fa (PEv.neqB Tryz.underlying4 (.tmp rfl) (.tmp rfl)) (by simp)) rfl rfl rfl ?_
        refine LW.p (PEv.pick_or (.tmp rfl) (fun hp => (by first | exact .const _ | exact .tmp rfl | exact .cond rfl (by first | assumption | simp_all)))) rfl rfl rfl ?_
        refine LW.p (PEv.move (.tmp rfl)) rfl rfl rfl ?_
        refine LW.yes rfl rfl rfl rfl rfl rfl ?_
        refine LW.p (PEv.move (.tmp rfl)) rfl rfl rfl ?_
        refine LW.yes rfl rfl rfl rfl rfl rfl ?_
        refine LW.p (PEv.move (.tmp rfl)) rfl rfl rfl ?_
        refine LW.yes rfl rfl rfl rfl rfl rfl ?_
        refine LW.p (PEv.fa (PEv.neq (.tmp rfl) (.tmp rfl)) (by simp)) rfl rfl rfl ?_
        refine LW.p (PEv.pick_or (.tmp rfl) (fun hp => (by first | exact .const _ | exact .tmp rfl | exact .cond rfl (by first | assumption | simp_all)))) rfl rfl rfl ?_
        refine LW.p (PEv.move (.tmp rfl)) rfl rfl rfl ?_
        refine LW.yes rfl rfl rfl rfl rfl rfl ?_
        refine LW.p (PEv.move (.tmp rfl)) rfl rfl rfl ?_
        refine LW.yes rfl rfl rfl rfl rfl rfl ?_
        refine LW.p (PEv.move (.tmp rfl)) rfl rfl rfl ?_
        refine LW.yes rfl rfl rfl rfl rfl rfl ?_
        refine LW.p (PEv.fa (PEv.neqB Tryz.underlying4 (.tmp rfl) (.tmp rfl)) (by simp)) rfl rfl rfl ?_
        refine LW.p (PEv.pick_or (.tmp rfl) (fun hp => (by first | exact .const _ | exact .tmp rfl | exact .cond rfl (by first | assumption | simp_all)))) rfl rfl rfl ?_
        refine LW.nil (KW.then ?_)
        refine CW.cond_false (.tmp rfl) ?_
        refine CW.skip (KW.then (CW.seq (CW.seq ?_)))
        refine CW.draws (by kernel_rfl) (by kernel_rfl) rfl rfl ?_
        refine HW.p (PEv.loadA Tryz.isAgg26 Tryz.sizeOf26 rfl (.tmp rfl) (hB8.agg)) rfl rfl ?_
        refine HW.p (PEv.indexArr (j := 0) Tryz.underlying31 Tryz.sizeOf3 (.tmp rfl) (.const _) (by decide)) rfl rfl ?_
        refine HW.p (PEv.load Tryz.isAgg3 (.tmp rfl) (hB10.celln rfl)) rfl rfl ?_
        refine HW.p (PEv.indexArr (j := 1) Tryz.underlying31 Tryz.sizeOf3 (.tmp rfl) (.const _) (by decide)) rfl rfl ?_
        refine HW.p (PEv.load Tryz.isAgg3 (.tmp rfl) (hB10.celln rfl)) rfl rfl ?_
        refine HW.p (PEv.indexArr (j := 2) Tryz.underlying31 Tryz.sizeOf3 (.tmp rfl) (.const _) (by decide)) rfl rfl ?_
        refine HW.p (PEv.load Tryz.isAgg3 (.tmp rfl) (hB10.celln rfl)) rfl rfl ?_
        refine HW.p (PEv.indexArr (j := 3) Tryz.underlying31 Tryz.sizeOf3 (.tmp rfl) (.const _) (by decide)) rfl rfl ?_
        refine HW.p (PEv.load Tryz.isAgg3 (.tmp rfl) (hB10.celln rfl)) rfl rfl ?_
        refine HW.p (PEv.indexArr (j := 4) Tryz.underlying31 Tryz.sizeOf3 (.tmp rfl) (.const _) (by decide)) rfl rfl ?_
        refine HW.p (PEv.load Tryz.isAgg3 (.tmp rfl) (hB10.celln rfl)) rfl rfl ?_
        refine HW.c (fun a w _ ha => enter_call0 (.cons (.tmp rfl) (.cons (.tmp rfl) (.cons (.tmp rfl) (.cons (.tmp rfl) (.cons (.tmp rfl) (.cons (.tmp rfl) .nil)))))) (Tryz.en20) a ha) rfl rfl (fun w hu => Qualified_any sb.cells bb y.a y.b y.c y.d y.e w (hC.up hu) (hsh 5)) ?_
        refine HW.p (PEv.loadA Tryz.isAgg26 Tryz.sizeOf26 rfl (.tmp rfl) (hB8.agg)) rfl rfl ?_
        refine HW.p (PEv.indexArr (j := 0) Tryz.underlying31 Tryz.sizeOf3 (.tmp rfl) (.const _) (by decide)) rfl rfl ?_
        refine HW.p (PEv.load Tryz.isAgg3 (.tmp rfl) (hB10.celln rfl)) rfl rfl ?_
        refine HW.p (PEv.indexArr (j := 1) Tryz.underlying31 Tryz.sizeOf3 (.tmp rfl) (.const _) (by decide)) rfl rfl ?_
        refine HW.p (PEv.load Tryz.isAgg3 (.tmp rfl) (hB10.celln rfl)) rfl rfl ?_
        refine HW.p (PEv.indexArr (j := 2) Tryz.underlying31 Tryz.sizeOf3 (.tmp rfl) (.const _) (by decide)) rfl rfl ?_
        refine HW.p (PEv.load Tryz.isAgg3 (.tmp rfl) (hB10.celln rfl)) rfl rfl ?_
        refine HW.p (PEv.indexArr (j := 3) Tryz.underlying31 Tryz.sizeOf3 (.tmp rfl) (.const _) (by decide)) rfl rfl ?_
        refine HW.p (PEv.load Tryz.isAgg3 (.tmp rfl) (hB10.celln rfl)) rfl rfl ?_
        refine HW.p (PEv.indexArr (j := 4) Tryz.underlying31 Tryz.sizeOf3 (.tmp rfl) (.const _) (by decide)) rfl rfl ?_
        refine HW.p (PEv.load Tryz.isAgg3 (.tmp rfl) (hB10.celln rfl)) rfl rfl ?_
        refine HW.c (fun a w _ ha => enter_call0 (.cons (.tmp rfl) (.cons (.tmp rfl) (.cons (.tmp rfl) (.cons (.tmp rfl) (.cons (.tmp rfl) (.cons (.tmp rfl) .nil)))))) (Tryz.en21) a ha) rfl rfl (fun w hu => rQualified_any sb.cells bb y.a y.b y.c y.d y.e w (hC.up hu) (hsh 5)) ?_
        refine HW.p (PEv.fa (PEv.neqB Tryz.underlying4 (.tmp rfl) (.tmp rfl)) (by simp)) rfl rfl ?_
        refine HW.p (PEv.move (.tmp rfl)) rfl rfl ?_
        refine HW.yp rfl rfl rfl rfl rfl (PEv.loadA Tryz.isAgg26 Tryz.sizeOf26 rfl (.tmp rfl) (hB8.agg)) rfl ?_
        refine HW.yp rfl rfl rfl rfl rfl (PEv.indexArr (j := 0) Tryz.underlying31 Tryz.sizeOf3 (.tmp rfl) (.const _) (by decide)) rfl ?_
        refine HW.yp rfl rfl rfl rfl rfl (PEv.load Tryz.isAgg3 (.tmp rfl) (hB10.celln rfl)) rfl ?_
        refine HW.yp rfl rfl rfl rfl rfl (PEv.indexArr (j := 1) Tryz.underlying31 Tryz.sizeOf3 (.tmp rfl) (.const _) (by decide)) rfl ?_
        refine HW.yp rfl rfl rfl rfl rfl (PEv.load Tryz.isAgg3 (.tmp rfl) (hB10.celln rfl)) rfl ?_
        refine HW.yqc (ph := .pred fun v w => OwnS w 0 35 19 Fact.cells v (runsB bb y.a y.b)) (fun _ _ _ h u => OwnS.up h u) rfl rfl rfl rfl rfl (fun a w hu ha => ⟨_, _, enter_call0 (.cons (.tmp rfl) (.cons (.tmp rfl) (.cons (.tmp rfl) .nil))) (Tryz.en23) a ha, (Runs_any sb.cells bb y.a y.b w (hC.up hu) (hsh 0)).mono fun v w' h => ⟨h.2, h.1⟩⟩) rfl ?_
        refine HW.yp rfl rfl rfl rfl rfl (PEv.loadA Tryz.isAgg26 Tryz.sizeOf26 rfl (.tmp rfl) (hB8.agg)) rfl ?_
        refine HW.yp rfl rfl rfl rfl rfl (PEv.indexArr (j := 0) Tryz.underlying31 Tryz.sizeOf3 (.tmp rfl) (.const _) (by decide)) rfl ?_
        refine HW.yp rfl rfl rfl rfl rfl (PEv.load Tryz.isAgg3 (.tmp rfl) (hB10.celln rfl)) rfl ?_
        refine HW.yp rfl rfl rfl rfl rfl (PEv.indexArr (j := 1) Tryz.underlying31 Tryz.sizeOf3 (.tmp rfl) (.const _) (by decide)) rfl ?_
        refine HW.yp rfl rfl rfl rfl rfl (PEv.load Tryz.isAgg3 (.tmp rfl) (hB10.celln rfl)) rfl ?_
        refine HW.yqc (ph := .pred fun v w => OwnS w 0 35 19 Fact.cells v (runsB bb y.a y.b)) (fun _ _ _ h u => OwnS.up h u) rfl rfl rfl rfl rfl (fun a w hu ha => ⟨_, _, enter_call0 (.cons (.tmp rfl) (.cons (.tmp rfl) (.cons (.tmp rfl) .nil))) (Tryz.en24) a ha, (rRuns_any sb.cells bb y.a y.b w (hC.up hu) (hsh 0)).mono fun v w' h => ⟨h.2, h.1⟩⟩) rfl ?_
        refine HW.yqc (ph := .eq (.bool true)) (phUp.eq _) rfl rfl rfl rfl rfl (fun a w hu ha => ⟨_, _, enter_any2 Tryz.en22 a w, (sameFacts_v (a.eval (.tmp 199)) (a.eval (.tmp 205)) _ _ w (ha.known (t := 199) (p := fun v w => OwnS w 0 35 19 Fact.cells v (runsB bb y.a y.b)) rfl) (ha.known (t := 205) (p := fun v w => OwnS w 0 35 19 Fact.cells v (runsB bb y.a y.b)) rfl) (runs_short (hsh 0))).mono fun _ _ h => ⟨h.2, h.1.trans (by rw [eqFs_refl])⟩⟩) rfl ?_
        refine HW.yp rfl rfl rfl rfl rfl (PEv.not (.tmp rfl)) rfl ?_
        refine HW.p (PEv.pick_or (.tmp rfl) (fun hp => (by first | exact .const _ | exact .tmp rfl | exact .cond rfl (by first | assumption | simp_all)))) rfl rfl ?_
        refine HW.nil ?_
        intro w34 uw34
        have zw34 := uw34.size
        replace hW := hW.up uw34
        replace hB3 := hB3.up uw34
        replace hE41 := hE41.up uw34
        replace hC1 := hC1.up uw34
        replace hC2 := hC2.up uw34
        replace hB8 := hB8.up uw34
        replace hC := hC.up uw34
        replace hE64 := hE64.up uw34
        replace hB10 := hB10.up uw34
        replace hB11 := hB11.up uw34
        replace hB13 := hB13.up uw34
        replace hB15 := hB15.up uw34
        replace hB17 := hB17.up uw34
        replace hB19 := hB19.up uw34
        replace hB21 := hB21.up uw34
        refine KW.then ?_
        refine CW.cond_false (.tmp rfl) ?_
        refine CW.skip (KW.then (CW.seq ?_))
        obtain ⟨v5, h5, ad5, cp5, rfl, hE5⟩ := hC.at5
        have hql : bb.Qualified.length ≤ 100000 := hsh 5
        refine CW.region (LW.p (PEv.assign (.const _)) rfl rfl rfl (LW.nil (KW.then (CW.block ?_))))
        refine CW.loopB (σ := Nat) (fun s w => (s ≤ bb.Qualified.length) ∧ (Up w0 w) ∧ (Blk w B3 n.cells 31) ∧ (Els w (some ⟨B41, 0, none⟩) 11 SB.cells [s1, s2]) ∧ (BaseC w s1.cells (ofB (fewL 40 l) 100000)) ∧ (BaseC w s2.cells (rawB (fewL 40 l))) ∧ (Blk w B8 sb.cells 26) ∧ (BaseC w sb.cells bb) ∧ (Els w (some ⟨B64, 0, none⟩) 5 I5.cells [n, (⟨pickI n.a 30, pickI n.b 4, pickI n.c 6, pickI n.d 6, pickI n.e 90⟩ : I5)]) ∧ (Blk w B10 y.cells 31) ∧ (Els w ad5 19 Fact.cells bb.Qualified)) (fun s => [(27, .eq (vi (s : Int)))]) ([(3, .eq _), (5, .eq _), (8, .eq _), (10, .eq _), (41, .eq _), (42, .eq _), (43, .eq _), (64, .eq _), (65, .eq _), (66, .eq _)]) (fun s => bb.Qualified.length - s) 0 ?_ ⟨rfl, rfl, rfl, rfl, rfl, rfl, rfl, rfl, rfl, rfl, rfl, trivial⟩ ?_
        ·exact ⟨Nat.zero_le _, hW, hB3, hE41, hC1, hC2, hB8, hC, hE64, hB10, hE5⟩
        ·rintro k w35 ⟨hk, hW, hB3, hE41, hC1, hC2, hB8, hC, hE64, hB10, hE5⟩
         refine CW.seq (CW.seq (CW.region (LW.p (PEv.move (.tmp rfl)) rfl rfl rfl ?_)))
         refine LW.p (PEv.fieldAddr (off := 5) Tryz.underlying26 rfl rfl Tryz.sizeOf22 rfl (.tmp rfl)) rfl rfl rfl ?_
         refine LW.p (PEv.load Tryz.isAgg22 (.tmp rfl) (hB8.cell h5)) rfl rfl rfl ?_
         refine LW.p (PEv.lenS Tryz.underlying22 (.tmp rfl)) rfl rfl rfl ?_
         refine LW.p (PEv.lss (.tmp rfl) (.tmp rfl)) rfl rfl rfl ?_
         refine LW.nil (KW.then ?_)
         refine CW.cond (.tmp rfl) (fun h213 => ?_) (fun h213 => ?_)
         ·first | replace h213 := of_decide_eq_true h213 | replace h213 := of_decide_eq_false h213 | skip
          refine CW.skip (KW.then (CW.seq (CW.block (CW.seq ?_))))
          obtain ⟨q, hq⟩ := getElem?_of_lt (xs := bb.Qualified) (i := k) (by omega)
          obtain ⟨Bq, oq, aq, hcq⟩ := hE5 k q hq
          refine CW.region ?_
          refine LW.p (PEv.fieldAddr (off := 5) Tryz.underlying26 rfl rfl Tryz.sizeOf22 rfl (.tmp rfl)) rfl rfl rfl ?_
          refine LW.p (PEv.load Tryz.isAgg22 (.tmp rfl) (hB8.cell h5)) rfl rfl rfl ?_
          refine LW.p (PEv.move (.tmp rfl)) rfl rfl rfl ?_
          refine LW.p (PEv.indexAddr' Tryz.underlying22 Tryz.sizeOf35 (.tmp rfl) (.tmp rfl) (by omega) aq) rfl rfl rfl ?_
          refine LW.p (PEv.loadA Tryz.isAgg35 Tryz.sizeOf35 rfl (.tmp rfl) (hcq)) rfl rfl rfl ?_
          refine LW.r (REv.allocA Tryz.zeroValue35) rfl rfl rfl rfl ?_
          rintro _ w36 ⟨B28, rfl, MB28⟩
          refine LW.s (SEv.storeA Tryz.sizeOf35 rfl (.tmp rfl) (.tmp rfl) (by first | rfl | exact Fact.one _ | exact GAct.one _ | exact holdCells_one _ _ | exact hold0_one | (simp [Value.oneCell'])) MB28.blk rfl) rfl rfl rfl ?_
          intro w37 LB28
          have NB28 := MB28.set LB28
          clear LB28 MB28
          have eB28 := NB28.at_
          have zB28 := NB28.size
          replace hW := hW.up NB28.up
          replace hB3 := hB3.up NB28.up
          replace hE41 := hE41.up NB28.up
          replace hC1 := hC1.up NB28.up
          replace hC2 := hC2.up NB28.up
          replace hB8 := hB8.up NB28.up
          replace hC := hC.up NB28.up
          replace hE64 := hE64.up NB28.up
          replace hB10 := hB10.up NB28.up
          replace hE5 := hE5.up NB28.up
          have hB28 := NB28.blk
          refine LW.nil (KW.then (CW.seq ?_))
          refine CW.draws (by kernel_rfl) (by kernel_rfl) rfl rfl ?_
          refine HW.p (PEv.loadA Tryz.isAgg26 Tryz.sizeOf26 rfl (.tmp rfl) (hB8.agg)) rfl rfl ?_
          refine HW.p (PEv.fieldAddr (off := 11) Tryz.underlying35 rfl rfl Tryz.sizeOf3 rfl (.tmp rfl)) rfl rfl ?_
          refine HW.p (PEv.load Tryz.isAgg3 (.tmp rfl) (hB28.celln rfl)) rfl rfl ?_
          refine HW.p (PEv.fieldAddr (off := 12) Tryz.underlying35 rfl rfl Tryz.sizeOf3 rfl (.tmp rfl)) rfl rfl ?_
          refine HW.p (PEv.load Tryz.isAgg3 (.tmp rfl) (hB28.celln rfl)) rfl rfl ?_
          refine HW.p (PEv.fieldAddr (off := 14) Tryz.underlying35 rfl rfl Tryz.sizeOf3 rfl (.tmp rfl)) rfl rfl ?_
          refine HW.p (PEv.load Tryz.isAgg3 (.tmp rfl) (hB28.celln rfl)) rfl rfl ?_
          refine HW.p (PEv.fieldAddr (off := 15) Tryz.underlying35 rfl rfl Tryz.sizeOf3 rfl (.tmp rfl)) rfl rfl ?_
          refine HW.p (PEv.load Tryz.isAgg3 (.tmp rfl) (hB28.celln rfl)) rfl rfl ?_
          refine HW.p (PEv.indexArr (j := 4) Tryz.underlying31 Tryz.sizeOf3 (.tmp rfl) (.const _) (by decide)) rfl rfl ?_
          refine HW.p (PEv.load Tryz.isAgg3 (.tmp rfl) (hB10.celln rfl)) rfl rfl ?_
          refine HW.c (fun a w _ ha => enter_call0 (.cons (.tmp rfl) (.cons (.tmp rfl) (.cons (.tmp rfl) (.cons (.tmp rfl) (.cons (.tmp rfl) (.cons (.tmp rfl) .nil)))))) (Tryz.en20) a ha) rfl rfl (fun w hu => Qualified_any sb.cells bb q.Tool q.Chamber q.Recipe q.Revision y.e w (hC.up hu) (hsh 5)) ?_
          refine HW.p (PEv.loadA Tryz.isAgg26 Tryz.sizeOf26 rfl (.tmp rfl) (hB8.agg)) rfl rfl ?_
          refine HW.p (PEv.fieldAddr (off := 11) Tryz.underlying35 rfl rfl Tryz.sizeOf3 rfl (.tmp rfl)) rfl rfl ?_
          refine HW.p (PEv.load Tryz.isAgg3 (.tmp rfl) (hB28.celln rfl)) rfl rfl ?_
          refine HW.p (PEv.fieldAddr (off := 12) Tryz.underlying35 rfl rfl Tryz.sizeOf3 rfl (.tmp rfl)) rfl rfl ?_
          refine HW.p (PEv.load Tryz.isAgg3 (.tmp rfl) (hB28.celln rfl)) rfl rfl ?_
          refine HW.p (PEv.fieldAddr (off := 14) Tryz.underlying35 rfl rfl Tryz.sizeOf3 rfl (.tmp rfl)) rfl rfl ?_
          refine HW.p (PEv.load Tryz.isAgg3 (.tmp rfl) (hB28.celln rfl)) rfl rfl ?_
          refine HW.p (PEv.fieldAddr (off := 15) Tryz.underlying35 rfl rfl Tryz.sizeOf3 rfl (.tmp rfl)) rfl rfl ?_
          refine HW.p (PEv.load Tryz.isAgg3 (.tmp rfl) (hB28.celln rfl)) rfl rfl ?_
          refine HW.p (PEv.indexArr (j := 4) Tryz.underlying31 Tryz.sizeOf3 (.tmp rfl) (.const _) (by decide)) rfl rfl ?_
          refine HW.p (PEv.load Tryz.isAgg3 (.tmp rfl) (hB10.celln rfl)) rfl rfl ?_
          refine HW.c (fun a w _ ha => enter_call0 (.cons (.tmp rfl) (.cons (.tmp rfl) (.cons (.tmp rfl) (.cons (.tmp rfl) (.cons (.tmp rfl) (.cons (.tmp rfl) .nil)))))) (Tryz.en21) a ha) rfl rfl (fun w hu => rQualified_any sb.cells bb q.Tool q.Chamber q.Recipe q.Revision y.e w (hC.up hu) (hsh 5)) ?_
          refine HW.p (PEv.fa (PEv.neqB Tryz.underlying4 (.tmp rfl) (.tmp rfl)) (by simp)) rfl rfl ?_
          refine HW.nil ?_
          intro w38 uw38
          have zw38 := uw38.size
          replace hW := hW.up uw38
          replace hB3 := hB3.up uw38
          replace hE41 := hE41.up uw38
          replace hC1 := hC1.up uw38
          replace hC2 := hC2.up uw38
          replace hB8 := hB8.up uw38
          replace hC := hC.up uw38
          replace hE64 := hE64.up uw38
          replace hB10 := hB10.up uw38
          replace hE5 := hE5.up uw38
          replace hB28 := hB28.up uw38
          refine KW.then ?_
          refine CW.cond_false (.tmp rfl) ?_
          refine CW.skip (KW.inBlock (KW.then (CW.region (LW.p (PEv.move (.tmp rfl)) rfl rfl rfl ?_))))
          refine LW.p (PEv.inc (.tmp rfl) (by omega)) rfl rfl rfl ?_
          refine LW.p (PEv.assign (.tmp rfl)) rfl rfl rfl (LW.nil (KW.round ?_))
          exact ⟨k + 1, ⟨by omega, hW, hB3, hE41, hC1, hC2, hB8, hC, hE64, hB10, hE5⟩, ⟨rfl, rfl, rfl, rfl, rfl, rfl, rfl, rfl, rfl, rfl, rfl, trivial⟩, by first | omega | (dsimp only; omega)⟩
         ·first | replace h213 := of_decide_eq_true h213 | replace h213 := of_decide_eq_false h213 | skip
          refine CW.exit (KW.then_exit (KW.then_exit (KW.block_hit (KW.inBlock (KW.then (CW.region ?_))))))
          refine LW.p (PEv.inc (.tmp rfl) (by omega)) rfl rfl rfl ?_
          refine LW.p (PEv.move (.tmp rfl)) rfl rfl rfl (LW.nil (KW.round ?_))
          exact ⟨p + 1, ⟨by omega, hW, hB3, hE41, hC1, hC2, hB8, hC, hE64⟩, ⟨rfl, rfl, rfl, rfl, rfl, rfl, rfl, rfl, rfl, trivial⟩, by first | omega | (dsimp only; omega)⟩
       ·first | replace h67 := of_decide_eq_true h67 | replace h67 := of_decide_eq_false h67 | skip
        refine CW.exit (KW.then_exit (KW.then_exit (KW.block_hit (KW.inBlock (KW.then (CW.region ?_))))))
        refine LW.p (PEv.inc (.tmp rfl) (by omega)) rfl rfl rfl ?_
        refine LW.p (PEv.move (.tmp rfl)) rfl rfl rfl (LW.nil (KW.round ?_))
        exact ⟨i + 1, ⟨by omega, hW, hB3, hE41, hC1, hC2⟩, ⟨rfl, rfl, rfl, rfl, rfl, trivial⟩, by first | omega | (dsimp only; omega)⟩
    ·first | replace h44 := of_decide_eq_true h44 | replace h44 := of_decide_eq_false h44 | skip
     refine CW.exit (KW.then_exit (KW.then_exit (KW.block_hit (KW.then (CW.seq (CW.region (LW.p (PEv.move (.tmp rfl)) rfl rfl rfl (LW.p (PEv.assign (.tmp rfl)) rfl rfl rfl (LW.nil (KW.then (CW.ret ?_)))))))))))
     refine KW.ret1 rfl rfl ⟨_, rfl, ?_⟩
     exact ⟨rfl, hW⟩

end Go.Proofs.YtdelcaegofkknaaGreat
