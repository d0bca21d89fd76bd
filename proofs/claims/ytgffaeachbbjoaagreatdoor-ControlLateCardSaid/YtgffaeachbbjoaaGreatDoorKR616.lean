import Derived.Test.YtgffaeachbbjoaaGreatDoorKR615
section
namespace Go.Wx
def sameD (a b : Dec) : Bool := decide (a.run = b.run) && rtB a.par b.par && rtB a.est b.est && decide (a.uses = b.uses)
theorem sameD_iff (a b : Dec) : sameD a b = true ↔ a = b := by
  obtain ⟨a1, a2, a3, a4⟩ := a
  obtain ⟨b1, b2, b3, b4⟩ := b
  unfold sameD
  simp only [Bool.and_eq_true, decide_eq_true_eq, rtB_iff, Dec.mk.injEq, and_assoc]
theorem ints_step {l m : List Int} {k : Nat} {x y : Int} (hx : l[k]? = some x) (hy : m[k]? = some y) (h : l.take k = m.take k) (e : x = y) : l.take (k + 1) = m.take (k + 1) := by
  rw [take_one hx, take_one hy, h, e]
theorem same_no {a b : Dec} (h : (!decide (a.run = b.run) || !rtB a.par b.par || !rtB a.est b.est || !decide ((a.uses.length : Int) = (b.uses.length : Int))) = true) : sameD a b = false := by
  cases hs : sameD a b with
  | false => rfl
  | true =>
    have e := (sameD_iff a b).1 hs
    subst e
    simp [rtB_self] at h
theorem same_no2 {a b : Dec} {k : Nat} {x y : Int} (hx : a.uses[k]? = some x) (hy : b.uses[k]? = some y) (h : x ≠ y) : sameD a b = false := by
  cases hs : sameD a b with
  | false => rfl
  | true =>
    have e := (sameD_iff a b).1 hs
    subst e
    rw [hx] at hy
    exact absurd (Option.some.inj hy) h
theorem same_yes {a b : Dec} (h : (!decide (a.run = b.run) || !rtB a.par b.par || !rtB a.est b.est || !decide ((a.uses.length : Int) = (b.uses.length : Int))) = false) (hu : a.uses = b.uses) : sameD a b = true := by
  simp only [Bool.or_eq_false_iff, Bool.not_eq_false'] at h
  unfold sameD
  rw [h.1.1.1, h.1.1.2, h.1.2, hu, decide_eq_true rfl]; rfl
theorem dp_at {L : List DP} {Ds : List Dec} {k : Nat} {p : DP} (hm : L.map DP.dec = Ds) (h : L[k]? = some p) : Ds[k]? = some p.dec := by rw [← hm, List.getElem?_map, h]; rfl
theorem dp_uses {w : World} {B o : Nat} {p : DP} (h : AggAt w B o p.cells) : w.cell? ⟨B, o + 5, none⟩ = some p.uv := h 5 _ rfl
theorem dp_run {w : World} {B o : Nat} {p : DP} (h : AggAt w B o p.cells) : w.cell? ⟨B, o, none⟩ = some (vi p.dec.run) := h 0 _ rfl
theorem dp_est {w : World} {B o : Nat} {p : DP} (h : AggAt w B o p.cells) : AggAt w B (o + 3) p.dec.est.cells := fun j v hv => by
  have h2 : p.cells[3 + j]? = some v := by
    match j with
    | 0 => simpa [Rt.cells, DP.cells, DecV.cells, Dec.v] using hv
    | 1 => simpa [Rt.cells, DP.cells, DecV.cells, Dec.v] using hv
    | j + 2 => simp [Rt.cells] at hv
  have := h (3 + j) v h2
  rwa [show o + (3 + j) = o + 3 + j by omega] at this
theorem dp_par0 {w : World} {B : Nat} {p : DP} {T : TypeId} (h : Blk w B p.cells T) : AggAt w B 1 p.dec.par.cells := by have := dp_par h.agg; rwa [Nat.zero_add] at this
theorem dp_est0 {w : World} {B : Nat} {p : DP} {T : TypeId} (h : Blk w B p.cells T) : AggAt w B 3 p.dec.est.cells := by have := dp_est h.agg; rwa [Nat.zero_add] at this
theorem els_p {w : World} {ad : Option Addr} {p q r : DP} (h : Els w ad 6 DP.cells [p, q, r]) : ∃ B o, ad = some ⟨B, o, none⟩ ∧ AggAt w B (o + 0 * 6) p.cells ∧ AggAt w B (o + 1 * 6) q.cells ∧ AggAt w B (o + 2 * 6) r.cells := by
  obtain ⟨B, o, e, h0⟩ := h 0 p rfl
  obtain ⟨B1, o1, e1, h1⟩ := h 1 q rfl
  obtain ⟨B2, o2, e2, h2⟩ := h 2 r rfl
  cases e.symm.trans e1
  cases e.symm.trans e2
  exact ⟨B, o, e, h0, h1, h2⟩
theorem sl_hd {w : World} {ad : Option Addr} {n c : Nat} {x : Int} {xs : List Int} (h : Sl w (.slice ad n c) 1 eInt (x :: xs)) : ∃ B o, ad = some ⟨B, o, none⟩ ∧ AggAt w B (o + 0 * 1) (eInt x) := by
  obtain ⟨ad, c, e, hE⟩ := h
  cases e
  obtain ⟨B, o, e1, h1⟩ := hE 0 x rfl
  exact ⟨B, o, e1, h1⟩
theorem dps3 {L : List DP} {a b c : Dec} (h : L.map DP.dec = [a, b, c]) : ∃ a1 c1 a2 c2 a3 c3, L = [⟨a, a1, c1⟩, ⟨b, a2, c2⟩, ⟨c, a3, c3⟩] := by
  match L, h with
  | [⟨p, a1, c1⟩, ⟨q, a2, c2⟩, ⟨r, a3, c3⟩], h =>
    injection h with h1 h
    injection h with h2 h
    injection h with h3 _
    dsimp only at h1 h2 h3
    subst h1 h2 h3
    exact ⟨a1, c1, a2, c2, a3, c3, rfl⟩
theorem exV : ∀ f ∈ exB.Processes, inI f.Value := fun f hf => by
  rcases List.mem_cons.1 hf with rfl | hf
  · exact ⟨by decide, by decide⟩
  · rcases List.mem_cons.1 hf with rfl | hf
    · exact ⟨by decide, by decide⟩
    · rcases List.mem_cons.1 hf with rfl | hf
      · exact ⟨by decide, by decide⟩
      · cases hf
theorem els_stoF {w w' : World} {B : Nat} {cs : Array Value} {T : TypeId} {ad : Option Addr} {xs : List Fact} (h : Els w ad 19 Fact.cells xs) (hb : Blk w B cs T) (hc : ∀ (i : Nat) (n : Int), cs[i]? ≠ some (vi n)) (u : Sto B w w') : Els w' ad 19 Fact.cells xs := fun i x hx => by
  obtain ⟨B', o, e, h1⟩ := h i x hx
  refine ⟨B', o, e, h1.sto u ?_⟩
  intro e2
  have h2 := h1 0 (vi x.Kind) rfl
  rw [e2] at h2
  have h3 : cs[o + i * 19 + 0]? = some (vi x.Kind) := by
    unfold World.cell? at h2
    rw [show w.heap[B]? = some (.cells cs T (0, 0)) from hb] at h2
    simpa using h2
  exact hc _ _ h3
theorem sl_stoF {w w' : World} {B : Nat} {cs : Array Value} {T : TypeId} {v : Value} {xs : List Fact} (h : Sl w v 19 Fact.cells xs) (hb : Blk w B cs T) (hc : ∀ (i : Nat) (n : Int), cs[i]? ≠ some (vi n)) (u : Sto B w w') : Sl w' v 19 Fact.cells xs := let ⟨ad, c, e, hE⟩ := h; ⟨ad, c, e, els_stoF hE hb hc u⟩
theorem base_sto {w w' : World} {B : Nat} {cs : Array Value} {T : TypeId} {bc : Array Value} {b : Base} (h : BaseC w bc b) (hb : Blk w B cs T) (hc : ∀ (i : Nat) (n : Int), cs[i]? ≠ some (vi n)) (u : Sto B w w') : BaseC w' bc b := by
  obtain ⟨v0, v1, v2, v3, v4, v5, v6, v7, v8, v9, v10, e, h0, h1, h2, h3, h4, h5, h6, h7, h8, h9, h10⟩ := h
  have f : ∀ {v : Value} {xs : List Fact}, Sl w v 19 Fact.cells xs → Sl w' v 19 Fact.cells xs := fun h => sl_stoF h hb hc u
  exact ⟨v0, v1, v2, v3, v4, v5, v6, v7, v8, v9, v10, e, f h0, f h1, f h2, f h3, f h4, f h5, f h6, f h7, f h8, f h9, f h10⟩
end Go.Wx
namespace Go.Proofs.YtgffaeachbbjoaaGreatDoor
open Go.Wx Go.RowKit
theorem rwhole_any (n : Int) (w : World) : Ret Tryz.prog 28 #[vi n] w fun r w' => r = .agg (rI n).cells ∧ Up w w' := by
  obtain ⟨w0, rfl⟩ : ∃ w0, w0 = w := ⟨_, rfl⟩
  have hS := Sep.start no w0
  refine Calls_start (n := 5) (m := 9) Tryz.func28 rfl rfl rfl ?_
  refine CW.S ?_
  refine LW.r (REv.allocA Tryz.zeroValue34) rfl rfl rfl rfl ?_
  rintro _ w1 ⟨B2, rfl, NB2⟩
  have eB2 := NB2.at_
  have zB2 := NB2.size
  replace hS := hS.addB NB2
  change Wx.Sep _ _ _ [_] at hS
  refine LW.S (CW.region (LW.M rfl ?_))
  refine LW.pp (PEv.build (cs := (rI n).cells) Tryz.underlying34 Tryz.zeroValue34 Tryz.places34 (.cons (.tmp rfl) (.cons (.const _) .nil)) rfl) ?_
  refine LW.s (SEv.storeA Tryz.sizeOf34 rfl (.tmp rfl) (.tmp rfl) (Rt.one _) (hS.blk 0 rfl) rfl) rfl rfl rfl ?_
  intro w2 Nw2
  have zw2 := Nw2.size
  replace hS := hS.putB 0 rfl (show Set_ _ w2 _ ((rI n).cells) _ from Nw2)
  change Wx.Sep _ _ _ [_] at hS
  refine LW.T (CW.ret ?_)
  refine KW.retA rfl rfl Tryz.isAgg34 Tryz.sizeOf34 rfl ((hS.blk 0 rfl).agg) ⟨_, rfl, ?_⟩
  exact ⟨rfl, hS.upd⟩
theorem run_any (i t v : Int) (w : World) : Ret Tryz.prog 56 #[vi i, vi t, vi v] w fun r w' => r = .agg (exR i t v).cells ∧ Up w w' := by
  obtain ⟨w0, rfl⟩ : ∃ w0, w0 = w := ⟨_, rfl⟩
  have hS := Sep.start no w0
  refine Calls_start (n := 12) (m := 9) Tryz.func56 rfl rfl rfl ?_
  refine CW.S ?_
  refine LW.r (REv.allocA Tryz.zeroValue50) rfl rfl rfl rfl ?_
  rintro _ w1 ⟨B6, rfl, NB6⟩
  have eB6 := NB6.at_
  have zB6 := NB6.size
  replace hS := hS.addB NB6
  change Wx.Sep _ _ _ [_] at hS
  refine LW.S (CW.region (LW.M rfl (LW.M rfl (LW.M rfl (LW.M rfl ?_)))))
  refine LW.pp (PEv.build (cs := (exR i t v).cells) Tryz.underlying50 Tryz.zeroValue50 Tryz.places50 (.cons (.const _) (.cons (.const _) (.cons (.tmp rfl) (.cons (.const _) (.cons (.const _) (.cons (.const _) (.cons (.const _) (.cons (.tmp rfl) (.cons (.tmp rfl) (.cons (.tmp rfl) .nil)))))))))) (by kernel_rfl)) ?_
  refine LW.s (SEv.storeA Tryz.sizeOf50 rfl (.tmp rfl) (.tmp rfl) (Fact.one _) (hS.blk 0 rfl) rfl) rfl rfl rfl ?_
  intro w2 Nw2
  have zw2 := Nw2.size
  replace hS := hS.putB 0 rfl (show Set_ _ w2 _ ((exR i t v).cells) _ from Nw2)
  change Wx.Sep _ _ _ [_] at hS
  refine LW.T (CW.ret ?_)
  refine KW.retA rfl rfl Tryz.isAgg50 Tryz.sizeOf50 rfl ((hS.blk 0 rfl).agg) ⟨_, rfl, ?_⟩
  exact ⟨rfl, hS.upd⟩
theorem example_any (w : World) : Ret Tryz.prog 30 #[] w fun r w' => ∃ bc, r = .agg bc ∧ BaseC w' bc exB ∧ Up w w' := by
  have hW := Up.refl w
  obtain ⟨w0, rfl⟩ : ∃ w0, w0 = w := ⟨_, rfl⟩
  refine Calls_start (n := 11) (m := 9) Tryz.func30 rfl rfl rfl ?_
  refine CW.S ?_
  refine LW.r (REv.allocA Tryz.zeroValue24) rfl rfl rfl rfl ?_
  rintro _ w1 ⟨B0, rfl, NB0⟩
  have eB0 := NB0.at_
  have zB0 := NB0.size
  replace hW := hW.up NB0.up
  have hB0 := NB0.blk
  refine LW.S (CW.region ?_)
  refine LW.c (enter_call0 (.cons (.const _) (.cons (.const _) (.cons (.const _) .nil))) (Tryz.en56)) rfl rfl rfl rfl (run_any _ _ _ _) ?_
  rintro _ w2 ⟨rfl, uw2⟩
  have zw2 := uw2.size
  replace hW := hW.up uw2
  replace hB0 := hB0.up uw2
  refine LW.c (enter_call0 (.cons (.const _) (.cons (.const _) (.cons (.const _) .nil))) (Tryz.en56)) rfl rfl rfl rfl (run_any _ _ _ _) ?_
  rintro _ w3 ⟨rfl, uw3⟩
  have zw3 := uw3.size
  replace hW := hW.up uw3
  replace hB0 := hB0.up uw3
  refine LW.c (enter_call0 (.cons (.const _) (.cons (.const _) (.cons (.const _) .nil))) (Tryz.en56)) rfl rfl rfl rfl (run_any _ _ _ _) ?_
  rintro _ w4 ⟨rfl, uw4⟩
  have zw4 := uw4.size
  replace hW := hW.up uw4
  replace hB0 := hB0.up uw4
  refine LW.r (REv.buildSlice (xs := [exR 1 10 0, exR 2 20 98000, exR 3 30 100000]) (enc := Fact.cells) (mk := fun f : Fact => .agg f.cells) Tryz.underlying22 Tryz.sizeOf50 Tryz.zeroValue50 rfl (by decide) (fun _ => rfl) (fun _ => rfl) (.cons (.tmp rfl) (.cons (.tmp rfl) (.cons (.tmp rfl) .nil))) rfl) rfl rfl rfl rfl ?_
  rintro _ w5 ⟨B4, cB4, rfl, NB4, yB4, xB4⟩
  have eB4 := NB4.at_
  have zB4 := NB4.size
  replace hW := hW.up NB4.up
  replace hB0 := hB0.up NB4.up
  have hB4 := NB4.blk
  have hE4 := xB4
  refine LW.pp (PEv.build (cs := exT.cells) Tryz.underlying50 Tryz.zeroValue50 Tryz.places50 (.cons (.const _) (.cons (.const _) (.cons (.const _) (.cons (.const _) .nil)))) (by kernel_rfl)) ?_
  refine LW.r (REv.buildSlice (xs := [exT]) (enc := Fact.cells) (mk := fun f : Fact => .agg f.cells) Tryz.underlying22 Tryz.sizeOf50 Tryz.zeroValue50 rfl (by decide) (fun _ => rfl) (fun _ => rfl) (.cons (.tmp rfl) .nil) rfl) rfl rfl rfl rfl ?_
  rintro _ w6 ⟨B6, cB6, rfl, NB6, yB6, xB6⟩
  have eB6 := NB6.at_
  have zB6 := NB6.size
  replace hW := hW.up NB6.up
  replace hB0 := hB0.up NB6.up
  replace hB4 := hB4.up NB6.up
  replace hE4 := hE4.up NB6.up
  have hB6 := NB6.blk
  have hE6 := xB6
  refine LW.pp (PEv.build (cs := (exM 1 15 108).cells) Tryz.underlying50 Tryz.zeroValue50 Tryz.places50 (.cons (.const _) (.cons (.const _) (.cons (.const _) (.cons (.const _) (.cons (.const _) .nil))))) (by kernel_rfl)) ?_
  refine LW.pp (PEv.build (cs := (exM 2 25 101).cells) Tryz.underlying50 Tryz.zeroValue50 Tryz.places50 (.cons (.const _) (.cons (.const _) (.cons (.const _) (.cons (.const _) (.cons (.const _) .nil))))) (by kernel_rfl)) ?_
  refine LW.r (REv.buildSlice (xs := [exM 1 15 108, exM 2 25 101]) (enc := Fact.cells) (mk := fun f : Fact => .agg f.cells) Tryz.underlying22 Tryz.sizeOf50 Tryz.zeroValue50 rfl (by decide) (fun _ => rfl) (fun _ => rfl) (.cons (.tmp rfl) (.cons (.tmp rfl) .nil)) rfl) rfl rfl rfl rfl ?_
  rintro _ w7 ⟨B9, cB9, rfl, NB9, yB9, xB9⟩
  have eB9 := NB9.at_
  have zB9 := NB9.size
  replace hW := hW.up NB9.up
  replace hB0 := hB0.up NB9.up
  replace hB4 := hB4.up NB9.up
  replace hE4 := hE4.up NB9.up
  replace hB6 := hB6.up NB9.up
  replace hE6 := hE6.up NB9.up
  have hB9 := NB9.blk
  have hE9 := xB9
  refine LW.pp (PEv.build (cs := #[.slice (some ⟨B4, 0, none⟩) 3 3, .slice (some ⟨B9, 0, none⟩) 2 2, .slice none 0 0, .slice none 0 0, .slice none 0 0, .slice none 0 0, .slice none 0 0, .slice none 0 0, .slice none 0 0, .slice (some ⟨B6, 0, none⟩) 1 1, .slice none 0 0]) Tryz.underlying24 Tryz.zeroValue24 Tryz.places24 (.cons (.tmp rfl) (.cons (.tmp rfl) (.cons (.tmp rfl) .nil))) (by kernel_rfl)) ?_
  refine LW.s (SEv.storeA Tryz.sizeOf24 rfl (.tmp rfl) (.tmp rfl) (by simp [Value.oneCell']) hB0 rfl) rfl rfl rfl ?_
  intro w8 Nw8
  have zw8 := Nw8.size
  replace hW := hW.sto Nw8.sto (by omega)
  replace hB4 := hB4.sto Nw8.sto (by omega)
  replace hE4 := hE4.sto Nw8.sto (by omega)
  replace hB6 := hB6.sto Nw8.sto (by omega)
  replace hE6 := hE6.sto Nw8.sto (by omega)
  replace hB9 := hB9.sto Nw8.sto (by omega)
  replace hE9 := hE9.sto Nw8.sto (by omega)
  replace hB0 := Nw8.blk
  refine LW.T (CW.ret ?_)
  refine KW.retA rfl rfl Tryz.isAgg24 Tryz.sizeOf24 rfl (hB0.agg) ⟨_, rfl, ?_⟩
  exact ⟨_, rfl, ⟨_, _, _, _, _, _, _, _, _, _, _, rfl, Sl.of_els hE4, Sl.of_els hE9, Sl.nil _ _ _, Sl.nil _ _ _, Sl.nil _ _ _, Sl.nil _ _ _, Sl.nil _ _ _, Sl.nil _ _ _, Sl.nil _ _ _, Sl.of_els hE6, Sl.nil _ _ _⟩, hW⟩
theorem same_any (p q : DP) (w : World) (hp0 : Sl w p.uv 1 eInt p.dec.uses) (hq0 : Sl w q.uv 1 eInt q.dec.uses) (hl : p.dec.uses.length ≤ 100000) : Ret Tryz.prog 16 #[.agg p.cells, .agg q.cells] w fun r w' => r = .bool (sameD p.dec q.dec) ∧ Up w w' := by
  obtain ⟨w0, rfl⟩ : ∃ w0, w0 = w := ⟨_, rfl⟩
  have hS := Sep.start no w0
  obtain ⟨ad0, cp0, ev0, hE0⟩ := hp0
  obtain ⟨ad1, cp1, ev1, hE1⟩ := hq0
  cases ev0
  cases ev1
  refine Calls_start (n := 52) (m := 9) Tryz.func16 rfl rfl rfl ?_
  refine CW.S ?_
  refine LW.r (REv.boxA (.tmp rfl)) rfl rfl rfl rfl ?_
  rintro _ w1 ⟨B2, rfl, NB2⟩
  have eB2 := NB2.at_
  have zB2 := NB2.size
  replace hS := hS.addB NB2
  change Wx.Sep _ _ _ [_] at hS
  refine LW.r (REv.boxA (.tmp rfl)) rfl rfl rfl rfl ?_
  rintro _ w2 ⟨B3, rfl, NB3⟩
  have eB3 := NB3.at_
  have zB3 := NB3.size
  replace hS := hS.addB NB3
  change Wx.Sep _ _ _ [_, _] at hS
  refine LW.C (LW.S (CW.S ?_))
  refine LW.pp (PEv.fieldAddr (off := 0) Tryz.underlying37 rfl rfl Tryz.sizeOf3 rfl (.tmp rfl)) ?_
  refine LW.pp (PEv.load Tryz.isAgg3 (.tmp rfl) ((hS.blk 0 rfl).celln rfl)) ?_
  refine LW.pp (PEv.fieldAddr (off := 0) Tryz.underlying37 rfl rfl Tryz.sizeOf3 rfl (.tmp rfl)) ?_
  refine LW.pp (PEv.load Tryz.isAgg3 (.tmp rfl) ((hS.blk 1 rfl).celln rfl)) ?_
  refine LW.pp (PEv.neq (.tmp rfl) (.tmp rfl)) ?_
  refine LW.M rfl ?_
  refine LW.g rfl rfl rfl rfl rfl rfl rfl (fun hc => PEv.fieldAddr (off := 1) Tryz.underlying37 rfl rfl Tryz.sizeOf34 rfl (.tmp rfl)) ?_
  refine LW.g rfl rfl rfl rfl rfl rfl rfl (fun hc => PEv.loadA Tryz.isAgg34 Tryz.sizeOf34 rfl (by first | exact .tmp rfl | exact .cond rfl (by first | assumption | simp_all)) (dp_par0 (hS.blk 0 rfl))) ?_
  refine LW.g rfl rfl rfl rfl rfl rfl rfl (fun hc => PEv.fieldAddr (off := 1) Tryz.underlying37 rfl rfl Tryz.sizeOf34 rfl (.tmp rfl)) ?_
  refine LW.g rfl rfl rfl rfl rfl rfl rfl (fun hc => PEv.loadA Tryz.isAgg34 Tryz.sizeOf34 rfl (by first | exact .tmp rfl | exact .cond rfl (by first | assumption | simp_all)) (dp_par0 (hS.blk 1 rfl))) ?_
  refine LW.g rfl rfl rfl rfl rfl rfl rfl (fun hc => PEv.neqA Tryz.eqGuardType34 (Tryz.eqRt _ _) (by first | exact .tmp rfl | exact .cond rfl (by first | assumption | simp_all)) (by first | exact .tmp rfl | exact .cond rfl (by first | assumption | simp_all))) ?_
  refine LW.pp (PEv.pick_or (.tmp rfl) (fun hp => (by first | exact .const _ | exact .tmp rfl | exact .cond rfl (by first | assumption | (rw [hp]; rfl) | (rw [hc, hp]; rfl) | simp_all)))) ?_
  refine LW.M rfl ?_
  refine LW.g rfl rfl rfl rfl rfl rfl rfl (fun hc => PEv.fieldAddr (off := 3) Tryz.underlying37 rfl rfl Tryz.sizeOf34 rfl (.tmp rfl)) ?_
  refine LW.g rfl rfl rfl rfl rfl rfl rfl (fun hc => PEv.loadA Tryz.isAgg34 Tryz.sizeOf34 rfl (by first | exact .tmp rfl | exact .cond rfl (by first | assumption | simp_all)) (dp_est0 (hS.blk 0 rfl))) ?_
  refine LW.g rfl rfl rfl rfl rfl rfl rfl (fun hc => PEv.fieldAddr (off := 3) Tryz.underlying37 rfl rfl Tryz.sizeOf34 rfl (.tmp rfl)) ?_
  refine LW.g rfl rfl rfl rfl rfl rfl rfl (fun hc => PEv.loadA Tryz.isAgg34 Tryz.sizeOf34 rfl (by first | exact .tmp rfl | exact .cond rfl (by first | assumption | simp_all)) (dp_est0 (hS.blk 1 rfl))) ?_
  refine LW.g rfl rfl rfl rfl rfl rfl rfl (fun hc => PEv.neqA Tryz.eqGuardType34 (Tryz.eqRt _ _) (by first | exact .tmp rfl | exact .cond rfl (by first | assumption | simp_all)) (by first | exact .tmp rfl | exact .cond rfl (by first | assumption | simp_all))) ?_
  refine LW.pp (PEv.pick_or (.tmp rfl) (fun hp => (by first | exact .const _ | exact .tmp rfl | exact .cond rfl (by first | assumption | (rw [hp]; rfl) | (rw [hc, hp]; rfl) | simp_all)))) ?_
  refine LW.M rfl ?_
  refine LW.g rfl rfl rfl rfl rfl rfl rfl (fun hc => PEv.fieldAddr (off := 5) Tryz.underlying37 rfl rfl Tryz.sizeOf35 rfl (.tmp rfl)) ?_
  refine LW.g rfl rfl rfl rfl rfl rfl rfl (fun hc => PEv.load Tryz.isAgg35 (by first | exact .tmp rfl | exact .cond rfl (by first | assumption | simp_all)) ((hS.blk 0 rfl).celln rfl)) ?_
  refine LW.g rfl rfl rfl rfl rfl rfl rfl (fun hc => PEv.lenS Tryz.underlying35 (by first | exact .tmp rfl | exact .cond rfl (by first | assumption | simp_all))) ?_
  refine LW.g rfl rfl rfl rfl rfl rfl rfl (fun hc => PEv.fieldAddr (off := 5) Tryz.underlying37 rfl rfl Tryz.sizeOf35 rfl (.tmp rfl)) ?_
  refine LW.g rfl rfl rfl rfl rfl rfl rfl (fun hc => PEv.load Tryz.isAgg35 (by first | exact .tmp rfl | exact .cond rfl (by first | assumption | simp_all)) ((hS.blk 1 rfl).celln rfl)) ?_
  refine LW.g rfl rfl rfl rfl rfl rfl rfl (fun hc => PEv.lenS Tryz.underlying35 (by first | exact .tmp rfl | exact .cond rfl (by first | assumption | simp_all))) ?_
  refine LW.g rfl rfl rfl rfl rfl rfl rfl (fun hc => PEv.neq (by first | exact .tmp rfl | exact .cond rfl (by first | assumption | simp_all)) (by first | exact .tmp rfl | exact .cond rfl (by first | assumption | simp_all))) ?_
  refine LW.pp (PEv.pick_or (.tmp rfl) (fun hp => (by first | exact .const _ | exact .tmp rfl | exact .cond rfl (by first | assumption | (rw [hp]; rfl) | (rw [hc, hp]; rfl) | simp_all)))) ?_
  refine LW.T ?_
  refine CW.cond (.tmp rfl) (fun h33 => ?_) (fun h33 => ?_)
  ·first | replace h33 := dT h33 | replace h33 := dF h33 | skip
   have hno : sameD p.dec q.dec = false := same_no h33
   refine CW.S (LW.C (LW.T (CW.ret (KW.then_ret ?_))))
   refine KW.ret1 rfl rfl ⟨_, rfl, ?_⟩
   first | exact ⟨by rw [hno], hS.upd⟩ | exact ⟨by rw [same_yes hyes (by have hkl : k = p.dec.uses.length := (by omega); rw [hkl, List.take_length, hll, List.take_length] at ht; exact ht)], hS.upd⟩
  ·first | replace h33 := dT h33 | replace h33 := dF h33 | skip
   have hyes : (!decide (p.dec.run = q.dec.run) || !rtB p.dec.par q.dec.par || !rtB p.dec.est q.dec.est || !decide ((p.dec.uses.length : Int) = (q.dec.uses.length : Int))) = false := h33
   have hll : p.dec.uses.length = q.dec.uses.length := by simp at hyes; omega
   refine CW.skip (KW.then (CW.seq (CW.S (LW.C (LW.T (CW.block ?_))))))
   refine CW.loopB (σ := Nat) (fun s w => (s ≤ p.dec.uses.length) ∧ (p.dec.uses.take s = q.dec.uses.take s) ∧ (Wx.Sep no w0 w [aBlk B2 p.cells 37, aBlk B3 q.cells 37])) (fun s => [(5, .eq (vi (s : Int)))]) ([(2, .eq _), (3, .eq _)]) (fun s => p.dec.uses.length - s) 0 ?_ ⟨rfl, rfl, rfl, trivial⟩ ?_
   ·exact ⟨Nat.zero_le _, rfl, hS⟩
   ·rintro k w3 ⟨hk, ht, hS⟩
    refine CW.seq (CW.S (LW.M rfl ?_))
    refine LW.pp (PEv.fieldAddr (off := 5) Tryz.underlying37 rfl rfl Tryz.sizeOf35 rfl (.tmp rfl)) ?_
    refine LW.pp (PEv.load Tryz.isAgg35 (.tmp rfl) ((hS.blk 0 rfl).celln rfl)) ?_
    refine LW.pp (PEv.lenS Tryz.underlying35 (.tmp rfl)) ?_
    refine LW.pp (PEv.lss (.tmp rfl) (.tmp rfl)) ?_
    refine LW.T ?_
    refine CW.cond (.tmp rfl) (fun h38 => ?_) (fun h38 => ?_)
    ·first | replace h38 := dT h38 | replace h38 := dF h38 | skip
     refine CW.skip (KW.then (CW.seq (CW.block (CW.seq ?_))))
     obtain ⟨x, hx⟩ := getElem?_of_lt (xs := p.dec.uses) (i := k) (by omega)
     obtain ⟨y, hy⟩ := getElem?_of_lt (xs := q.dec.uses) (i := k) (by omega)
     obtain ⟨Bx, ox, ax, hcx⟩ := (Els.up hE0 hS.upd) k x hx
     obtain ⟨By, oy, ay, hcy⟩ := (Els.up hE1 hS.upd) k y hy
     refine CW.draws (by kernel_rfl) (by kernel_rfl) rfl rfl ?_
     refine HW.pp (PEv.fieldAddr (off := 5) Tryz.underlying37 rfl rfl Tryz.sizeOf35 rfl (.tmp rfl)) ?_
     refine HW.pp (PEv.load Tryz.isAgg35 (.tmp rfl) ((hS.blk 0 rfl).celln rfl)) ?_
     refine HW.pp (PEv.move (.tmp rfl)) ?_
     refine HW.pp (PEv.indexAddr' Tryz.underlying35 Tryz.sizeOf3 (.tmp rfl) (.tmp rfl) (by omega) ax) ?_
     refine HW.pp (PEv.load Tryz.isAgg3 (.tmp rfl) (hcx.nth (j := 0) rfl)) ?_
     refine HW.pp (PEv.fieldAddr (off := 5) Tryz.underlying37 rfl rfl Tryz.sizeOf35 rfl (.tmp rfl)) ?_
     refine HW.pp (PEv.load Tryz.isAgg35 (.tmp rfl) ((hS.blk 1 rfl).celln rfl)) ?_
     refine HW.pp (PEv.move (.tmp rfl)) ?_
     refine HW.pp (PEv.indexAddr' Tryz.underlying35 Tryz.sizeOf3 (.tmp rfl) (.tmp rfl) (by omega) ay) ?_
     refine HW.pp (PEv.load Tryz.isAgg3 (.tmp rfl) (hcy.nth (j := 0) rfl)) ?_
     refine HW.pp (PEv.neq (.tmp rfl) (.tmp rfl)) ?_
     refine HW.nil ?_
     intro w4 uw4
     have zw4 := uw4.size
     replace hS := hS.up uw4
     refine KW.then ?_
     refine CW.cond (.tmp rfl) (fun h51 => ?_) (fun h51 => ?_)
     ·first | replace h51 := dT h51 | replace h51 := dF h51 | skip
      have hno : sameD p.dec q.dec = false := same_no2 hx hy (by simpa using h51)
      refine CW.S (LW.C (LW.T (CW.ret (KW.block_ret (KW.then_ret (KW.then_ret (KW.block_ret (KW.then_ret ?_))))))))
      refine KW.ret1 rfl rfl ⟨_, rfl, ?_⟩
      first | exact ⟨by rw [hno], hS.upd⟩ | exact ⟨by rw [same_yes hyes (by have hkl : k = p.dec.uses.length := (by omega); rw [hkl, List.take_length, hll, List.take_length] at ht; exact ht)], hS.upd⟩
     ·first | replace h51 := dT h51 | replace h51 := dF h51 | skip
      have hxy : x = y := by simpa using h51
      refine CW.skip (KW.inBlock (KW.then (CW.region (LW.M rfl ?_))))
      refine LW.pp (PEv.inc (.tmp rfl) (by omega)) ?_
      refine LW.A rfl (LW.nil (KW.round ?_))
      exact ⟨k + 1, ⟨by omega, ints_step hx hy ht hxy, hS.take 2⟩, ⟨rfl, rfl, rfl, trivial⟩, by omega⟩
    ·first | replace h38 := dT h38 | replace h38 := dF h38 | skip
     refine CW.exit (KW.then_exit (KW.then_exit (KW.block_hit (KW.then (CW.S (LW.C (LW.T (CW.ret ?_))))))))
     refine KW.ret1 rfl rfl ⟨_, rfl, ?_⟩
     first | exact ⟨by rw [hno], hS.upd⟩ | exact ⟨by rw [same_yes hyes (by have hkl : k = p.dec.uses.length := (by omega); rw [hkl, List.take_length, hll, List.take_length] at ht; exact ht)], hS.upd⟩
end Go.Proofs.YtgffaeachbbjoaaGreatDoor
end
section
namespace Go.Proofs.YtgffaeachbbjoaaGreatDoor
open Go.Wx Go.RowKit
theorem ex2_any (bc : Array Go.Value) (w : World) (hC : BaseC w bc exB) : Ret Tryz.prog 20 #[.agg bc, vi 2] w fun r w' => ∃ v, r = .tuple #[v, .bool true, vi 0] ∧ DecE w' v ⟨2, rI 98, rI 2, [1]⟩ ∧ Up w w' := by
  have h := Explain_any bc exB 2 w hC (by decide) (by decide) (by decide) (by decide) exV
  rw [ex_e2] at h; exact h
theorem ex3_any (bc : Array Go.Value) (w : World) (hC : BaseC w bc exB) : Ret Tryz.prog 20 #[.agg bc, vi 3] w fun r w' => ∃ v, r = .tuple #[v, .bool false, vi 0] ∧ DecE w' v ⟨3, rI 98, rI 2, [1]⟩ ∧ Up w w' := by
  have h := Explain_any bc exB 3 w hC (by decide) (by decide) (by decide) (by decide) exV
  rw [ex_e3] at h; exact h
theorem ex4_any (bc : Array Go.Value) (w : World) (hC : BaseC w bc exB) : Ret Tryz.prog 20 #[.agg bc, vi 4] w fun r w' => ∃ v, r = .tuple #[v, .bool false, vi 200] ∧ DecE w' v dec0 ∧ Up w w' := by
  have h := Explain_any bc exB 4 w hC (by decide) (by decide) (by decide) (by decide) exV
  rw [ex_e4] at h; exact h
theorem exd12_any (bc : Array Go.Value) (w : World) (hC : BaseC w bc exB) : Ret Tryz.prog 14 #[.agg bc, vi 4, vi 0, vi 9, vi 12] w fun r w' => ∃ ad cp, r = .tuple #[.agg (DP.cells ⟨⟨0, rI 100, rI 0, []⟩, ad, cp⟩), vi 0] ∧ Up w w' := by
  have h := Decide_any bc exB 4 0 9 12 w hC (by decide) (by decide) (by decide) (by decide)
  rw [ex_d12] at h
  exact h.mono fun r w' ⟨v, e, ⟨ad, cp, e2, _⟩, u⟩ => ⟨ad, cp, by rw [e, e2], u⟩
theorem exd15_any (bc : Array Go.Value) (w : World) (hC : BaseC w bc exB) : Ret Tryz.prog 14 #[.agg bc, vi 4, vi 0, vi 9, vi 15] w fun r w' => ∃ ad cp, r = .tuple #[.agg (DP.cells ⟨⟨0, rI 98, rI 2, [1]⟩, ad, cp⟩), vi 0] ∧ Up w w' := by
  have h := Decide_any bc exB 4 0 9 15 w hC (by decide) (by decide) (by decide) (by decide)
  rw [ex_d15] at h
  exact h.mono fun r w' ⟨v, e, ⟨ad, cp, e2, _⟩, u⟩ => ⟨ad, cp, by rw [e, e2], u⟩
set_option maxHeartbeats 4000000 in
theorem sane_any (w : World) : Ret Tryz.prog 10 #[] w fun r w' => r = .bool true ∧ Up w w' := by
  obtain ⟨w0, rfl⟩ : ∃ w0, w0 = w := ⟨_, rfl⟩
  have hS := Sep.start no w0
  refine Calls_start (n := 171) (m := 9) Tryz.func10 rfl rfl rfl ?_
  refine CW.S (LW.C (LW.S (CW.region ?_)))
  refine LW.c (enter_call0 .nil (Tryz.en30)) rfl rfl rfl rfl (example_any _) ?_
  rintro _ w1 ⟨bc, rfl, hC, uw1⟩
  have zw1 := uw1.size
  replace hS := hS.up uw1
  refine LW.r (REv.allocA Tryz.zeroValue24) rfl rfl rfl rfl ?_
  rintro _ w2 ⟨B1, rfl, MB1⟩
  refine LW.s (SEv.storeA Tryz.sizeOf24 hC.size (.tmp rfl) (.tmp rfl) hC.one MB1.blk rfl) rfl rfl rfl ?_
  intro w3 LB1
  have NB1 := MB1.set LB1
  clear LB1 MB1
  have eB1 := NB1.at_
  have zB1 := NB1.size
  replace hC := hC.up NB1.up
  replace hS := hS.addB NB1
  change Wx.Sep _ _ _ [_] at hS
  refine LW.S (CW.region ?_)
  refine LW.pp (PEv.loadA Tryz.isAgg24 Tryz.sizeOf24 (hC.size) (.tmp rfl) ((hS.blk 0 rfl).agg)) ?_
  refine LW.c (enter_call0 (.cons (.tmp rfl) (.cons (.const _) (.cons (.const _) (.cons (.const _) .nil)))) (Tryz.en18)) rfl rfl rfl rfl (Decisions_any bc exB 4 0 9 _ (hC) (by decide) (by decide) (by decide) (by decide)) ?_
  rintro v21 w4 ⟨_, L21, rfl, hm21, hT21⟩
  rw [ex_des] at hm21
  obtain ⟨a1, c1, a2, c2, a3, c3, rfl⟩ := dps3 hm21
  replace hS := hS.join hT21
  replace hC := hC.up hT21.upd
  change Wx.Sep no _ _ [_, _, _] at hS
  obtain ⟨ad21, cp21, rfl, _⟩ := (hS.own 1 rfl).sl (fun _ => rfl)
  clear hT21 hm21
  refine LW.A rfl (LW.S (CW.region ?_))
  refine LW.pp (PEv.loadA Tryz.isAgg24 Tryz.sizeOf24 (hC.size) (.tmp rfl) ((hS.blk 0 rfl).agg)) ?_
  refine LW.c (enter_call0 (.cons (.tmp rfl) (.cons (.const _) (.cons (.const _) (.cons (.const _) (.cons (.const _) .nil))))) (Tryz.en14)) rfl rfl rfl rfl (exd12_any bc _ hC) ?_
  rintro _ w5 ⟨ad12_, cd12_, rfl, uw5⟩
  have zw5 := uw5.size
  replace hC := hC.up uw5
  replace hS := hS.up uw5
  refine LW.M rfl (LW.pp (PEv.extract (.tmp rfl) rfl) (LW.pp (PEv.extract (.tmp rfl) rfl) ?_))
  refine LW.r (REv.allocA Tryz.zeroValue37) rfl rfl rfl rfl ?_
  rintro _ w6 ⟨B3, rfl, MB3⟩
  refine LW.s (SEv.storeA Tryz.sizeOf37 rfl (.tmp rfl) (.tmp rfl) (DP.one _) MB3.blk rfl) rfl rfl rfl ?_
  intro w7 LB3
  have NB3 := MB3.set LB3
  clear LB3 MB3
  have eB3 := NB3.at_
  have zB3 := NB3.size
  replace hC := hC.up NB3.up
  replace hS := hS.addB NB3
  change Wx.Sep _ _ _ [_, _, _, _] at hS
  refine LW.A rfl (LW.S (CW.region ?_))
  refine LW.pp (PEv.loadA Tryz.isAgg24 Tryz.sizeOf24 (hC.size) (.tmp rfl) ((hS.blk 0 rfl).agg)) ?_
  refine LW.c (enter_call0 (.cons (.tmp rfl) (.cons (.const _) (.cons (.const _) (.cons (.const _) (.cons (.const _) .nil))))) (Tryz.en14)) rfl rfl rfl rfl (exd15_any bc _ hC) ?_
  rintro _ w8 ⟨ad15_, cd15_, rfl, uw8⟩
  have zw8 := uw8.size
  replace hC := hC.up uw8
  replace hS := hS.up uw8
  refine LW.M rfl (LW.pp (PEv.extract (.tmp rfl) rfl) (LW.pp (PEv.extract (.tmp rfl) rfl) ?_))
  refine LW.r (REv.allocA Tryz.zeroValue37) rfl rfl rfl rfl ?_
  rintro _ w9 ⟨B5, rfl, MB5⟩
  refine LW.s (SEv.storeA Tryz.sizeOf37 rfl (.tmp rfl) (.tmp rfl) (DP.one _) MB5.blk rfl) rfl rfl rfl ?_
  intro w10 LB5
  have NB5 := MB5.set LB5
  clear LB5 MB5
  have eB5 := NB5.at_
  have zB5 := NB5.size
  replace hC := hC.up NB5.up
  replace hS := hS.addB NB5
  change Wx.Sep _ _ _ [_, _, _, _, _] at hS
  refine LW.A rfl (LW.S (CW.region ?_))
  refine LW.pp (PEv.loadA Tryz.isAgg24 Tryz.sizeOf24 (hC.size) (.tmp rfl) ((hS.blk 0 rfl).agg)) ?_
  refine LW.c (enter_call0 (.cons (.tmp rfl) (.cons (.const _) .nil)) (Tryz.en20)) rfl rfl rfl rfl (ex2_any bc _ hC) ?_
  rintro _ w11 ⟨_, rfl, ⟨ae2, ce2, rfl, _⟩, uw11⟩
  have zw11 := uw11.size
  replace hC := hC.up uw11
  replace hS := hS.up uw11
  refine LW.M rfl (LW.pp (PEv.extract (.tmp rfl) rfl) (LW.pp (PEv.extract (.tmp rfl) rfl) (LW.pp (PEv.extract (.tmp rfl) rfl) ?_)))
  refine LW.r (REv.allocA Tryz.zeroValue37) rfl rfl rfl rfl ?_
  rintro _ w12 ⟨B7, rfl, MB7⟩
  refine LW.s (SEv.storeA Tryz.sizeOf37 rfl (.tmp rfl) (.tmp rfl) (DP.one _) MB7.blk rfl) rfl rfl rfl ?_
  intro w13 LB7
  have NB7 := MB7.set LB7
  clear LB7 MB7
  have eB7 := NB7.at_
  have zB7 := NB7.size
  replace hC := hC.up NB7.up
  replace hS := hS.addB NB7
  change Wx.Sep _ _ _ [_, _, _, _, _, _] at hS
  refine LW.A rfl (LW.A rfl (LW.S (CW.region ?_)))
  refine LW.pp (PEv.loadA Tryz.isAgg24 Tryz.sizeOf24 (hC.size) (.tmp rfl) ((hS.blk 0 rfl).agg)) ?_
  refine LW.c (enter_call0 (.cons (.tmp rfl) (.cons (.const _) .nil)) (Tryz.en20)) rfl rfl rfl rfl (ex3_any bc _ hC) ?_
  rintro _ w14 ⟨_, rfl, ⟨ae3, ce3, rfl, _⟩, uw14⟩
  have zw14 := uw14.size
  replace hC := hC.up uw14
  replace hS := hS.up uw14
  refine LW.M rfl (LW.pp (PEv.extract (.tmp rfl) rfl) (LW.pp (PEv.extract (.tmp rfl) rfl) (LW.pp (PEv.extract (.tmp rfl) rfl) ?_)))
  refine LW.r (REv.allocA Tryz.zeroValue37) rfl rfl rfl rfl ?_
  rintro _ w15 ⟨B10, rfl, MB10⟩
  refine LW.s (SEv.storeA Tryz.sizeOf37 rfl (.tmp rfl) (.tmp rfl) (DP.one _) MB10.blk rfl) rfl rfl rfl ?_
  intro w16 LB10
  have NB10 := MB10.set LB10
  clear LB10 MB10
  have eB10 := NB10.at_
  have zB10 := NB10.size
  replace hC := hC.up NB10.up
  replace hS := hS.addB NB10
  change Wx.Sep _ _ _ [_, _, _, _, _, _, _] at hS
  refine LW.A rfl (LW.A rfl (LW.S (CW.region ?_)))
  refine LW.pp (PEv.loadA Tryz.isAgg24 Tryz.sizeOf24 (hC.size) (.tmp rfl) ((hS.blk 0 rfl).agg)) ?_
  refine LW.c (enter_call0 (.cons (.tmp rfl) (.cons (.const _) .nil)) (Tryz.en20)) rfl rfl rfl rfl (ex4_any bc _ hC) ?_
  rintro _ w17 ⟨_, rfl, ⟨ae4, ce4, rfl, _⟩, uw17⟩
  have zw17 := uw17.size
  replace hC := hC.up uw17
  replace hS := hS.up uw17
  refine LW.M rfl (LW.pp (PEv.extract (.tmp rfl) rfl) (LW.pp (PEv.extract (.tmp rfl) rfl) (LW.pp (PEv.extract (.tmp rfl) rfl) ?_)))
  refine LW.r (REv.allocA Tryz.zeroValue37) rfl rfl rfl rfl ?_
  rintro _ w18 ⟨B13, rfl, MB13⟩
  refine LW.s (SEv.storeA Tryz.sizeOf37 rfl (.tmp rfl) (.tmp rfl) (DP.one _) MB13.blk rfl) rfl rfl rfl ?_
  intro w19 LB13
  have NB13 := MB13.set LB13
  clear LB13 MB13
  have eB13 := NB13.at_
  have zB13 := NB13.size
  replace hC := hC.up NB13.up
  replace hS := hS.addB NB13
  change Wx.Sep _ _ _ [_, _, _, _, _, _, _, _] at hS
  refine LW.A rfl (LW.A rfl (LW.S ?_))
  have hB1o := hS.blk 0 rfl
  refine CW.region ?_
  refine LW.pp (PEv.build (cs := exZ.cells) Tryz.underlying50 Tryz.zeroValue50 Tryz.places50 (.cons (.const _) (.cons (.const _) (.cons (.const _) (.cons (.const _) (.cons (.const _) .nil))))) (by kernel_rfl)) ?_
  refine LW.r (REv.buildSlice (xs := [exZ]) (enc := Fact.cells) (mk := fun f : Fact => .agg f.cells) Tryz.underlying22 Tryz.sizeOf50 Tryz.zeroValue50 rfl (by decide) (fun _ => rfl) (fun _ => rfl) (.cons (.tmp rfl) .nil) rfl) rfl rfl rfl rfl ?_
  rintro _ w20 ⟨B51, cB51, rfl, NB51, yB51, xB51⟩
  have eB51 := NB51.at_
  have zB51 := NB51.size
  replace hC := hC.up NB51.up
  replace hS := hS.up NB51.up
  replace hB1o := hB1o.up NB51.up
  have hE51 := xB51
  refine LW.pp (PEv.fieldAddr (off := 8) Tryz.underlying24 rfl rfl Tryz.sizeOf22 rfl (.tmp rfl)) ?_
  refine LW.s (SEv.store Tryz.sizeOf22 (.tmp rfl) (.tmp rfl) rfl (hS.blk 0 rfl) (by have := hC.size; omega)) rfl rfl rfl ?_
  intro w21 Nw21
  have zw21 := Nw21.size
  replace hS := hS.putB 0 rfl Nw21
  change Wx.Sep _ _ _ [_, _, _, _, _, _, _, _] at hS
  replace hC := (base_sto hC hB1o (fun i n => hC.no i n) Nw21.sto).setResets (sl_stoF (Sl.of_els (c := 1) hE51) hB1o (fun i n => hC.no i n) Nw21.sto)
  clear hB1o
  refine LW.S ?_
  replace hC : BaseC w21 _ exB2 := hC
  refine CW.region ?_
  refine LW.pp (PEv.loadA Tryz.isAgg24 Tryz.sizeOf24 (hC.size) (.tmp rfl) ((hS.blk 0 rfl).agg)) ?_
  refine LW.c (enter_call0 (.cons (.tmp rfl) (.cons (.const _) (.cons (.const _) (.cons (.const _) .nil)))) (Tryz.en18)) rfl rfl rfl rfl (Decisions_any _ exB2 4 0 9 _ (hC) (by decide) (by decide) (by decide) (by decide)) ?_
  rintro v54 w22 ⟨_, L54, rfl, hm54, hT54⟩
  rw [ex_des2] at hm54
  obtain ⟨e1, f1, e2, f2, e3, f3, rfl⟩ := dps3 hm54
  replace hS := hS.join hT54
  change Wx.Sep no _ _ [_, _, _, _, _, _, _, _, _, _] at hS
  obtain ⟨ad54, cp54, rfl, _⟩ := (hS.own 8 rfl).sl (fun _ => rfl)
  clear hT54 hm54
  refine LW.A rfl (LW.S (CW.seq ?_))
  obtain ⟨Bx, ox, ax, hp, hq, hr⟩ := els_p ((hS.own 1 rfl).els (fun _ => rfl))
  obtain ⟨By, oy, ay, hp2, hq2, hr2⟩ := els_p ((hS.own 8 rfl).els (fun _ => rfl))
  obtain ⟨Bu, ou, au, hcu⟩ := sl_hd (usesA_get (hS.get 2 rfl) ⟨⟨3, rI 98, rI 2, [1]⟩, a3, c3⟩ (by simp))
  refine CW.region (LW.M rfl ?_)
  refine LW.pp (PEv.lenS Tryz.underlying43 (.tmp rfl)) ?_
  refine LW.pp (PEv.fa (PEv.neq (.tmp rfl) (.const _)) (rfl)) ?_
  refine LW.M rfl ?_
  refine LW.Y ?_
  refine LW.M rfl ?_
  refine LW.Y ?_
  refine LW.pp (PEv.lenS Tryz.underlying43 (.tmp rfl)) ?_
  refine LW.Y ?_
  refine LW.pp (PEv.fa (PEv.neq (.tmp rfl) (.const _)) (rfl)) ?_
  refine LW.pp (PEv.pick_or (.tmp rfl) (fun hp => (by first | exact .const _ | exact .tmp rfl | exact .cond rfl (by first | assumption | simp_all)))) ?_
  refine LW.M rfl ?_
  refine LW.Y ?_
  refine LW.M rfl ?_
  refine LW.Y ?_
  refine LW.pp (PEv.indexAddr' Tryz.underlying43 Tryz.sizeOf37 (j := 2) (.tmp rfl) (.const _) (Nat.le_of_ble_eq_true rfl) ax) ?_
  refine LW.Y ?_
  refine LW.pp (PEv.fieldAddr (off := 5) Tryz.underlying37 rfl rfl Tryz.sizeOf35 rfl (.tmp rfl)) ?_
  refine LW.Y ?_
  refine LW.pp (PEv.load Tryz.isAgg35 (.tmp rfl) (dp_uses hr)) ?_
  refine LW.Y ?_
  refine LW.pp (PEv.lenS Tryz.underlying35 (.tmp rfl)) ?_
  refine LW.Y ?_
  refine LW.pp (PEv.fa (PEv.neq (.tmp rfl) (.const _)) (rfl)) ?_
  refine LW.pp (PEv.pick_or (.tmp rfl) (fun hp => (by first | exact .const _ | exact .tmp rfl | exact .cond rfl (by first | assumption | simp_all)))) ?_
  refine LW.T ?_
  refine CW.cond_false (.tmp rfl) ?_
  refine CW.skip (KW.then (CW.seq ?_))
  refine CW.draws (by kernel_rfl) (by kernel_rfl) rfl rfl ?_
  refine HW.pp (PEv.move (.tmp rfl)) ?_
  refine HW.pp (PEv.indexAddr' Tryz.underlying43 Tryz.sizeOf37 (j := 0) (.tmp rfl) (.const _) (Nat.le_of_ble_eq_true rfl) ax) ?_
  refine HW.pp (PEv.fieldAddr (off := 1) Tryz.underlying37 rfl rfl Tryz.sizeOf34 rfl (.tmp rfl)) ?_
  refine HW.pp (PEv.loadA Tryz.isAgg34 Tryz.sizeOf34 rfl (.tmp rfl) (dp_par hp)) ?_
  refine HW.c (fun a w _ ha => enter_call0 (.cons (.const _) .nil) (Tryz.en28) a ha) rfl rfl (fun w hu => rwhole_any _ w) ?_
  refine HW.pp (PEv.tr (PEv.eqlA Tryz.eqGuardType34 (Tryz.eqRt _ _) (.tmp rfl) (.tmp rfl)) ((rtB_self _))) ?_
  refine HW.pp (PEv.move (.tmp rfl)) ?_
  refine HW.yp rfl rfl rfl rfl rfl (PEv.move (.tmp rfl)) rfl ?_
  refine HW.yp rfl rfl rfl rfl rfl (PEv.indexAddr' Tryz.underlying43 Tryz.sizeOf37 (j := 1) (.tmp rfl) (.const _) (Nat.le_of_ble_eq_true rfl) ax) rfl ?_
  refine HW.yp rfl rfl rfl rfl rfl (PEv.fieldAddr (off := 1) Tryz.underlying37 rfl rfl Tryz.sizeOf34 rfl (.tmp rfl)) rfl ?_
  refine HW.yp rfl rfl rfl rfl rfl (PEv.loadA Tryz.isAgg34 Tryz.sizeOf34 rfl (.tmp rfl) (dp_par hq)) rfl ?_
  refine HW.yc rfl rfl rfl rfl rfl (fun a w _ ha => enter_call0 (.cons (.const _) .nil) (Tryz.en28) a ha) rfl (fun w hu => rwhole_any _ w) ?_
  refine HW.yp rfl rfl rfl rfl rfl (PEv.tr (PEv.eqlA Tryz.eqGuardType34 (Tryz.eqRt _ _) (.tmp rfl) (.tmp rfl)) ((rtB_self _))) rfl ?_
  refine HW.pp (PEv.pick_and (.tmp rfl) (fun hp => (by first | exact .const _ | exact .tmp rfl | exact .cond rfl (by first | assumption | simp_all)))) ?_
  refine HW.pp (PEv.move (.tmp rfl)) ?_
  refine HW.yp rfl rfl rfl rfl rfl (PEv.move (.tmp rfl)) rfl ?_
  refine HW.yp rfl rfl rfl rfl rfl (PEv.indexAddr' Tryz.underlying43 Tryz.sizeOf37 (j := 1) (.tmp rfl) (.const _) (Nat.le_of_ble_eq_true rfl) ax) rfl ?_
  refine HW.yp rfl rfl rfl rfl rfl (PEv.fieldAddr (off := 3) Tryz.underlying37 rfl rfl Tryz.sizeOf34 rfl (.tmp rfl)) rfl ?_
  refine HW.yp rfl rfl rfl rfl rfl (PEv.loadA Tryz.isAgg34 Tryz.sizeOf34 rfl (.tmp rfl) (dp_est hq)) rfl ?_
  refine HW.yc rfl rfl rfl rfl rfl (fun a w _ ha => enter_call0 (.cons (.const _) .nil) (Tryz.en28) a ha) rfl (fun w hu => rwhole_any _ w) ?_
  refine HW.yp rfl rfl rfl rfl rfl (PEv.tr (PEv.eqlA Tryz.eqGuardType34 (Tryz.eqRt _ _) (.tmp rfl) (.tmp rfl)) ((rtB_self _))) rfl ?_
  refine HW.pp (PEv.pick_and (.tmp rfl) (fun hp => (by first | exact .const _ | exact .tmp rfl | exact .cond rfl (by first | assumption | simp_all)))) ?_
  refine HW.pp (PEv.move (.tmp rfl)) ?_
  refine HW.yp rfl rfl rfl rfl rfl (PEv.move (.tmp rfl)) rfl ?_
  refine HW.yp rfl rfl rfl rfl rfl (PEv.indexAddr' Tryz.underlying43 Tryz.sizeOf37 (j := 2) (.tmp rfl) (.const _) (Nat.le_of_ble_eq_true rfl) ax) rfl ?_
  refine HW.yp rfl rfl rfl rfl rfl (PEv.fieldAddr (off := 1) Tryz.underlying37 rfl rfl Tryz.sizeOf34 rfl (.tmp rfl)) rfl ?_
  refine HW.yp rfl rfl rfl rfl rfl (PEv.loadA Tryz.isAgg34 Tryz.sizeOf34 rfl (.tmp rfl) (dp_par hr)) rfl ?_
  refine HW.yc rfl rfl rfl rfl rfl (fun a w _ ha => enter_call0 (.cons (.const _) .nil) (Tryz.en28) a ha) rfl (fun w hu => rwhole_any _ w) ?_
  refine HW.yp rfl rfl rfl rfl rfl (PEv.tr (PEv.eqlA Tryz.eqGuardType34 (Tryz.eqRt _ _) (.tmp rfl) (.tmp rfl)) ((rtB_self _))) rfl ?_
  refine HW.pp (PEv.pick_and (.tmp rfl) (fun hp => (by first | exact .const _ | exact .tmp rfl | exact .cond rfl (by first | assumption | simp_all)))) ?_
  refine HW.pp (PEv.move (.tmp rfl)) ?_
  refine HW.yp rfl rfl rfl rfl rfl (PEv.move (.tmp rfl)) rfl ?_
  refine HW.yp rfl rfl rfl rfl rfl (PEv.indexAddr' Tryz.underlying43 Tryz.sizeOf37 (j := 2) (.tmp rfl) (.const _) (Nat.le_of_ble_eq_true rfl) ax) rfl ?_
  refine HW.yp rfl rfl rfl rfl rfl (PEv.fieldAddr (off := 5) Tryz.underlying37 rfl rfl Tryz.sizeOf35 rfl (.tmp rfl)) rfl ?_
  refine HW.yp rfl rfl rfl rfl rfl (PEv.load Tryz.isAgg35 (.tmp rfl) (dp_uses hr)) rfl ?_
  refine HW.yp rfl rfl rfl rfl rfl (PEv.indexAddr' Tryz.underlying35 Tryz.sizeOf3 (j := 0) (.tmp rfl) (.const _) (Nat.le_of_ble_eq_true rfl) au) rfl ?_
  refine HW.yp rfl rfl rfl rfl rfl (PEv.load Tryz.isAgg3 (.tmp rfl) (hcu 0 _ rfl)) rfl ?_
  refine HW.yp rfl rfl rfl rfl rfl (PEv.tr (PEv.eql (.tmp rfl) (.const _)) (rfl)) rfl ?_
  refine HW.pp (PEv.pick_and (.tmp rfl) (fun hp => (by first | exact .const _ | exact .tmp rfl | exact .cond rfl (by first | assumption | simp_all)))) ?_
  refine HW.pp (PEv.move (.tmp rfl)) ?_
  refine HW.yp rfl rfl rfl rfl rfl (PEv.move (.tmp rfl)) rfl ?_
  refine HW.yp rfl rfl rfl rfl rfl (PEv.indexAddr' Tryz.underlying43 Tryz.sizeOf37 (j := 2) (.tmp rfl) (.const _) (Nat.le_of_ble_eq_true rfl) ax) rfl ?_
  refine HW.yp rfl rfl rfl rfl rfl (PEv.fieldAddr (off := 0) Tryz.underlying37 rfl rfl Tryz.sizeOf3 rfl (.tmp rfl)) rfl ?_
  refine HW.yp rfl rfl rfl rfl rfl (PEv.load Tryz.isAgg3 (.tmp rfl) (dp_run hr)) rfl ?_
  refine HW.yp rfl rfl rfl rfl rfl (PEv.tr (PEv.eql (.tmp rfl) (.const _)) (rfl)) rfl ?_
  refine HW.pp (PEv.pick_and (.tmp rfl) (fun hp => (by first | exact .const _ | exact .tmp rfl | exact .cond rfl (by first | assumption | simp_all)))) ?_
  refine HW.pp (PEv.assign (.tmp rfl)) ?_
  refine HW.nil ?_
  intro w23 uw23
  have zw23 := uw23.size
  replace hS := hS.up uw23
  replace hp := hp.up uw23
  replace hq := hq.up uw23
  replace hr := hr.up uw23
  replace hr2 := hr2.up uw23
  replace hcu := hcu.up uw23
  refine KW.then (CW.seq ?_)
  refine CW.draws (by kernel_rfl) (by kernel_rfl) rfl rfl ?_
  refine HW.pp (PEv.move (.tmp rfl)) ?_
  refine HW.pp (PEv.tr (PEv.eql (.tmp rfl) (.const _)) (rfl)) ?_
  refine HW.pp (PEv.move (.tmp rfl)) ?_
  refine HW.yp rfl rfl rfl rfl rfl (PEv.fieldAddr (off := 1) Tryz.underlying37 rfl rfl Tryz.sizeOf34 rfl (.tmp rfl)) rfl ?_
  refine HW.yp rfl rfl rfl rfl rfl (PEv.loadA Tryz.isAgg34 Tryz.sizeOf34 rfl (.tmp rfl) (dp_par0 (hS.blk 3 rfl))) rfl ?_
  refine HW.yc rfl rfl rfl rfl rfl (fun a w _ ha => enter_call0 (.cons (.const _) .nil) (Tryz.en28) a ha) rfl (fun w hu => rwhole_any _ w) ?_
  refine HW.yp rfl rfl rfl rfl rfl (PEv.tr (PEv.eqlA Tryz.eqGuardType34 (Tryz.eqRt _ _) (.tmp rfl) (.tmp rfl)) ((rtB_self _))) rfl ?_
  refine HW.pp (PEv.pick_and (.tmp rfl) (fun hp => (by first | exact .const _ | exact .tmp rfl | exact .cond rfl (by first | assumption | simp_all)))) ?_
  refine HW.pp (PEv.move (.tmp rfl)) ?_
  refine HW.yp rfl rfl rfl rfl rfl (PEv.move (.tmp rfl)) rfl ?_
  refine HW.yp rfl rfl rfl rfl rfl (PEv.tr (PEv.eql (.tmp rfl) (.const _)) (rfl)) rfl ?_
  refine HW.pp (PEv.pick_and (.tmp rfl) (fun hp => (by first | exact .const _ | exact .tmp rfl | exact .cond rfl (by first | assumption | simp_all)))) ?_
  refine HW.pp (PEv.move (.tmp rfl)) ?_
  refine HW.yp rfl rfl rfl rfl rfl (PEv.fieldAddr (off := 1) Tryz.underlying37 rfl rfl Tryz.sizeOf34 rfl (.tmp rfl)) rfl ?_
  refine HW.yp rfl rfl rfl rfl rfl (PEv.loadA Tryz.isAgg34 Tryz.sizeOf34 rfl (.tmp rfl) (dp_par0 (hS.blk 4 rfl))) rfl ?_
  refine HW.yc rfl rfl rfl rfl rfl (fun a w _ ha => enter_call0 (.cons (.const _) .nil) (Tryz.en28) a ha) rfl (fun w hu => rwhole_any _ w) ?_
  refine HW.yp rfl rfl rfl rfl rfl (PEv.tr (PEv.eqlA Tryz.eqGuardType34 (Tryz.eqRt _ _) (.tmp rfl) (.tmp rfl)) ((rtB_self _))) rfl ?_
  refine HW.pp (PEv.pick_and (.tmp rfl) (fun hp => (by first | exact .const _ | exact .tmp rfl | exact .cond rfl (by first | assumption | simp_all)))) ?_
  refine HW.pp (PEv.move (.tmp rfl)) ?_
  refine HW.yp rfl rfl rfl rfl rfl (PEv.fieldAddr (off := 0) Tryz.underlying37 rfl rfl Tryz.sizeOf3 rfl (.tmp rfl)) rfl ?_
  refine HW.yp rfl rfl rfl rfl rfl (PEv.load Tryz.isAgg3 (.tmp rfl) ((hS.blk 5 rfl).celln rfl)) rfl ?_
  refine HW.yp rfl rfl rfl rfl rfl (PEv.tr (PEv.eql (.tmp rfl) (.const _)) (rfl)) rfl ?_
  refine HW.pp (PEv.pick_and (.tmp rfl) (fun hp => (by first | exact .const _ | exact .tmp rfl | exact .cond rfl (by first | assumption | simp_all)))) ?_
  refine HW.pp (PEv.move (.tmp rfl)) ?_
  refine HW.yp rfl rfl rfl rfl rfl (PEv.tr (PEv.move (.tmp rfl)) (rfl)) rfl ?_
  refine HW.pp (PEv.pick_and (.tmp rfl) (fun hp => (by first | exact .const _ | exact .tmp rfl | exact .cond rfl (by first | assumption | simp_all)))) ?_
  refine HW.pp (PEv.move (.tmp rfl)) ?_
  refine HW.yp rfl rfl rfl rfl rfl (PEv.move (.tmp rfl)) rfl ?_
  refine HW.yp rfl rfl rfl rfl rfl (PEv.tr (PEv.eql (.tmp rfl) (.const _)) (rfl)) rfl ?_
  refine HW.pp (PEv.pick_and (.tmp rfl) (fun hp => (by first | exact .const _ | exact .tmp rfl | exact .cond rfl (by first | assumption | simp_all)))) ?_
  refine HW.pp (PEv.move (.tmp rfl)) ?_
  refine HW.yp rfl rfl rfl rfl rfl (PEv.move (.tmp rfl)) rfl ?_
  refine HW.yp rfl rfl rfl rfl rfl (PEv.tr (PEv.not (.tmp rfl)) (rfl)) rfl ?_
  refine HW.pp (PEv.pick_and (.tmp rfl) (fun hp => (by first | exact .const _ | exact .tmp rfl | exact .cond rfl (by first | assumption | simp_all)))) ?_
  refine HW.pp (PEv.move (.tmp rfl)) ?_
  refine HW.yp rfl rfl rfl rfl rfl (PEv.move (.tmp rfl)) rfl ?_
  refine HW.yp rfl rfl rfl rfl rfl (PEv.tr (PEv.eql (.tmp rfl) (.const _)) (rfl)) rfl ?_
  refine HW.pp (PEv.pick_and (.tmp rfl) (fun hp => (by first | exact .const _ | exact .tmp rfl | exact .cond rfl (by first | assumption | simp_all)))) ?_
  refine HW.pp (PEv.move (.tmp rfl)) ?_
  refine HW.yp rfl rfl rfl rfl rfl (PEv.move (.tmp rfl)) rfl ?_
  refine HW.yp rfl rfl rfl rfl rfl (PEv.tr (PEv.eql (.tmp rfl) (.const _)) (rfl)) rfl ?_
  refine HW.pp (PEv.pick_and (.tmp rfl) (fun hp => (by first | exact .const _ | exact .tmp rfl | exact .cond rfl (by first | assumption | simp_all)))) ?_
  refine HW.pp (PEv.assign (.tmp rfl)) ?_
  refine HW.nil ?_
  intro w24 uw24
  have zw24 := uw24.size
  replace hS := hS.up uw24
  replace hp := hp.up uw24
  replace hq := hq.up uw24
  replace hr := hr.up uw24
  replace hr2 := hr2.up uw24
  replace hcu := hcu.up uw24
  refine KW.then (CW.seq ?_)
  refine CW.draws (by kernel_rfl) (by kernel_rfl) rfl rfl ?_
  refine HW.pp (PEv.move (.tmp rfl)) ?_
  refine HW.pp (PEv.move (.tmp rfl)) ?_
  refine HW.yp rfl rfl rfl rfl rfl (PEv.move (.tmp rfl)) rfl ?_
  refine HW.pp (PEv.pick_and (.tmp rfl) (fun hp => (by first | exact .const _ | exact .tmp rfl | exact .cond rfl (by first | assumption | simp_all)))) ?_
  refine HW.pp (PEv.move (.tmp rfl)) ?_
  refine HW.yp rfl rfl rfl rfl rfl (PEv.move (.tmp rfl)) rfl ?_
  refine HW.yp rfl rfl rfl rfl rfl (PEv.indexAddr' Tryz.underlying43 Tryz.sizeOf37 (j := 2) (.tmp rfl) (.const _) (Nat.le_of_ble_eq_true rfl) ay) rfl ?_
  refine HW.yp rfl rfl rfl rfl rfl (PEv.fieldAddr (off := 1) Tryz.underlying37 rfl rfl Tryz.sizeOf34 rfl (.tmp rfl)) rfl ?_
  refine HW.yp rfl rfl rfl rfl rfl (PEv.loadA Tryz.isAgg34 Tryz.sizeOf34 rfl (.tmp rfl) (dp_par hr2)) rfl ?_
  refine HW.yc rfl rfl rfl rfl rfl (fun a w _ ha => enter_call0 (.cons (.const _) .nil) (Tryz.en28) a ha) rfl (fun w hu => rwhole_any _ w) ?_
  refine HW.yp rfl rfl rfl rfl rfl (PEv.tr (PEv.eqlA Tryz.eqGuardType34 (Tryz.eqRt _ _) (.tmp rfl) (.tmp rfl)) ((rtB_self _))) rfl ?_
  refine HW.pp (PEv.pick_and (.tmp rfl) (fun hp => (by first | exact .const _ | exact .tmp rfl | exact .cond rfl (by first | assumption | simp_all)))) ?_
  refine HW.pp (PEv.assign (.tmp rfl)) ?_
  refine HW.nil ?_
  intro w25 uw25
  have zw25 := uw25.size
  replace hS := hS.up uw25
  replace hp := hp.up uw25
  replace hq := hq.up uw25
  replace hr := hr.up uw25
  replace hr2 := hr2.up uw25
  replace hcu := hcu.up uw25
  refine KW.then (CW.ret ?_)
  refine KW.ret1 rfl rfl ⟨_, rfl, ?_⟩
  exact ⟨rfl, hS.upd⟩
end Go.Proofs.YtgffaeachbbjoaaGreatDoor
end
section
namespace Go.Wx
theorem lst_mem {l : List Fact} {d : Int} {j : Nat} (hj : j < 11) {x : Fact} : x ∈ lstOf (ofB l d) j ↔ eff l d x ∧ x.Gone = false ∧ x.Kind = ((j + 1 : Nat) : Int) := by
  rw [lst_ofB l d hj]
  unfold lstAt
  rw [if_pos (List.mem_singleton.2 rfl), (sortK_sts _).same.mem, List.mem_filter, best_eff]
  simp
theorem eff_valid {l : List Fact} {d : Int} {x : Fact} (h : eff l d x) : validB x = true := keyB_valid h.2.1
theorem eff_key {l : List Fact} {d : Int} {x y : Fact} (hx : eff l d x) (hy : eff l d y) (e : keyB x = keyB y) : x = y := prev_total (eff_valid hx) (eff_valid hy) e (hy.2.2.2 x hx.1 hx.2.2.1) (hx.2.2.2 y hy.1 hy.2.2.1)
theorem lst_nodup (l : List Fact) (d : Int) {j : Nat} (hj : j < 11) : (lstOf (ofB l d) j).Nodup := by
  rw [lst_ofB l d hj]
  unfold lstAt
  rw [if_pos (List.mem_singleton.2 rfl)]
  exact ((sortK_sts _).same.perm.nodup_iff).2 ((factsM_nodup l d).filter _)
theorem sorted_eq {α : Type} {key : α → K2} {A B : List α} (hA : srt key A) (hB : srt key B) (hp : A.Perm B) (hd : ∀ x ∈ A, ∀ y ∈ A, key x = key y → x = y) : A = B := by
  rw [(StS.refl hA).eq, (StS.refl hB).eq]
  exact sortK_perm hp hd
theorem lst_srt (l : List Fact) (d : Int) {j : Nat} (hj : j < 11) : srt (ordK ((j + 1 : Nat) : Int)) (lstOf (ofB l d) j) := by
  rw [lst_ofB l d hj]; unfold lstAt; rw [if_pos (List.mem_singleton.2 rfl)]; exact (sortK_sts _).ord
theorem lst_same {l m : List Fact} {d : Int} {j : Nat} (hj : j < 11) (h : ∀ x, eff l d x ∧ x.Kind = ((j + 1 : Nat) : Int) ↔ eff m d x ∧ x.Kind = ((j + 1 : Nat) : Int)) : lstOf (ofB l d) j = lstOf (ofB m d) j := by
  refine sorted_eq (lst_srt _ d hj) (lst_srt _ d hj) (perm_of_mem (lst_nodup _ d hj) (lst_nodup _ d hj) fun x => ?_) fun x hx y hy e => ?_
  · rw [lst_mem hj, lst_mem hj]
    have := h x
    exact ⟨fun ⟨a, b, c⟩ => ⟨(this.1 ⟨a, c⟩).1, b, c⟩, fun ⟨a, b, c⟩ => ⟨(this.2 ⟨a, c⟩).1, b, c⟩⟩
  · have hx := (lst_mem hj).1 hx
    have hy := (lst_mem hj).1 hy
    exact eff_key hx.1 hy.1 (key_of_ord (eff_valid hx.1) (eff_valid hy.1) hx.2.2 hy.2.2 e)
theorem soF_mem {xs : List I6} {f : Fact} (h : f ∈ soL xs) : ∃ y ∈ xs, soF y = some f := by
  unfold soL at h
  obtain ⟨y, hy, e⟩ := List.mem_filterMap.1 h
  exact ⟨y, List.mem_of_mem_take hy, e⟩
theorem so_cases {y : I6} {f : Fact} (h : soF y = some f) : f = soP y ∨ f = soM y ∨ f = soT y ∨ f = soR y := by
  unfold soF at h
  split at h
  · exact .inl (Option.some.inj h).symm
  · split at h
    · exact .inr (.inl (Option.some.inj h).symm)
    · split at h
      · exact .inr (.inr (.inl (Option.some.inj h).symm))
      · split at h
        · cases h
        · exact .inr (.inr (.inr (Option.some.inj h).symm))
theorem desF_uses (b : Base) (t c r : Int) : ∀ D ∈ desF b t c r, D.uses.length ≤ (rnsF b t c r).length := fun D hD => by
  unfold desF at hD
  obtain ⟨i, hi, rfl⟩ := List.mem_map.1 hD
  have hi := List.mem_range.1 hi
  obtain ⟨x, hx⟩ := getElem?_of_lt hi
  rw [decAt_some hx]
  refine Nat.le_trans (decF_uses b t c r x.Time _) ?_
  rw [List.length_take]; omega
def shortN (n : Nat) (b : Base) : Prop := ∀ j, (lstOf b j).length ≤ n
theorem ofB_shortN {l : List Fact} {n : Nat} (h : l.length ≤ n) (d : Int) : shortN n (ofB l d) := fun j => by
  by_cases hj : j < 11
  · rw [lst_ofB l d hj]
    exact Nat.le_trans (lst_len _ _ _) (Nat.le_trans (factsM_len l d) h)
  · rw [lstOf_big _ hj]; simp
end Go.Wx
namespace Go.Proofs.YtgffaeachbbjoaaGreatDoor
open Go.Wx Go.RowKit
theorem DecisionsE_any (bc : Array Go.Value) (b : Base) (t c r : Int) (w : World) (hC : BaseC w bc b) (hlP : b.Processes.length ≤ 400) (hlR : b.Resets.length ≤ 100000) (hlM : b.Measures.length ≤ 100000) (hlT : b.Targets.length ≤ 100000) : Ret Tryz.prog 18 #[.agg bc, vi t, vi c, vi r] w fun r0 w' => DecsE w' r0 (desF b t c r) ∧ Up w w' :=
  (Decisions_any bc b t c r w hC hlP hlR hlM hlT).mono fun r0 w' ⟨v, L, e, hm, hT⟩ => ⟨by rw [e]; exact decsE_of hT hm, hT.upd⟩
theorem OfV_any (v : Go.Value) (l : List Fact) (d : Int) (w : World) (h : Sl w v 19 Fact.cells l) (hl : l.length ≤ 100000) : Ret Tryz.prog 23 #[v, vi d] w fun r w' => ∃ bc, r = .agg bc ∧ BaseC w' bc (ofB l d) ∧ Up w w' := by
  obtain ⟨ad, cp, rfl, hE⟩ := h
  exact Of_any ad cp l d w hE hl
end Go.Proofs.YtgffaeachbbjoaaGreatDoor
end
section
namespace Go.Wx
theorem sortK_filter {α : Type} {key : α → K2} (p : α → Bool) (l : List α) : (sortK key l).filter p = sortK key (l.filter p) :=
  StS.unique ⟨(sortK_sts l).ord.sublist List.filter_sublist, fun k => by
    rw [List.filter_filter, List.filter_filter]
    have h := (sortK_sts (key := key) l).same k
    rw [show (fun x => (key x == k) && p x) = fun x => p x && (key x == k) from funext fun x => Bool.and_comm _ _, ← List.filter_filter, ← List.filter_filter, h]⟩ (sortK_sts _)
theorem rnsF_sort (b : Base) (t c r : Int) : rnsF b t c r = sortK runK ((b.Processes.filter (runP t c)).filter fun x => decide (x.Recipe = r)) := by unfold rnsF runsB; rw [sortK_filter]
theorem rns_mem {b : Base} {t c r : Int} {x : Fact} : x ∈ rnsF b t c r ↔ x ∈ b.Processes ∧ x.Tool = t ∧ x.Chamber = c ∧ x.Recipe = r := by
  rw [rnsF_sort, (sortK_sts _).same.mem, List.mem_filter, List.mem_filter]
  unfold runP
  simp only [Bool.and_eq_true, decide_eq_true_eq]
  exact ⟨fun ⟨⟨a, b, c⟩, d⟩ => ⟨a, b, c, d⟩, fun ⟨a, b, c, d⟩ => ⟨⟨a, b, c⟩, d⟩⟩
theorem rns_srt (b : Base) (t c r : Int) : srt runK (rnsF b t c r) := by rw [rnsF_sort]; exact (sortK_sts _).ord
theorem rns_nodup {b : Base} {t c r : Int} (h : b.Processes.Nodup) : (rnsF b t c r).Nodup := by
  rw [rnsF_sort, (sortK_sts _).same.perm.nodup_iff]
  exact (h.filter _).filter _
theorem srt_time {l : List Fact} (h : srt runK l) {i j : Nat} {x y : Fact} (hij : i < j) (hx : l[i]? = some x) (hy : l[j]? = some y) : x.Time ≤ y.Time := by
  have h1 := pairwise_get h hij hx hy
  have h2 := ltK_not.1 h1
  simp only [runK] at h2
  omega
theorem sumF_congr {M T M' T' : List Fact} {r t : Int} : ∀ {l : List Fact}, (∀ x ∈ l, devF M T r x t = devF M' T' r x t) → ∀ s, l.foldl (sumStep M T r t) s = l.foldl (sumStep M' T' r t) s
  | [], _, _ => rfl
  | x :: l, h, s => by
    rw [List.foldl_cons, List.foldl_cons, sumF_congr (fun y hy => h y (List.mem_cons_of_mem _ hy))]
    congr 1
    unfold sumStep
    rw [h x List.mem_cons_self]
theorem since_mem : ∀ {rs a : List Fact} {x : Fact}, x ∈ sinceF rs a ↔ x ∈ a ∧ ∀ y ∈ rs, y.Time ≤ x.Time
  | [], a, x => by simp [sinceF]
  | y :: rs, a, x => by
    have e : sinceF (y :: rs) a = sinceF rs (a.filter fun x => decide (y.Time ≤ x.Time)) := rfl
    rw [e, since_mem, List.mem_filter]
    simp only [decide_eq_true_eq, List.forall_mem_cons]
    exact ⟨fun ⟨⟨a, b⟩, c⟩ => ⟨a, b, c⟩, fun ⟨a, b, c⟩ => ⟨⟨a, b⟩, c⟩⟩
theorem since_filter : ∀ (rs a : List Fact), sinceF rs a = a.filter fun x => rs.all fun y => decide (y.Time ≤ x.Time)
  | [], a => (List.filter_eq_self.2 fun _ _ => rfl).symm
  | y :: rs, a => by
    have e : sinceF (y :: rs) a = sinceF rs (a.filter fun x => decide (y.Time ≤ x.Time)) := rfl
    rw [e, since_filter rs, List.filter_filter]
    congr 1
    funext x
    rw [List.all_cons, Bool.and_comm]
structure KnB (b : Base) : Prop where
  sh : shortN 100 b
  nd : b.Processes.Nodup
  uid : ∀ f ∈ b.Processes, ∀ g ∈ b.Processes, f.ID = g.ID → f = g
theorem kn_of {l : List Fact} (h : l.length ≤ 100) (d : Int) : KnB (ofB l d) := by
  refine ⟨ofB_shortN h d, lst_nodup l d (j := 0) (by decide), fun f hf g hg e => ?_⟩
  have h1 := (lst_mem (j := 0) (by decide)).1 hf
  have h2 := (lst_mem (j := 0) (by decide)).1 hg
  exact eff_key h1.1 h2.1 (key_of_ord (k := 1) (eff_valid h1.1) (eff_valid h2.1) h1.2.2 h2.2.2 (by show (f.ID, (0 : Int)) = (g.ID, 0); rw [e]))
theorem KnB.find {b : Base} (h : KnB b) {f : Fact} (hf : f ∈ b.Processes) : procB b f.ID = some f := by
  unfold procB
  cases e : b.Processes.find? fun x => decide (x.ID = f.ID) with
  | none => exact absurd (List.find?_eq_none.1 e f hf) (by simp)
  | some g =>
    have h1 := List.find?_some e
    exact congrArg some (h.uid g (List.mem_of_find?_eq_some e) f hf (of_decide_eq_true h1))
theorem KnB.run {b : Base} (h : KnB b) {t c r : Int} {f : Fact} (hf : f ∈ rnsF b t c r) : procB b f.ID = some f := h.find (rns_mem.1 hf).1
end Go.Wx
namespace Go.Proofs.YtgffaeachbbjoaaGreatDoor
open Go.Wx Go.RowKit
end Go.Proofs.YtgffaeachbbjoaaGreatDoor
end
section
namespace Go.Wx
theorem sum_mem (M T : List Fact) (r t : Int) : ∀ (l : List Fact) (s : Int × List Int), ∀ u ∈ (l.foldl (sumStep M T r t) s).2, u ∈ s.2 ∨ ∃ x ∈ l, u = x.ID
  | [], _, u, h => .inl h
  | x :: l, s, u, h => by
    rw [List.foldl_cons] at h
    rcases sum_mem M T r t l _ u h with h | ⟨y, hy, e⟩
    · unfold sumStep at h
      split at h
      · rcases List.mem_append.1 h with h | h
        · exact .inl h
        · exact .inr ⟨x, List.mem_cons_self, List.mem_singleton.1 h⟩
      · exact .inl h
    · exact .inr ⟨y, List.mem_cons_of_mem _ hy, e⟩
theorem tg_end (r t : Int) (T : List Fact) : ∀ (l : List Fact) (s : Fact × Bool), (∀ x ∈ l, x ∈ T) → (s = (zeroF, false) ∨ (s.1 ∈ T ∧ s.2 = true)) → (l.foldl (tgStep r t) s = (zeroF, false) ∨ ((l.foldl (tgStep r t) s).1 ∈ T ∧ (l.foldl (tgStep r t) s).2 = true))
  | [], _, _, h => h
  | x :: l, s, hl, h => by
    rw [List.foldl_cons]
    refine tg_end r t T l _ (fun y hy => hl y (List.mem_cons_of_mem _ hy)) ?_
    unfold tgStep
    split
    · exact .inr ⟨hl x List.mem_cons_self, rfl⟩
    · exact h
theorem tg_cases (r t : Int) (T : List Fact) : tgF r t T = (zeroF, false) ∨ ((tgF r t T).1 ∈ T ∧ (tgF r t T).2 = true) := tg_end r t T T _ (fun _ h => h) (.inl rfl)
theorem tar_small {T : List Fact} {r t : Int} (h : ∀ f ∈ T, 0 ≤ f.Value ∧ f.Value < 40) : tarF T r t = (tgF r t T).1.Value ∧ 0 ≤ tarF T r t ∧ tarF T r t < 40 := by
  unfold tarF
  rcases tg_cases r t T with e | ⟨h1, h2⟩
  · rw [e]; exact ⟨rfl, by decide, by decide⟩
  · have hv := h _ h1
    rw [h2, show isVal (tgF r t T).1.Value = true by unfold isVal; simp; omega]
    exact ⟨rfl, hv⟩
theorem so_value {xs : List I6} (hx : ∀ y ∈ xs, I6Ok y) : ∀ f ∈ soL xs, f.Kind = 10 → 0 ≤ f.Value ∧ f.Value < 40 := fun f hf hk => by
  obtain ⟨y, hy, e⟩ := soF_mem hf
  rcases so_cases e with rfl | rfl | rfl | rfl
  · cases hk
  · cases hk
  · exact pick_range (hx y hy).2.2.2.2.2 (by decide)
  · cases hk
theorem sum_subl (M T : List Fact) (r t : Int) : ∀ (l : List Fact) (s : Int × List Int), ∃ k : List Fact, k.Sublist l ∧ (l.foldl (sumStep M T r t) s).2 = s.2 ++ k.map (·.ID)
  | [], s => ⟨[], List.Sublist.slnil, by simp⟩
  | x :: l, s => by
    rw [List.foldl_cons]
    obtain ⟨k, h1, h2⟩ := sum_subl M T r t l (sumStep M T r t s x)
    by_cases h : clears (devF M T r x t) = true
    · rw [sum_yes h] at h2
      exact ⟨x :: k, h1.cons_cons x, by rw [sum_yes h, h2]; simp⟩
    · rw [sum_no (by simpa using h)] at h2
      exact ⟨k, h1.cons x, by rw [sum_no (by simpa using h), h2]⟩
theorem keyF_sub {k : Int} (h : 1 ≤ k ∧ k ≤ 11) : ∀ x ∈ keyFOf k, x ∈ fieldsOf k := by
  have hc : k = 1 ∨ k = 2 ∨ k = 3 ∨ k = 4 ∨ k = 5 ∨ k = 6 ∨ k = 7 ∨ k = 8 ∨ k = 9 ∨ k = 10 ∨ k = 11 := by omega
  rcases hc with rfl | rfl | rfl | rfl | rfl | rfl | rfl | rfl | rfl | rfl | rfl <;>
    simp [keyFOf, fieldsOf, shapeK, shapeF, fIds, fWhen, fWho]
theorem keyL_in {f : Fact} (hf : validB f = true) : ∀ x ∈ keyL f, inW x := fun x hx => by
  have hk := valid_kind hf
  unfold keyL at hx
  rcases List.mem_cons.1 hx with rfl | hx
  · exact ⟨by omega, by omega⟩
  · obtain ⟨y, hy, rfl⟩ := List.mem_map.1 hx
    exact (valid_parts hf).2.1 y (keyF_sub hk y hy)
theorem key_vals {f g : Fact} (hf : validB f = true) (hg : validB g = true) (h : keyB f = keyB g) : f.Kind = g.Kind ∧ valsOf (keyFOf f.Kind) f = valsOf (keyFOf f.Kind) g := by
  have hk := key_kind hf hg h
  unfold keyB at h
  rw [if_pos hf, if_pos hg] at h
  have e := (encIs_cut (r := []) (s := []) (keyL_in hf) (keyL_in hg) (by unfold keyL; simp [valsOf, hk]) (by rw [h])).1
  unfold keyL at e
  rw [← hk] at e
  exact ⟨hk, (List.cons.inj e).2⟩
def mF (id time value : Int) : Fact := { zeroF with Kind := 2, Version := 1, Day := 10, ID := id, Time := time, Value := value }
theorem mF_valid {id time value : Int} (hi : 1 ≤ id ∧ id ≤ 9) (ht : 0 ≤ time ∧ time < 60) (hv : -10 ≤ value ∧ value < 50) : validB (mF id time value) = true := by
  unfold validB
  have hf : fieldsOf (mF id time value).Kind = [num1 1, fWhen, fRes] := rfl
  have hr : restB (restOf (mF id time value).Kind) (mF id time value) = true := rfl
  have hp : preB (mF id time value) = false := rfl
  have hn : runF [num1 1, fWhen, fRes] (mF id time value) = some (fact0 2 1 10 false) := by
    refine (if_neg (show ¬ (id < 1 ∨ (1000000 : Int) < id) by omega)).trans ?_
    refine (if_neg (show ¬ (time < 0 ∨ (1000000 : Int) < time) by omega)).trans ?_
    refine (if_neg (show ¬ (value < -1000000 ∨ (1000000 : Int) < value) by omega)).trans ?_
    rfl
  rw [hf, hr, hp, hn]
  show (true && (!(false || !true) && Fact.eqb (fact0 2 1 10 false) (fact0 2 1 10 false))) = true
  rw [eqb_refl]; rfl
def notM (id : Int) (f : Fact) : Bool := !decide (f.Kind = 2) || !decide (f.ID = id)
theorem key2 {f g : Fact} (hf : validB f = true) (hg : validB g = true) (hk : g.Kind = 2) (h : keyB f = keyB g) : f.Kind = 2 ∧ f.ID = g.ID := by
  have e := key_vals hf hg h
  have hk2 := e.1.trans hk
  have e2 := e.2
  rw [hk2] at e2
  replace e2 : [f.ID] = [g.ID] := e2
  exact ⟨hk2, by simpa using e2⟩
theorem new_eff {L : List Fact} {m : Fact} {d : Int} (hv : validB m = true) (hd : m.Day ≤ d) (hn : ∀ g ∈ L, validB g = true → keyB g ≠ keyB m) (x : Fact) : eff (L ++ [m]) d x ↔ x = m ∨ eff L d x := by
  have pm : ∀ g ∈ L, prevB g m = false ∧ prevB m g = false := fun g hg => by
    constructor
    · rw [Bool.eq_false_iff]; intro h; have h := prev_iff.1 h; exact hn g hg h.1 h.2.2.1
    · rw [Bool.eq_false_iff]; intro h; have h := prev_iff.1 h; exact hn g hg h.2.1 h.2.2.1.symm
  constructor
  · rintro ⟨h1, h2, h3, h4⟩
    rcases List.mem_append.1 h1 with h1 | h1
    · exact .inr ⟨h1, h2, h3, fun g hg => h4 g (List.mem_append_left _ hg)⟩
    · exact .inl (List.mem_singleton.1 h1)
  · rintro (rfl | ⟨h1, h2, h3, h4⟩)
    · refine ⟨List.mem_append_right _ (List.mem_singleton.2 rfl), by unfold keyB; rw [if_pos hv]; exact keyB_ne hv, hd, fun g hg _ => ?_⟩
      rcases List.mem_append.1 hg with hg | hg
      · exact (pm g hg).1
      · cases List.mem_singleton.1 hg; exact prev_irrefl _
    · refine ⟨List.mem_append_left _ h1, h2, h3, fun g hg hgd => ?_⟩
      rcases List.mem_append.1 hg with hg | hg
      · exact h4 g hg hgd
      · cases List.mem_singleton.1 hg; exact (pm x h1).2
theorem meas_find {l : List Fact} {d : Int} {x : Fact} (h : x ∈ (ofB l d).Measures) : (ofB l d).Measures.find? (fun y => decide (y.ID = x.ID)) = some x := by
  cases e : (ofB l d).Measures.find? fun y => decide (y.ID = x.ID) with
  | none => exact absurd (List.find?_eq_none.1 e x h) (by simp)
  | some g =>
    have h1 : g ∈ lstOf (ofB l d) 1 := List.mem_of_find?_eq_some e
    have h2 := List.find?_some e
    replace h2 := of_decide_eq_true h2
    have hg := (lst_mem (j := 1) (by decide)).1 h1
    have hx := (lst_mem (j := 1) (by decide)).1 (show x ∈ lstOf (ofB l d) 1 from h)
    exact congrArg some (eff_key hg.1 hx.1 (key_of_ord (k := 2) (eff_valid hg.1) (eff_valid hx.1) hg.2.2 hx.2.2 (by show (g.ID, (0 : Int)) = (x.ID, 0); rw [h2])))
theorem meas_some {l : List Fact} {d : Int} {i : Int} {x : Fact} : (ofB l d).Measures.find? (fun y => decide (y.ID = i)) = some x ↔ x ∈ (ofB l d).Measures ∧ x.ID = i := by
  constructor
  · intro e
    have h2 := List.find?_some e
    exact ⟨List.mem_of_find?_eq_some e, of_decide_eq_true h2⟩
  · rintro ⟨h, rfl⟩
    exact meas_find h
structure LateB (b c : Base) (m : Fact) : Prop where
  P : c.Processes = b.Processes
  R : c.Resets = b.Resets
  T : c.Targets = b.Targets
  no : (b.Measures.find? fun y => decide (y.ID = m.ID)) = none
  yes : (c.Measures.find? fun y => decide (y.ID = m.ID)) = some m
  rest : ∀ i, i ≠ m.ID → (c.Measures.find? fun y => decide (y.ID = i)) = (b.Measures.find? fun y => decide (y.ID = i))
theorem lateB_of {L : List Fact} {id time value : Int} (hi : 1 ≤ id ∧ id ≤ 9) (ht : 0 ≤ time ∧ time < 60) (hv : -10 ≤ value ∧ value < 50) (hL : ∀ f ∈ L, notM id f = true) : LateB (ofB L 10) (ofB (L ++ [mF id time value]) 10) (mF id time value) := by
  have hval := mF_valid hi ht hv
  have hn : ∀ g ∈ L, validB g = true → keyB g ≠ keyB (mF id time value) := fun g hg hgv e => by
    have h1 := key2 hgv hval rfl e
    have h2 := hL g hg
    unfold notM at h2
    rw [decide_eq_true h1.1, decide_eq_true (show g.ID = id from h1.2)] at h2
    cases h2
  have hE := new_eff (d := 10) hval (show (10 : Int) ≤ 10 by decide) hn
  have hj : ∀ j : Nat, j < 11 → j ≠ 1 → lstOf (ofB (L ++ [mF id time value]) 10) j = lstOf (ofB L 10) j := fun j hj h1 => by
    refine lst_same hj fun x => ?_
    rw [hE]
    constructor
    · rintro ⟨rfl | h, hk⟩
      · have : (2 : Int) = ((j + 1 : Nat) : Int) := hk
        omega
      · exact ⟨h, hk⟩
    · rintro ⟨h, hk⟩
      exact ⟨.inr h, hk⟩
  have hm : ∀ x, x ∈ (ofB (L ++ [mF id time value]) 10).Measures ↔ x = mF id time value ∨ x ∈ (ofB L 10).Measures := fun x => by
    have h1 := lst_mem (l := L ++ [mF id time value]) (d := 10) (j := 1) (by decide) (x := x)
    have h2 := lst_mem (l := L) (d := 10) (j := 1) (by decide) (x := x)
    rw [hE] at h1
    refine h1.trans ⟨?_, ?_⟩
    · rintro ⟨rfl | h, hg, hk⟩
      · exact .inl rfl
      · exact .inr (h2.2 ⟨h, hg, hk⟩)
    · rintro (rfl | h)
      · exact ⟨.inl rfl, rfl, rfl⟩
      · have h := h2.1 h
        exact ⟨.inr h.1, h.2⟩
  have hno : ∀ x ∈ (ofB L 10).Measures, x.ID ≠ id := fun x hx e => by
    have h := (lst_mem (j := 1) (by decide)).1 (show x ∈ lstOf (ofB L 10) 1 from hx)
    have h2 := hL x h.1.1
    unfold notM at h2
    rw [decide_eq_true (show x.Kind = 2 from h.2.2), decide_eq_true e] at h2
    cases h2
  refine ⟨hj 0 (by decide) (by decide), hj 8 (by decide) (by decide), hj 9 (by decide) (by decide), ?_, meas_some.2 ⟨(hm _).2 (.inl rfl), rfl⟩, fun i hi => ?_⟩
  · exact List.find?_eq_none.2 fun x hx => by simpa using (show ¬ x.ID = (mF id time value).ID from hno x hx)
  · refine Option.ext fun x => ?_
    rw [meas_some, meas_some, hm]
    constructor
    · rintro ⟨rfl | h, e⟩
      · exact absurd e.symm hi
      · exact ⟨h, e⟩
    · rintro ⟨h, e⟩
      exact ⟨.inr h, e⟩
theorem sum_shift (M T : List Fact) (r t : Int) : ∀ (l : List Fact) (s : Int × List Int), l.foldl (sumStep M T r t) s = (s.1 + (sumF M T r t l).1, s.2 ++ (sumF M T r t l).2)
  | [], s => by show s = (s.1 + 0, s.2 ++ []); rw [Int.add_zero, List.append_nil]
  | x :: l, s => by
    unfold sumF
    rw [List.foldl_cons, List.foldl_cons, sum_shift M T r t l, sum_shift M T r t l (sumStep M T r t (0, []) x)]
    by_cases h : clears (devF M T r x t) = true
    · rw [sum_yes h, sum_yes h]; dsimp only; rw [List.append_assoc, List.nil_append, Int.zero_add, Int.add_assoc]
    · rw [sum_no (by simpa using h), sum_no (by simpa using h)]; dsimp only; rw [List.nil_append, Int.zero_add]
theorem late_dev {b c : Base} {m : Fact} (h : LateB b c m) (r : Int) (x : Fact) (t : Int) (hx : x.ID ≠ m.ID) : devF c.Measures c.Targets r x t = devF b.Measures b.Targets r x t := by
  unfold devF
  rw [h.rest _ hx, h.T]
theorem late_dev0 {b c : Base} {m : Fact} (h : LateB b c m) (r : Int) (x : Fact) (t : Int) (hx : x.ID = m.ID) : devF b.Measures b.Targets r x t = (0, false) := devF_no (by rw [hx, h.no]; rfl)
theorem late_sum {b c : Base} {m : Fact} (h : LateB b c m) (r t : Int) : ∀ (l : List Fact) (s : Int × List Int), (∀ x ∈ l, x.ID = m.ID → ∀ y ∈ l, y.ID = m.ID → x = y) → l.Nodup → m.ID ∉ s.2 →
    (l.foldl (sumStep c.Measures c.Targets r t) s = l.foldl (sumStep b.Measures b.Targets r t) s ∧ m.ID ∉ (l.foldl (sumStep b.Measures b.Targets r t) s).2) ∨
    ∃ x ∈ l, x.ID = m.ID ∧ clears (devF c.Measures c.Targets r x t) = true ∧ (l.foldl (sumStep c.Measures c.Targets r t) s).1 = (l.foldl (sumStep b.Measures b.Targets r t) s).1 + (devF c.Measures c.Targets r x t).1 ∧ (l.foldl (sumStep c.Measures c.Targets r t) s).2.length = (l.foldl (sumStep b.Measures b.Targets r t) s).2.length + 1 ∧ m.ID ∈ (l.foldl (sumStep c.Measures c.Targets r t) s).2
  | [], s, _, _, hs => .inl ⟨rfl, hs⟩
  | x :: l, s, hu, hd, hs => by
    rw [List.foldl_cons, List.foldl_cons]
    have hu' : ∀ x ∈ l, x.ID = m.ID → ∀ y ∈ l, y.ID = m.ID → x = y := fun a ha e b hb e2 => hu a (List.mem_cons_of_mem _ ha) e b (List.mem_cons_of_mem _ hb) e2
    by_cases hx : x.ID = m.ID
    · have e0 : sumStep b.Measures b.Targets r t s x = s := sum_no (by rw [late_dev0 h r x t hx]; rfl)
      rw [e0]
      have hrest : ∀ y ∈ l, y.ID ≠ m.ID := fun y hy e => by
        have := hu x List.mem_cons_self hx y (List.mem_cons_of_mem _ hy) e
        exact (List.nodup_cons.1 hd).1 (this ▸ hy)
      have hc : ∀ s, l.foldl (sumStep c.Measures c.Targets r t) s = l.foldl (sumStep b.Measures b.Targets r t) s := fun s => sumF_congr (fun y hy => late_dev h r y t (hrest y hy)) s
      have hb : m.ID ∉ (l.foldl (sumStep b.Measures b.Targets r t) s).2 := fun hm => by
        rcases sum_mem _ _ _ _ l s _ hm with h1 | ⟨y, hy, e⟩
        · exact hs h1
        · exact hrest y hy e.symm
      by_cases hcl : clears (devF c.Measures c.Targets r x t) = true
      · refine .inr ⟨x, List.mem_cons_self, hx, hcl, ?_, ?_, ?_⟩
        · rw [hc, sum_yes hcl, sum_shift]
          rw [sum_shift _ _ _ _ l s]; dsimp only; omega
        · rw [hc, sum_yes hcl, sum_shift, sum_shift _ _ _ _ l s]; simp [List.length_append]; omega
        · rw [hc, sum_yes hcl, sum_shift]
          simp [hx]
      · refine .inl ⟨by rw [sum_no (by simpa using hcl)]; exact hc s, hb⟩
    · have e1 : sumStep c.Measures c.Targets r t s x = sumStep b.Measures b.Targets r t s x := by unfold sumStep; rw [late_dev h r x t hx]
      rw [e1]
      have hs' : m.ID ∉ (sumStep b.Measures b.Targets r t s x).2 := by
        unfold sumStep
        split
        · intro hm
          rcases List.mem_append.1 hm with hm | hm
          · exact hs hm
          · exact hx (List.mem_singleton.1 hm).symm
        · exact hs
      rcases late_sum h r t l _ hu' (List.nodup_cons.1 hd).2 hs' with h1 | ⟨y, hy, h1⟩
      · exact .inl h1
      · exact .inr ⟨y, List.mem_cons_of_mem _ hy, h1⟩
theorem late_rns {b c : Base} {m : Fact} (h : LateB b c m) (t ch r : Int) : rnsF c t ch r = rnsF b t ch r := by
  rw [rnsF_sort, rnsF_sort, h.P]
theorem late_res {b c : Base} {m : Fact} (h : LateB b c m) (t ch time : Int) : resL c t ch time = resL b t ch time := by
  unfold resL; rw [h.R]
structure LateD (b c : Base) (m : Fact) (r : Int) (D D' : Dec) (p x : Fact) (E : Int) : Prop where
  id : x.ID = m.ID
  mem : x ∈ b.Processes
  time : m.Time ≤ p.Time
  le : x.Time ≤ p.Time
  ne : p.ID ≠ m.ID
  bd : (E + (m.Value - tarF c.Targets r x.Time)).natAbs ≤ 1000000000
  bd1 : (m.Value - tarF c.Targets r x.Time).natAbs ≤ 1000000000
  bd2 : E.natAbs ≤ 1000000000
  est : D.est = redF E 4
  est' : D'.est = redF (E + (m.Value - tarF c.Targets r x.Time)) 4
  len : D'.uses.length = D.uses.length + 1
  use : m.ID ∈ D'.uses
theorem late_dec {b c : Base} {m : Fact} (h : LateB b c m) (hk : KnB b) {t ch r : Int} {i : Nat} {p : Fact} (hp : (rnsF b t ch r)[i]? = some p) :
    (decF c t ch r p.Time ((rnsF b t ch r).take i) = decF b t ch r p.Time ((rnsF b t ch r).take i) ∧ m.ID ∉ (decF b t ch r p.Time ((rnsF b t ch r).take i)).uses) ∨
    ∃ x E, LateD b c m r (decF b t ch r p.Time ((rnsF b t ch r).take i)) (decF c t ch r p.Time ((rnsF b t ch r).take i)) p x E ∧ x.Tool = t ∧ x.Chamber = ch ∧ x.Recipe = r := by
  have hl : ((rnsF b t ch r).take i).length ≤ 100 := by
    have h1 := rnsF_len b t ch r
    have h2 : b.Processes.length ≤ 100 := hk.sh 0
    rw [List.length_take]; omega
  have hsub : ∀ x ∈ sinceF (resL b t ch p.Time) ((rnsF b t ch r).take i), x ∈ (rnsF b t ch r).take i := fun x hx => (since_mem.1 hx).1
  have hmem : ∀ x ∈ (rnsF b t ch r).take i, x ∈ rnsF b t ch r := fun x hx => List.mem_of_mem_take hx
  have hnd : (sinceF (resL b t ch p.Time) ((rnsF b t ch r).take i)).Nodup := by
    rw [since_filter]
    exact ((rns_nodup hk.nd).sublist (List.take_sublist _ _)).filter _
  have hun : ∀ x ∈ sinceF (resL b t ch p.Time) ((rnsF b t ch r).take i), x.ID = m.ID → ∀ y ∈ sinceF (resL b t ch p.Time) ((rnsF b t ch r).take i), y.ID = m.ID → x = y := fun x hx e y hy e2 =>
    hk.uid x (rns_mem.1 (hmem x (hsub x hx))).1 y (rns_mem.1 (hmem y (hsub y hy))).1 (e.trans e2.symm)
  have hlen := sinceF_len (resL b t ch p.Time) ((rnsF b t ch r).take i)
  have hb1 := sumF_bd b.Measures b.Targets r p.Time (sinceF (resL b t ch p.Time) ((rnsF b t ch r).take i))
  have hc1 := sumF_bd c.Measures c.Targets r p.Time (sinceF (resL b t ch p.Time) ((rnsF b t ch r).take i))
  rcases late_sum h r p.Time _ (0, []) hun hnd (by simp) with ⟨h1, h2⟩ | ⟨x, hx, hid, hcl, h1, h2, h3⟩
  · refine .inl ⟨?_, h2⟩
    have h1 : sumF c.Measures c.Targets r p.Time (sinceF (resL b t ch p.Time) ((rnsF b t ch r).take i)) = sumF b.Measures b.Targets r p.Time (sinceF (resL b t ch p.Time) ((rnsF b t ch r).take i)) := h1
    unfold decF
    rw [late_res h, h1, h.T]
  · have hnc : notCounts (c.Measures.find? fun y => decide (y.ID = x.ID)) p.Time = false := by
      cases e : notCounts (c.Measures.find? fun y => decide (y.ID = x.ID)) p.Time with
      | false => rfl
      | true => rw [devF_no e] at hcl; cases hcl
    have hdv := devF_yes (T := c.Targets) (r := r) hnc
    have hm : ((c.Measures.find? fun y => decide (y.ID = x.ID)).getD zeroF) = m := by rw [hid, h.yes]; rfl
    have ht : m.Time ≤ p.Time := by
      unfold notCounts at hnc
      simp only [Bool.or_eq_false_iff] at hnc
      have := hnc.2
      rw [hm] at this
      have := of_decide_eq_false this
      omega
    rw [hm] at hdv
    rw [hdv] at h1
    dsimp only at h1
    have h1 : (sumF c.Measures c.Targets r p.Time (sinceF (resL b t ch p.Time) ((rnsF b t ch r).take i))).1 = (sumF b.Measures b.Targets r p.Time (sinceF (resL b t ch p.Time) ((rnsF b t ch r).take i))).1 + (m.Value - tarF c.Targets r x.Time) := h1
    have hxt := hsub x hx
    obtain ⟨j, hj⟩ := List.mem_iff_getElem?.1 hxt
    rw [List.getElem?_take] at hj
    split at hj
    · rename_i hji
      have hd := devF_in c.Measures c.Targets r x p.Time
      rw [hdv] at hd
      dsimp only at hd
      have hxm := rns_mem.1 (hmem x hxt)
      have hpm := rns_mem.1 (List.mem_of_getElem? hp)
      refine .inr ⟨x, (sumF b.Measures b.Targets r p.Time (sinceF (resL b t ch p.Time) ((rnsF b t ch r).take i))).1, ⟨hid, hxm.1, ht, srt_time (rns_srt b t ch r) hji hj hp, fun e => ?_, ?_, ?_, ?_, rfl, ?_, ?_, ?_⟩, hxm.2⟩
      · have e2 := hk.uid p hpm.1 x hxm.1 (e.trans hid.symm)
        subst e2
        have hil := (List.getElem?_eq_some_iff.1 hj).1
        have := (List.getElem?_inj hil (rns_nodup hk.nd)).1 (hj.trans hp.symm)
        omega
      · rw [← h1]; omega
      · omega
      · omega
      · rw [← h1]; unfold decF; rw [late_res h]
      · unfold decF; rw [late_res h]; exact h2
      · unfold decF; rw [late_res h]; exact h3
    · cases hj
def UsL (w : World) (L : List DP) : Prop := ∀ p ∈ L, Sl w p.uv 1 eInt p.dec.uses
theorem UsL.up {w w' : World} {L : List DP} (h : UsL w L) (u : Up w w') : UsL w' L := fun p hp => (h p hp).up u
end Go.Wx
namespace Go.Proofs.YtgffaeachbbjoaaGreatDoor
open Go.Wx Go.RowKit
end Go.Proofs.YtgffaeachbbjoaaGreatDoor
end
section
namespace Go.Wx
theorem late_at {b : Base} {t ch r : Int} {L : List DP} {i : Nat} {x : DP} (hm : L.map DP.dec = desF b t ch r) (hx : L[i]? = some x) : ∃ p, (rnsF b t ch r)[i]? = some p ∧ x.dec = { decF b t ch r p.Time ((rnsF b t ch r).take i) with run := p.ID } := by
  have h1 := dp_at hm hx
  have hil : i < (rnsF b t ch r).length := by
    have := (List.getElem?_eq_some_iff.1 h1).1
    rwa [desF_len] at this
  obtain ⟨p, hp⟩ := getElem?_of_lt hil
  exact ⟨p, hp, Option.some.inj (h1.symm.trans (desF_at hp))⟩
theorem late_both {b c : Base} {m : Fact} (h : LateB b c m) {t ch r : Int} {L M : List DP} {i : Nat} {x y : DP} (ha : L.map DP.dec = desF b t ch r) (hc : M.map DP.dec = desF c t ch r) (hx : L[i]? = some x) (hy : M[i]? = some y) :
    ∃ p, (rnsF b t ch r)[i]? = some p ∧ x.dec = { decF b t ch r p.Time ((rnsF b t ch r).take i) with run := p.ID } ∧ y.dec = { decF c t ch r p.Time ((rnsF b t ch r).take i) with run := p.ID } := by
  obtain ⟨p, hp, e1⟩ := late_at ha hx
  obtain ⟨q, hq, e2⟩ := late_at hc hy
  rw [late_rns h] at hq e2
  obtain rfl := Option.some.inj (hp.symm.trans hq)
  exact ⟨p, hp, e1, e2⟩
theorem any_id {l : List Int} {n : Int} : l.any (fun z => decide (z = n)) = true ↔ n ∈ l := by
  rw [List.any_eq_true]
  exact ⟨fun ⟨z, hz, e⟩ => by rw [← of_decide_eq_true e]; exact hz, fun h => ⟨n, h, by simp⟩⟩
theorem lateD_same {b c : Base} {m : Fact} (h : LateB b c m) (hk : KnB b) {t ch r : Int} {L M : List DP} {i : Nat} {x y : DP} (ha : L.map DP.dec = desF b t ch r) (hc : M.map DP.dec = desF c t ch r) (hx : L[i]? = some x) (hy : M[i]? = some y) (hn : y.dec.uses.any (fun z => decide (z = m.ID)) = false) : sameD x.dec y.dec = true := by
  obtain ⟨p, hp, e1, e2⟩ := late_both h ha hc hx hy
  rw [sameD_iff, e1, e2]
  rcases late_dec h hk hp with ⟨h1, _⟩ | ⟨q, E, h1, _⟩
  · rw [h1]
  · exfalso
    have h2 := any_id.2 h1.use
    rw [e2] at hn
    rw [show ({ decF c t ch r p.Time ((rnsF b t ch r).take i) with run := p.ID } : Dec).uses = (decF c t ch r p.Time ((rnsF b t ch r).take i)).uses from rfl, h2] at hn
    cases hn
theorem lateD_used {b c : Base} {m : Fact} (h : LateB b c m) (hk : KnB b) {t ch r : Int} {L M : List DP} {i : Nat} {x y : DP} (ha : L.map DP.dec = desF b t ch r) (hc : M.map DP.dec = desF c t ch r) (hx : L[i]? = some x) (hy : M[i]? = some y) (hn : y.dec.uses.any (fun z => decide (z = m.ID)) = true) :
    ∃ p q E, procB c y.dec.run = some p ∧ procB c m.ID = some q ∧ LateD b c m r x.dec y.dec p q E ∧ q.Tool = t ∧ q.Chamber = ch ∧ q.Recipe = r := by
  obtain ⟨p, hp, e1, e2⟩ := late_both h ha hc hx hy
  have hpc : ∀ id, procB c id = procB b id := fun id => by unfold procB; rw [h.P]
  rcases late_dec h hk hp with ⟨h1, h2⟩ | ⟨q, E, h1, hq⟩
  · exfalso
    rw [e2, h1] at hn
    exact h2 (any_id.1 hn)
  · refine ⟨p, q, E, ?_, ?_, ?_, hq⟩
    · rw [hpc, e2]; exact hk.run (List.mem_of_getElem? hp)
    · rw [hpc, ← h1.id]; exact hk.find h1.mem
    · rw [e1, e2]
      exact ⟨h1.id, h1.mem, h1.time, h1.le, h1.ne, h1.bd, h1.bd1, h1.bd2, h1.est, h1.est', h1.len, h1.use⟩
theorem late_targets {xs : List I6} {p : Fact → Bool} {d : Int} (hx : ∀ y ∈ xs, I6Ok y) : ∀ f ∈ (ofB ((soL xs).filter p) d).Targets, 0 ≤ f.Value ∧ f.Value < 40 := fun f hf => by
  have h := (lst_mem (j := 9) (by decide)).1 hf
  exact so_value hx f (List.mem_filter.1 h.1.1).1 h.2.2
theorem any_take {l : List Int} {k : Nat} {z n : Int} (h : l[k]? = some z) : (l.take (k + 1)).any (fun z => decide (z = n)) = ((l.take k).any (fun z => decide (z = n)) || decide (z = n)) := by
  rw [List.take_add_one, h, List.any_append]
  simp
end Go.Wx
namespace Go.Proofs.YtgffaeachbbjoaaGreatDoor
open Go.Wx Go.RowKit
end Go.Proofs.YtgffaeachbbjoaaGreatDoor
end
section
namespace Go.Proofs.YtgffaeachbbjoaaGreatDoor
open Go.Wx Go.RowKit
set_option maxHeartbeats 4000000 in
theorem ControlLate_any (ad : Option Addr) (cp : Nat) (xs : List I6) (id time value tool chamber recipe : Int) (w : World) (hE1 : Els w ad 6 I6.cells xs) (hxs : ∀ y ∈ xs, I6Ok y) (hid : inI id) (htime : inI time) (hval : inI value) (htool : inI tool) (hch : inI chamber) (hrec : inI recipe) : Ret Tryz.prog 4 #[.slice ad xs.length cp, vi id, vi time, vi value, vi tool, vi chamber, vi recipe] w fun r0 w' => r0 = .bool true ∧ Up w w' := by
  obtain ⟨w0, rfl⟩ : ∃ w0, w0 = w := ⟨_, rfl⟩
  have hS := Sep.start no w0
  refine Calls_start (n := 266) (m := 9) Tryz.func4 rfl rfl rfl ?_
  refine CW.S (LW.C (LW.S (CW.region ?_)))
  refine LW.c (enter_call0 .nil (Tryz.en10)) rfl rfl rfl rfl (sane_any _) ?_
  rintro _ w1 ⟨rfl, uw1⟩
  have zw1 := uw1.size
  replace hS := hS.up uw1
  refine LW.A rfl (LW.S (CW.region (LW.M rfl ?_)))
  refine LW.c (enter_call0 (.cons (.tmp rfl) (.cons (.const _) .nil)) (Tryz.en13)) rfl rfl rfl rfl (pick_any _ _ _ (by decide)) ?_
  rintro _ w2 ⟨rfl, uw2⟩
  have zw2 := uw2.size
  replace hS := hS.up uw2
  have hpi := pick_range (c := id) (n := 9) hid (by decide)
  obtain ⟨pi, epi⟩ : ∃ pi, pi = pickI id 9 := ⟨_, rfl⟩
  rw [← epi] at hpi ⊢
  refine LW.pp (PEv.add_w (.const _) (.tmp rfl)) ?_
  refine LW.A rfl (LW.S ?_)
  obtain ⟨n1, en⟩ : ∃ x, x = IntKind.i64.wrap (1 + pi) := ⟨_, rfl⟩
  rw [← en]
  have hn1 : 1 ≤ n1 ∧ n1 ≤ 9 := by rw [en, wrap_i64_in (by omega) (by omega)]; omega
  refine CW.region (LW.C (LW.S (CW.region (LW.M rfl ?_))))
  refine LW.c (enter_call0 (.cons (.tmp rfl) .nil) (Tryz.en22)) rfl rfl rfl rfl (Some_any ad cp xs _ (Els.up hE1 hS.upd)) ?_
  rintro v42 w3 ⟨hO42, uw3⟩
  have zw3 := uw3.size
  replace hS := hS.add uw3 (A' := aOwn 50 19 Fact.cells v42 (soL xs)) (hO42.mono (Nat.zero_le _)) (fun i h => hO42.base i h)
  change Wx.Sep _ _ _ [_] at hS
  clear hO42
  obtain ⟨ad42, cp42, rfl, _⟩ := (hS.own 0 rfl).sl (fun _ => rfl)
  have hl42 := soL_len xs
  refine LW.A rfl (LW.S (CW.seq ?_))
  replace hS := hS.add (Up.refl _) (A' := aOwn 50 19 Fact.cells (.slice none 0 0) ([] : List Fact)) (OwnS.nil _ _ _ _ _) (by intro i h; cases h)
  change Wx.Sep _ _ _ [_, _] at hS
  refine CW.region (LW.C (LW.T (CW.block ?_)))
  refine CW.loopB (σ := Nat × Go.Value) (fun s w => (s.1 ≤ (soL xs).length) ∧ (Wx.Sep no w0 w [aOwn 50 19 Fact.cells (.slice ad42 (soL xs).length cp42) (soL xs), aOwn 50 19 Fact.cells s.2 (((soL xs).take s.1).filter (Wx.notM n1))])) (fun s => [(18, .eq (vi (s.1 : Int))), (16, .eq (s.2))]) ([(1, .eq _), (2, .eq _), (3, .eq _), (4, .eq _), (5, .eq _), (6, .eq _), (14, .eq _), (15, .eq _), (17, .eq _)]) (fun s => (soL xs).length - s.1) (0, .slice none 0 0) ?_ ⟨rfl, rfl, rfl, rfl, rfl, rfl, rfl, rfl, rfl, rfl, rfl, trivial⟩ ?_
  ·exact ⟨Nat.zero_le _, hS⟩
  ·rintro ⟨k, v⟩ w4 ⟨hkk, hS⟩
   dsimp only at hkk hS
   change CW _ _ _ _ _ _ _ ([(18, .eq (vi (k : Int))), (16, .eq (v))] ++ _) _
   refine CW.seq (CW.S (LW.M rfl (LW.M rfl ?_)))
   refine LW.pp (PEv.lenS Tryz.underlying22 (.tmp rfl)) ?_
   refine LW.pp (PEv.lss (.tmp rfl) (.tmp rfl)) ?_
   refine LW.T ?_
   refine CW.cond (.tmp rfl) (fun h46 => ?_) (fun h46 => ?_)
   ·first | replace h46 := dT h46 | replace h46 := dF h46 | skip
    refine CW.skip (KW.then (CW.seq (CW.block (CW.seq ?_))))
    obtain ⟨x, hx⟩ := getElem?_of_lt (xs := soL xs) (i := k) (by omega)
    obtain ⟨Bx, ox, ax, hcx⟩ := (show Els w4 ad42 19 Fact.cells (soL xs) from (hS.own 0 rfl).els (fun _ => rfl)) k x hx
    refine CW.region (LW.M rfl (LW.M rfl ?_))
    refine LW.pp (PEv.indexAddr' Tryz.underlying22 Tryz.sizeOf50 (.tmp rfl) (.tmp rfl) (by omega) ax) ?_
    refine LW.pp (PEv.fieldAddr (off := 0) Tryz.underlying50 rfl rfl Tryz.sizeOf3 rfl (.tmp rfl)) ?_
    refine LW.pp (PEv.load Tryz.isAgg3 (.tmp rfl) (hcx.nth (j := 0) rfl)) ?_
    refine LW.pp (PEv.neq (.tmp rfl) (.const _)) ?_
    refine LW.M rfl ?_
    refine LW.g rfl rfl rfl rfl rfl rfl rfl (fun hc => PEv.move (.tmp rfl)) ?_
    refine LW.g rfl rfl rfl rfl rfl rfl rfl (fun hc => PEv.move (.tmp rfl)) ?_
    refine LW.g rfl rfl rfl rfl rfl rfl rfl (fun hc => PEv.indexAddr' Tryz.underlying22 Tryz.sizeOf50 (by first | exact .tmp rfl | exact .cond rfl (by first | assumption | simp_all)) (by first | exact .tmp rfl | exact .cond rfl (by first | assumption | simp_all)) (by omega) ax) ?_
    refine LW.g rfl rfl rfl rfl rfl rfl rfl (fun hc => PEv.fieldAddr (off := 1) Tryz.underlying50 rfl rfl Tryz.sizeOf3 rfl (by first | exact .tmp rfl | exact .cond rfl (by first | assumption | simp_all))) ?_
    refine LW.g rfl rfl rfl rfl rfl rfl rfl (fun hc => PEv.load Tryz.isAgg3 (by first | exact .tmp rfl | exact .cond rfl (by first | assumption | simp_all)) (hcx.nth (j := 1) rfl)) ?_
    refine LW.g rfl rfl rfl rfl rfl rfl rfl (fun hc => PEv.move (.tmp rfl)) ?_
    refine LW.g rfl rfl rfl rfl rfl rfl rfl (fun hc => PEv.neq (by first | exact .tmp rfl | exact .cond rfl (by first | assumption | simp_all)) (by first | exact .tmp rfl | exact .cond rfl (by first | assumption | simp_all))) ?_
    refine LW.pp (PEv.pick_or (.tmp rfl) (fun hp => (by first | exact .const _ | exact .tmp rfl | exact .cond rfl (by first | assumption | (rw [hp]; rfl) | (rw [hc, hp]; rfl) | simp_all)))) ?_
    refine LW.T ?_
    refine CW.cond (.tmp rfl) (fun h63 => ?_) (fun h63 => ?_)
    ·first | replace h63 := dT h63 | replace h63 := dF h63 | skip
     have hnm : Wx.notM n1 x = true := by unfold Wx.notM; exact h63
     refine CW.region (LW.M rfl (LW.M rfl (LW.M rfl ?_)))
     refine LW.pp (PEv.indexAddr' Tryz.underlying22 Tryz.sizeOf50 (.tmp rfl) (.tmp rfl) (by omega) ax) ?_
     refine LW.pp (PEv.loadA Tryz.isAgg50 Tryz.sizeOf50 rfl (.tmp rfl) (hcx)) ?_
     refine LW.r (REv.buildSlice (xs := [x]) (enc := Fact.cells) (mk := fun f : Fact => .agg f.cells) Tryz.underlying22 Tryz.sizeOf50 Tryz.zeroValue50 rfl (by decide) (fun _ => rfl) (fun _ => rfl) (.cons (.tmp rfl) .nil) rfl) rfl rfl rfl rfl ?_
     rintro _ w5 ⟨B69, cB69, rfl, NB69, yB69, xB69⟩
     have eB69 := NB69.at_
     have zB69 := NB69.size
     replace hS := hS.up NB69.up
     replace hcx := hcx.up NB69.up
     have hE69 := xB69
     refine LW.r (REv.appendF (enc := Fact.cells) (bytes := 160) (i := Tryz.t50) Tryz.underlying22 (by kernel_rfl) rfl rfl rfl rfl (by decide) (fun _ => rfl) Fact.one (.tmp rfl) (.tmp rfl) (hS.own 1 rfl) (Sl.of_els hE69) (by have := filt_len (Wx.notM n1) (soL xs) k; simp [maxLen]; omega) (by have := filt_len (Wx.notM n1) (soL xs) k; simp; omega)) rfl rfl rfl rfl ?_
     intro v70 w6 Gw6
     have zw6 := Gw6.fr.size
     replace hS := hS.stp 1 rfl Gw6
     change Wx.Sep _ _ _ [_, _] at hS
     refine LW.A rfl (LW.nil (KW.inBlock (KW.then (CW.region (LW.M rfl ?_)))))
     refine LW.pp (PEv.inc (.tmp rfl) (by omega)) ?_
     refine LW.A rfl (LW.nil (KW.round ?_))
     first | exact ⟨(k + 1, v70), ⟨by show k + 1 ≤ _; omega, by first | (rw [fp_yes hx hnm]; exact hS.take 2) | (rw [fp_no hx hnm]; exact hS.take 2)⟩, ⟨rfl, rfl, rfl, rfl, rfl, rfl, rfl, rfl, rfl, rfl, rfl, trivial⟩, by show (soL xs).length - (k + 1) < (soL xs).length - k; omega⟩ | exact ⟨(k + 1, v), ⟨by show k + 1 ≤ _; omega, by first | (rw [fp_yes hx hnm]; exact hS.take 2) | (rw [fp_no hx hnm]; exact hS.take 2)⟩, ⟨rfl, rfl, rfl, rfl, rfl, rfl, rfl, rfl, rfl, rfl, rfl, trivial⟩, by show (soL xs).length - (k + 1) < (soL xs).length - k; omega⟩
    ·first | replace h63 := dT h63 | replace h63 := dF h63 | skip
     have hnm : Wx.notM n1 x = false := by unfold Wx.notM; exact h63
     refine CW.skip (KW.inBlock (KW.then (CW.region (LW.M rfl ?_))))
     refine LW.pp (PEv.inc (.tmp rfl) (by omega)) ?_
     refine LW.A rfl (LW.nil (KW.round ?_))
     first | exact ⟨(k + 1, v70), ⟨by show k + 1 ≤ _; omega, by first | (rw [fp_yes hx hnm]; exact hS.take 2) | (rw [fp_no hx hnm]; exact hS.take 2)⟩, ⟨rfl, rfl, rfl, rfl, rfl, rfl, rfl, rfl, rfl, rfl, rfl, trivial⟩, by show (soL xs).length - (k + 1) < (soL xs).length - k; omega⟩ | exact ⟨(k + 1, v), ⟨by show k + 1 ≤ _; omega, by first | (rw [fp_yes hx hnm]; exact hS.take 2) | (rw [fp_no hx hnm]; exact hS.take 2)⟩, ⟨rfl, rfl, rfl, rfl, rfl, rfl, rfl, rfl, rfl, rfl, rfl, trivial⟩, by show (soL xs).length - (k + 1) < (soL xs).length - k; omega⟩
   ·first | replace h46 := dT h46 | replace h46 := dF h46 | skip
    refine CW.exit (KW.then_exit (KW.then_exit (KW.block_hit (KW.then (CW.seq ?_)))))
    have hkl : k = (soL xs).length := by omega
    rw [hkl, List.take_length] at hS
    obtain ⟨ad16, cp16, rfl, _⟩ := (hS.own 1 rfl).sl (fun _ => rfl)
    have hll : ((soL xs).filter (Wx.notM n1)).length ≤ 30 := Nat.le_trans (List.length_filter_le _ _) hl42
    refine CW.region (LW.M rfl (LW.M rfl ?_))
    refine LW.c (enter_call0 (.cons (.tmp rfl) (.cons (.const _) .nil)) (Tryz.en13)) rfl rfl rfl rfl (pick_any _ _ _ (by decide)) ?_
    rintro _ w7 ⟨rfl, uw7⟩
    have zw7 := uw7.size
    replace hS := hS.up uw7
    have htm := pick_range (c := time) (n := 60) htime (by decide)
    obtain ⟨tm, etm⟩ : ∃ tm, tm = pickI time 60 := ⟨_, rfl⟩
    rw [← etm] at htm ⊢
    refine LW.M rfl ?_
    refine LW.c (enter_call0 (.cons (.tmp rfl) (.cons (.const _) .nil)) (Tryz.en13)) rfl rfl rfl rfl (pick_any _ _ _ (by decide)) ?_
    rintro _ w8 ⟨rfl, uw8⟩
    have zw8 := uw8.size
    replace hS := hS.up uw8
    have hpv := pick_range (c := value) (n := 60) hval (by decide)
    obtain ⟨pv, epv⟩ : ∃ pv, pv = pickI value 60 := ⟨_, rfl⟩
    rw [← epv] at hpv ⊢
    refine LW.pp (PEv.sub (.tmp rfl) (.const _) (by omega) (by omega)) ?_
    refine LW.pp (PEv.build (cs := (mF n1 tm (pv - 10)).cells) Tryz.underlying50 Tryz.zeroValue50 Tryz.places50 (.cons (.const _) (.cons (.const _) (.cons (.const _) (.cons (.tmp rfl) (.cons (.tmp rfl) (.cons (.tmp rfl) .nil)))))) (by kernel_rfl)) ?_
    refine LW.r (REv.allocA Tryz.zeroValue50) rfl rfl rfl rfl ?_
    rintro _ w9 ⟨B19, rfl, MB19⟩
    refine LW.s (SEv.storeA Tryz.sizeOf50 rfl (.tmp rfl) (.tmp rfl) (Fact.one _) MB19.blk rfl) rfl rfl rfl ?_
    intro w10 LB19
    have NB19 := MB19.set LB19
    clear LB19 MB19
    have eB19 := NB19.at_
    have zB19 := NB19.size
    replace hS := hS.addB NB19
    change Wx.Sep _ _ _ [_, _, _] at hS
    refine LW.S ?_
    have hE16 : Els w10 ad16 19 Fact.cells ((soL xs).filter (Wx.notM n1)) := (hS.own 1 rfl).els (fun _ => rfl)
    have hltM0 := (hS.own 1 rfl).lt
    have hltM : ∀ i, (aOwn 50 19 Fact.cells (.slice ad16 ((soL xs).filter (Wx.notM n1)).length cp16) (((soL xs).filter (Wx.notM n1)))).foot i → _ := fun i hi => hltM0 i hi
    refine CW.region (LW.M rfl ?_)
    refine LW.c (enter_call0 (.cons (.tmp rfl) (.cons (.const _) .nil)) (Tryz.en23)) rfl rfl rfl rfl (Of_own ad16 cp16 ((soL xs).filter (Wx.notM n1)) 10 _ hE16 (by omega)) ?_
    rintro _ w11 ⟨bc1, rfl, hC1, hb1, uw11⟩
    have zw11 := uw11.size
    replace hS := hS.up uw11
    refine LW.r (REv.allocA Tryz.zeroValue24) rfl rfl rfl rfl ?_
    rintro _ w12 ⟨B20, rfl, MB20⟩
    refine LW.s (SEv.storeA Tryz.sizeOf24 hC1.size (.tmp rfl) (.tmp rfl) hC1.one MB20.blk rfl) rfl rfl rfl ?_
    intro w13 LB20
    have NB20 := MB20.set LB20
    clear LB20 MB20
    have eB20 := NB20.at_
    have zB20 := NB20.size
    replace hC1 := hC1.up NB20.up
    replace hS := hS.addB NB20
    change Wx.Sep _ _ _ [_, _, _, _] at hS
    refine LW.S (CW.region (LW.M rfl ?_))
    refine LW.pp (PEv.loadA Tryz.isAgg50 Tryz.sizeOf50 rfl (.tmp rfl) ((hS.blk 2 rfl).agg)) ?_
    refine LW.r (REv.buildSlice (xs := [mF n1 tm (pv - 10)]) (enc := Fact.cells) (mk := fun f : Fact => .agg f.cells) Tryz.underlying22 Tryz.sizeOf50 Tryz.zeroValue50 rfl (by decide) (fun _ => rfl) (fun _ => rfl) (.cons (.tmp rfl) .nil) rfl) rfl rfl rfl rfl ?_
    rintro _ w14 ⟨B82, cB82, rfl, NB82, yB82, xB82⟩
    have eB82 := NB82.at_
    have zB82 := NB82.size
    replace hS := hS.up NB82.up
    replace hC1 := hC1.up NB82.up
    have hE82 := xB82
    refine LW.r (REv.appendF (enc := Fact.cells) (bytes := 160) (i := Tryz.t50) Tryz.underlying22 (by kernel_rfl) rfl rfl rfl rfl (by decide) (fun _ => rfl) Fact.one (.tmp rfl) (.tmp rfl) (hS.own 1 rfl) (Sl.of_els hE82) (by simp only [maxLen, List.length_cons, List.length_nil]; omega) (by simp only [List.length_cons, List.length_nil]; omega)) rfl rfl rfl rfl ?_
    intro v83 w15 Gw15
    have zw15 := Gw15.fr.size
    replace hS := hS.stp 1 rfl Gw15
    change Wx.Sep _ _ _ [_, _, _, _] at hS
    replace hC1 := hC1.frB hb1 Gw15.fr (fun i hi => Nat.lt_of_lt_of_le (hltM i hi) (by omega))
    refine LW.c (enter_call0 (.cons (.tmp rfl) (.cons (.const _) .nil)) (Tryz.en23)) rfl rfl rfl rfl (OfV_any _ _ 10 _ ((hS.own 1 rfl).sl (fun _ => rfl)) (by simp only [List.length_append, List.length_cons, List.length_nil]; omega)) ?_
    rintro _ w16 ⟨bc2, rfl, hC2, uw16⟩
    have zw16 := uw16.size
    replace hS := hS.up uw16
    replace hC1 := hC1.up uw16
    refine LW.r (REv.allocA Tryz.zeroValue24) rfl rfl rfl rfl ?_
    rintro _ w17 ⟨B21, rfl, MB21⟩
    refine LW.s (SEv.storeA Tryz.sizeOf24 hC2.size (.tmp rfl) (.tmp rfl) hC2.one MB21.blk rfl) rfl rfl rfl ?_
    intro w18 LB21
    have NB21 := MB21.set LB21
    clear LB21 MB21
    have eB21 := NB21.at_
    have zB21 := NB21.size
    replace hC1 := hC1.up NB21.up
    replace hC2 := hC2.up NB21.up
    replace hS := hS.addB NB21
    change Wx.Sep _ _ _ [_, _, _, _, _] at hS
    refine LW.S (CW.region (LW.M rfl ?_))
    refine LW.c (enter_call0 (.cons (.tmp rfl) (.cons (.const _) .nil)) (Tryz.en13)) rfl rfl rfl rfl (pick_any _ _ _ (by decide)) ?_
    rintro _ w19 ⟨rfl, uw19⟩
    have zw19 := uw19.size
    replace hS := hS.up uw19
    replace hC1 := hC1.up uw19
    replace hC2 := hC2.up uw19
    have ht := pick_range (c := tool) (n := 2) htool (by decide)
    obtain ⟨t, et⟩ : ∃ t, t = pickI tool 2 := ⟨_, rfl⟩
    rw [← et] at ht ⊢
    refine LW.A rfl (LW.S (CW.region (LW.M rfl ?_)))
    refine LW.c (enter_call0 (.cons (.tmp rfl) (.cons (.const _) .nil)) (Tryz.en13)) rfl rfl rfl rfl (pick_any _ _ _ (by decide)) ?_
    rintro _ w20 ⟨rfl, uw20⟩
    have zw20 := uw20.size
    replace hS := hS.up uw20
    replace hC1 := hC1.up uw20
    replace hC2 := hC2.up uw20
    have hch := pick_range (c := chamber) (n := 2) hch (by decide)
    obtain ⟨ch, ech⟩ : ∃ ch, ch = pickI chamber 2 := ⟨_, rfl⟩
    rw [← ech] at hch ⊢
    refine LW.A rfl (LW.S (CW.region (LW.M rfl ?_)))
    refine LW.c (enter_call0 (.cons (.tmp rfl) (.cons (.const _) .nil)) (Tryz.en13)) rfl rfl rfl rfl (pick_any _ _ _ (by decide)) ?_
    rintro _ w21 ⟨rfl, uw21⟩
    have zw21 := uw21.size
    replace hS := hS.up uw21
    replace hC1 := hC1.up uw21
    replace hC2 := hC2.up uw21
    have hrp := pick_range (c := recipe) (n := 2) hrec (by decide)
    obtain ⟨rp, erp⟩ : ∃ rp, rp = pickI recipe 2 := ⟨_, rfl⟩
    rw [← erp] at hrp ⊢
    refine LW.pp (PEv.add_w (.const _) (.tmp rfl)) ?_
    refine LW.A rfl (LW.S ?_)
    obtain ⟨r, er⟩ : ∃ r, r = IntKind.i64.wrap (1 + rp) := ⟨_, rfl⟩
    rw [← er]
    obtain ⟨m, em⟩ : ∃ m, m = mF n1 tm (pv - 10) := ⟨_, rfl⟩
    have hmid : m.ID = n1 := by rw [em]; rfl
    have hmv : m.Value = pv - 10 := by rw [em]; rfl
    rw [← em] at hS hC2
    obtain ⟨b, eb⟩ : ∃ b, b = ofB ((soL xs).filter (Wx.notM n1)) 10 := ⟨_, rfl⟩
    obtain ⟨c2, ec⟩ : ∃ c, c = ofB (((soL xs).filter (Wx.notM n1)) ++ [m]) 10 := ⟨_, rfl⟩
    have hLB : LateB b c2 m := by rw [eb, ec, em]; exact lateB_of hn1 htm (by omega) (fun f hf => (List.mem_filter.1 hf).2)
    have hk : KnB b := by rw [eb]; exact kn_of (by omega) 10
    have hk2 : KnB c2 := by rw [ec]; exact kn_of (by rw [List.length_append, List.length_singleton]; omega) 10
    have hTs : ∀ f ∈ c2.Targets, 0 ≤ f.Value ∧ f.Value < 40 := by rw [hLB.T, eb]; exact late_targets hxs
    rw [← eb] at hC1
    rw [← ec] at hC2
    have hW := hS.upd
    have hB19 := hS.blk 2 rfl
    have hB20 := hS.blk 3 rfl
    have hB21 := hS.blk 4 rfl
    have hrl : (rnsF b t ch r).length ≤ 100 := Nat.le_trans (rnsF_len _ _ _ _) (hk.sh 0)
    refine CW.region ?_
    refine LW.pp (PEv.loadA Tryz.isAgg24 Tryz.sizeOf24 (hC1.size) (.tmp rfl) (hB20.agg)) ?_
    refine LW.M rfl (LW.M rfl (LW.M rfl ?_))
    refine LW.c (enter_call0 (.cons (.tmp rfl) (.cons (.tmp rfl) (.cons (.tmp rfl) (.cons (.tmp rfl) .nil)))) (Tryz.en18)) rfl rfl rfl rfl (DecisionsE_any bc1 b t ch r _ (hC1.up (Up.refl _)) (Nat.le_trans (hk.sh 0) (by decide)) (Nat.le_trans (hk.sh 8) (by decide)) (Nat.le_trans (hk.sh 1) (by decide)) (Nat.le_trans (hk.sh 9) (by decide))) ?_
    rintro v96 w22 ⟨hp96, uw22⟩
    have zw22 := uw22.size
    replace hC1 := hC1.up uw22
    replace hC2 := hC2.up uw22
    replace hW := hW.up uw22
    replace hB19 := hB19.up uw22
    replace hB20 := hB20.up uw22
    replace hB21 := hB21.up uw22
    obtain ⟨L, ⟨ad96, cp96, rfl, hE_⟩, hU_, hma⟩ := hp96
    have hEa : Els _ ad96 6 DP.cells L := hE_
    have hUa : UsL _ L := hU_
    clear hE_ hU_
    refine LW.A rfl (LW.S (CW.region ?_))
    refine LW.pp (PEv.loadA Tryz.isAgg24 Tryz.sizeOf24 (hC2.size) (.tmp rfl) (hB21.agg)) ?_
    refine LW.M rfl (LW.M rfl (LW.M rfl ?_))
    refine LW.c (enter_call0 (.cons (.tmp rfl) (.cons (.tmp rfl) (.cons (.tmp rfl) (.cons (.tmp rfl) .nil)))) (Tryz.en18)) rfl rfl rfl rfl (DecisionsE_any bc2 c2 t ch r _ (hC2.up (Up.refl _)) (Nat.le_trans (hk2.sh 0) (by decide)) (Nat.le_trans (hk2.sh 8) (by decide)) (Nat.le_trans (hk2.sh 1) (by decide)) (Nat.le_trans (hk2.sh 9) (by decide))) ?_
    rintro v101 w23 ⟨hp101, uw23⟩
    have zw23 := uw23.size
    replace hC1 := hC1.up uw23
    replace hC2 := hC2.up uw23
    replace hW := hW.up uw23
    replace hB19 := hB19.up uw23
    replace hB20 := hB20.up uw23
    replace hB21 := hB21.up uw23
    replace hEa := hEa.up uw23
    replace hUa := hUa.up uw23
    obtain ⟨M, ⟨ad101, cp101, rfl, hE_⟩, hU_, hmc⟩ := hp101
    have hEc : Els _ ad101 6 DP.cells M := hE_
    have hUc : UsL _ M := hU_
    clear hE_ hU_
    refine LW.A rfl (LW.S (CW.seq ?_))
    have hLl : L.length = (rnsF b t ch r).length := by have h1 := congrArg List.length hma; rwa [List.length_map, desF_len] at h1
    have hMl : M.length = (rnsF b t ch r).length := by have h1 := congrArg List.length hmc; rwa [List.length_map, desF_len, late_rns hLB] at h1
    have hrl2 : (rnsF c2 t ch r).length ≤ 100 := by rw [late_rns hLB]; exact hrl
    refine CW.region (LW.M rfl ?_)
    refine LW.pp (PEv.lenS Tryz.underlying43 (.tmp rfl)) ?_
    refine LW.M rfl ?_
    refine LW.pp (PEv.lenS Tryz.underlying43 (.tmp rfl)) ?_
    refine LW.pp (PEv.fa (PEv.neq (.tmp rfl) (.tmp rfl)) (by rw [show (L.length : Int) = (M.length : Int) by omega]; simp)) ?_
    refine LW.T ?_
    refine CW.cond_false (.tmp rfl) ?_
    refine CW.skip (KW.then (CW.S ?_))
    refine LW.pp (PEv.loadA Tryz.isAgg24 Tryz.sizeOf24 (hC2.size) (.tmp rfl) (hB21.agg)) ?_
    refine LW.M rfl ?_
    refine LW.c (enter_call0 (.cons (.tmp rfl) (.cons (.tmp rfl) .nil)) (Tryz.en24)) rfl rfl rfl rfl (Process_any bc2 c2 n1 _ hC2 (Nat.le_trans (hk2.sh 0) (by decide))) ?_
    rintro _ w24 ⟨rfl, uw24⟩
    have zw24 := uw24.size
    replace hC1 := hC1.up uw24
    replace hC2 := hC2.up uw24
    replace hW := hW.up uw24
    replace hB19 := hB19.up uw24
    replace hB20 := hB20.up uw24
    replace hB21 := hB21.up uw24
    replace hEa := hEa.up uw24
    replace hUa := hUa.up uw24
    replace hEc := hEc.up uw24
    replace hUc := hUc.up uw24
    refine LW.M rfl (LW.pp (PEv.extract (.tmp rfl) rfl) (LW.pp (PEv.extract (.tmp rfl) rfl) ?_))
    refine LW.r (REv.allocA Tryz.zeroValue50) rfl rfl rfl rfl ?_
    rintro _ w25 ⟨B24, rfl, MB24⟩
    refine LW.s (SEv.storeA Tryz.sizeOf50 rfl (.tmp rfl) (.tmp rfl) (Fact.one _) MB24.blk rfl) rfl rfl rfl ?_
    intro w26 LB24
    have NB24 := MB24.set LB24
    clear LB24 MB24
    have eB24 := NB24.at_
    have zB24 := NB24.size
    replace hC1 := hC1.up NB24.up
    replace hC2 := hC2.up NB24.up
    replace hW := hW.up NB24.up
    replace hB19 := hB19.up NB24.up
    replace hB20 := hB20.up NB24.up
    replace hB21 := hB21.up NB24.up
    replace hEa := hEa.up NB24.up
    replace hUa := hUa.up NB24.up
    replace hEc := hEc.up NB24.up
    replace hUc := hUc.up NB24.up
    have hB24 := NB24.blk
    refine LW.A rfl (LW.S (CW.S (LW.C (LW.T (CW.block ?_)))))
    refine CW.loopB (σ := Nat) (fun s w => (s ≤ M.length) ∧ (Up w26 w)) (fun s => [(26, .eq (vi (s : Int)))]) ([(1, .eq _), (4, .eq _), (5, .eq _), (6, .eq _), (15, .eq _), (19, .eq _), (21, .eq _), (22, .eq _), (23, .eq _), (24, .eq _), (25, .eq _)]) (fun s => M.length - s) 0 ?_ ⟨rfl, rfl, rfl, rfl, rfl, rfl, rfl, rfl, rfl, rfl, rfl, rfl, trivial⟩ ?_
    ·exact ⟨Nat.zero_le _, Up.refl _⟩
    ·rintro i w27 ⟨hii, hL2⟩
     have zzw27 := hL2.size
     replace hC1 := hC1.up hL2
     replace hC2 := hC2.up hL2
     replace hW := hW.up hL2
     replace hB19 := hB19.up hL2
     replace hB20 := hB20.up hL2
     replace hB21 := hB21.up hL2
     replace hEa := hEa.up hL2
     replace hUa := hUa.up hL2
     replace hEc := hEc.up hL2
     replace hUc := hUc.up hL2
     replace hB24 := hB24.up hL2
     refine CW.seq (CW.S (LW.M rfl (LW.M rfl ?_)))
     refine LW.pp (PEv.lenS Tryz.underlying43 (.tmp rfl)) ?_
     refine LW.pp (PEv.lss (.tmp rfl) (.tmp rfl)) ?_
     refine LW.T ?_
     refine CW.cond (.tmp rfl) (fun h116 => ?_) (fun h116 => ?_)
     ·first | replace h116 := dT h116 | replace h116 := dF h116 | skip
      refine CW.skip (KW.then (CW.seq (CW.block (CW.seq ?_))))
      obtain ⟨y, hy⟩ := getElem?_of_lt (xs := M) (i := i) (by omega)
      obtain ⟨x, hx⟩ := getElem?_of_lt (xs := L) (i := i) (by omega)
      obtain ⟨By, oy, ay, hcy⟩ := hEc i y hy
      obtain ⟨Bx, ox, ax, hcx⟩ := hEa i x hx
      have hyl : y.dec.uses.length ≤ 100 := Nat.le_trans (desF_uses _ _ _ _ _ (List.mem_of_getElem? (dp_at hmc hy))) hrl2
      have hxl : x.dec.uses.length ≤ 100 := Nat.le_trans (desF_uses _ _ _ _ _ (List.mem_of_getElem? (dp_at hma hx))) hrl
      refine CW.region (LW.C (LW.S (CW.S (LW.C (LW.T (CW.block ?_))))))
      refine CW.loopB (σ := Bool × Nat) (fun s w => (s.2 ≤ y.dec.uses.length) ∧ (s.1 = (y.dec.uses.take s.2).any (fun z => decide (z = n1))) ∧ (Up w27 w)) (fun s => [(27, .eq (.bool s.1)), (28, .eq (vi (s.2 : Int)))]) ([(1, .eq _), (4, .eq _), (5, .eq _), (6, .eq _), (15, .eq _), (19, .eq _), (21, .eq _), (22, .eq _), (23, .eq _), (24, .eq _), (25, .eq _), (26, .eq _)]) (fun s => y.dec.uses.length - s.2) (false, 0) ?_ ⟨rfl, rfl, rfl, rfl, rfl, rfl, rfl, rfl, rfl, rfl, rfl, rfl, rfl, rfl, trivial⟩ ?_
      ·exact ⟨Nat.zero_le _, rfl, Up.refl _⟩
      ·rintro ⟨u, k⟩ w28 ⟨hkk, hu, hL3⟩
       dsimp only at hkk hu
       change CW _ _ _ _ _ _ _ ([(27, .eq (.bool u)), (28, .eq (vi (k : Int)))] ++ _) _
       have zzw28 := hL3.size
       replace hC1 := hC1.up hL3
       replace hC2 := hC2.up hL3
       replace hW := hW.up hL3
       replace hB19 := hB19.up hL3
       replace hB20 := hB20.up hL3
       replace hB21 := hB21.up hL3
       replace hEa := hEa.up hL3
       replace hUa := hUa.up hL3
       replace hEc := hEc.up hL3
       replace hUc := hUc.up hL3
       replace hB24 := hB24.up hL3
       replace hL2 := hL2.up hL3
       replace hcy := hcy.up hL3
       replace hcx := hcx.up hL3
       refine CW.seq (CW.S (LW.M rfl (LW.M rfl (LW.M rfl ?_))))
       refine LW.pp (PEv.indexAddr' Tryz.underlying43 Tryz.sizeOf37 (.tmp rfl) (.tmp rfl) (by omega) ay) ?_
       refine LW.pp (PEv.fieldAddr (off := 5) Tryz.underlying37 rfl rfl Tryz.sizeOf35 rfl (.tmp rfl)) ?_
       refine LW.pp (PEv.load Tryz.isAgg35 (.tmp rfl) (dp_uses hcy)) ?_
       refine LW.pp (PEv.lenS Tryz.underlying35 (.tmp rfl)) ?_
       refine LW.pp (PEv.lss (.tmp rfl) (.tmp rfl)) ?_
       refine LW.T ?_
       refine CW.cond (.tmp rfl) (fun h126 => ?_) (fun h126 => ?_)
       ·first | replace h126 := dT h126 | replace h126 := dF h126 | skip
        refine CW.skip (KW.then (CW.seq (CW.block ?_)))
        obtain ⟨adu, cpu, eu, hEu⟩ := hUc y (List.mem_of_getElem? hy)
        cases eu
        obtain ⟨z, hz⟩ := getElem?_of_lt (xs := y.dec.uses) (i := k) (by omega)
        obtain ⟨Bu, ou, au, hcu⟩ := hEu k z hz
        refine CW.region (LW.M rfl (LW.M rfl ?_))
        refine LW.g rfl rfl rfl rfl rfl rfl rfl (fun hc => PEv.move (.tmp rfl)) ?_
        refine LW.g rfl rfl rfl rfl rfl rfl rfl (fun hc => PEv.move (.tmp rfl)) ?_
        refine LW.g rfl rfl rfl rfl rfl rfl rfl (fun hc => PEv.indexAddr' Tryz.underlying43 Tryz.sizeOf37 (by first | exact .tmp rfl | exact .cond rfl (by first | assumption | simp_all)) (by first | exact .tmp rfl | exact .cond rfl (by first | assumption | simp_all)) (by omega) ay) ?_
        refine LW.g rfl rfl rfl rfl rfl rfl rfl (fun hc => PEv.fieldAddr (off := 5) Tryz.underlying37 rfl rfl Tryz.sizeOf35 rfl (by first | exact .tmp rfl | exact .cond rfl (by first | assumption | simp_all))) ?_
        refine LW.g rfl rfl rfl rfl rfl rfl rfl (fun hc => PEv.load Tryz.isAgg35 (by first | exact .tmp rfl | exact .cond rfl (by first | assumption | simp_all)) (dp_uses hcy)) ?_
        refine LW.g rfl rfl rfl rfl rfl rfl rfl (fun hc => PEv.move (.tmp rfl)) ?_
        refine LW.g rfl rfl rfl rfl rfl rfl rfl (fun hc => PEv.indexAddr' Tryz.underlying35 Tryz.sizeOf3 (by first | exact .tmp rfl | exact .cond rfl (by first | assumption | simp_all)) (by first | exact .tmp rfl | exact .cond rfl (by first | assumption | simp_all)) (by omega) au) ?_
        refine LW.g rfl rfl rfl rfl rfl rfl rfl (fun hc => PEv.load Tryz.isAgg3 (by first | exact .tmp rfl | exact .cond rfl (by first | assumption | simp_all)) (hcu.nth (j := 0) rfl)) ?_
        refine LW.g rfl rfl rfl rfl rfl rfl rfl (fun hc => PEv.move (.tmp rfl)) ?_
        refine LW.g rfl rfl rfl rfl rfl rfl rfl (fun hc => PEv.eql (by first | exact .tmp rfl | exact .cond rfl (by first | assumption | simp_all)) (by first | exact .tmp rfl | exact .cond rfl (by first | assumption | simp_all))) ?_
        refine LW.pp (PEv.pick_or (.tmp rfl) (fun hp => (by first | exact .const _ | exact .tmp rfl | exact .cond rfl (by first | assumption | (rw [hp]; rfl) | (rw [hc, hp]; rfl) | simp_all)))) ?_
        refine LW.A rfl (LW.nil (KW.inBlock (KW.then (CW.region (LW.M rfl ?_)))))
        refine LW.pp (PEv.inc (.tmp rfl) (by omega)) ?_
        refine LW.A rfl (LW.nil (KW.round ?_))
        exact ⟨(u || decide (z = n1), k + 1), ⟨by show k + 1 ≤ _; omega, by show (u || decide (z = n1)) = _; rw [any_take hz, ← hu], hL3⟩, ⟨rfl, rfl, rfl, rfl, rfl, rfl, rfl, rfl, rfl, rfl, rfl, rfl, rfl, rfl, trivial⟩, by show y.dec.uses.length - (k + 1) < y.dec.uses.length - k; omega⟩
       ·first | replace h126 := dT h126 | replace h126 := dF h126 | skip
        refine CW.exit (KW.then_exit (KW.then_exit (KW.block_hit (KW.then (CW.seq (CW.seq ?_))))))
        have hkl : k = y.dec.uses.length := by omega
        rw [hkl, List.take_length, ← hmid] at hu
        cases hq29 : u with
        | false =>
         have hsame := lateD_same hLB hk hma hmc hx hy (hu.symm.trans hq29)
         refine CW.region (LW.M rfl ?_)
         refine LW.pp (PEv.tr (PEv.not (.tmp rfl)) (rfl)) ?_
         refine LW.T ?_
         refine CW.cond_true (.tmp rfl) ?_
         refine CW.seq (CW.seq ?_)
         refine CW.draws (by kernel_rfl) (by kernel_rfl) rfl rfl ?_
         refine HW.pp (PEv.move (.tmp rfl)) ?_
         refine HW.pp (PEv.move (.tmp rfl)) ?_
         refine HW.pp (PEv.indexAddr' Tryz.underlying43 Tryz.sizeOf37 (.tmp rfl) (.tmp rfl) (by omega) ax) ?_
         refine HW.pp (PEv.loadA Tryz.isAgg37 Tryz.sizeOf37 rfl (.tmp rfl) (hcx)) ?_
         refine HW.pp (PEv.move (.tmp rfl)) ?_
         refine HW.pp (PEv.move (.tmp rfl)) ?_
         refine HW.pp (PEv.indexAddr' Tryz.underlying43 Tryz.sizeOf37 (.tmp rfl) (.tmp rfl) (by omega) ay) ?_
         refine HW.pp (PEv.loadA Tryz.isAgg37 Tryz.sizeOf37 rfl (.tmp rfl) (hcy)) ?_
         refine HW.c (fun a w _ ha => enter_call0 (.cons (.tmp rfl) (.cons (.tmp rfl) .nil)) (Tryz.en16) a ha) rfl rfl (fun w hu => same_any x y w ((hUa x (List.mem_of_getElem? hx)).up hu) ((hUc y (List.mem_of_getElem? hy)).up hu) (by omega)) ?_
         refine HW.pp (PEv.fa (PEv.not (.tmp rfl)) (by rw [hsame]; rfl)) ?_
         refine HW.nil ?_
         intro w29 uw29
         have zw29 := uw29.size
         replace hC1 := hC1.up uw29
         replace hC2 := hC2.up uw29
         replace hW := hW.up uw29
         replace hB19 := hB19.up uw29
         replace hB20 := hB20.up uw29
         replace hB21 := hB21.up uw29
         replace hEa := hEa.up uw29
         replace hUa := hUa.up uw29
         replace hEc := hEc.up uw29
         replace hUc := hUc.up uw29
         replace hB24 := hB24.up uw29
         replace hL2 := hL2.up uw29
         replace hcy := hcy.up uw29
         replace hcx := hcx.up uw29
         replace hL3 := hL3.up uw29
         refine KW.then ?_
         refine CW.cond_false (.tmp rfl) ?_
         refine CW.skip (KW.then (CW.exit (KW.then_exit (KW.block_hit (KW.then (CW.region (LW.M rfl ?_)))))))
         refine LW.pp (PEv.inc (.tmp rfl) (by omega)) ?_
         refine LW.A rfl (LW.nil (KW.round ?_))
         exact ⟨i + 1, ⟨by omega, hL2⟩, ⟨rfl, rfl, rfl, rfl, rfl, rfl, rfl, rfl, rfl, rfl, rfl, rfl, trivial⟩, by first | omega | (dsimp only; omega)⟩
        | true =>
         obtain ⟨p, x0, E, hpp, hpq, hd, hxt, hxc, hxr⟩ := lateD_used hLB hk hma hmc hx hy (hu.symm.trans hq29)
         rw [hmid] at hpq
         rw [hpq] at hB24 ⊢
         replace hB24 : Blk _ B24 x0.cells 50 := hB24
         have hb0 := (tar_small (r := r) (t := x0.Time) hTs).2
         refine CW.region (LW.M rfl ?_)
         refine LW.pp (PEv.fa (PEv.not (.tmp rfl)) (rfl)) ?_
         refine LW.T ?_
         refine CW.cond_false (.tmp rfl) ?_
         refine CW.skip (KW.then (CW.seq ?_))
         refine CW.boxU 13 10 11 8 29 162 (Fact.cells zeroF) [.eq (.agg bc2), .eq (.slice ad101 M.length cp101), .eq (vi (i : Int)), .eq (.pointer (some ⟨By, oy + i * 6, none⟩)), .eq (.pointer (some ⟨By, oy + i * 6, none⟩)), .eq (vi y.dec.run), .eq (.tuple #[.agg p.cells, .bool true]), .eq (.tuple #[.agg p.cells, .bool true]), .eq (.agg p.cells), .eq (.bool true), .pred fun v _ => ∃ B, v = .pointer (some ⟨B, 0, none⟩), .eq (undef), .eq (.bool true)] [30] Tryz.zeroValue50 Tryz.sizeOf50 (by kernel_rfl) rfl (by kernel_rfl) (by kernel_rfl) (by kernel_rfl) (by kernel_rfl) (by kernel_rfl) (by kernel_rfl) (by kernel_rfl) rfl rfl ⟨_, _, _, rfl⟩ _ rfl ⟨_, _, _, rfl⟩ ⟨PhT.eq _ _, PhT.eq _ _, PhT.eq _ _, PhT.eq _ _, PhT.eq _ _, PhT.eq _ _, PhT.eq _ _, PhT.eq _ _, PhT.eq _ _, PhT.eq _ _, PhT.pred fun _ _ _ h _ => h, PhT.eq _ _, PhT.eq _ _, trivial⟩ rfl (fun v W h => ⟨_, h, rfl, Fact.one p⟩) (fun B W => ⟨B, rfl⟩) ?_ ?_
         ·intro W hU0
          have hU := (Up.drew w28).trans hU0
          refine allL.cons (.inr ⟨rfl, TU.p (PEv.loadA Tryz.isAgg24 Tryz.sizeOf24 hC2.size (.tmp rfl) (hB21.up hU).agg) rfl⟩) ?_
          refine allL.cons (.inr ⟨rfl, TU.p (PEv.move (.tmp rfl)) rfl⟩) ?_
          refine allL.cons (.inr ⟨rfl, TU.p (PEv.move (.tmp rfl)) rfl⟩) ?_
          refine allL.cons (.inr ⟨rfl, TU.p (PEv.indexAddr' Tryz.underlying43 Tryz.sizeOf37 (.tmp rfl) (.tmp rfl) (by omega) ay) rfl⟩) ?_
          refine allL.cons (.inr ⟨rfl, TU.p (PEv.fieldAddr (off := 0) Tryz.underlying37 rfl rfl Tryz.sizeOf3 rfl (.tmp rfl)) rfl⟩) ?_
          refine allL.cons (.inr ⟨rfl, TU.p (PEv.load Tryz.isAgg3 (.tmp rfl) (dp_run (hcy.up hU))) rfl⟩) ?_
          refine allL.cons (.inr ⟨rfl, TU.c (enter_call0 (.cons (.tmp rfl) (.cons (.tmp rfl) .nil)) (Tryz.en24)) (Process_any bc2 c2 y.dec.run W (hC2.up hU) (Nat.le_trans (hk2.sh 0) (by decide))) (by rintro _ W1 ⟨rfl, u_⟩; rw [hpp]; exact ⟨u_, rfl⟩)⟩) ?_
          refine allL.cons (.inr ⟨rfl, TU.p (PEv.move (.tmp rfl)) rfl⟩) ?_
          refine allL.cons (.inr ⟨rfl, TU.p (PEv.extract (.tmp rfl) rfl) rfl⟩) ?_
          refine allL.cons (.inr ⟨rfl, TU.p (PEv.extract (.tmp rfl) rfl) rfl⟩) ?_
          refine allL.cons (.inl (.inl rfl)) ?_
          refine allL.cons (.inl (.inr rfl)) ?_
          refine allL.cons (.inr ⟨rfl, TU.p (PEv.assign (.tmp rfl)) rfl⟩) ?_
          exact allL.nil
         ·intro w30 B29 g hU0 zB29_ hB29 hg
          have hU := (Up.drew w28).trans hU0
          have zw30 := hU.size
          have zdr : w28.drew.heap.size = w28.heap.size := rfl
          have g162_ : g 162 = .agg p.cells := hg 8 _ 162 (by decide) rfl rfl
          have g30_ : g 30 = .bool true := hg 12 _ 30 (by decide) rfl rfl
          rw [g162_] at hB29
          replace hB29 : Blk w30 B29 (p.cells) 50 := hB29
          change LW _ _ _ _ _ _ _ _ ((29, _) :: (30, .eq (g 30)) :: _) _
          rw [g30_]
          clear hg
          replace hC1 := hC1.up hU
          replace hC2 := hC2.up hU
          replace hW := hW.up hU
          replace hB19 := hB19.up hU
          replace hB20 := hB20.up hU
          replace hB21 := hB21.up hU
          replace hEa := hEa.up hU
          replace hUa := hUa.up hU
          replace hEc := hEc.up hU
          replace hUc := hUc.up hU
          replace hB24 := hB24.up hU
          replace hL2 := hL2.up hU
          replace hcy := hcy.up hU
          replace hcx := hcx.up hU
          replace hL3 := hL3.up hU
          refine LW.S (CW.S (LW.M rfl ?_))
          refine LW.pp (PEv.fa (PEv.not (.tmp rfl)) (rfl)) ?_
          refine LW.M rfl ?_
          refine LW.Y ?_
          refine LW.M rfl ?_
          refine LW.Y ?_
          refine LW.pp (PEv.fa (PEv.not (.tmp rfl)) (rfl)) ?_
          refine LW.pp (PEv.pick_or (.tmp rfl) (fun hp => (by first | exact .const _ | exact .tmp rfl | exact .cond rfl (by first | assumption | (rw [hp]; rfl) | (rw [hc, hp]; rfl) | simp_all)))) ?_
          refine LW.M rfl ?_
          refine LW.Y ?_
          refine LW.pp (PEv.fieldAddr (off := 11) Tryz.underlying50 rfl rfl Tryz.sizeOf3 rfl (.tmp rfl)) ?_
          refine LW.Y ?_
          refine LW.pp (PEv.load Tryz.isAgg3 (.tmp rfl) (hB24.celln rfl)) ?_
          refine LW.Y ?_
          refine LW.M rfl ?_
          refine LW.Y ?_
          refine LW.pp (PEv.fa (PEv.neq (.tmp rfl) (.tmp rfl)) (by rw [decide_eq_true hxt]; rfl)) ?_
          refine LW.pp (PEv.pick_or (.tmp rfl) (fun hp => (by first | exact .const _ | exact .tmp rfl | exact .cond rfl (by first | assumption | (rw [hp]; rfl) | (rw [hc, hp]; rfl) | simp_all)))) ?_
          refine LW.M rfl ?_
          refine LW.Y ?_
          refine LW.pp (PEv.fieldAddr (off := 12) Tryz.underlying50 rfl rfl Tryz.sizeOf3 rfl (.tmp rfl)) ?_
          refine LW.Y ?_
          refine LW.pp (PEv.load Tryz.isAgg3 (.tmp rfl) (hB24.celln rfl)) ?_
          refine LW.Y ?_
          refine LW.M rfl ?_
          refine LW.Y ?_
          refine LW.pp (PEv.fa (PEv.neq (.tmp rfl) (.tmp rfl)) (by rw [decide_eq_true hxc]; rfl)) ?_
          refine LW.pp (PEv.pick_or (.tmp rfl) (fun hp => (by first | exact .const _ | exact .tmp rfl | exact .cond rfl (by first | assumption | (rw [hp]; rfl) | (rw [hc, hp]; rfl) | simp_all)))) ?_
          refine LW.M rfl ?_
          refine LW.Y ?_
          refine LW.pp (PEv.fieldAddr (off := 14) Tryz.underlying50 rfl rfl Tryz.sizeOf3 rfl (.tmp rfl)) ?_
          refine LW.Y ?_
          refine LW.pp (PEv.load Tryz.isAgg3 (.tmp rfl) (hB24.celln rfl)) ?_
          refine LW.Y ?_
          refine LW.M rfl ?_
          refine LW.Y ?_
          refine LW.pp (PEv.fa (PEv.neq (.tmp rfl) (.tmp rfl)) (by rw [decide_eq_true hxr]; rfl)) ?_
          refine LW.pp (PEv.pick_or (.tmp rfl) (fun hp => (by first | exact .const _ | exact .tmp rfl | exact .cond rfl (by first | assumption | (rw [hp]; rfl) | (rw [hc, hp]; rfl) | simp_all)))) ?_
          refine LW.M rfl ?_
          refine LW.Y ?_
          refine LW.pp (PEv.fieldAddr (off := 5) Tryz.underlying50 rfl rfl Tryz.sizeOf3 rfl (.tmp rfl)) ?_
          refine LW.Y ?_
          refine LW.pp (PEv.load Tryz.isAgg3 (.tmp rfl) (hB29.celln rfl)) ?_
          refine LW.Y ?_
          refine LW.pp (PEv.fieldAddr (off := 5) Tryz.underlying50 rfl rfl Tryz.sizeOf3 rfl (.tmp rfl)) ?_
          refine LW.Y ?_
          refine LW.pp (PEv.load Tryz.isAgg3 (.tmp rfl) (hB19.celln rfl)) ?_
          refine LW.Y ?_
          refine LW.pp (PEv.fa (PEv.lss (.tmp rfl) (.tmp rfl)) (decide_eq_false (by have := hd.time; omega))) ?_
          refine LW.pp (PEv.pick_or (.tmp rfl) (fun hp => (by first | exact .const _ | exact .tmp rfl | exact .cond rfl (by first | assumption | (rw [hp]; rfl) | (rw [hc, hp]; rfl) | simp_all)))) ?_
          refine LW.M rfl ?_
          refine LW.Y ?_
          refine LW.pp (PEv.fieldAddr (off := 5) Tryz.underlying50 rfl rfl Tryz.sizeOf3 rfl (.tmp rfl)) ?_
          refine LW.Y ?_
          refine LW.pp (PEv.load Tryz.isAgg3 (.tmp rfl) (hB29.celln rfl)) ?_
          refine LW.Y ?_
          refine LW.pp (PEv.fieldAddr (off := 5) Tryz.underlying50 rfl rfl Tryz.sizeOf3 rfl (.tmp rfl)) ?_
          refine LW.Y ?_
          refine LW.pp (PEv.load Tryz.isAgg3 (.tmp rfl) (hB24.celln rfl)) ?_
          refine LW.Y ?_
          refine LW.pp (PEv.fa (PEv.lss (.tmp rfl) (.tmp rfl)) (decide_eq_false (by have := hd.le; omega))) ?_
          refine LW.pp (PEv.pick_or (.tmp rfl) (fun hp => (by first | exact .const _ | exact .tmp rfl | exact .cond rfl (by first | assumption | (rw [hp]; rfl) | (rw [hc, hp]; rfl) | simp_all)))) ?_
          refine LW.M rfl ?_
          refine LW.Y ?_
          refine LW.pp (PEv.fieldAddr (off := 1) Tryz.underlying50 rfl rfl Tryz.sizeOf3 rfl (.tmp rfl)) ?_
          refine LW.Y ?_
          refine LW.pp (PEv.load Tryz.isAgg3 (.tmp rfl) (hB29.celln rfl)) ?_
          refine LW.Y ?_
          refine LW.M rfl ?_
          refine LW.Y ?_
          refine LW.pp (PEv.fa (PEv.eql (.tmp rfl) (.tmp rfl)) (decide_eq_false (by have := hd.ne; omega))) ?_
          refine LW.pp (PEv.pick_or (.tmp rfl) (fun hp => (by first | exact .const _ | exact .tmp rfl | exact .cond rfl (by first | assumption | (rw [hp]; rfl) | (rw [hc, hp]; rfl) | simp_all)))) ?_
          refine LW.T ?_
          refine CW.cond_false (.tmp rfl) ?_
          refine CW.skip (KW.then (CW.S ?_))
          refine LW.pp (PEv.loadA Tryz.isAgg24 Tryz.sizeOf24 (hC2.size) (.tmp rfl) (hB21.agg)) ?_
          refine LW.M rfl ?_
          refine LW.pp (PEv.fieldAddr (off := 5) Tryz.underlying50 rfl rfl Tryz.sizeOf3 rfl (.tmp rfl)) ?_
          refine LW.pp (PEv.load Tryz.isAgg3 (.tmp rfl) (hB24.celln rfl)) ?_
          refine LW.c (enter_call0 (.cons (.tmp rfl) (.cons (.tmp rfl) (.cons (.tmp rfl) .nil))) (Tryz.en25)) rfl rfl rfl rfl (Target_any bc2 c2 r x0.Time _ hC2 (Nat.le_trans (hk2.sh 9) (by decide))) ?_
          rintro _ w31 ⟨rfl, uw31⟩
          have zw31 := uw31.size
          replace hC1 := hC1.up uw31
          replace hC2 := hC2.up uw31
          replace hW := hW.up uw31
          replace hB19 := hB19.up uw31
          replace hB20 := hB20.up uw31
          replace hB21 := hB21.up uw31
          replace hEa := hEa.up uw31
          replace hUa := hUa.up uw31
          replace hEc := hEc.up uw31
          replace hUc := hUc.up uw31
          replace hB24 := hB24.up uw31
          replace hL2 := hL2.up uw31
          replace hcy := hcy.up uw31
          replace hcx := hcx.up uw31
          replace hL3 := hL3.up uw31
          replace hB29 := hB29.up uw31
          rw [← (tar_small (r := r) (t := x0.Time) hTs).1]
          refine LW.M rfl (LW.pp (PEv.extract (.tmp rfl) rfl) (LW.pp (PEv.extract (.tmp rfl) rfl) (LW.A rfl (LW.A rfl (LW.S (CW.region ?_))))))
          refine LW.pp (PEv.fieldAddr (off := 16) Tryz.underlying50 rfl rfl Tryz.sizeOf3 rfl (.tmp rfl)) ?_
          refine LW.pp (PEv.load Tryz.isAgg3 (.tmp rfl) (hB19.celln rfl)) ?_
          refine LW.M rfl ?_
          refine LW.pp (PEv.sub (.tmp rfl) (.tmp rfl) (by omega) (by omega)) ?_
          refine LW.c (enter_call0 (.cons (.tmp rfl) (.cons (.const _) .nil)) (Tryz.en26)) rfl rfl rfl rfl (Make_any (m.Value - tarF c2.Targets r x0.Time) 4 _ ⟨by omega, by omega⟩ (by decide) ⟨by decide, by decide⟩) ?_
          rintro _ w32 ⟨rfl, uw32⟩
          have zw32 := uw32.size
          replace hC1 := hC1.up uw32
          replace hC2 := hC2.up uw32
          replace hW := hW.up uw32
          replace hB19 := hB19.up uw32
          replace hB20 := hB20.up uw32
          replace hB21 := hB21.up uw32
          replace hEa := hEa.up uw32
          replace hUa := hUa.up uw32
          replace hEc := hEc.up uw32
          replace hUc := hUc.up uw32
          replace hB24 := hB24.up uw32
          replace hL2 := hL2.up uw32
          replace hcy := hcy.up uw32
          replace hcx := hcx.up uw32
          replace hL3 := hL3.up uw32
          replace hB29 := hB29.up uw32
          rw [mkF_fits (fits_small hd.bd1 (by decide))]
          refine LW.M rfl (LW.pp (PEv.extract (.tmp rfl) rfl) (LW.pp (PEv.extract (.tmp rfl) rfl) ?_))
          refine LW.r (REv.allocA Tryz.zeroValue34) rfl rfl rfl rfl ?_
          rintro _ w33 ⟨B33, rfl, MB33⟩
          refine LW.s (SEv.storeA Tryz.sizeOf34 rfl (.tmp rfl) (.tmp rfl) (Rt.one _) MB33.blk rfl) rfl rfl rfl ?_
          intro w34 LB33
          have NB33 := MB33.set LB33
          clear LB33 MB33
          have eB33 := NB33.at_
          have zB33 := NB33.size
          replace hC1 := hC1.up NB33.up
          replace hC2 := hC2.up NB33.up
          replace hW := hW.up NB33.up
          replace hB19 := hB19.up NB33.up
          replace hB20 := hB20.up NB33.up
          replace hB21 := hB21.up NB33.up
          replace hEa := hEa.up NB33.up
          replace hUa := hUa.up NB33.up
          replace hEc := hEc.up NB33.up
          replace hUc := hUc.up NB33.up
          replace hB24 := hB24.up NB33.up
          replace hL2 := hL2.up NB33.up
          replace hcy := hcy.up NB33.up
          replace hcx := hcx.up NB33.up
          replace hL3 := hL3.up NB33.up
          replace hB29 := hB29.up NB33.up
          have hB33 := NB33.blk
          refine LW.A rfl (LW.S ?_)
          refine CW.boxU 13 10 11 8 35 232 (rz.cells) [.eq (.slice ad96 L.length cp96), .eq (vi (i : Int)), .eq (.pointer (some ⟨Bx, ox + i * 6, none⟩)), .eq (.pointer (some ⟨Bx, ox + i * 6 + 3, none⟩)), .eq (.agg (redF E 4).cells), .eq (.agg (redF (m.Value - tarF c2.Targets r x0.Time) 4).cells), .eq (.tuple #[.agg (redF (E + (m.Value - tarF c2.Targets r x0.Time)) 4).cells, vi 0]), .eq (.tuple #[.agg (redF (E + (m.Value - tarF c2.Targets r x0.Time)) 4).cells, vi 0]), .eq (.agg (redF (E + (m.Value - tarF c2.Targets r x0.Time)) 4).cells), .eq (vi 0), .pred fun v _ => ∃ B, v = .pointer (some ⟨B, 0, none⟩), .eq (undef), .eq (vi 0)] [36] Tryz.zeroValue34 Tryz.sizeOf34 (by kernel_rfl) rfl (by kernel_rfl) (by kernel_rfl) (by kernel_rfl) (by kernel_rfl) (by kernel_rfl) (by kernel_rfl) (by kernel_rfl) rfl rfl ⟨_, _, _, rfl⟩ _ rfl ⟨_, _, _, rfl⟩ ⟨PhT.eq _ _, PhT.eq _ _, PhT.eq _ _, PhT.eq _ _, PhT.eq _ _, PhT.eq _ _, PhT.eq _ _, PhT.eq _ _, PhT.eq _ _, PhT.eq _ _, PhT.pred fun _ _ _ h _ => h, PhT.eq _ _, PhT.eq _ _, trivial⟩ rfl (fun v W h => ⟨_, h, rfl, Rt.one _⟩) (fun B W => ⟨B, rfl⟩) ?_ ?_
          ·intro W hU0
           have hU := (Up.drew w34).trans hU0
           refine allL.cons (.inr ⟨rfl, TU.p (PEv.move (.tmp rfl)) rfl⟩) ?_
           refine allL.cons (.inr ⟨rfl, TU.p (PEv.move (.tmp rfl)) rfl⟩) ?_
           refine allL.cons (.inr ⟨rfl, TU.p (PEv.indexAddr' Tryz.underlying43 Tryz.sizeOf37 (.tmp rfl) (.tmp rfl) (by omega) ax) rfl⟩) ?_
           refine allL.cons (.inr ⟨rfl, TU.p (PEv.fieldAddr (off := 3) Tryz.underlying37 rfl rfl Tryz.sizeOf34 rfl (.tmp rfl)) rfl⟩) ?_
           refine allL.cons (.inr ⟨rfl, TU.p (PEv.loadA Tryz.isAgg34 Tryz.sizeOf34 rfl (.tmp rfl) (by rw [← hd.est]; exact dp_est (hcx.up hU))) rfl⟩) ?_
           refine allL.cons (.inr ⟨rfl, TU.p (PEv.loadA Tryz.isAgg34 Tryz.sizeOf34 rfl (.tmp rfl) (hB33.up hU).agg) rfl⟩) ?_
           refine allL.cons (.inr ⟨rfl, TU.c (enter_call0 (.cons (.tmp rfl) (.cons (.tmp rfl) .nil)) (Tryz.en27)) (Add_any (redF E 4) (redF (m.Value - tarF c2.Targets r x0.Time) 4) W (redQ_ok hd.bd2) (redQ_ok hd.bd1)) (by rintro _ W1 ⟨rfl, u_⟩; rw [addQ_mk hd.bd]; exact ⟨u_, rfl⟩)⟩) ?_
           refine allL.cons (.inr ⟨rfl, TU.p (PEv.move (.tmp rfl)) rfl⟩) ?_
           refine allL.cons (.inr ⟨rfl, TU.p (PEv.extract (.tmp rfl) rfl) rfl⟩) ?_
           refine allL.cons (.inr ⟨rfl, TU.p (PEv.extract (.tmp rfl) rfl) rfl⟩) ?_
           refine allL.cons (.inl (.inl rfl)) ?_
           refine allL.cons (.inl (.inr rfl)) ?_
           refine allL.cons (.inr ⟨rfl, TU.p (PEv.assign (.tmp rfl)) rfl⟩) ?_
           exact allL.nil
          ·intro w35 B35 g hU0 zB35_ hB35 hg
           have hU := (Up.drew w34).trans hU0
           have zw35 := hU.size
           have zdr : w34.drew.heap.size = w34.heap.size := rfl
           have g232_ : g 232 = .agg (redF (E + (m.Value - tarF c2.Targets r x0.Time)) 4).cells := hg 8 _ 232 (by decide) rfl rfl
           have g36_ : g 36 = vi 0 := hg 12 _ 36 (by decide) rfl rfl
           rw [g232_] at hB35
           replace hB35 : Blk w35 B35 ((redF (E + (m.Value - tarF c2.Targets r x0.Time)) 4).cells) 34 := hB35
           change LW _ _ _ _ _ _ _ _ ((35, _) :: (36, .eq (g 36)) :: _) _
           rw [g36_]
           clear hg
           replace hC1 := hC1.up hU
           replace hC2 := hC2.up hU
           replace hW := hW.up hU
           replace hB19 := hB19.up hU
           replace hB20 := hB20.up hU
           replace hB21 := hB21.up hU
           replace hEa := hEa.up hU
           replace hUa := hUa.up hU
           replace hEc := hEc.up hU
           replace hUc := hUc.up hU
           replace hB24 := hB24.up hU
           replace hL2 := hL2.up hU
           replace hcy := hcy.up hU
           replace hcx := hcx.up hU
           replace hL3 := hL3.up hU
           replace hB29 := hB29.up hU
           replace hB33 := hB33.up hU
           refine LW.S ?_
           refine CW.draws (by kernel_rfl) (by kernel_rfl) rfl rfl ?_
           refine HW.pp (PEv.move (.tmp rfl)) ?_
           refine HW.pp (PEv.fa (PEv.neq (.tmp rfl) (.const _)) (rfl)) ?_
           refine HW.pp (PEv.move (.tmp rfl)) ?_
           refine HW.yp rfl rfl rfl rfl rfl (PEv.move (.tmp rfl)) rfl ?_
           refine HW.yp rfl rfl rfl rfl rfl (PEv.fa (PEv.neq (.tmp rfl) (.const _)) (rfl)) rfl ?_
           refine HW.pp (PEv.pick_or (.tmp rfl) (fun hp => (by first | exact .const _ | exact .tmp rfl | exact .cond rfl (by first | assumption | (rw [hp]; rfl) | (rw [hc, hp]; rfl) | simp_all)))) ?_
           refine HW.pp (PEv.move (.tmp rfl)) ?_
           refine HW.yp rfl rfl rfl rfl rfl (PEv.loadA Tryz.isAgg34 Tryz.sizeOf34 rfl (.tmp rfl) (hB35.agg)) rfl ?_
           refine HW.yp rfl rfl rfl rfl rfl (PEv.move (.tmp rfl)) rfl ?_
           refine HW.yp rfl rfl rfl rfl rfl (PEv.move (.tmp rfl)) rfl ?_
           refine HW.yp rfl rfl rfl rfl rfl (PEv.indexAddr' Tryz.underlying43 Tryz.sizeOf37 (.tmp rfl) (.tmp rfl) (by omega) ay) rfl ?_
           refine HW.yp rfl rfl rfl rfl rfl (PEv.fieldAddr (off := 3) Tryz.underlying37 rfl rfl Tryz.sizeOf34 rfl (.tmp rfl)) rfl ?_
           refine HW.yp rfl rfl rfl rfl rfl (PEv.loadA Tryz.isAgg34 Tryz.sizeOf34 rfl (.tmp rfl) ((show AggAt _ _ _ (redF (E + (m.Value - tarF c2.Targets r x0.Time)) 4).cells from by rw [← hd.est']; exact dp_est hcy))) rfl ?_
           refine HW.yp rfl rfl rfl rfl rfl (PEv.fa (PEv.neqA Tryz.eqGuardType34 (Tryz.eqRt _ _) (.tmp rfl) (.tmp rfl)) (by rw [rtB_self]; rfl)) rfl ?_
           refine HW.pp (PEv.pick_or (.tmp rfl) (fun hp => (by first | exact .const _ | exact .tmp rfl | exact .cond rfl (by first | assumption | (rw [hp]; rfl) | (rw [hc, hp]; rfl) | simp_all)))) ?_
           refine HW.pp (PEv.move (.tmp rfl)) ?_
           refine HW.yp rfl rfl rfl rfl rfl (PEv.move (.tmp rfl)) rfl ?_
           refine HW.yp rfl rfl rfl rfl rfl (PEv.move (.tmp rfl)) rfl ?_
           refine HW.yp rfl rfl rfl rfl rfl (PEv.indexAddr' Tryz.underlying43 Tryz.sizeOf37 (.tmp rfl) (.tmp rfl) (by omega) ay) rfl ?_
           refine HW.yp rfl rfl rfl rfl rfl (PEv.fieldAddr (off := 5) Tryz.underlying37 rfl rfl Tryz.sizeOf35 rfl (.tmp rfl)) rfl ?_
           refine HW.yp rfl rfl rfl rfl rfl (PEv.load Tryz.isAgg35 (.tmp rfl) (dp_uses hcy)) rfl ?_
           refine HW.yp rfl rfl rfl rfl rfl (PEv.lenS Tryz.underlying35 (.tmp rfl)) rfl ?_
           refine HW.yp rfl rfl rfl rfl rfl (PEv.move (.tmp rfl)) rfl ?_
           refine HW.yp rfl rfl rfl rfl rfl (PEv.move (.tmp rfl)) rfl ?_
           refine HW.yp rfl rfl rfl rfl rfl (PEv.indexAddr' Tryz.underlying43 Tryz.sizeOf37 (.tmp rfl) (.tmp rfl) (by omega) ax) rfl ?_
           refine HW.yp rfl rfl rfl rfl rfl (PEv.fieldAddr (off := 5) Tryz.underlying37 rfl rfl Tryz.sizeOf35 rfl (.tmp rfl)) rfl ?_
           refine HW.yp rfl rfl rfl rfl rfl (PEv.load Tryz.isAgg35 (.tmp rfl) (dp_uses hcx)) rfl ?_
           refine HW.yp rfl rfl rfl rfl rfl (PEv.lenS Tryz.underlying35 (.tmp rfl)) rfl ?_
           refine HW.yp rfl rfl rfl rfl rfl (PEv.inc (.tmp rfl) (by omega)) rfl ?_
           refine HW.yp rfl rfl rfl rfl rfl (PEv.fa (PEv.neq (.tmp rfl) (.tmp rfl)) (by have h9 := hd.len; simp; omega)) rfl ?_
           refine HW.pp (PEv.pick_or (.tmp rfl) (fun hp => (by first | exact .const _ | exact .tmp rfl | exact .cond rfl (by first | assumption | (rw [hp]; rfl) | (rw [hc, hp]; rfl) | simp_all)))) ?_
           refine HW.nil ?_
           intro w36 uw36
           have zw36 := uw36.size
           replace hC1 := hC1.up uw36
           replace hC2 := hC2.up uw36
           replace hW := hW.up uw36
           replace hB19 := hB19.up uw36
           replace hB20 := hB20.up uw36
           replace hB21 := hB21.up uw36
           replace hEa := hEa.up uw36
           replace hUa := hUa.up uw36
           replace hEc := hEc.up uw36
           replace hUc := hUc.up uw36
           replace hB24 := hB24.up uw36
           replace hL2 := hL2.up uw36
           replace hcy := hcy.up uw36
           replace hcx := hcx.up uw36
           replace hL3 := hL3.up uw36
           replace hB29 := hB29.up uw36
           replace hB33 := hB33.up uw36
           replace hB35 := hB35.up uw36
           refine KW.then ?_
           refine CW.cond_false (.tmp rfl) ?_
           refine CW.skip (KW.inBlock (KW.then (CW.region (LW.M rfl ?_))))
           refine LW.pp (PEv.inc (.tmp rfl) (by omega)) ?_
           refine LW.A rfl (LW.nil (KW.round ?_))
           exact ⟨i + 1, ⟨by omega, hL2⟩, ⟨rfl, rfl, rfl, rfl, rfl, rfl, rfl, rfl, rfl, rfl, rfl, rfl, trivial⟩, by first | omega | (dsimp only; omega)⟩
     ·first | replace h116 := dT h116 | replace h116 := dF h116 | skip
      refine CW.exit (KW.then_exit (KW.then_exit (KW.block_hit (KW.then (CW.S (LW.M rfl (LW.A rfl (LW.T (CW.ret ?_)))))))))
      refine KW.ret1 rfl rfl ⟨_, rfl, ?_⟩
      exact ⟨rfl, hW⟩
end Go.Proofs.YtgffaeachbbjoaaGreatDoor
end
