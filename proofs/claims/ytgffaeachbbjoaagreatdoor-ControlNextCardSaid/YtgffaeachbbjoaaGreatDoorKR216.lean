import Derived.Test.YtgffaeachbbjoaaGreatDoorKR215
section
namespace Go.Wx
def sameD (a b : Dec) : Bool := decide (a.run = b.run) && rtB a.par b.par && rtB a.est b.est && decide (a.uses = b.uses)
theorem sameD_iff (a b : Dec) : sameD a b = true ↔ a = b := by
  obtain ⟨a1, a2, a3, a4⟩ := a
  obtain ⟨b1, b2, b3, b4⟩ := b
  unfold sameD
  simp only [Bool.and_eq_true, decide_eq_true_eq, rtB_iff, Dec.mk.injEq, and_assoc]
theorem ints_step {l m : List Int} {k : Nat} {x y : Int} (hx : l[k]? = some x) (hy : m[k]? = some y) (h : l.take k = m.take k) (e : x = y) : l.take (k + 1) = m.take (k + 1) := by
  rw [take_one hx, take_one hy, h, e]
theorem same_no {a b : Dec} (h : (!decide (a.run = b.run) || !rtB a.par b.par || !rtB a.est b.est || !decide ((a.uses.length : Int) = (b.uses.length : Int))) = true) : sameD a b = false := by
  cases hs : sameD a b with
  | false => rfl
  | true =>
    have e := (sameD_iff a b).1 hs
    subst e
    simp [rtB_self] at h
theorem same_no2 {a b : Dec} {k : Nat} {x y : Int} (hx : a.uses[k]? = some x) (hy : b.uses[k]? = some y) (h : x ≠ y) : sameD a b = false := by
  cases hs : sameD a b with
  | false => rfl
  | true =>
    have e := (sameD_iff a b).1 hs
    subst e
    rw [hx] at hy
    exact absurd (Option.some.inj hy) h
theorem same_yes {a b : Dec} (h : (!decide (a.run = b.run) || !rtB a.par b.par || !rtB a.est b.est || !decide ((a.uses.length : Int) = (b.uses.length : Int))) = false) (hu : a.uses = b.uses) : sameD a b = true := by
  simp only [Bool.or_eq_false_iff, Bool.not_eq_false'] at h
  unfold sameD
  rw [h.1.1.1, h.1.1.2, h.1.2, hu, decide_eq_true rfl]; rfl
theorem dp_at {L : List DP} {Ds : List Dec} {k : Nat} {p : DP} (hm : L.map DP.dec = Ds) (h : L[k]? = some p) : Ds[k]? = some p.dec := by rw [← hm, List.getElem?_map, h]; rfl
theorem dp_uses {w : World} {B o : Nat} {p : DP} (h : AggAt w B o p.cells) : w.cell? ⟨B, o + 5, none⟩ = some p.uv := h 5 _ rfl
theorem dp_run {w : World} {B o : Nat} {p : DP} (h : AggAt w B o p.cells) : w.cell? ⟨B, o, none⟩ = some (vi p.dec.run) := h 0 _ rfl
theorem dp_est {w : World} {B o : Nat} {p : DP} (h : AggAt w B o p.cells) : AggAt w B (o + 3) p.dec.est.cells := fun j v hv => by
  have h2 : p.cells[3 + j]? = some v := by
    match j with
    | 0 => simpa [Rt.cells, DP.cells, DecV.cells, Dec.v] using hv
    | 1 => simpa [Rt.cells, DP.cells, DecV.cells, Dec.v] using hv
    | j + 2 => simp [Rt.cells] at hv
  have := h (3 + j) v h2
  rwa [show o + (3 + j) = o + 3 + j by omega] at this
theorem dp_par0 {w : World} {B : Nat} {p : DP} {T : TypeId} (h : Blk w B p.cells T) : AggAt w B 1 p.dec.par.cells := by have := dp_par h.agg; rwa [Nat.zero_add] at this
theorem dp_est0 {w : World} {B : Nat} {p : DP} {T : TypeId} (h : Blk w B p.cells T) : AggAt w B 3 p.dec.est.cells := by have := dp_est h.agg; rwa [Nat.zero_add] at this
theorem els_p {w : World} {ad : Option Addr} {p q r : DP} (h : Els w ad 6 DP.cells [p, q, r]) : ∃ B o, ad = some ⟨B, o, none⟩ ∧ AggAt w B (o + 0 * 6) p.cells ∧ AggAt w B (o + 1 * 6) q.cells ∧ AggAt w B (o + 2 * 6) r.cells := by
  obtain ⟨B, o, e, h0⟩ := h 0 p rfl
  obtain ⟨B1, o1, e1, h1⟩ := h 1 q rfl
  obtain ⟨B2, o2, e2, h2⟩ := h 2 r rfl
  cases e.symm.trans e1
  cases e.symm.trans e2
  exact ⟨B, o, e, h0, h1, h2⟩
theorem sl_hd {w : World} {ad : Option Addr} {n c : Nat} {x : Int} {xs : List Int} (h : Sl w (.slice ad n c) 1 eInt (x :: xs)) : ∃ B o, ad = some ⟨B, o, none⟩ ∧ AggAt w B (o + 0 * 1) (eInt x) := by
  obtain ⟨ad, c, e, hE⟩ := h
  cases e
  obtain ⟨B, o, e1, h1⟩ := hE 0 x rfl
  exact ⟨B, o, e1, h1⟩
theorem dps3 {L : List DP} {a b c : Dec} (h : L.map DP.dec = [a, b, c]) : ∃ a1 c1 a2 c2 a3 c3, L = [⟨a, a1, c1⟩, ⟨b, a2, c2⟩, ⟨c, a3, c3⟩] := by
  match L, h with
  | [⟨p, a1, c1⟩, ⟨q, a2, c2⟩, ⟨r, a3, c3⟩], h =>
    injection h with h1 h
    injection h with h2 h
    injection h with h3 _
    dsimp only at h1 h2 h3
    subst h1 h2 h3
    exact ⟨a1, c1, a2, c2, a3, c3, rfl⟩
theorem exV : ∀ f ∈ exB.Processes, inI f.Value := fun f hf => by
  rcases List.mem_cons.1 hf with rfl | hf
  · exact ⟨by decide, by decide⟩
  · rcases List.mem_cons.1 hf with rfl | hf
    · exact ⟨by decide, by decide⟩
    · rcases List.mem_cons.1 hf with rfl | hf
      · exact ⟨by decide, by decide⟩
      · cases hf
theorem els_stoF {w w' : World} {B : Nat} {cs : Array Value} {T : TypeId} {ad : Option Addr} {xs : List Fact} (h : Els w ad 19 Fact.cells xs) (hb : Blk w B cs T) (hc : ∀ (i : Nat) (n : Int), cs[i]? ≠ some (vi n)) (u : Sto B w w') : Els w' ad 19 Fact.cells xs := fun i x hx => by
  obtain ⟨B', o, e, h1⟩ := h i x hx
  refine ⟨B', o, e, h1.sto u ?_⟩
  intro e2
  have h2 := h1 0 (vi x.Kind) rfl
  rw [e2] at h2
  have h3 : cs[o + i * 19 + 0]? = some (vi x.Kind) := by
    unfold World.cell? at h2
    rw [show w.heap[B]? = some (.cells cs T (0, 0)) from hb] at h2
    simpa using h2
  exact hc _ _ h3
theorem sl_stoF {w w' : World} {B : Nat} {cs : Array Value} {T : TypeId} {v : Value} {xs : List Fact} (h : Sl w v 19 Fact.cells xs) (hb : Blk w B cs T) (hc : ∀ (i : Nat) (n : Int), cs[i]? ≠ some (vi n)) (u : Sto B w w') : Sl w' v 19 Fact.cells xs := let ⟨ad, c, e, hE⟩ := h; ⟨ad, c, e, els_stoF hE hb hc u⟩
theorem base_sto {w w' : World} {B : Nat} {cs : Array Value} {T : TypeId} {bc : Array Value} {b : Base} (h : BaseC w bc b) (hb : Blk w B cs T) (hc : ∀ (i : Nat) (n : Int), cs[i]? ≠ some (vi n)) (u : Sto B w w') : BaseC w' bc b := by
  obtain ⟨v0, v1, v2, v3, v4, v5, v6, v7, v8, v9, v10, e, h0, h1, h2, h3, h4, h5, h6, h7, h8, h9, h10⟩ := h
  have f : ∀ {v : Value} {xs : List Fact}, Sl w v 19 Fact.cells xs → Sl w' v 19 Fact.cells xs := fun h => sl_stoF h hb hc u
  exact ⟨v0, v1, v2, v3, v4, v5, v6, v7, v8, v9, v10, e, f h0, f h1, f h2, f h3, f h4, f h5, f h6, f h7, f h8, f h9, f h10⟩
end Go.Wx
namespace Go.Proofs.YtgffaeachbbjoaaGreatDoor
open Go.Wx Go.RowKit
theorem rwhole_any (n : Int) (w : World) : Ret Tryz.prog 28 #[vi n] w fun r w' => r = .agg (rI n).cells ∧ Up w w' := by
  obtain ⟨w0, rfl⟩ : ∃ w0, w0 = w := ⟨_, rfl⟩
  have hS := Sep.start no w0
  refine Calls_start (n := 5) (m := 9) Tryz.func28 rfl rfl rfl ?_
  refine CW.S ?_
  refine LW.r (REv.allocA Tryz.zeroValue34) rfl rfl rfl rfl ?_
  rintro _ w1 ⟨B2, rfl, NB2⟩
  have eB2 := NB2.at_
  have zB2 := NB2.size
  replace hS := hS.addB NB2
  change Wx.Sep _ _ _ [_] at hS
  refine LW.S (CW.region (LW.M rfl ?_))
  refine LW.pp (PEv.build (cs := (rI n).cells) Tryz.underlying34 Tryz.zeroValue34 Tryz.places34 (.cons (.tmp rfl) (.cons (.const _) .nil)) rfl) ?_
  refine LW.s (SEv.storeA Tryz.sizeOf34 rfl (.tmp rfl) (.tmp rfl) (Rt.one _) (hS.blk 0 rfl) rfl) rfl rfl rfl ?_
  intro w2 Nw2
  have zw2 := Nw2.size
  replace hS := hS.putB 0 rfl (show Set_ _ w2 _ ((rI n).cells) _ from Nw2)
  change Wx.Sep _ _ _ [_] at hS
  refine LW.T (CW.ret ?_)
  refine KW.retA rfl rfl Tryz.isAgg34 Tryz.sizeOf34 rfl ((hS.blk 0 rfl).agg) ⟨_, rfl, ?_⟩
  exact ⟨rfl, hS.upd⟩
theorem run_any (i t v : Int) (w : World) : Ret Tryz.prog 56 #[vi i, vi t, vi v] w fun r w' => r = .agg (exR i t v).cells ∧ Up w w' := by
  obtain ⟨w0, rfl⟩ : ∃ w0, w0 = w := ⟨_, rfl⟩
  have hS := Sep.start no w0
  refine Calls_start (n := 12) (m := 9) Tryz.func56 rfl rfl rfl ?_
  refine CW.S ?_
  refine LW.r (REv.allocA Tryz.zeroValue50) rfl rfl rfl rfl ?_
  rintro _ w1 ⟨B6, rfl, NB6⟩
  have eB6 := NB6.at_
  have zB6 := NB6.size
  replace hS := hS.addB NB6
  change Wx.Sep _ _ _ [_] at hS
  refine LW.S (CW.region (LW.M rfl (LW.M rfl (LW.M rfl (LW.M rfl ?_)))))
  refine LW.pp (PEv.build (cs := (exR i t v).cells) Tryz.underlying50 Tryz.zeroValue50 Tryz.places50 (.cons (.const _) (.cons (.const _) (.cons (.tmp rfl) (.cons (.const _) (.cons (.const _) (.cons (.const _) (.cons (.const _) (.cons (.tmp rfl) (.cons (.tmp rfl) (.cons (.tmp rfl) .nil)))))))))) (by kernel_rfl)) ?_
  refine LW.s (SEv.storeA Tryz.sizeOf50 rfl (.tmp rfl) (.tmp rfl) (Fact.one _) (hS.blk 0 rfl) rfl) rfl rfl rfl ?_
  intro w2 Nw2
  have zw2 := Nw2.size
  replace hS := hS.putB 0 rfl (show Set_ _ w2 _ ((exR i t v).cells) _ from Nw2)
  change Wx.Sep _ _ _ [_] at hS
  refine LW.T (CW.ret ?_)
  refine KW.retA rfl rfl Tryz.isAgg50 Tryz.sizeOf50 rfl ((hS.blk 0 rfl).agg) ⟨_, rfl, ?_⟩
  exact ⟨rfl, hS.upd⟩
theorem example_any (w : World) : Ret Tryz.prog 30 #[] w fun r w' => ∃ bc, r = .agg bc ∧ BaseC w' bc exB ∧ Up w w' := by
  have hW := Up.refl w
  obtain ⟨w0, rfl⟩ : ∃ w0, w0 = w := ⟨_, rfl⟩
  refine Calls_start (n := 11) (m := 9) Tryz.func30 rfl rfl rfl ?_
  refine CW.S ?_
  refine LW.r (REv.allocA Tryz.zeroValue24) rfl rfl rfl rfl ?_
  rintro _ w1 ⟨B0, rfl, NB0⟩
  have eB0 := NB0.at_
  have zB0 := NB0.size
  replace hW := hW.up NB0.up
  have hB0 := NB0.blk
  refine LW.S (CW.region ?_)
  refine LW.c (enter_call0 (.cons (.const _) (.cons (.const _) (.cons (.const _) .nil))) (Tryz.en56)) rfl rfl rfl rfl (run_any _ _ _ _) ?_
  rintro _ w2 ⟨rfl, uw2⟩
  have zw2 := uw2.size
  replace hW := hW.up uw2
  replace hB0 := hB0.up uw2
  refine LW.c (enter_call0 (.cons (.const _) (.cons (.const _) (.cons (.const _) .nil))) (Tryz.en56)) rfl rfl rfl rfl (run_any _ _ _ _) ?_
  rintro _ w3 ⟨rfl, uw3⟩
  have zw3 := uw3.size
  replace hW := hW.up uw3
  replace hB0 := hB0.up uw3
  refine LW.c (enter_call0 (.cons (.const _) (.cons (.const _) (.cons (.const _) .nil))) (Tryz.en56)) rfl rfl rfl rfl (run_any _ _ _ _) ?_
  rintro _ w4 ⟨rfl, uw4⟩
  have zw4 := uw4.size
  replace hW := hW.up uw4
  replace hB0 := hB0.up uw4
  refine LW.r (REv.buildSlice (xs := [exR 1 10 0, exR 2 20 98000, exR 3 30 100000]) (enc := Fact.cells) (mk := fun f : Fact => .agg f.cells) Tryz.underlying22 Tryz.sizeOf50 Tryz.zeroValue50 rfl (by decide) (fun _ => rfl) (fun _ => rfl) (.cons (.tmp rfl) (.cons (.tmp rfl) (.cons (.tmp rfl) .nil))) rfl) rfl rfl rfl rfl ?_
  rintro _ w5 ⟨B4, cB4, rfl, NB4, yB4, xB4⟩
  have eB4 := NB4.at_
  have zB4 := NB4.size
  replace hW := hW.up NB4.up
  replace hB0 := hB0.up NB4.up
  have hB4 := NB4.blk
  have hE4 := xB4
  refine LW.pp (PEv.build (cs := exT.cells) Tryz.underlying50 Tryz.zeroValue50 Tryz.places50 (.cons (.const _) (.cons (.const _) (.cons (.const _) (.cons (.const _) .nil)))) (by kernel_rfl)) ?_
  refine LW.r (REv.buildSlice (xs := [exT]) (enc := Fact.cells) (mk := fun f : Fact => .agg f.cells) Tryz.underlying22 Tryz.sizeOf50 Tryz.zeroValue50 rfl (by decide) (fun _ => rfl) (fun _ => rfl) (.cons (.tmp rfl) .nil) rfl) rfl rfl rfl rfl ?_
  rintro _ w6 ⟨B6, cB6, rfl, NB6, yB6, xB6⟩
  have eB6 := NB6.at_
  have zB6 := NB6.size
  replace hW := hW.up NB6.up
  replace hB0 := hB0.up NB6.up
  replace hB4 := hB4.up NB6.up
  replace hE4 := hE4.up NB6.up
  have hB6 := NB6.blk
  have hE6 := xB6
  refine LW.pp (PEv.build (cs := (exM 1 15 108).cells) Tryz.underlying50 Tryz.zeroValue50 Tryz.places50 (.cons (.const _) (.cons (.const _) (.cons (.const _) (.cons (.const _) (.cons (.const _) .nil))))) (by kernel_rfl)) ?_
  refine LW.pp (PEv.build (cs := (exM 2 25 101).cells) Tryz.underlying50 Tryz.zeroValue50 Tryz.places50 (.cons (.const _) (.cons (.const _) (.cons (.const _) (.cons (.const _) (.cons (.const _) .nil))))) (by kernel_rfl)) ?_
  refine LW.r (REv.buildSlice (xs := [exM 1 15 108, exM 2 25 101]) (enc := Fact.cells) (mk := fun f : Fact => .agg f.cells) Tryz.underlying22 Tryz.sizeOf50 Tryz.zeroValue50 rfl (by decide) (fun _ => rfl) (fun _ => rfl) (.cons (.tmp rfl) (.cons (.tmp rfl) .nil)) rfl) rfl rfl rfl rfl ?_
  rintro _ w7 ⟨B9, cB9, rfl, NB9, yB9, xB9⟩
  have eB9 := NB9.at_
  have zB9 := NB9.size
  replace hW := hW.up NB9.up
  replace hB0 := hB0.up NB9.up
  replace hB4 := hB4.up NB9.up
  replace hE4 := hE4.up NB9.up
  replace hB6 := hB6.up NB9.up
  replace hE6 := hE6.up NB9.up
  have hB9 := NB9.blk
  have hE9 := xB9
  refine LW.pp (PEv.build (cs := #[.slice (some ⟨B4, 0, none⟩) 3 3, .slice (some ⟨B9, 0, none⟩) 2 2, .slice none 0 0, .slice none 0 0, .slice none 0 0, .slice none 0 0, .slice none 0 0, .slice none 0 0, .slice none 0 0, .slice (some ⟨B6, 0, none⟩) 1 1, .slice none 0 0]) Tryz.underlying24 Tryz.zeroValue24 Tryz.places24 (.cons (.tmp rfl) (.cons (.tmp rfl) (.cons (.tmp rfl) .nil))) (by kernel_rfl)) ?_
  refine LW.s (SEv.storeA Tryz.sizeOf24 rfl (.tmp rfl) (.tmp rfl) (by simp [Value.oneCell']) hB0 rfl) rfl rfl rfl ?_
  intro w8 Nw8
  have zw8 := Nw8.size
  replace hW := hW.sto Nw8.sto (by omega)
  replace hB4 := hB4.sto Nw8.sto (by omega)
  replace hE4 := hE4.sto Nw8.sto (by omega)
  replace hB6 := hB6.sto Nw8.sto (by omega)
  replace hE6 := hE6.sto Nw8.sto (by omega)
  replace hB9 := hB9.sto Nw8.sto (by omega)
  replace hE9 := hE9.sto Nw8.sto (by omega)
  replace hB0 := Nw8.blk
  refine LW.T (CW.ret ?_)
  refine KW.retA rfl rfl Tryz.isAgg24 Tryz.sizeOf24 rfl (hB0.agg) ⟨_, rfl, ?_⟩
  exact ⟨_, rfl, ⟨_, _, _, _, _, _, _, _, _, _, _, rfl, Sl.of_els hE4, Sl.of_els hE9, Sl.nil _ _ _, Sl.nil _ _ _, Sl.nil _ _ _, Sl.nil _ _ _, Sl.nil _ _ _, Sl.nil _ _ _, Sl.nil _ _ _, Sl.of_els hE6, Sl.nil _ _ _⟩, hW⟩
theorem same_any (p q : DP) (w : World) (hp0 : Sl w p.uv 1 eInt p.dec.uses) (hq0 : Sl w q.uv 1 eInt q.dec.uses) (hl : p.dec.uses.length ≤ 100000) : Ret Tryz.prog 16 #[.agg p.cells, .agg q.cells] w fun r w' => r = .bool (sameD p.dec q.dec) ∧ Up w w' := by
  obtain ⟨w0, rfl⟩ : ∃ w0, w0 = w := ⟨_, rfl⟩
  have hS := Sep.start no w0
  obtain ⟨ad0, cp0, ev0, hE0⟩ := hp0
  obtain ⟨ad1, cp1, ev1, hE1⟩ := hq0
  cases ev0
  cases ev1
  refine Calls_start (n := 52) (m := 9) Tryz.func16 rfl rfl rfl ?_
  refine CW.S ?_
  refine LW.r (REv.boxA (.tmp rfl)) rfl rfl rfl rfl ?_
  rintro _ w1 ⟨B2, rfl, NB2⟩
  have eB2 := NB2.at_
  have zB2 := NB2.size
  replace hS := hS.addB NB2
  change Wx.Sep _ _ _ [_] at hS
  refine LW.r (REv.boxA (.tmp rfl)) rfl rfl rfl rfl ?_
  rintro _ w2 ⟨B3, rfl, NB3⟩
  have eB3 := NB3.at_
  have zB3 := NB3.size
  replace hS := hS.addB NB3
  change Wx.Sep _ _ _ [_, _] at hS
  refine LW.C (LW.S (CW.S ?_))
  refine LW.pp (PEv.fieldAddr (off := 0) Tryz.underlying37 rfl rfl Tryz.sizeOf3 rfl (.tmp rfl)) ?_
  refine LW.pp (PEv.load Tryz.isAgg3 (.tmp rfl) ((hS.blk 0 rfl).celln rfl)) ?_
  refine LW.pp (PEv.fieldAddr (off := 0) Tryz.underlying37 rfl rfl Tryz.sizeOf3 rfl (.tmp rfl)) ?_
  refine LW.pp (PEv.load Tryz.isAgg3 (.tmp rfl) ((hS.blk 1 rfl).celln rfl)) ?_
  refine LW.pp (PEv.neq (.tmp rfl) (.tmp rfl)) ?_
  refine LW.M rfl ?_
  refine LW.g rfl rfl rfl rfl rfl rfl rfl (fun hc => PEv.fieldAddr (off := 1) Tryz.underlying37 rfl rfl Tryz.sizeOf34 rfl (.tmp rfl)) ?_
  refine LW.g rfl rfl rfl rfl rfl rfl rfl (fun hc => PEv.loadA Tryz.isAgg34 Tryz.sizeOf34 rfl (by first | exact .tmp rfl | exact .cond rfl (by first | assumption | simp_all)) (dp_par0 (hS.blk 0 rfl))) ?_
  refine LW.g rfl rfl rfl rfl rfl rfl rfl (fun hc => PEv.fieldAddr (off := 1) Tryz.underlying37 rfl rfl Tryz.sizeOf34 rfl (.tmp rfl)) ?_
  refine LW.g rfl rfl rfl rfl rfl rfl rfl (fun hc => PEv.loadA Tryz.isAgg34 Tryz.sizeOf34 rfl (by first | exact .tmp rfl | exact .cond rfl (by first | assumption | simp_all)) (dp_par0 (hS.blk 1 rfl))) ?_
  refine LW.g rfl rfl rfl rfl rfl rfl rfl (fun hc => PEv.neqA Tryz.eqGuardType34 (Tryz.eqRt _ _) (by first | exact .tmp rfl | exact .cond rfl (by first | assumption | simp_all)) (by first | exact .tmp rfl | exact .cond rfl (by first | assumption | simp_all))) ?_
  refine LW.pp (PEv.pick_or (.tmp rfl) (fun hp => (by first | exact .const _ | exact .tmp rfl | exact .cond rfl (by first | assumption | (rw [hp]; rfl) | (rw [hc, hp]; rfl) | simp_all)))) ?_
  refine LW.M rfl ?_
  refine LW.g rfl rfl rfl rfl rfl rfl rfl (fun hc => PEv.fieldAddr (off := 3) Tryz.underlying37 rfl rfl Tryz.sizeOf34 rfl (.tmp rfl)) ?_
  refine LW.g rfl rfl rfl rfl rfl rfl rfl (fun hc => PEv.loadA Tryz.isAgg34 Tryz.sizeOf34 rfl (by first | exact .tmp rfl | exact .cond rfl (by first | assumption | simp_all)) (dp_est0 (hS.blk 0 rfl))) ?_
  refine LW.g rfl rfl rfl rfl rfl rfl rfl (fun hc => PEv.fieldAddr (off := 3) Tryz.underlying37 rfl rfl Tryz.sizeOf34 rfl (.tmp rfl)) ?_
  refine LW.g rfl rfl rfl rfl rfl rfl rfl (fun hc => PEv.loadA Tryz.isAgg34 Tryz.sizeOf34 rfl (by first | exact .tmp rfl | exact .cond rfl (by first | assumption | simp_all)) (dp_est0 (hS.blk 1 rfl))) ?_
  refine LW.g rfl rfl rfl rfl rfl rfl rfl (fun hc => PEv.neqA Tryz.eqGuardType34 (Tryz.eqRt _ _) (by first | exact .tmp rfl | exact .cond rfl (by first | assumption | simp_all)) (by first | exact .tmp rfl | exact .cond rfl (by first | assumption | simp_all))) ?_
  refine LW.pp (PEv.pick_or (.tmp rfl) (fun hp => (by first | exact .const _ | exact .tmp rfl | exact .cond rfl (by first | assumption | (rw [hp]; rfl) | (rw [hc, hp]; rfl) | simp_all)))) ?_
  refine LW.M rfl ?_
  refine LW.g rfl rfl rfl rfl rfl rfl rfl (fun hc => PEv.fieldAddr (off := 5) Tryz.underlying37 rfl rfl Tryz.sizeOf35 rfl (.tmp rfl)) ?_
  refine LW.g rfl rfl rfl rfl rfl rfl rfl (fun hc => PEv.load Tryz.isAgg35 (by first | exact .tmp rfl | exact .cond rfl (by first | assumption | simp_all)) ((hS.blk 0 rfl).celln rfl)) ?_
  refine LW.g rfl rfl rfl rfl rfl rfl rfl (fun hc => PEv.lenS Tryz.underlying35 (by first | exact .tmp rfl | exact .cond rfl (by first | assumption | simp_all))) ?_
  refine LW.g rfl rfl rfl rfl rfl rfl rfl (fun hc => PEv.fieldAddr (off := 5) Tryz.underlying37 rfl rfl Tryz.sizeOf35 rfl (.tmp rfl)) ?_
  refine LW.g rfl rfl rfl rfl rfl rfl rfl (fun hc => PEv.load Tryz.isAgg35 (by first | exact .tmp rfl | exact .cond rfl (by first | assumption | simp_all)) ((hS.blk 1 rfl).celln rfl)) ?_
  refine LW.g rfl rfl rfl rfl rfl rfl rfl (fun hc => PEv.lenS Tryz.underlying35 (by first | exact .tmp rfl | exact .cond rfl (by first | assumption | simp_all))) ?_
  refine LW.g rfl rfl rfl rfl rfl rfl rfl (fun hc => PEv.neq (by first | exact .tmp rfl | exact .cond rfl (by first | assumption | simp_all)) (by first | exact .tmp rfl | exact .cond rfl (by first | assumption | simp_all))) ?_
  refine LW.pp (PEv.pick_or (.tmp rfl) (fun hp => (by first | exact .const _ | exact .tmp rfl | exact .cond rfl (by first | assumption | (rw [hp]; rfl) | (rw [hc, hp]; rfl) | simp_all)))) ?_
  refine LW.T ?_
  refine CW.cond (.tmp rfl) (fun h33 => ?_) (fun h33 => ?_)
  ·first | replace h33 := dT h33 | replace h33 := dF h33 | skip
   have hno : sameD p.dec q.dec = false := same_no h33
   refine CW.S (LW.C (LW.T (CW.ret (KW.then_ret ?_))))
   refine KW.ret1 rfl rfl ⟨_, rfl, ?_⟩
   first | exact ⟨by rw [hno], hS.upd⟩ | exact ⟨by rw [same_yes hyes (by have hkl : k = p.dec.uses.length := (by omega); rw [hkl, List.take_length, hll, List.take_length] at ht; exact ht)], hS.upd⟩
  ·first | replace h33 := dT h33 | replace h33 := dF h33 | skip
   have hyes : (!decide (p.dec.run = q.dec.run) || !rtB p.dec.par q.dec.par || !rtB p.dec.est q.dec.est || !decide ((p.dec.uses.length : Int) = (q.dec.uses.length : Int))) = false := h33
   have hll : p.dec.uses.length = q.dec.uses.length := by simp at hyes; omega
   refine CW.skip (KW.then (CW.seq (CW.S (LW.C (LW.T (CW.block ?_))))))
   refine CW.loopB (σ := Nat) (fun s w => (s ≤ p.dec.uses.length) ∧ (p.dec.uses.take s = q.dec.uses.take s) ∧ (Wx.Sep no w0 w [aBlk B2 p.cells 37, aBlk B3 q.cells 37])) (fun s => [(5, .eq (vi (s : Int)))]) ([(2, .eq _), (3, .eq _)]) (fun s => p.dec.uses.length - s) 0 ?_ ⟨rfl, rfl, rfl, trivial⟩ ?_
   ·exact ⟨Nat.zero_le _, rfl, hS⟩
   ·rintro k w3 ⟨hk, ht, hS⟩
    refine CW.seq (CW.S (LW.M rfl ?_))
    refine LW.pp (PEv.fieldAddr (off := 5) Tryz.underlying37 rfl rfl Tryz.sizeOf35 rfl (.tmp rfl)) ?_
    refine LW.pp (PEv.load Tryz.isAgg35 (.tmp rfl) ((hS.blk 0 rfl).celln rfl)) ?_
    refine LW.pp (PEv.lenS Tryz.underlying35 (.tmp rfl)) ?_
    refine LW.pp (PEv.lss (.tmp rfl) (.tmp rfl)) ?_
    refine LW.T ?_
    refine CW.cond (.tmp rfl) (fun h38 => ?_) (fun h38 => ?_)
    ·first | replace h38 := dT h38 | replace h38 := dF h38 | skip
     refine CW.skip (KW.then (CW.seq (CW.block (CW.seq ?_))))
     obtain ⟨x, hx⟩ := getElem?_of_lt (xs := p.dec.uses) (i := k) (by omega)
     obtain ⟨y, hy⟩ := getElem?_of_lt (xs := q.dec.uses) (i := k) (by omega)
     obtain ⟨Bx, ox, ax, hcx⟩ := (Els.up hE0 hS.upd) k x hx
     obtain ⟨By, oy, ay, hcy⟩ := (Els.up hE1 hS.upd) k y hy
     refine CW.draws (by kernel_rfl) (by kernel_rfl) rfl rfl ?_
     refine HW.pp (PEv.fieldAddr (off := 5) Tryz.underlying37 rfl rfl Tryz.sizeOf35 rfl (.tmp rfl)) ?_
     refine HW.pp (PEv.load Tryz.isAgg35 (.tmp rfl) ((hS.blk 0 rfl).celln rfl)) ?_
     refine HW.pp (PEv.move (.tmp rfl)) ?_
     refine HW.pp (PEv.indexAddr' Tryz.underlying35 Tryz.sizeOf3 (.tmp rfl) (.tmp rfl) (by omega) ax) ?_
     refine HW.pp (PEv.load Tryz.isAgg3 (.tmp rfl) (hcx.nth (j := 0) rfl)) ?_
     refine HW.pp (PEv.fieldAddr (off := 5) Tryz.underlying37 rfl rfl Tryz.sizeOf35 rfl (.tmp rfl)) ?_
     refine HW.pp (PEv.load Tryz.isAgg35 (.tmp rfl) ((hS.blk 1 rfl).celln rfl)) ?_
     refine HW.pp (PEv.move (.tmp rfl)) ?_
     refine HW.pp (PEv.indexAddr' Tryz.underlying35 Tryz.sizeOf3 (.tmp rfl) (.tmp rfl) (by omega) ay) ?_
     refine HW.pp (PEv.load Tryz.isAgg3 (.tmp rfl) (hcy.nth (j := 0) rfl)) ?_
     refine HW.pp (PEv.neq (.tmp rfl) (.tmp rfl)) ?_
     refine HW.nil ?_
     intro w4 uw4
     have zw4 := uw4.size
     replace hS := hS.up uw4
     refine KW.then ?_
     refine CW.cond (.tmp rfl) (fun h51 => ?_) (fun h51 => ?_)
     ·first | replace h51 := dT h51 | replace h51 := dF h51 | skip
      have hno : sameD p.dec q.dec = false := same_no2 hx hy (by simpa using h51)
      refine CW.S (LW.C (LW.T (CW.ret (KW.block_ret (KW.then_ret (KW.then_ret (KW.block_ret (KW.then_ret ?_))))))))
      refine KW.ret1 rfl rfl ⟨_, rfl, ?_⟩
      first | exact ⟨by rw [hno], hS.upd⟩ | exact ⟨by rw [same_yes hyes (by have hkl : k = p.dec.uses.length := (by omega); rw [hkl, List.take_length, hll, List.take_length] at ht; exact ht)], hS.upd⟩
     ·first | replace h51 := dT h51 | replace h51 := dF h51 | skip
      have hxy : x = y := by simpa using h51
      refine CW.skip (KW.inBlock (KW.then (CW.region (LW.M rfl ?_))))
      refine LW.pp (PEv.inc (.tmp rfl) (by omega)) ?_
      refine LW.A rfl (LW.nil (KW.round ?_))
      exact ⟨k + 1, ⟨by omega, ints_step hx hy ht hxy, hS.take 2⟩, ⟨rfl, rfl, rfl, trivial⟩, by omega⟩
    ·first | replace h38 := dT h38 | replace h38 := dF h38 | skip
     refine CW.exit (KW.then_exit (KW.then_exit (KW.block_hit (KW.then (CW.S (LW.C (LW.T (CW.ret ?_))))))))
     refine KW.ret1 rfl rfl ⟨_, rfl, ?_⟩
     first | exact ⟨by rw [hno], hS.upd⟩ | exact ⟨by rw [same_yes hyes (by have hkl : k = p.dec.uses.length := (by omega); rw [hkl, List.take_length, hll, List.take_length] at ht; exact ht)], hS.upd⟩
end Go.Proofs.YtgffaeachbbjoaaGreatDoor
end
section
namespace Go.Proofs.YtgffaeachbbjoaaGreatDoor
open Go.Wx Go.RowKit
theorem ex2_any (bc : Array Go.Value) (w : World) (hC : BaseC w bc exB) : Ret Tryz.prog 20 #[.agg bc, vi 2] w fun r w' => ∃ v, r = .tuple #[v, .bool true, vi 0] ∧ DecE w' v ⟨2, rI 98, rI 2, [1]⟩ ∧ Up w w' := by
  have h := Explain_any bc exB 2 w hC (by decide) (by decide) (by decide) (by decide) exV
  rw [ex_e2] at h; exact h
theorem ex3_any (bc : Array Go.Value) (w : World) (hC : BaseC w bc exB) : Ret Tryz.prog 20 #[.agg bc, vi 3] w fun r w' => ∃ v, r = .tuple #[v, .bool false, vi 0] ∧ DecE w' v ⟨3, rI 98, rI 2, [1]⟩ ∧ Up w w' := by
  have h := Explain_any bc exB 3 w hC (by decide) (by decide) (by decide) (by decide) exV
  rw [ex_e3] at h; exact h
theorem ex4_any (bc : Array Go.Value) (w : World) (hC : BaseC w bc exB) : Ret Tryz.prog 20 #[.agg bc, vi 4] w fun r w' => ∃ v, r = .tuple #[v, .bool false, vi 200] ∧ DecE w' v dec0 ∧ Up w w' := by
  have h := Explain_any bc exB 4 w hC (by decide) (by decide) (by decide) (by decide) exV
  rw [ex_e4] at h; exact h
theorem exd12_any (bc : Array Go.Value) (w : World) (hC : BaseC w bc exB) : Ret Tryz.prog 14 #[.agg bc, vi 4, vi 0, vi 9, vi 12] w fun r w' => ∃ ad cp, r = .tuple #[.agg (DP.cells ⟨⟨0, rI 100, rI 0, []⟩, ad, cp⟩), vi 0] ∧ Up w w' := by
  have h := Decide_any bc exB 4 0 9 12 w hC (by decide) (by decide) (by decide) (by decide)
  rw [ex_d12] at h
  exact h.mono fun r w' ⟨v, e, ⟨ad, cp, e2, _⟩, u⟩ => ⟨ad, cp, by rw [e, e2], u⟩
theorem exd15_any (bc : Array Go.Value) (w : World) (hC : BaseC w bc exB) : Ret Tryz.prog 14 #[.agg bc, vi 4, vi 0, vi 9, vi 15] w fun r w' => ∃ ad cp, r = .tuple #[.agg (DP.cells ⟨⟨0, rI 98, rI 2, [1]⟩, ad, cp⟩), vi 0] ∧ Up w w' := by
  have h := Decide_any bc exB 4 0 9 15 w hC (by decide) (by decide) (by decide) (by decide)
  rw [ex_d15] at h
  exact h.mono fun r w' ⟨v, e, ⟨ad, cp, e2, _⟩, u⟩ => ⟨ad, cp, by rw [e, e2], u⟩
set_option maxHeartbeats 4000000 in
theorem sane_any (w : World) : Ret Tryz.prog 10 #[] w fun r w' => r = .bool true ∧ Up w w' := by
  obtain ⟨w0, rfl⟩ : ∃ w0, w0 = w := ⟨_, rfl⟩
  have hS := Sep.start no w0
  refine Calls_start (n := 171) (m := 9) Tryz.func10 rfl rfl rfl ?_
  refine CW.S (LW.C (LW.S (CW.region ?_)))
  refine LW.c (enter_call0 .nil (Tryz.en30)) rfl rfl rfl rfl (example_any _) ?_
  rintro _ w1 ⟨bc, rfl, hC, uw1⟩
  have zw1 := uw1.size
  replace hS := hS.up uw1
  refine LW.r (REv.allocA Tryz.zeroValue24) rfl rfl rfl rfl ?_
  rintro _ w2 ⟨B1, rfl, MB1⟩
  refine LW.s (SEv.storeA Tryz.sizeOf24 hC.size (.tmp rfl) (.tmp rfl) hC.one MB1.blk rfl) rfl rfl rfl ?_
  intro w3 LB1
  have NB1 := MB1.set LB1
  clear LB1 MB1
  have eB1 := NB1.at_
  have zB1 := NB1.size
  replace hC := hC.up NB1.up
  replace hS := hS.addB NB1
  change Wx.Sep _ _ _ [_] at hS
  refine LW.S (CW.region ?_)
  refine LW.pp (PEv.loadA Tryz.isAgg24 Tryz.sizeOf24 (hC.size) (.tmp rfl) ((hS.blk 0 rfl).agg)) ?_
  refine LW.c (enter_call0 (.cons (.tmp rfl) (.cons (.const _) (.cons (.const _) (.cons (.const _) .nil)))) (Tryz.en18)) rfl rfl rfl rfl (Decisions_any bc exB 4 0 9 _ (hC) (by decide) (by decide) (by decide) (by decide)) ?_
  rintro v21 w4 ⟨_, L21, rfl, hm21, hT21⟩
  rw [ex_des] at hm21
  obtain ⟨a1, c1, a2, c2, a3, c3, rfl⟩ := dps3 hm21
  replace hS := hS.join hT21
  replace hC := hC.up hT21.upd
  change Wx.Sep no _ _ [_, _, _] at hS
  obtain ⟨ad21, cp21, rfl, _⟩ := (hS.own 1 rfl).sl (fun _ => rfl)
  clear hT21 hm21
  refine LW.A rfl (LW.S (CW.region ?_))
  refine LW.pp (PEv.loadA Tryz.isAgg24 Tryz.sizeOf24 (hC.size) (.tmp rfl) ((hS.blk 0 rfl).agg)) ?_
  refine LW.c (enter_call0 (.cons (.tmp rfl) (.cons (.const _) (.cons (.const _) (.cons (.const _) (.cons (.const _) .nil))))) (Tryz.en14)) rfl rfl rfl rfl (exd12_any bc _ hC) ?_
  rintro _ w5 ⟨ad12_, cd12_, rfl, uw5⟩
  have zw5 := uw5.size
  replace hC := hC.up uw5
  replace hS := hS.up uw5
  refine LW.M rfl (LW.pp (PEv.extract (.tmp rfl) rfl) (LW.pp (PEv.extract (.tmp rfl) rfl) ?_))
  refine LW.r (REv.allocA Tryz.zeroValue37) rfl rfl rfl rfl ?_
  rintro _ w6 ⟨B3, rfl, MB3⟩
  refine LW.s (SEv.storeA Tryz.sizeOf37 rfl (.tmp rfl) (.tmp rfl) (DP.one _) MB3.blk rfl) rfl rfl rfl ?_
  intro w7 LB3
  have NB3 := MB3.set LB3
  clear LB3 MB3
  have eB3 := NB3.at_
  have zB3 := NB3.size
  replace hC := hC.up NB3.up
  replace hS := hS.addB NB3
  change Wx.Sep _ _ _ [_, _, _, _] at hS
  refine LW.A rfl (LW.S (CW.region ?_))
  refine LW.pp (PEv.loadA Tryz.isAgg24 Tryz.sizeOf24 (hC.size) (.tmp rfl) ((hS.blk 0 rfl).agg)) ?_
  refine LW.c (enter_call0 (.cons (.tmp rfl) (.cons (.const _) (.cons (.const _) (.cons (.const _) (.cons (.const _) .nil))))) (Tryz.en14)) rfl rfl rfl rfl (exd15_any bc _ hC) ?_
  rintro _ w8 ⟨ad15_, cd15_, rfl, uw8⟩
  have zw8 := uw8.size
  replace hC := hC.up uw8
  replace hS := hS.up uw8
  refine LW.M rfl (LW.pp (PEv.extract (.tmp rfl) rfl) (LW.pp (PEv.extract (.tmp rfl) rfl) ?_))
  refine LW.r (REv.allocA Tryz.zeroValue37) rfl rfl rfl rfl ?_
  rintro _ w9 ⟨B5, rfl, MB5⟩
  refine LW.s (SEv.storeA Tryz.sizeOf37 rfl (.tmp rfl) (.tmp rfl) (DP.one _) MB5.blk rfl) rfl rfl rfl ?_
  intro w10 LB5
  have NB5 := MB5.set LB5
  clear LB5 MB5
  have eB5 := NB5.at_
  have zB5 := NB5.size
  replace hC := hC.up NB5.up
  replace hS := hS.addB NB5
  change Wx.Sep _ _ _ [_, _, _, _, _] at hS
  refine LW.A rfl (LW.S (CW.region ?_))
  refine LW.pp (PEv.loadA Tryz.isAgg24 Tryz.sizeOf24 (hC.size) (.tmp rfl) ((hS.blk 0 rfl).agg)) ?_
  refine LW.c (enter_call0 (.cons (.tmp rfl) (.cons (.const _) .nil)) (Tryz.en20)) rfl rfl rfl rfl (ex2_any bc _ hC) ?_
  rintro _ w11 ⟨_, rfl, ⟨ae2, ce2, rfl, _⟩, uw11⟩
  have zw11 := uw11.size
  replace hC := hC.up uw11
  replace hS := hS.up uw11
  refine LW.M rfl (LW.pp (PEv.extract (.tmp rfl) rfl) (LW.pp (PEv.extract (.tmp rfl) rfl) (LW.pp (PEv.extract (.tmp rfl) rfl) ?_)))
  refine LW.r (REv.allocA Tryz.zeroValue37) rfl rfl rfl rfl ?_
  rintro _ w12 ⟨B7, rfl, MB7⟩
  refine LW.s (SEv.storeA Tryz.sizeOf37 rfl (.tmp rfl) (.tmp rfl) (DP.one _) MB7.blk rfl) rfl rfl rfl ?_
  intro w13 LB7
  have NB7 := MB7.set LB7
  clear LB7 MB7
  have eB7 := NB7.at_
  have zB7 := NB7.size
  replace hC := hC.up NB7.up
  replace hS := hS.addB NB7
  change Wx.Sep _ _ _ [_, _, _, _, _, _] at hS
  refine LW.A rfl (LW.A rfl (LW.S (CW.region ?_)))
  refine LW.pp (PEv.loadA Tryz.isAgg24 Tryz.sizeOf24 (hC.size) (.tmp rfl) ((hS.blk 0 rfl).agg)) ?_
  refine LW.c (enter_call0 (.cons (.tmp rfl) (.cons (.const _) .nil)) (Tryz.en20)) rfl rfl rfl rfl (ex3_any bc _ hC) ?_
  rintro _ w14 ⟨_, rfl, ⟨ae3, ce3, rfl, _⟩, uw14⟩
  have zw14 := uw14.size
  replace hC := hC.up uw14
  replace hS := hS.up uw14
  refine LW.M rfl (LW.pp (PEv.extract (.tmp rfl) rfl) (LW.pp (PEv.extract (.tmp rfl) rfl) (LW.pp (PEv.extract (.tmp rfl) rfl) ?_)))
  refine LW.r (REv.allocA Tryz.zeroValue37) rfl rfl rfl rfl ?_
  rintro _ w15 ⟨B10, rfl, MB10⟩
  refine LW.s (SEv.storeA Tryz.sizeOf37 rfl (.tmp rfl) (.tmp rfl) (DP.one _) MB10.blk rfl) rfl rfl rfl ?_
  intro w16 LB10
  have NB10 := MB10.set LB10
  clear LB10 MB10
  have eB10 := NB10.at_
  have zB10 := NB10.size
  replace hC := hC.up NB10.up
  replace hS := hS.addB NB10
  change Wx.Sep _ _ _ [_, _, _, _, _, _, _] at hS
  refine LW.A rfl (LW.A rfl (LW.S (CW.region ?_)))
  refine LW.pp (PEv.loadA Tryz.isAgg24 Tryz.sizeOf24 (hC.size) (.tmp rfl) ((hS.blk 0 rfl).agg)) ?_
  refine LW.c (enter_call0 (.cons (.tmp rfl) (.cons (.const _) .nil)) (Tryz.en20)) rfl rfl rfl rfl (ex4_any bc _ hC) ?_
  rintro _ w17 ⟨_, rfl, ⟨ae4, ce4, rfl, _⟩, uw17⟩
  have zw17 := uw17.size
  replace hC := hC.up uw17
  replace hS := hS.up uw17
  refine LW.M rfl (LW.pp (PEv.extract (.tmp rfl) rfl) (LW.pp (PEv.extract (.tmp rfl) rfl) (LW.pp (PEv.extract (.tmp rfl) rfl) ?_)))
  refine LW.r (REv.allocA Tryz.zeroValue37) rfl rfl rfl rfl ?_
  rintro _ w18 ⟨B13, rfl, MB13⟩
  refine LW.s (SEv.storeA Tryz.sizeOf37 rfl (.tmp rfl) (.tmp rfl) (DP.one _) MB13.blk rfl) rfl rfl rfl ?_
  intro w19 LB13
  have NB13 := MB13.set LB13
  clear LB13 MB13
  have eB13 := NB13.at_
  have zB13 := NB13.size
  replace hC := hC.up NB13.up
  replace hS := hS.addB NB13
  change Wx.Sep _ _ _ [_, _, _, _, _, _, _, _] at hS
  refine LW.A rfl (LW.A rfl (LW.S ?_))
  have hB1o := hS.blk 0 rfl
  refine CW.region ?_
  refine LW.pp (PEv.build (cs := exZ.cells) Tryz.underlying50 Tryz.zeroValue50 Tryz.places50 (.cons (.const _) (.cons (.const _) (.cons (.const _) (.cons (.const _) (.cons (.const _) .nil))))) (by kernel_rfl)) ?_
  refine LW.r (REv.buildSlice (xs := [exZ]) (enc := Fact.cells) (mk := fun f : Fact => .agg f.cells) Tryz.underlying22 Tryz.sizeOf50 Tryz.zeroValue50 rfl (by decide) (fun _ => rfl) (fun _ => rfl) (.cons (.tmp rfl) .nil) rfl) rfl rfl rfl rfl ?_
  rintro _ w20 ⟨B51, cB51, rfl, NB51, yB51, xB51⟩
  have eB51 := NB51.at_
  have zB51 := NB51.size
  replace hC := hC.up NB51.up
  replace hS := hS.up NB51.up
  replace hB1o := hB1o.up NB51.up
  have hE51 := xB51
  refine LW.pp (PEv.fieldAddr (off := 8) Tryz.underlying24 rfl rfl Tryz.sizeOf22 rfl (.tmp rfl)) ?_
  refine LW.s (SEv.store Tryz.sizeOf22 (.tmp rfl) (.tmp rfl) rfl (hS.blk 0 rfl) (by have := hC.size; omega)) rfl rfl rfl ?_
  intro w21 Nw21
  have zw21 := Nw21.size
  replace hS := hS.putB 0 rfl Nw21
  change Wx.Sep _ _ _ [_, _, _, _, _, _, _, _] at hS
  replace hC := (base_sto hC hB1o (fun i n => hC.no i n) Nw21.sto).setResets (sl_stoF (Sl.of_els (c := 1) hE51) hB1o (fun i n => hC.no i n) Nw21.sto)
  clear hB1o
  refine LW.S ?_
  replace hC : BaseC w21 _ exB2 := hC
  refine CW.region ?_
  refine LW.pp (PEv.loadA Tryz.isAgg24 Tryz.sizeOf24 (hC.size) (.tmp rfl) ((hS.blk 0 rfl).agg)) ?_
  refine LW.c (enter_call0 (.cons (.tmp rfl) (.cons (.const _) (.cons (.const _) (.cons (.const _) .nil)))) (Tryz.en18)) rfl rfl rfl rfl (Decisions_any _ exB2 4 0 9 _ (hC) (by decide) (by decide) (by decide) (by decide)) ?_
  rintro v54 w22 ⟨_, L54, rfl, hm54, hT54⟩
  rw [ex_des2] at hm54
  obtain ⟨e1, f1, e2, f2, e3, f3, rfl⟩ := dps3 hm54
  replace hS := hS.join hT54
  change Wx.Sep no _ _ [_, _, _, _, _, _, _, _, _, _] at hS
  obtain ⟨ad54, cp54, rfl, _⟩ := (hS.own 8 rfl).sl (fun _ => rfl)
  clear hT54 hm54
  refine LW.A rfl (LW.S (CW.seq ?_))
  obtain ⟨Bx, ox, ax, hp, hq, hr⟩ := els_p ((hS.own 1 rfl).els (fun _ => rfl))
  obtain ⟨By, oy, ay, hp2, hq2, hr2⟩ := els_p ((hS.own 8 rfl).els (fun _ => rfl))
  obtain ⟨Bu, ou, au, hcu⟩ := sl_hd (usesA_get (hS.get 2 rfl) ⟨⟨3, rI 98, rI 2, [1]⟩, a3, c3⟩ (by simp))
  refine CW.region (LW.M rfl ?_)
  refine LW.pp (PEv.lenS Tryz.underlying43 (.tmp rfl)) ?_
  refine LW.pp (PEv.fa (PEv.neq (.tmp rfl) (.const _)) (rfl)) ?_
  refine LW.M rfl ?_
  refine LW.Y ?_
  refine LW.M rfl ?_
  refine LW.Y ?_
  refine LW.pp (PEv.lenS Tryz.underlying43 (.tmp rfl)) ?_
  refine LW.Y ?_
  refine LW.pp (PEv.fa (PEv.neq (.tmp rfl) (.const _)) (rfl)) ?_
  refine LW.pp (PEv.pick_or (.tmp rfl) (fun hp => (by first | exact .const _ | exact .tmp rfl | exact .cond rfl (by first | assumption | simp_all)))) ?_
  refine LW.M rfl ?_
  refine LW.Y ?_
  refine LW.M rfl ?_
  refine LW.Y ?_
  refine LW.pp (PEv.indexAddr' Tryz.underlying43 Tryz.sizeOf37 (j := 2) (.tmp rfl) (.const _) (Nat.le_of_ble_eq_true rfl) ax) ?_
  refine LW.Y ?_
  refine LW.pp (PEv.fieldAddr (off := 5) Tryz.underlying37 rfl rfl Tryz.sizeOf35 rfl (.tmp rfl)) ?_
  refine LW.Y ?_
  refine LW.pp (PEv.load Tryz.isAgg35 (.tmp rfl) (dp_uses hr)) ?_
  refine LW.Y ?_
  refine LW.pp (PEv.lenS Tryz.underlying35 (.tmp rfl)) ?_
  refine LW.Y ?_
  refine LW.pp (PEv.fa (PEv.neq (.tmp rfl) (.const _)) (rfl)) ?_
  refine LW.pp (PEv.pick_or (.tmp rfl) (fun hp => (by first | exact .const _ | exact .tmp rfl | exact .cond rfl (by first | assumption | simp_all)))) ?_
  refine LW.T ?_
  refine CW.cond_false (.tmp rfl) ?_
  refine CW.skip (KW.then (CW.seq ?_))
  refine CW.draws (by kernel_rfl) (by kernel_rfl) rfl rfl ?_
  refine HW.pp (PEv.move (.tmp rfl)) ?_
  refine HW.pp (PEv.indexAddr' Tryz.underlying43 Tryz.sizeOf37 (j := 0) (.tmp rfl) (.const _) (Nat.le_of_ble_eq_true rfl) ax) ?_
  refine HW.pp (PEv.fieldAddr (off := 1) Tryz.underlying37 rfl rfl Tryz.sizeOf34 rfl (.tmp rfl)) ?_
  refine HW.pp (PEv.loadA Tryz.isAgg34 Tryz.sizeOf34 rfl (.tmp rfl) (dp_par hp)) ?_
  refine HW.c (fun a w _ ha => enter_call0 (.cons (.const _) .nil) (Tryz.en28) a ha) rfl rfl (fun w hu => rwhole_any _ w) ?_
  refine HW.pp (PEv.tr (PEv.eqlA Tryz.eqGuardType34 (Tryz.eqRt _ _) (.tmp rfl) (.tmp rfl)) ((rtB_self _))) ?_
  refine HW.pp (PEv.move (.tmp rfl)) ?_
  refine HW.yp rfl rfl rfl rfl rfl (PEv.move (.tmp rfl)) rfl ?_
  refine HW.yp rfl rfl rfl rfl rfl (PEv.indexAddr' Tryz.underlying43 Tryz.sizeOf37 (j := 1) (.tmp rfl) (.const _) (Nat.le_of_ble_eq_true rfl) ax) rfl ?_
  refine HW.yp rfl rfl rfl rfl rfl (PEv.fieldAddr (off := 1) Tryz.underlying37 rfl rfl Tryz.sizeOf34 rfl (.tmp rfl)) rfl ?_
  refine HW.yp rfl rfl rfl rfl rfl (PEv.loadA Tryz.isAgg34 Tryz.sizeOf34 rfl (.tmp rfl) (dp_par hq)) rfl ?_
  refine HW.yc rfl rfl rfl rfl rfl (fun a w _ ha => enter_call0 (.cons (.const _) .nil) (Tryz.en28) a ha) rfl (fun w hu => rwhole_any _ w) ?_
  refine HW.yp rfl rfl rfl rfl rfl (PEv.tr (PEv.eqlA Tryz.eqGuardType34 (Tryz.eqRt _ _) (.tmp rfl) (.tmp rfl)) ((rtB_self _))) rfl ?_
  refine HW.pp (PEv.pick_and (.tmp rfl) (fun hp => (by first | exact .const _ | exact .tmp rfl | exact .cond rfl (by first | assumption | simp_all)))) ?_
  refine HW.pp (PEv.move (.tmp rfl)) ?_
  refine HW.yp rfl rfl rfl rfl rfl (PEv.move (.tmp rfl)) rfl ?_
  refine HW.yp rfl rfl rfl rfl rfl (PEv.indexAddr' Tryz.underlying43 Tryz.sizeOf37 (j := 1) (.tmp rfl) (.const _) (Nat.le_of_ble_eq_true rfl) ax) rfl ?_
  refine HW.yp rfl rfl rfl rfl rfl (PEv.fieldAddr (off := 3) Tryz.underlying37 rfl rfl Tryz.sizeOf34 rfl (.tmp rfl)) rfl ?_
  refine HW.yp rfl rfl rfl rfl rfl (PEv.loadA Tryz.isAgg34 Tryz.sizeOf34 rfl (.tmp rfl) (dp_est hq)) rfl ?_
  refine HW.yc rfl rfl rfl rfl rfl (fun a w _ ha => enter_call0 (.cons (.const _) .nil) (Tryz.en28) a ha) rfl (fun w hu => rwhole_any _ w) ?_
  refine HW.yp rfl rfl rfl rfl rfl (PEv.tr (PEv.eqlA Tryz.eqGuardType34 (Tryz.eqRt _ _) (.tmp rfl) (.tmp rfl)) ((rtB_self _))) rfl ?_
  refine HW.pp (PEv.pick_and (.tmp rfl) (fun hp => (by first | exact .const _ | exact .tmp rfl | exact .cond rfl (by first | assumption | simp_all)))) ?_
  refine HW.pp (PEv.move (.tmp rfl)) ?_
  refine HW.yp rfl rfl rfl rfl rfl (PEv.move (.tmp rfl)) rfl ?_
  refine HW.yp rfl rfl rfl rfl rfl (PEv.indexAddr' Tryz.underlying43 Tryz.sizeOf37 (j := 2) (.tmp rfl) (.const _) (Nat.le_of_ble_eq_true rfl) ax) rfl ?_
  refine HW.yp rfl rfl rfl rfl rfl (PEv.fieldAddr (off := 1) Tryz.underlying37 rfl rfl Tryz.sizeOf34 rfl (.tmp rfl)) rfl ?_
  refine HW.yp rfl rfl rfl rfl rfl (PEv.loadA Tryz.isAgg34 Tryz.sizeOf34 rfl (.tmp rfl) (dp_par hr)) rfl ?_
  refine HW.yc rfl rfl rfl rfl rfl (fun a w _ ha => enter_call0 (.cons (.const _) .nil) (Tryz.en28) a ha) rfl (fun w hu => rwhole_any _ w) ?_
  refine HW.yp rfl rfl rfl rfl rfl (PEv.tr (PEv.eqlA Tryz.eqGuardType34 (Tryz.eqRt _ _) (.tmp rfl) (.tmp rfl)) ((rtB_self _))) rfl ?_
  refine HW.pp (PEv.pick_and (.tmp rfl) (fun hp => (by first | exact .const _ | exact .tmp rfl | exact .cond rfl (by first | assumption | simp_all)))) ?_
  refine HW.pp (PEv.move (.tmp rfl)) ?_
  refine HW.yp rfl rfl rfl rfl rfl (PEv.move (.tmp rfl)) rfl ?_
  refine HW.yp rfl rfl rfl rfl rfl (PEv.indexAddr' Tryz.underlying43 Tryz.sizeOf37 (j := 2) (.tmp rfl) (.const _) (Nat.le_of_ble_eq_true rfl) ax) rfl ?_
  refine HW.yp rfl rfl rfl rfl rfl (PEv.fieldAddr (off := 5) Tryz.underlying37 rfl rfl Tryz.sizeOf35 rfl (.tmp rfl)) rfl ?_
  refine HW.yp rfl rfl rfl rfl rfl (PEv.load Tryz.isAgg35 (.tmp rfl) (dp_uses hr)) rfl ?_
  refine HW.yp rfl rfl rfl rfl rfl (PEv.indexAddr' Tryz.underlying35 Tryz.sizeOf3 (j := 0) (.tmp rfl) (.const _) (Nat.le_of_ble_eq_true rfl) au) rfl ?_
  refine HW.yp rfl rfl rfl rfl rfl (PEv.load Tryz.isAgg3 (.tmp rfl) (hcu 0 _ rfl)) rfl ?_
  refine HW.yp rfl rfl rfl rfl rfl (PEv.tr (PEv.eql (.tmp rfl) (.const _)) (rfl)) rfl ?_
  refine HW.pp (PEv.pick_and (.tmp rfl) (fun hp => (by first | exact .const _ | exact .tmp rfl | exact .cond rfl (by first | assumption | simp_all)))) ?_
  refine HW.pp (PEv.move (.tmp rfl)) ?_
  refine HW.yp rfl rfl rfl rfl rfl (PEv.move (.tmp rfl)) rfl ?_
  refine HW.yp rfl rfl rfl rfl rfl (PEv.indexAddr' Tryz.underlying43 Tryz.sizeOf37 (j := 2) (.tmp rfl) (.const _) (Nat.le_of_ble_eq_true rfl) ax) rfl ?_
  refine HW.yp rfl rfl rfl rfl rfl (PEv.fieldAddr (off := 0) Tryz.underlying37 rfl rfl Tryz.sizeOf3 rfl (.tmp rfl)) rfl ?_
  refine HW.yp rfl rfl rfl rfl rfl (PEv.load Tryz.isAgg3 (.tmp rfl) (dp_run hr)) rfl ?_
  refine HW.yp rfl rfl rfl rfl rfl (PEv.tr (PEv.eql (.tmp rfl) (.const _)) (rfl)) rfl ?_
  refine HW.pp (PEv.pick_and (.tmp rfl) (fun hp => (by first | exact .const _ | exact .tmp rfl | exact .cond rfl (by first | assumption | simp_all)))) ?_
  refine HW.pp (PEv.assign (.tmp rfl)) ?_
  refine HW.nil ?_
  intro w23 uw23
  have zw23 := uw23.size
  replace hS := hS.up uw23
  replace hp := hp.up uw23
  replace hq := hq.up uw23
  replace hr := hr.up uw23
  replace hr2 := hr2.up uw23
  replace hcu := hcu.up uw23
  refine KW.then (CW.seq ?_)
  refine CW.draws (by kernel_rfl) (by kernel_rfl) rfl rfl ?_
  refine HW.pp (PEv.move (.tmp rfl)) ?_
  refine HW.pp (PEv.tr (PEv.eql (.tmp rfl) (.const _)) (rfl)) ?_
  refine HW.pp (PEv.move (.tmp rfl)) ?_
  refine HW.yp rfl rfl rfl rfl rfl (PEv.fieldAddr (off := 1) Tryz.underlying37 rfl rfl Tryz.sizeOf34 rfl (.tmp rfl)) rfl ?_
  refine HW.yp rfl rfl rfl rfl rfl (PEv.loadA Tryz.isAgg34 Tryz.sizeOf34 rfl (.tmp rfl) (dp_par0 (hS.blk 3 rfl))) rfl ?_
  refine HW.yc rfl rfl rfl rfl rfl (fun a w _ ha => enter_call0 (.cons (.const _) .nil) (Tryz.en28) a ha) rfl (fun w hu => rwhole_any _ w) ?_
  refine HW.yp rfl rfl rfl rfl rfl (PEv.tr (PEv.eqlA Tryz.eqGuardType34 (Tryz.eqRt _ _) (.tmp rfl) (.tmp rfl)) ((rtB_self _))) rfl ?_
  refine HW.pp (PEv.pick_and (.tmp rfl) (fun hp => (by first | exact .const _ | exact .tmp rfl | exact .cond rfl (by first | assumption | simp_all)))) ?_
  refine HW.pp (PEv.move (.tmp rfl)) ?_
  refine HW.yp rfl rfl rfl rfl rfl (PEv.move (.tmp rfl)) rfl ?_
  refine HW.yp rfl rfl rfl rfl rfl (PEv.tr (PEv.eql (.tmp rfl) (.const _)) (rfl)) rfl ?_
  refine HW.pp (PEv.pick_and (.tmp rfl) (fun hp => (by first | exact .const _ | exact .tmp rfl | exact .cond rfl (by first | assumption | simp_all)))) ?_
  refine HW.pp (PEv.move (.tmp rfl)) ?_
  refine HW.yp rfl rfl rfl rfl rfl (PEv.fieldAddr (off := 1) Tryz.underlying37 rfl rfl Tryz.sizeOf34 rfl (.tmp rfl)) rfl ?_
  refine HW.yp rfl rfl rfl rfl rfl (PEv.loadA Tryz.isAgg34 Tryz.sizeOf34 rfl (.tmp rfl) (dp_par0 (hS.blk 4 rfl))) rfl ?_
  refine HW.yc rfl rfl rfl rfl rfl (fun a w _ ha => enter_call0 (.cons (.const _) .nil) (Tryz.en28) a ha) rfl (fun w hu => rwhole_any _ w) ?_
  refine HW.yp rfl rfl rfl rfl rfl (PEv.tr (PEv.eqlA Tryz.eqGuardType34 (Tryz.eqRt _ _) (.tmp rfl) (.tmp rfl)) ((rtB_self _))) rfl ?_
  refine HW.pp (PEv.pick_and (.tmp rfl) (fun hp => (by first | exact .const _ | exact .tmp rfl | exact .cond rfl (by first | assumption | simp_all)))) ?_
  refine HW.pp (PEv.move (.tmp rfl)) ?_
  refine HW.yp rfl rfl rfl rfl rfl (PEv.fieldAddr (off := 0) Tryz.underlying37 rfl rfl Tryz.sizeOf3 rfl (.tmp rfl)) rfl ?_
  refine HW.yp rfl rfl rfl rfl rfl (PEv.load Tryz.isAgg3 (.tmp rfl) ((hS.blk 5 rfl).celln rfl)) rfl ?_
  refine HW.yp rfl rfl rfl rfl rfl (PEv.tr (PEv.eql (.tmp rfl) (.const _)) (rfl)) rfl ?_
  refine HW.pp (PEv.pick_and (.tmp rfl) (fun hp => (by first | exact .const _ | exact .tmp rfl | exact .cond rfl (by first | assumption | simp_all)))) ?_
  refine HW.pp (PEv.move (.tmp rfl)) ?_
  refine HW.yp rfl rfl rfl rfl rfl (PEv.tr (PEv.move (.tmp rfl)) (rfl)) rfl ?_
  refine HW.pp (PEv.pick_and (.tmp rfl) (fun hp => (by first | exact .const _ | exact .tmp rfl | exact .cond rfl (by first | assumption | simp_all)))) ?_
  refine HW.pp (PEv.move (.tmp rfl)) ?_
  refine HW.yp rfl rfl rfl rfl rfl (PEv.move (.tmp rfl)) rfl ?_
  refine HW.yp rfl rfl rfl rfl rfl (PEv.tr (PEv.eql (.tmp rfl) (.const _)) (rfl)) rfl ?_
  refine HW.pp (PEv.pick_and (.tmp rfl) (fun hp => (by first | exact .const _ | exact .tmp rfl | exact .cond rfl (by first | assumption | simp_all)))) ?_
  refine HW.pp (PEv.move (.tmp rfl)) ?_
  refine HW.yp rfl rfl rfl rfl rfl (PEv.move (.tmp rfl)) rfl ?_
  refine HW.yp rfl rfl rfl rfl rfl (PEv.tr (PEv.not (.tmp rfl)) (rfl)) rfl ?_
  refine HW.pp (PEv.pick_and (.tmp rfl) (fun hp => (by first | exact .const _ | exact .tmp rfl | exact .cond rfl (by first | assumption | simp_all)))) ?_
  refine HW.pp (PEv.move (.tmp rfl)) ?_
  refine HW.yp rfl rfl rfl rfl rfl (PEv.move (.tmp rfl)) rfl ?_
  refine HW.yp rfl rfl rfl rfl rfl (PEv.tr (PEv.eql (.tmp rfl) (.const _)) (rfl)) rfl ?_
  refine HW.pp (PEv.pick_and (.tmp rfl) (fun hp => (by first | exact .const _ | exact .tmp rfl | exact .cond rfl (by first | assumption | simp_all)))) ?_
  refine HW.pp (PEv.move (.tmp rfl)) ?_
  refine HW.yp rfl rfl rfl rfl rfl (PEv.move (.tmp rfl)) rfl ?_
  refine HW.yp rfl rfl rfl rfl rfl (PEv.tr (PEv.eql (.tmp rfl) (.const _)) (rfl)) rfl ?_
  refine HW.pp (PEv.pick_and (.tmp rfl) (fun hp => (by first | exact .const _ | exact .tmp rfl | exact .cond rfl (by first | assumption | simp_all)))) ?_
  refine HW.pp (PEv.assign (.tmp rfl)) ?_
  refine HW.nil ?_
  intro w24 uw24
  have zw24 := uw24.size
  replace hS := hS.up uw24
  replace hp := hp.up uw24
  replace hq := hq.up uw24
  replace hr := hr.up uw24
  replace hr2 := hr2.up uw24
  replace hcu := hcu.up uw24
  refine KW.then (CW.seq ?_)
  refine CW.draws (by kernel_rfl) (by kernel_rfl) rfl rfl ?_
  refine HW.pp (PEv.move (.tmp rfl)) ?_
  refine HW.pp (PEv.move (.tmp rfl)) ?_
  refine HW.yp rfl rfl rfl rfl rfl (PEv.move (.tmp rfl)) rfl ?_
  refine HW.pp (PEv.pick_and (.tmp rfl) (fun hp => (by first | exact .const _ | exact .tmp rfl | exact .cond rfl (by first | assumption | simp_all)))) ?_
  refine HW.pp (PEv.move (.tmp rfl)) ?_
  refine HW.yp rfl rfl rfl rfl rfl (PEv.move (.tmp rfl)) rfl ?_
  refine HW.yp rfl rfl rfl rfl rfl (PEv.indexAddr' Tryz.underlying43 Tryz.sizeOf37 (j := 2) (.tmp rfl) (.const _) (Nat.le_of_ble_eq_true rfl) ay) rfl ?_
  refine HW.yp rfl rfl rfl rfl rfl (PEv.fieldAddr (off := 1) Tryz.underlying37 rfl rfl Tryz.sizeOf34 rfl (.tmp rfl)) rfl ?_
  refine HW.yp rfl rfl rfl rfl rfl (PEv.loadA Tryz.isAgg34 Tryz.sizeOf34 rfl (.tmp rfl) (dp_par hr2)) rfl ?_
  refine HW.yc rfl rfl rfl rfl rfl (fun a w _ ha => enter_call0 (.cons (.const _) .nil) (Tryz.en28) a ha) rfl (fun w hu => rwhole_any _ w) ?_
  refine HW.yp rfl rfl rfl rfl rfl (PEv.tr (PEv.eqlA Tryz.eqGuardType34 (Tryz.eqRt _ _) (.tmp rfl) (.tmp rfl)) ((rtB_self _))) rfl ?_
  refine HW.pp (PEv.pick_and (.tmp rfl) (fun hp => (by first | exact .const _ | exact .tmp rfl | exact .cond rfl (by first | assumption | simp_all)))) ?_
  refine HW.pp (PEv.assign (.tmp rfl)) ?_
  refine HW.nil ?_
  intro w25 uw25
  have zw25 := uw25.size
  replace hS := hS.up uw25
  replace hp := hp.up uw25
  replace hq := hq.up uw25
  replace hr := hr.up uw25
  replace hr2 := hr2.up uw25
  replace hcu := hcu.up uw25
  refine KW.then (CW.ret ?_)
  refine KW.ret1 rfl rfl ⟨_, rfl, ?_⟩
  exact ⟨rfl, hS.upd⟩
end Go.Proofs.YtgffaeachbbjoaaGreatDoor
end
section
namespace Go.Wx
theorem lst_mem {l : List Fact} {d : Int} {j : Nat} (hj : j < 11) {x : Fact} : x ∈ lstOf (ofB l d) j ↔ eff l d x ∧ x.Gone = false ∧ x.Kind = ((j + 1 : Nat) : Int) := by
  rw [lst_ofB l d hj]
  unfold lstAt
  rw [if_pos (List.mem_singleton.2 rfl), (sortK_sts _).same.mem, List.mem_filter, best_eff]
  simp
theorem eff_valid {l : List Fact} {d : Int} {x : Fact} (h : eff l d x) : validB x = true := keyB_valid h.2.1
theorem eff_key {l : List Fact} {d : Int} {x y : Fact} (hx : eff l d x) (hy : eff l d y) (e : keyB x = keyB y) : x = y := prev_total (eff_valid hx) (eff_valid hy) e (hy.2.2.2 x hx.1 hx.2.2.1) (hx.2.2.2 y hy.1 hy.2.2.1)
theorem lst_nodup (l : List Fact) (d : Int) {j : Nat} (hj : j < 11) : (lstOf (ofB l d) j).Nodup := by
  rw [lst_ofB l d hj]
  unfold lstAt
  rw [if_pos (List.mem_singleton.2 rfl)]
  exact ((sortK_sts _).same.perm.nodup_iff).2 ((factsM_nodup l d).filter _)
def shortN (n : Nat) (b : Base) : Prop := ∀ j, (lstOf b j).length ≤ n
theorem ofB_shortN {l : List Fact} {n : Nat} (h : l.length ≤ n) (d : Int) : shortN n (ofB l d) := fun j => by
  by_cases hj : j < 11
  · rw [lst_ofB l d hj]
    exact Nat.le_trans (lst_len _ _ _) (Nat.le_trans (factsM_len l d) h)
  · rw [lstOf_big _ hj]; simp
end Go.Wx
namespace Go.Proofs.YtgffaeachbbjoaaGreatDoor
open Go.Wx Go.RowKit
end Go.Proofs.YtgffaeachbbjoaaGreatDoor
end
section
namespace Go.Wx
theorem sortK_filter {α : Type} {key : α → K2} (p : α → Bool) (l : List α) : (sortK key l).filter p = sortK key (l.filter p) :=
  StS.unique ⟨(sortK_sts l).ord.sublist List.filter_sublist, fun k => by
    rw [List.filter_filter, List.filter_filter]
    have h := (sortK_sts (key := key) l).same k
    rw [show (fun x => (key x == k) && p x) = fun x => p x && (key x == k) from funext fun x => Bool.and_comm _ _, ← List.filter_filter, ← List.filter_filter, h]⟩ (sortK_sts _)
theorem rnsF_sort (b : Base) (t c r : Int) : rnsF b t c r = sortK runK ((b.Processes.filter (runP t c)).filter fun x => decide (x.Recipe = r)) := by unfold rnsF runsB; rw [sortK_filter]
theorem rns_mem {b : Base} {t c r : Int} {x : Fact} : x ∈ rnsF b t c r ↔ x ∈ b.Processes ∧ x.Tool = t ∧ x.Chamber = c ∧ x.Recipe = r := by
  rw [rnsF_sort, (sortK_sts _).same.mem, List.mem_filter, List.mem_filter]
  unfold runP
  simp only [Bool.and_eq_true, decide_eq_true_eq]
  exact ⟨fun ⟨⟨a, b, c⟩, d⟩ => ⟨a, b, c, d⟩, fun ⟨a, b, c, d⟩ => ⟨⟨a, b, c⟩, d⟩⟩
theorem rns_srt (b : Base) (t c r : Int) : srt runK (rnsF b t c r) := by rw [rnsF_sort]; exact (sortK_sts _).ord
theorem rns_nodup {b : Base} {t c r : Int} (h : b.Processes.Nodup) : (rnsF b t c r).Nodup := by
  rw [rnsF_sort, (sortK_sts _).same.perm.nodup_iff]
  exact (h.filter _).filter _
theorem srt_time {l : List Fact} (h : srt runK l) {i j : Nat} {x y : Fact} (hij : i < j) (hx : l[i]? = some x) (hy : l[j]? = some y) : x.Time ≤ y.Time := by
  have h1 := pairwise_get h hij hx hy
  have h2 := ltK_not.1 h1
  simp only [runK] at h2
  omega
structure KnB (b : Base) : Prop where
  sh : shortN 100 b
  nd : b.Processes.Nodup
  uid : ∀ f ∈ b.Processes, ∀ g ∈ b.Processes, f.ID = g.ID → f = g
theorem kn_of {l : List Fact} (h : l.length ≤ 100) (d : Int) : KnB (ofB l d) := by
  refine ⟨ofB_shortN h d, lst_nodup l d (j := 0) (by decide), fun f hf g hg e => ?_⟩
  have h1 := (lst_mem (j := 0) (by decide)).1 hf
  have h2 := (lst_mem (j := 0) (by decide)).1 hg
  exact eff_key h1.1 h2.1 (key_of_ord (k := 1) (eff_valid h1.1) (eff_valid h2.1) h1.2.2 h2.2.2 (by show (f.ID, (0 : Int)) = (g.ID, 0); rw [e]))
theorem KnB.find {b : Base} (h : KnB b) {f : Fact} (hf : f ∈ b.Processes) : procB b f.ID = some f := by
  unfold procB
  cases e : b.Processes.find? fun x => decide (x.ID = f.ID) with
  | none => exact absurd (List.find?_eq_none.1 e f hf) (by simp)
  | some g =>
    have h1 := List.find?_some e
    exact congrArg some (h.uid g (List.mem_of_find?_eq_some e) f hf (of_decide_eq_true h1))
theorem KnB.run {b : Base} (h : KnB b) {t c r : Int} {f : Fact} (hf : f ∈ rnsF b t c r) : procB b f.ID = some f := h.find (rns_mem.1 hf).1
def lessP (b : Base) (id : Int) : Base := { b with Processes := b.Processes.filter fun f => !decide (f.ID = id) }
theorem less_rns (b : Base) (id t c r : Int) : rnsF (lessP b id) t c r = (rnsF b t c r).filter fun f => !decide (f.ID = id) := by
  rw [rnsF_sort, rnsF_sort, sortK_filter]
  congr 1
  show ((b.Processes.filter _).filter _).filter _ = ((b.Processes.filter _).filter _).filter _
  rw [List.filter_filter, List.filter_filter, List.filter_filter, List.filter_filter]
  congr 1
  funext x
  cases runP t c x <;> cases decide (x.Recipe = r) <;> simp
theorem next_plain {b : Base} (hk : KnB b) {t c r : Int} {k : Nat} {p : Fact} (hp : (rnsF b t c r)[k]? = some p) (hn : ∀ f ∈ b.Processes, (!decide (f.ID = p.ID) && decide (f.Time = p.Time) && decide (f.Tool = t) && decide (f.Chamber = c)) = false) :
    { decNow (lessP b p.ID) t c r p.Time with run := p.ID } = { decF b t c r p.Time ((rnsF b t c r).take k) with run := p.ID } := by
  have e : ((rnsF (lessP b p.ID) t c r).filter fun x => decide (x.Time ≤ p.Time)) = (rnsF b t c r).take k := by
    rw [less_rns, List.filter_filter]
    have hs := rns_srt b t c r
    have hd := rns_nodup (t := t) (c := c) (r := r) hk.nd
    have hm : ∀ x ∈ rnsF b t c r, x ∈ b.Processes ∧ x.Tool = t ∧ x.Chamber = c := fun x hx => let h := rns_mem.1 hx; ⟨h.1, h.2.1, h.2.2.1⟩
    have hpm := hm p (List.mem_of_getElem? hp)
    generalize rnsF b t c r = rs at *
    have hlt := (List.getElem?_eq_some_iff.1 hp).1
    have e : rs = rs.take k ++ p :: rs.drop (k + 1) := by
      have h1 : rs.drop k = p :: rs.drop (k + 1) := by
        rw [List.drop_eq_getElem_cons hlt, (List.getElem?_eq_some_iff.1 hp).2]
      rw [← h1, List.take_append_drop]
    have h1 : ∀ x ∈ rs.take k, (decide (x.Time ≤ p.Time) && !decide (x.ID = p.ID)) = true := fun x hx => by
      obtain ⟨i, hi⟩ := List.mem_iff_getElem?.1 hx
      rw [List.getElem?_take] at hi
      split at hi
      · rename_i hik
        have ht := srt_time hs hik hi hp
        have hne : x.ID ≠ p.ID := fun e2 => by
          have := hk.uid x (hm x (List.mem_of_getElem? hi)).1 p hpm.1 e2
          subst this
          have h5 : i = k := by
            have hil := (List.getElem?_eq_some_iff.1 hi).1
            exact (List.getElem?_inj hil hd).1 (hi.trans hp.symm)
          omega
        simp [ht, hne]
      · cases hi
    have h2 : ∀ x ∈ rs.drop (k + 1), (decide (x.Time ≤ p.Time) && !decide (x.ID = p.ID)) = false := fun x hx => by
      obtain ⟨i, hi⟩ := List.mem_iff_getElem?.1 hx
      rw [List.getElem?_drop] at hi
      have ht := srt_time hs (show k < k + 1 + i by omega) hp hi
      have hxm := hm x (List.mem_of_getElem? hi)
      have h3 := hn x hxm.1
      rw [hxm.2.1, hxm.2.2] at h3
      simp only [decide_true, Bool.and_true] at h3
      by_cases hid : x.ID = p.ID
      · simp [hid]
      · simp only [hid, decide_false, Bool.not_false, Bool.true_and, decide_eq_false_iff_not] at h3
        simp only [hid, decide_false, Bool.not_false, Bool.and_true, decide_eq_false_iff_not]
        omega
    conv => lhs; rw [e]
    rw [List.filter_append, List.filter_cons_of_neg (by simp), List.filter_eq_self.2 h1, List.filter_eq_nil_iff.2 (fun x hx => by rw [h2 x hx]; exact Bool.false_ne_true), List.append_nil]
  unfold decNow
  rw [e]
  rfl
theorem els_frF {w w' : World} {B : Nat} {cs : Array Value} {T : TypeId} {ad : Option Addr} {xs : List Fact} (h : Els w ad 19 Fact.cells xs) (hb : Blk w B cs T) (hc : ∀ (i : Nat) (n : Int), cs[i]? ≠ some (vi n)) (f : Fr (fun i => i = B) w w') : Els w' ad 19 Fact.cells xs := fun i x hx => by
  obtain ⟨B', o, e, h1⟩ := h i x hx
  have hne : B' ≠ B := fun e2 => by
    have h2 := h1 0 (vi x.Kind) rfl
    rw [e2] at h2
    have h3 : cs[o + i * 19 + 0]? = some (vi x.Kind) := by
      unfold World.cell? at h2
      rw [show w.heap[B]? = some (.cells cs T (0, 0)) from hb] at h2
      simpa using h2
    exact hc _ _ h3
  exact ⟨B', o, e, fun j v hv => cell_fr (h1 j v hv) f hne⟩
theorem base_fr {w w' : World} {B : Nat} {cs : Array Value} {T : TypeId} {bc : Array Value} {b : Base} (h : BaseC w bc b) (hb : Blk w B cs T) (hc : ∀ (i : Nat) (n : Int), cs[i]? ≠ some (vi n)) (u : Fr (fun i => i = B) w w') : BaseC w' bc b := by
  obtain ⟨v0, v1, v2, v3, v4, v5, v6, v7, v8, v9, v10, e, h0, h1, h2, h3, h4, h5, h6, h7, h8, h9, h10⟩ := h
  have f : ∀ {v : Value} {xs : List Fact}, Sl w v 19 Fact.cells xs → Sl w' v 19 Fact.cells xs := fun ⟨ad, c, e, hE⟩ => ⟨ad, c, e, els_frF hE hb hc u⟩
  exact ⟨v0, v1, v2, v3, v4, v5, v6, v7, v8, v9, v10, e, f h0, f h1, f h2, f h3, f h4, f h5, f h6, f h7, f h8, f h9, f h10⟩
theorem Sep.keepFr {S0 : Nat → Prop} {w0 w w' : World} {As : List Asr} {A : Asr} {k B : Nat} (h : Sep S0 w0 w As) (hk : As[k]? = some A) (f : Fr (fun i => i = B) w w') (hn : ¬ A.foot B) : A.holds w' := A.keep w w' (h.get k hk) (fun i hi hl => f.block i hl (fun e => hn (e ▸ hi))) f.size
theorem pk10 : pickI 10 11 = 10 := by decide
theorem nil11 (i : Nat) (n : Int) : (#[.slice none 0 0, .slice none 0 0, .slice none 0 0, .slice none 0 0, .slice none 0 0, .slice none 0 0, .slice none 0 0, .slice none 0 0, .slice none 0 0, .slice none 0 0, .slice none 0 0] : Array Value)[i]? ≠ some (vi n) := by
  match i with
  | 0 | 1 | 2 | 3 | 4 | 5 | 6 | 7 | 8 | 9 | 10 => simp
  | i + 11 => simp
theorem set00 (bc : Array Value) (v x : Value) : (bc.setIfInBounds 0 v).setIfInBounds (0 + 0) x = bc.setIfInBounds 0 x := by simp
end Go.Wx
namespace Go.Proofs.YtgffaeachbbjoaaGreatDoor
open Go.Wx Go.RowKit
theorem known_any (ad : Option Addr) (cp : Nat) (xs : List I6) (day : Int) (w : World) (hE0 : Els w ad 6 I6.cells xs) : Ret Tryz.prog 12 #[.slice ad xs.length cp, vi day] w fun r w' => ∃ bc, r = .agg bc ∧ BaseC w' bc (ofB (soL xs) (pickI day 11)) ∧ Up w w' := by
  obtain ⟨w0, rfl⟩ : ∃ w0, w0 = w := ⟨_, rfl⟩
  have hS := Sep.start no w0
  refine Calls_start (n := 10) (m := 9) Tryz.func12 rfl rfl rfl ?_
  refine CW.S ?_
  refine LW.r (REv.allocA Tryz.zeroValue24) rfl rfl rfl rfl ?_
  rintro _ w1 ⟨B4, rfl, NB4⟩
  have eB4 := NB4.at_
  have zB4 := NB4.size
  replace hS := hS.addB NB4
  change Wx.Sep _ _ _ [_] at hS
  refine LW.S (CW.region (LW.M rfl ?_))
  refine LW.c (enter_call0 (.cons (.tmp rfl) .nil) (Tryz.en22)) rfl rfl rfl rfl (Some_any ad cp xs _ (Els.up hE0 hS.upd)) ?_
  rintro v6 w2 ⟨hO6, uw2⟩
  have zw2 := uw2.size
  replace hS := hS.up uw2
  obtain ⟨ad6, cp6, rfl, hE6_⟩ := hO6.sl (fun _ => rfl)
  have hE6 : Els w2 ad6 19 Fact.cells (soL xs) := hE6_
  clear hO6 hE6_
  refine LW.M rfl ?_
  refine LW.c (enter_call0 (.cons (.tmp rfl) (.cons (.const _) .nil)) (Tryz.en13)) rfl rfl rfl rfl (pick_any _ _ _ (by decide)) ?_
  rintro _ w3 ⟨rfl, uw3⟩
  have zw3 := uw3.size
  replace hS := hS.up uw3
  replace hE6 := hE6.up uw3
  refine LW.c (enter_call0 (.cons (.tmp rfl) (.cons (.tmp rfl) .nil)) (Tryz.en23)) rfl rfl rfl rfl (Of_any ad6 cp6 (soL xs) _ _ hE6 (Nat.le_trans (soL_len xs) (by decide))) ?_
  rintro _ w4 ⟨bc, rfl, hC, uw4⟩
  have zw4 := uw4.size
  replace hS := hS.up uw4
  replace hE6 := hE6.up uw4
  have hB4o := hS.blk 0 rfl
  have hno4 : ∀ (i : Nat) (n : Int), (#[.slice none 0 0, .slice none 0 0, .slice none 0 0, .slice none 0 0, .slice none 0 0, .slice none 0 0, .slice none 0 0, .slice none 0 0, .slice none 0 0, .slice none 0 0, .slice none 0 0] : Array Go.Value)[i]? ≠ some (vi n) := nil11
  refine LW.s (SEv.storeA Tryz.sizeOf24 hC.size (.tmp rfl) (.tmp rfl) hC.one (hS.blk 0 rfl) rfl) rfl rfl rfl ?_
  intro w5 Nw5
  have zw5 := Nw5.size
  replace hS := hS.putB 0 rfl (show Set_ _ w5 _ (bc) _ from Nw5)
  change Wx.Sep _ _ _ [_] at hS
  clear hE6
  replace hC := base_sto hC hB4o hno4 Nw5.sto
  refine LW.T (CW.ret ?_)
  refine KW.retA rfl rfl Tryz.isAgg24 Tryz.sizeOf24 hC.size ((hS.blk 0 rfl).agg) ⟨_, rfl, ?_⟩
  exact ⟨bc, rfl, hC, hS.upd⟩
set_option maxHeartbeats 4000000 in
theorem ControlNext_any (ad : Option Addr) (cp : Nat) (xs : List I6) (tool chamber recipe which : Int) (w : World) (hE1 : Els w ad 6 I6.cells xs) (htool : inI tool) (hch : inI chamber) (hrec : inI recipe) (hwhich : inI which) : Ret Tryz.prog 8 #[.slice ad xs.length cp, vi tool, vi chamber, vi recipe, vi which] w fun r0 w' => r0 = .bool true ∧ Up w w' := by
  obtain ⟨w0, rfl⟩ : ∃ w0, w0 = w := ⟨_, rfl⟩
  have hS := Sep.start no w0
  refine Calls_start (n := 133) (m := 9) Tryz.func8 rfl rfl rfl ?_
  refine CW.S (LW.C (LW.S (CW.region ?_)))
  refine LW.c (enter_call0 .nil (Tryz.en10)) rfl rfl rfl rfl (sane_any _) ?_
  rintro _ w1 ⟨rfl, uw1⟩
  have zw1 := uw1.size
  replace hS := hS.up uw1
  refine LW.A rfl (LW.S (CW.region (LW.M rfl ?_)))
  refine LW.c (enter_call0 (.cons (.tmp rfl) (.cons (.const _) .nil)) (Tryz.en13)) rfl rfl rfl rfl (pick_any _ _ _ (by decide)) ?_
  rintro _ w2 ⟨rfl, uw2⟩
  have zw2 := uw2.size
  replace hS := hS.up uw2
  have ht := pick_range (c := tool) (n := 2) htool (by decide)
  obtain ⟨t, et⟩ : ∃ t, t = pickI tool 2 := ⟨_, rfl⟩
  rw [← et] at ht ⊢
  refine LW.A rfl (LW.S (CW.region (LW.M rfl ?_)))
  refine LW.c (enter_call0 (.cons (.tmp rfl) (.cons (.const _) .nil)) (Tryz.en13)) rfl rfl rfl rfl (pick_any _ _ _ (by decide)) ?_
  rintro _ w3 ⟨rfl, uw3⟩
  have zw3 := uw3.size
  replace hS := hS.up uw3
  have hc := pick_range (c := chamber) (n := 2) hch (by decide)
  obtain ⟨c, ec⟩ : ∃ c, c = pickI chamber 2 := ⟨_, rfl⟩
  rw [← ec] at hc ⊢
  refine LW.A rfl (LW.S (CW.region (LW.M rfl ?_)))
  refine LW.c (enter_call0 (.cons (.tmp rfl) (.cons (.const _) .nil)) (Tryz.en13)) rfl rfl rfl rfl (pick_any _ _ _ (by decide)) ?_
  rintro _ w4 ⟨rfl, uw4⟩
  have zw4 := uw4.size
  replace hS := hS.up uw4
  have hrp := pick_range (c := recipe) (n := 2) hrec (by decide)
  obtain ⟨rp, erp⟩ : ∃ rp, rp = pickI recipe 2 := ⟨_, rfl⟩
  rw [← erp] at hrp ⊢
  refine LW.pp (PEv.add_w (.const _) (.tmp rfl)) ?_
  refine LW.A rfl (LW.S ?_)
  obtain ⟨r, er⟩ : ∃ r, r = IntKind.i64.wrap (1 + rp) := ⟨_, rfl⟩
  rw [← er]
  refine CW.region (LW.M rfl ?_)
  refine LW.c (enter_call0 (.cons (.tmp rfl) (.cons (.const _) .nil)) (Tryz.en12)) rfl rfl rfl rfl (known_any ad cp xs 10 _ (Els.up hE1 hS.upd)) ?_
  rintro _ w5 ⟨bc, rfl, hC, uw5⟩
  have zw5 := uw5.size
  replace hS := hS.up uw5
  rw [pk10] at hC
  obtain ⟨b, eb⟩ : ∃ b, b = ofB (soL xs) 10 := ⟨_, rfl⟩
  rw [← eb] at hC
  have hk : KnB b := by rw [eb]; exact kn_of (Nat.le_trans (soL_len xs) (by decide)) 10
  refine LW.r (REv.allocA Tryz.zeroValue24) rfl rfl rfl rfl ?_
  rintro _ w6 ⟨B12, rfl, MB12⟩
  refine LW.s (SEv.storeA Tryz.sizeOf24 hC.size (.tmp rfl) (.tmp rfl) hC.one MB12.blk rfl) rfl rfl rfl ?_
  intro w7 LB12
  have NB12 := MB12.set LB12
  clear LB12 MB12
  have eB12 := NB12.at_
  have zB12 := NB12.size
  replace hC := hC.up NB12.up
  replace hS := hS.addB NB12
  change Wx.Sep _ _ _ [_] at hS
  refine LW.S (CW.region ?_)
  refine LW.pp (PEv.loadA Tryz.isAgg24 Tryz.sizeOf24 (hC.size) (.tmp rfl) ((hS.blk 0 rfl).agg)) ?_
  refine LW.M rfl (LW.M rfl (LW.M rfl ?_))
  refine LW.c (enter_call0 (.cons (.tmp rfl) (.cons (.tmp rfl) (.cons (.tmp rfl) (.cons (.tmp rfl) .nil)))) (Tryz.en18)) rfl rfl rfl rfl (Decisions_any bc b t c r _ (hC.up (Up.refl _)) (Nat.le_trans (hk.sh 0) (by decide)) (Nat.le_trans (hk.sh 8) (by decide)) (Nat.le_trans (hk.sh 1) (by decide)) (Nat.le_trans (hk.sh 9) (by decide))) ?_
  rintro _ w8 ⟨_, L, rfl, hm, hT⟩
  replace hS := hS.join hT
  change Wx.Sep no _ _ [_, _, _] at hS
  replace hC := hC.up hT.upd
  obtain ⟨ad36, cp36, rfl, _⟩ := (hS.own 1 rfl).sl (fun _ => rfl)
  have hLl : L.length = (rnsF b t c r).length := by have h1 := congrArg List.length hm; rwa [List.length_map, desF_len] at h1
  have hrl : (rnsF b t c r).length ≤ 100 := Nat.le_trans (rnsF_len b t c r) (hk.sh 0)
  clear hT
  refine LW.A rfl (LW.S (CW.seq ?_))
  have hU5 := Up.refl w8
  refine CW.region (LW.M rfl ?_)
  refine LW.pp (PEv.lenS Tryz.underlying43 (.tmp rfl)) ?_
  refine LW.pp (PEv.eql (.tmp rfl) (.const _)) ?_
  refine LW.T ?_
  refine CW.cond (.tmp rfl) (fun h39 => ?_) (fun h39 => ?_)
  ·first | replace h39 := dT h39 | replace h39 := dF h39 | skip
   refine CW.S (LW.M rfl (LW.A rfl (LW.T (CW.ret (KW.then_ret ?_)))))
   refine KW.ret1 rfl rfl ⟨_, rfl, ?_⟩
   first | exact ⟨rfl, hS.upd⟩ | exact ⟨rfl, hUp _ hS.fr⟩ | exact ⟨by rw [hsame]; rfl, hUp _ hS.fr⟩
  ·first | replace h39 := dT h39 | replace h39 := dF h39 | skip
   have hne : L.length ≠ 0 := by omega
   refine CW.skip (KW.then (CW.S (LW.M rfl (LW.M rfl ?_))))
   refine LW.pp (PEv.lenS Tryz.underlying43 (.tmp rfl)) ?_
   refine LW.c (enter_call0 (.cons (.tmp rfl) (.cons (.tmp rfl) .nil)) (Tryz.en13)) rfl rfl rfl rfl (pick_any _ _ _ (by omega)) ?_
   rintro _ w9 ⟨rfl, uw9⟩
   have zw9 := uw9.size
   replace hS := hS.up uw9
   replace hU5 := hU5.up uw9
   have hkr := pick_range (c := which) (n := (L.length : Int)) hwhich (by omega)
   obtain ⟨k, ek⟩ := Int.eq_ofNat_of_zero_le hkr.1
   rw [ek] at hkr ⊢
   refine LW.A rfl (LW.S ?_)
   obtain ⟨x, hx⟩ := getElem?_of_lt (xs := L) (i := k) (by omega)
   obtain ⟨p, hp⟩ := getElem?_of_lt (xs := rnsF b t c r) (i := k) (by omega)
   have hxd : x.dec = { decF b t c r p.Time ((rnsF b t c r).take k) with run := p.ID } := Option.some.inj ((dp_at hm hx).symm.trans (desF_at hp))
   have hxr : x.dec.run = p.ID := by rw [hxd]
   have hpf := hk.run (List.mem_of_getElem? hp)
   obtain ⟨Bx, ox, ax, hcx⟩ := (show Els w9 ad36 6 DP.cells L from (hS.own 1 rfl).els (fun _ => rfl)) k x hx
   subst ax
   refine CW.boxU 13 10 11 8 15 53 (Fact.cells zeroF) [.eq (.agg bc), .eq (.slice (some ⟨Bx, ox, none⟩) L.length cp36), .eq (vi (k : Int)), .eq (.pointer (some ⟨Bx, ox + k * 6, none⟩)), .eq (.pointer (some ⟨Bx, ox + k * 6, none⟩)), .eq (vi p.ID), .eq (.tuple #[.agg p.cells, .bool true]), .eq (.tuple #[.agg p.cells, .bool true]), .eq (.agg p.cells), .eq (.bool true), .pred fun v _ => ∃ B, v = .pointer (some ⟨B, 0, none⟩), .eq (undef), .eq (.bool true)] [16] Tryz.zeroValue50 Tryz.sizeOf50 (by kernel_rfl) rfl (by kernel_rfl) (by kernel_rfl) (by kernel_rfl) (by kernel_rfl) (by kernel_rfl) (by kernel_rfl) (by kernel_rfl) rfl rfl ⟨_, _, _, rfl⟩ _ rfl ⟨_, _, _, rfl⟩ ⟨PhT.eq _ _, PhT.eq _ _, PhT.eq _ _, PhT.eq _ _, PhT.eq _ _, PhT.eq _ _, PhT.eq _ _, PhT.eq _ _, PhT.eq _ _, PhT.eq _ _, PhT.pred fun _ _ _ h _ => h, PhT.eq _ _, PhT.eq _ _, trivial⟩ rfl (fun v W h => ⟨_, h, rfl, Fact.one p⟩) (fun B W => ⟨B, rfl⟩) ?_ ?_
   ·intro W hU0
    have hU := (Up.drew w9).trans hU0
    have hSW := hS.up hU
    refine allL.cons (.inr ⟨rfl, TU.p (PEv.loadA Tryz.isAgg24 Tryz.sizeOf24 hC.size (.tmp rfl) (hSW.blk 0 rfl).agg) rfl⟩) ?_
    refine allL.cons (.inr ⟨rfl, TU.p (PEv.move (.tmp rfl)) rfl⟩) ?_
    refine allL.cons (.inr ⟨rfl, TU.p (PEv.move (.tmp rfl)) rfl⟩) ?_
    refine allL.cons (.inr ⟨rfl, TU.p (PEv.indexAddr' Tryz.underlying43 Tryz.sizeOf37 (.tmp rfl) (.tmp rfl) (by omega) rfl) rfl⟩) ?_
    refine allL.cons (.inr ⟨rfl, TU.p (PEv.fieldAddr (off := 0) Tryz.underlying37 rfl rfl Tryz.sizeOf3 rfl (.tmp rfl)) rfl⟩) ?_
    refine allL.cons (.inr ⟨rfl, TU.p (PEv.load Tryz.isAgg3 (.tmp rfl) (by rw [← hxr]; exact dp_run (hcx.up hU))) rfl⟩) ?_
    refine allL.cons (.inr ⟨rfl, TU.c (enter_call0 (.cons (.tmp rfl) (.cons (.tmp rfl) .nil)) (Tryz.en24)) (Process_any bc b p.ID W (hC.up (hU5.trans hU)) (Nat.le_trans (hk.sh 0) (by decide))) (by rintro _ W1 ⟨rfl, u⟩; rw [hpf]; exact ⟨u, rfl⟩)⟩) ?_
    refine allL.cons (.inr ⟨rfl, TU.p (PEv.move (.tmp rfl)) rfl⟩) ?_
    refine allL.cons (.inr ⟨rfl, TU.p (PEv.extract (.tmp rfl) rfl) rfl⟩) ?_
    refine allL.cons (.inr ⟨rfl, TU.p (PEv.extract (.tmp rfl) rfl) rfl⟩) ?_
    refine allL.cons (.inl (.inl rfl)) ?_
    refine allL.cons (.inl (.inr rfl)) ?_
    refine allL.cons (.inr ⟨rfl, TU.p (PEv.assign (.tmp rfl)) rfl⟩) ?_
    exact allL.nil
   ·intro w10 B15 g hU0 zB15_ hB15 hg
    have hU := (Up.drew w9).trans hU0
    have zw10 := hU.size
    have zdr : w9.drew.heap.size = w9.heap.size := rfl
    have g53_ : g 53 = .agg p.cells := hg 8 _ 53 (by decide) rfl rfl
    have g16_ : g 16 = .bool true := hg 12 _ 16 (by decide) rfl rfl
    rw [g53_] at hB15
    replace hB15 : Blk w10 B15 (p.cells) 50 := hB15
    change LW _ _ _ _ _ _ _ _ ((15, _) :: (16, .eq (g 16)) :: _) _
    rw [g16_]
    clear hg
    replace hU5 := hU5.up hU
    replace hS := (hS.up (Up.drew _)).add hU0 (A' := aBlk B15 (p.cells) 50) hB15 (fun i (e : i = B15) => by omega)
    change Wx.Sep _ _ _ [_, _, _, _] at hS
    clear hB15
    refine LW.S (CW.S (LW.M rfl ?_))
    refine LW.pp (PEv.not (.tmp rfl)) ?_
    refine LW.T ?_
    refine CW.cond_false (.tmp rfl) ?_
    refine CW.skip (KW.then (CW.S ?_))
    refine LW.pp (PEv.loadA Tryz.isAgg24 Tryz.sizeOf24 (hC.size) (.tmp rfl) ((hS.blk 0 rfl).agg)) ?_
    refine LW.r (REv.allocA Tryz.zeroValue24) rfl rfl rfl rfl ?_
    rintro _ w11 ⟨B17, rfl, MB17⟩
    refine LW.s (SEv.storeA Tryz.sizeOf24 hC.size (.tmp rfl) (.tmp rfl) hC.one MB17.blk rfl) rfl rfl rfl ?_
    intro w12 LB17
    have NB17 := MB17.set LB17
    clear LB17 MB17
    have eB17 := NB17.at_
    have zB17 := NB17.size
    replace hU5 := hU5.up NB17.up
    replace hS := hS.addB NB17
    change Wx.Sep _ _ _ [_, _, _, _, _] at hS
    refine LW.S (CW.region ?_)
    refine LW.pp (PEv.fieldAddr (off := 0) Tryz.underlying24 rfl rfl Tryz.sizeOf22 rfl (.tmp rfl)) ?_
    refine LW.s (SEv.store Tryz.sizeOf22 (.tmp rfl) (.const _) rfl (hS.blk 4 rfl) (by have := hC.size; omega)) rfl rfl rfl ?_
    intro w13 Nw13
    have zw13 := Nw13.size
    replace hS := hS.putB 4 rfl Nw13
    change Wx.Sep _ _ _ [_, _, _, _, _] at hS
    replace hU5 := hU5.sto Nw13.sto (by omega)
    refine LW.S (CW.seq ?_)
    have hsz := hC.size
    have hPl : b.Processes.length ≤ 100 := hk.sh 0
    replace hC := hC.up hU5
    have hUL := hS.upd
    obtain ⟨wL, ewL⟩ : ∃ W, W = w13 := ⟨_, rfl⟩
    have hS9 := hS
    rw [← ewL] at hS9 hC
    have hno : ∀ (i : Nat) (n : Int), (bc.setIfInBounds 0 (.slice none 0 0))[i]? ≠ some (vi n) := fun i n => (hC.setProcesses (Sl.nil wL 19 Fact.cells)).no i n
    obtain ⟨v0, h0, adp, cpp, rfl, hEp⟩ := hC.at0
    have hn12 := hS.blkNe 0 4 (by decide) rfl rfl
    have hn15 := hS.blkNe 3 4 (by decide) rfl rfl
    have hsz17 : w0.heap.size ≤ B17 := (hS.foot 4 rfl B17 rfl).resolve_left (fun h => h)
    have h12f : ∀ W, Fr (fun i => i = B17) wL W → Blk W B12 bc 24 := fun W f => (hS9.blk 0 rfl).fr f hn12
    have h15f : ∀ W, Fr (fun i => i = B17) wL W → Blk W B15 p.cells 50 := fun W f => (hS9.blk 3 rfl).fr f hn15
    have hCf : ∀ W, Fr (fun i => i = B17) wL W → BaseC W bc b := fun W f => base_fr hC (hS9.blk 4 rfl) hno f
    have hEf : ∀ W, Fr (fun i => i = B17) wL W → Els W adp 19 Fact.cells b.Processes := fun W f => els_frF hEp (hS9.blk 4 rfl) hno f
    have hOf : ∀ W, Fr (fun i => i = B17) wL W → OwnS W 0 37 6 DP.cells (.slice (some ⟨Bx, ox, none⟩) L.length cp36) L := fun W f => hS9.keepFr (k := 1) rfl f (fun h => hS9.ne (i := 1) (j := 4) (by decide) rfl rfl B17 h rfl)
    have hUf : ∀ W, Fr (fun i => i = B17) wL W → (aAnd (usesA 3 L)).holds W := fun W f => hS9.keepFr (k := 2) rfl f (fun h => hS9.ne (i := 2) (j := 4) (by decide) rfl rfl B17 h rfl)
    have hUp : ∀ W, Fr (fun i => i = B17) wL W → Up w0 W := fun W f => by rw [ewL] at f; exact up_fr hUL f hsz17
    replace hS : Wx.Sep (fun i => i = B17) wL w13 [aBlk B17 (bc.setIfInBounds 0 (.slice none 0 0)) 24] := by rw [ewL]; exact Sep.cons (hS.blk 4 rfl) (fun _ h => h) (Sep.start _ _) (by simp)
    replace hS := hS.add (Up.refl _) (A' := aOwn 50 19 Fact.cells (.slice none 0 0) ([] : List Fact)) (OwnS.nil _ _ _ _ _) (by intro i h; cases h)
    change Wx.Sep _ _ _ [_, _] at hS
    clear hC
    refine CW.region (LW.C (LW.T (CW.block ?_)))
    refine CW.loopB (σ := Nat × Go.Value) (fun s w => (s.1 ≤ b.Processes.length) ∧ (∀ f ∈ b.Processes.take s.1, (fun f : Fact => (!decide (f.ID = p.ID) && decide (f.Time = p.Time) && decide (f.Tool = t) && decide (f.Chamber = c))) f = false) ∧ (Wx.Sep (fun i => i = B17) wL w [aBlk B17 (bc.setIfInBounds 0 s.2) 24, aOwn 50 19 Fact.cells s.2 ((b.Processes.take s.1).filter (fun f : Fact => !decide (f.ID = p.ID)))])) (fun s => [(18, .eq (vi (s.1 : Int)))]) ([(1, .eq _), (2, .eq _), (3, .eq _), (11, .eq _), (12, .eq _), (13, .eq _), (14, .eq _), (15, .eq _), (17, .eq _)]) (fun s => b.Processes.length - s.1) (0, .slice none 0 0) ?_ ⟨rfl, rfl, rfl, rfl, rfl, rfl, rfl, rfl, rfl, rfl, trivial⟩ ?_
    ·exact ⟨Nat.zero_le _, (by simp), hS⟩
    ·rintro ⟨j, v⟩ w14 ⟨hj, hno2, hS⟩
     dsimp only at hj hno2 hS
     change CW _ _ _ _ _ _ _ ([(18, .eq (vi (j : Int)))] ++ _) _
     refine CW.seq (CW.S (LW.M rfl ?_))
     refine LW.pp (PEv.fieldAddr (off := 0) Tryz.underlying24 rfl rfl Tryz.sizeOf22 rfl (.tmp rfl)) ?_
     refine LW.pp (PEv.load Tryz.isAgg22 (.tmp rfl) ((h12f _ hS.fr).cell h0)) ?_
     refine LW.pp (PEv.lenS Tryz.underlying22 (.tmp rfl)) ?_
     refine LW.pp (PEv.lss (.tmp rfl) (.tmp rfl)) ?_
     refine LW.T ?_
     refine CW.cond (.tmp rfl) (fun h63 => ?_) (fun h63 => ?_)
     ·first | replace h63 := dT h63 | replace h63 := dF h63 | skip
      refine CW.skip (KW.then (CW.seq (CW.block (CW.seq ?_))))
      have hEp := hEf _ hS.fr
      refine CW.region ?_
      refine LW.pp (PEv.fieldAddr (off := 0) Tryz.underlying24 rfl rfl Tryz.sizeOf22 rfl (.tmp rfl)) ?_
      refine LW.pp (PEv.load Tryz.isAgg22 (.tmp rfl) ((h12f _ hS.fr).cell h0)) ?_
      refine LW.M rfl ?_
      obtain ⟨x, hx⟩ := getElem?_of_lt (xs := b.Processes) (i := j) (by omega)
      obtain ⟨Bx, ox, ax, hcx⟩ := hEp _ x hx
      refine LW.pp (PEv.indexAddr' Tryz.underlying22 Tryz.sizeOf50 (.tmp rfl) (.tmp rfl) (by omega) ax) ?_
      refine LW.pp (PEv.loadA Tryz.isAgg50 Tryz.sizeOf50 rfl (.tmp rfl) (hcx)) ?_
      refine LW.r (REv.allocA Tryz.zeroValue50) rfl rfl rfl rfl ?_
      rintro _ w15 ⟨B19, rfl, MB19⟩
      refine LW.s (SEv.storeA Tryz.sizeOf50 rfl (.tmp rfl) (.tmp rfl) (Fact.one _) MB19.blk rfl) rfl rfl rfl ?_
      intro w16 LB19
      have NB19 := MB19.set LB19
      clear LB19 MB19
      have eB19 := NB19.at_
      have zB19 := NB19.size
      replace hcx := hcx.up NB19.up
      replace hS := hS.addB NB19
      change Wx.Sep _ _ _ [_, _, _] at hS
      refine LW.S (CW.S ?_)
      refine LW.pp (PEv.fieldAddr (off := 1) Tryz.underlying50 rfl rfl Tryz.sizeOf3 rfl (.tmp rfl)) ?_
      refine LW.pp (PEv.load Tryz.isAgg3 (.tmp rfl) ((hS.blk 2 rfl).celln rfl)) ?_
      refine LW.pp (PEv.fieldAddr (off := 1) Tryz.underlying50 rfl rfl Tryz.sizeOf3 rfl (.tmp rfl)) ?_
      refine LW.pp (PEv.load Tryz.isAgg3 (.tmp rfl) ((h15f _ hS.fr).celln rfl)) ?_
      refine LW.pp (PEv.neq (.tmp rfl) (.tmp rfl)) ?_
      refine LW.M rfl ?_
      refine LW.g rfl rfl rfl rfl rfl rfl rfl (fun hc => PEv.fieldAddr (off := 5) Tryz.underlying50 rfl rfl Tryz.sizeOf3 rfl (.tmp rfl)) ?_
      refine LW.g rfl rfl rfl rfl rfl rfl rfl (fun hc => PEv.load Tryz.isAgg3 (by first | exact .tmp rfl | exact .cond rfl (by first | assumption | simp_all)) ((hS.blk 2 rfl).celln rfl)) ?_
      refine LW.g rfl rfl rfl rfl rfl rfl rfl (fun hc => PEv.fieldAddr (off := 5) Tryz.underlying50 rfl rfl Tryz.sizeOf3 rfl (.tmp rfl)) ?_
      refine LW.g rfl rfl rfl rfl rfl rfl rfl (fun hc => PEv.load Tryz.isAgg3 (by first | exact .tmp rfl | exact .cond rfl (by first | assumption | simp_all)) ((h15f _ hS.fr).celln rfl)) ?_
      refine LW.g rfl rfl rfl rfl rfl rfl rfl (fun hc => PEv.eql (by first | exact .tmp rfl | exact .cond rfl (by first | assumption | simp_all)) (by first | exact .tmp rfl | exact .cond rfl (by first | assumption | simp_all))) ?_
      refine LW.pp (PEv.pick_and (.tmp rfl) (fun hp => (by first | exact .const _ | exact .tmp rfl | exact .cond rfl (by first | assumption | (rw [hp]; rfl) | (rw [hc, hp]; rfl) | simp_all)))) ?_
      refine LW.M rfl ?_
      refine LW.g rfl rfl rfl rfl rfl rfl rfl (fun hc => PEv.fieldAddr (off := 11) Tryz.underlying50 rfl rfl Tryz.sizeOf3 rfl (.tmp rfl)) ?_
      refine LW.g rfl rfl rfl rfl rfl rfl rfl (fun hc => PEv.load Tryz.isAgg3 (by first | exact .tmp rfl | exact .cond rfl (by first | assumption | simp_all)) ((hS.blk 2 rfl).celln rfl)) ?_
      refine LW.g rfl rfl rfl rfl rfl rfl rfl (fun hc => PEv.move (.tmp rfl)) ?_
      refine LW.g rfl rfl rfl rfl rfl rfl rfl (fun hc => PEv.eql (by first | exact .tmp rfl | exact .cond rfl (by first | assumption | simp_all)) (by first | exact .tmp rfl | exact .cond rfl (by first | assumption | simp_all))) ?_
      refine LW.pp (PEv.pick_and (.tmp rfl) (fun hp => (by first | exact .const _ | exact .tmp rfl | exact .cond rfl (by first | assumption | (rw [hp]; rfl) | (rw [hc, hp]; rfl) | simp_all)))) ?_
      refine LW.M rfl ?_
      refine LW.g rfl rfl rfl rfl rfl rfl rfl (fun hc => PEv.fieldAddr (off := 12) Tryz.underlying50 rfl rfl Tryz.sizeOf3 rfl (.tmp rfl)) ?_
      refine LW.g rfl rfl rfl rfl rfl rfl rfl (fun hc => PEv.load Tryz.isAgg3 (by first | exact .tmp rfl | exact .cond rfl (by first | assumption | simp_all)) ((hS.blk 2 rfl).celln rfl)) ?_
      refine LW.g rfl rfl rfl rfl rfl rfl rfl (fun hc => PEv.move (.tmp rfl)) ?_
      refine LW.g rfl rfl rfl rfl rfl rfl rfl (fun hc => PEv.eql (by first | exact .tmp rfl | exact .cond rfl (by first | assumption | simp_all)) (by first | exact .tmp rfl | exact .cond rfl (by first | assumption | simp_all))) ?_
      refine LW.pp (PEv.pick_and (.tmp rfl) (fun hp => (by first | exact .const _ | exact .tmp rfl | exact .cond rfl (by first | assumption | (rw [hp]; rfl) | (rw [hc, hp]; rfl) | simp_all)))) ?_
      refine LW.T ?_
      refine CW.cond (.tmp rfl) (fun h94 => ?_) (fun h94 => ?_)
      ·first | replace h94 := dT h94 | replace h94 := dF h94 | skip
       skip
       refine CW.S (LW.M rfl (LW.A rfl (LW.T (CW.ret (KW.then_ret (KW.block_ret (KW.then_ret (KW.then_ret (KW.block_ret (KW.then_ret ?_))))))))))
       refine KW.ret1 rfl rfl ⟨_, rfl, ?_⟩
       first | exact ⟨rfl, hS.upd⟩ | exact ⟨rfl, hUp _ hS.fr⟩ | exact ⟨by rw [hsame]; rfl, hUp _ hS.fr⟩
      ·first | replace h94 := dT h94 | replace h94 := dF h94 | skip
       have hnx : (fun f : Fact => (!decide (f.ID = p.ID) && decide (f.Time = p.Time) && decide (f.Tool = t) && decide (f.Chamber = c))) x = false := by simpa using h94
       refine CW.skip (KW.then (CW.S ?_))
       refine LW.pp (PEv.fieldAddr (off := 1) Tryz.underlying50 rfl rfl Tryz.sizeOf3 rfl (.tmp rfl)) ?_
       refine LW.pp (PEv.load Tryz.isAgg3 (.tmp rfl) ((hS.blk 2 rfl).celln rfl)) ?_
       refine LW.pp (PEv.fieldAddr (off := 1) Tryz.underlying50 rfl rfl Tryz.sizeOf3 rfl (.tmp rfl)) ?_
       refine LW.pp (PEv.load Tryz.isAgg3 (.tmp rfl) ((h15f _ hS.fr).celln rfl)) ?_
       refine LW.pp (PEv.neq (.tmp rfl) (.tmp rfl)) ?_
       refine LW.T ?_
       refine CW.cond (.tmp rfl) (fun h100 => ?_) (fun h100 => ?_)
       ·first | replace h100 := dT h100 | replace h100 := dF h100 | skip
        have hid : (fun f : Fact => !decide (f.ID = p.ID)) x = true := by simpa using h100
        refine CW.region ?_
        refine LW.pp (PEv.fieldAddr (off := 0) Tryz.underlying24 rfl rfl Tryz.sizeOf22 rfl (.tmp rfl)) ?_
        refine LW.pp (PEv.load Tryz.isAgg22 (.tmp rfl) ((hS.blk 0 rfl).cell (by rw [Array.getElem?_setIfInBounds_self_of_lt (by rw [hsz]; decide)]))) ?_
        refine LW.pp (PEv.loadA Tryz.isAgg50 Tryz.sizeOf50 rfl (.tmp rfl) ((hS.blk 2 rfl).agg)) ?_
        refine LW.r (REv.buildSlice (xs := [x]) (enc := Fact.cells) (mk := fun f : Fact => .agg f.cells) Tryz.underlying22 Tryz.sizeOf50 Tryz.zeroValue50 rfl (by decide) (fun _ => rfl) (fun _ => rfl) (.cons (.tmp rfl) .nil) rfl) rfl rfl rfl rfl ?_
        rintro _ w17 ⟨B104, cB104, rfl, NB104, yB104, xB104⟩
        have eB104 := NB104.at_
        have zB104 := NB104.size
        replace hS := hS.up NB104.up
        have hE104 := xB104
        refine LW.r (REv.appendF (enc := Fact.cells) (bytes := 160) (i := Tryz.t50) Tryz.underlying22 (by kernel_rfl) rfl rfl rfl rfl (by decide) (fun _ => rfl) Fact.one (.tmp rfl) (.tmp rfl) (hS.own 1 rfl) (Sl.of_els hE104) (by have := filt_len (fun f : Fact => !decide (f.ID = p.ID)) b.Processes j; simp [maxLen]; omega) (by have := filt_len (fun f : Fact => !decide (f.ID = p.ID)) b.Processes j; simp; omega)) rfl rfl rfl rfl ?_
        intro v105 w18 Gw18
        have zw18 := Gw18.fr.size
        replace hS := hS.stp 1 rfl Gw18
        change Wx.Sep _ _ _ [_, _, _] at hS
        refine LW.pp (PEv.fieldAddr (off := 0) Tryz.underlying24 rfl rfl Tryz.sizeOf22 rfl (.tmp rfl)) ?_
        refine LW.s (SEv.store Tryz.sizeOf22 (.tmp rfl) (.tmp rfl) ((hS.own 1 rfl).oneV (fun _ => rfl)) (hS.blk 0 rfl) (by rw [Array.size_setIfInBounds, hsz]; decide)) rfl rfl rfl ?_
        intro w19 Nw19
        have zw19 := Nw19.size
        replace hS := hS.putB 0 rfl (by rw [set00] at Nw19; exact Nw19)
        change Wx.Sep _ _ _ [_, _, _] at hS
        refine LW.nil (KW.inBlock (KW.then (CW.region (LW.M rfl ?_))))
        refine LW.pp (PEv.inc (.tmp rfl) (by omega)) ?_
        refine LW.A rfl (LW.nil (KW.round ?_))
        first | exact ⟨(j + 1, v105), ⟨by show j + 1 ≤ _; omega, take_none hx hno2 hnx, by first | (rw [fp_yes hx hid]; exact hS.take 2) | (rw [fp_no hx hid]; exact hS.take 2)⟩, ⟨rfl, rfl, rfl, rfl, rfl, rfl, rfl, rfl, rfl, rfl, trivial⟩, by show b.Processes.length - (j + 1) < b.Processes.length - j; omega⟩ | exact ⟨(j + 1, v), ⟨by show j + 1 ≤ _; omega, take_none hx hno2 hnx, by first | (rw [fp_yes hx hid]; exact hS.take 2) | (rw [fp_no hx hid]; exact hS.take 2)⟩, ⟨rfl, rfl, rfl, rfl, rfl, rfl, rfl, rfl, rfl, rfl, trivial⟩, by show b.Processes.length - (j + 1) < b.Processes.length - j; omega⟩
       ·first | replace h100 := dT h100 | replace h100 := dF h100 | skip
        have hid : (fun f : Fact => !decide (f.ID = p.ID)) x = false := by simpa using h100
        refine CW.skip (KW.inBlock (KW.then (CW.region (LW.M rfl ?_))))
        refine LW.pp (PEv.inc (.tmp rfl) (by omega)) ?_
        refine LW.A rfl (LW.nil (KW.round ?_))
        first | exact ⟨(j + 1, v105), ⟨by show j + 1 ≤ _; omega, take_none hx hno2 hnx, by first | (rw [fp_yes hx hid]; exact hS.take 2) | (rw [fp_no hx hid]; exact hS.take 2)⟩, ⟨rfl, rfl, rfl, rfl, rfl, rfl, rfl, rfl, rfl, rfl, trivial⟩, by show b.Processes.length - (j + 1) < b.Processes.length - j; omega⟩ | exact ⟨(j + 1, v), ⟨by show j + 1 ≤ _; omega, take_none hx hno2 hnx, by first | (rw [fp_yes hx hid]; exact hS.take 2) | (rw [fp_no hx hid]; exact hS.take 2)⟩, ⟨rfl, rfl, rfl, rfl, rfl, rfl, rfl, rfl, rfl, rfl, trivial⟩, by show b.Processes.length - (j + 1) < b.Processes.length - j; omega⟩
     ·first | replace h63 := dT h63 | replace h63 := dF h63 | skip
      refine CW.exit (KW.then_exit (KW.then_exit (KW.block_hit (KW.then (CW.seq ?_)))))
      have hjl : j = b.Processes.length := by omega
      rw [hjl, List.take_length] at hS hno2
      have hC2 : BaseC w14 (bc.setIfInBounds 0 v) (lessP b p.ID) := (hCf _ hS.fr).setProcesses ((hS.own 1 rfl).sl (fun _ => rfl))
      refine CW.region ?_
      refine LW.pp (PEv.loadA Tryz.isAgg24 Tryz.sizeOf24 ((by rw [Array.size_setIfInBounds, hsz])) (.tmp rfl) ((hS.blk 0 rfl).agg)) ?_
      refine LW.M rfl (LW.M rfl (LW.M rfl ?_))
      refine LW.pp (PEv.fieldAddr (off := 5) Tryz.underlying50 rfl rfl Tryz.sizeOf3 rfl (.tmp rfl)) ?_
      refine LW.pp (PEv.load Tryz.isAgg3 (.tmp rfl) ((h15f _ hS.fr).celln rfl)) ?_
      refine LW.c (enter_call0 (.cons (.tmp rfl) (.cons (.tmp rfl) (.cons (.tmp rfl) (.cons (.tmp rfl) (.cons (.tmp rfl) .nil))))) (Tryz.en14)) rfl rfl rfl rfl (Decide_own _ (lessP b p.ID) t c r p.Time _ hC2 (Nat.le_trans (List.length_filter_le _ _) (Nat.le_trans (hk.sh 0) (by decide))) (Nat.le_trans (hk.sh 8) (by decide)) (Nat.le_trans (hk.sh 1) (by decide)) (Nat.le_trans (hk.sh 9) (by decide))) ?_
      rintro _ w20 ⟨ad9, cp9, rfl, hO9, uw20⟩
      have zw20 := uw20.size
      replace hS := hS.add uw20 (A' := aOwn 3 1 eInt (.slice ad9 (decNow (lessP b p.ID) t c r p.Time).uses.length cp9) (decNow (lessP b p.ID) t c r p.Time).uses) (hO9.mono (Nat.zero_le _)) (fun i h => hO9.base i h)
      change Wx.Sep _ _ _ [_, _, _] at hS
      clear hO9
      refine LW.M rfl (LW.pp (PEv.extract (.tmp rfl) rfl) (LW.pp (PEv.extract (.tmp rfl) rfl) ?_))
      refine LW.r (REv.allocA Tryz.zeroValue37) rfl rfl rfl rfl ?_
      rintro _ w21 ⟨B20, rfl, MB20⟩
      refine LW.s (SEv.storeA Tryz.sizeOf37 rfl (.tmp rfl) (.tmp rfl) (DP.one _) MB20.blk rfl) rfl rfl rfl ?_
      intro w22 LB20
      have NB20 := MB20.set LB20
      clear LB20 MB20
      have eB20 := NB20.at_
      have zB20 := NB20.size
      replace hS := hS.addB NB20
      change Wx.Sep _ _ _ [_, _, _, _] at hS
      refine LW.A rfl (LW.S (CW.region ?_))
      refine LW.pp (PEv.fieldAddr (off := 1) Tryz.underlying50 rfl rfl Tryz.sizeOf3 rfl (.tmp rfl)) ?_
      refine LW.pp (PEv.load Tryz.isAgg3 (.tmp rfl) ((h15f _ hS.fr).celln rfl)) ?_
      refine LW.pp (PEv.fieldAddr (off := 0) Tryz.underlying37 rfl rfl Tryz.sizeOf3 rfl (.tmp rfl)) ?_
      refine LW.s (SEv.store Tryz.sizeOf3 (.tmp rfl) (.tmp rfl) rfl (hS.blk 3 rfl) (Nat.le_of_ble_eq_true rfl)) rfl rfl rfl ?_
      intro w23 Nw23
      have zw23 := Nw23.size
      replace hS := hS.putB 3 rfl (show Set_ _ w23 _ (DP.cells ⟨{ decNow (lessP b p.ID) t c r p.Time with run := p.ID }, ad9, cp9⟩) _ from Nw23)
      change Wx.Sep _ _ _ [_, _, _, _] at hS
      refine LW.S ?_
      have hcx : AggAt w23 Bx (ox + k * 6) x.cells := by
       obtain ⟨B2, o2, e2, h2⟩ := (show Els w23 (some ⟨Bx, ox, none⟩) 6 DP.cells L from (hOf _ hS.fr).els (fun _ => rfl)) k x hx
       cases e2
       exact h2
      have hUx := usesA_get (hUf _ hS.fr)
      have hsame : sameD { decNow (lessP b p.ID) t c r p.Time with run := p.ID } x.dec = true := (sameD_iff _ _).2 ((next_plain hk hp hno2).trans hxd.symm)
      refine CW.draws (by kernel_rfl) (by kernel_rfl) rfl rfl ?_
      refine HW.pp (PEv.move (.tmp rfl)) ?_
      refine HW.pp (PEv.move (.tmp rfl)) ?_
      refine HW.yp rfl rfl rfl rfl rfl (PEv.move (.tmp rfl)) rfl ?_
      refine HW.yp rfl rfl rfl rfl rfl (PEv.tr (PEv.eql (.tmp rfl) (.const _)) (rfl)) rfl ?_
      refine HW.pp (PEv.pick_and (.tmp rfl) (fun hp => (by first | exact .const _ | exact .tmp rfl | exact .cond rfl (by first | assumption | (rw [hp]; rfl) | (rw [hc, hp]; rfl) | simp_all)))) ?_
      refine HW.pp (PEv.move (.tmp rfl)) ?_
      refine HW.yp rfl rfl rfl rfl rfl (PEv.loadA Tryz.isAgg37 Tryz.sizeOf37 rfl (.tmp rfl) ((hS.blk 3 rfl).agg)) rfl ?_
      refine HW.yp rfl rfl rfl rfl rfl (PEv.move (.tmp rfl)) rfl ?_
      refine HW.yp rfl rfl rfl rfl rfl (PEv.move (.tmp rfl)) rfl ?_
      refine HW.yp rfl rfl rfl rfl rfl (PEv.indexAddr Tryz.underlying43 Tryz.sizeOf37 (.tmp rfl) (.tmp rfl) (by omega)) rfl ?_
      refine HW.yp rfl rfl rfl rfl rfl (PEv.loadA Tryz.isAgg37 Tryz.sizeOf37 rfl (.tmp rfl) (hcx)) rfl ?_
      refine HW.yc rfl rfl rfl rfl rfl (fun a w _ ha => enter_call0 (.cons (.tmp rfl) (.cons (.tmp rfl) .nil)) (Tryz.en16) a ha) rfl (fun w hu => same_any (⟨{ decNow (lessP b p.ID) t c r p.Time with run := p.ID }, ad9, cp9⟩ : DP) x w (((hS.own 2 rfl).sl (fun _ => rfl)).up hu) ((hUx x (List.mem_of_getElem? hx)).up hu) (by show (decNow (lessP b p.ID) t c r p.Time).uses.length ≤ _; have h1 := decF_uses (lessP b p.ID) t c r p.Time ((rnsF (lessP b p.ID) t c r).filter fun x => decide (x.Time ≤ p.Time)); have h2 := List.length_filter_le (fun x : Fact => decide (x.Time ≤ p.Time)) (rnsF (lessP b p.ID) t c r); have h3 := rnsF_len (lessP b p.ID) t c r; have h4 : (lessP b p.ID).Processes.length ≤ b.Processes.length := List.length_filter_le _ _; have h5 : b.Processes.length ≤ 100 := hk.sh 0; unfold decNow; omega)) ?_
      refine HW.pp (PEv.pick_and (.tmp rfl) (fun hp => (by first | exact .const _ | exact .tmp rfl | exact .cond rfl (by first | assumption | (rw [hp]; rfl) | (rw [hc, hp]; rfl) | simp_all)))) ?_
      refine HW.pp (PEv.assign (.tmp rfl)) ?_
      refine HW.nil ?_
      intro w24 uw24
      have zw24 := uw24.size
      replace hS := hS.up uw24
      refine KW.then (CW.ret ?_)
      refine KW.ret1 rfl rfl ⟨_, rfl, ?_⟩
      first | exact ⟨rfl, hS.upd⟩ | exact ⟨rfl, hUp _ hS.fr⟩ | exact ⟨by rw [hsame]; rfl, hUp _ hS.fr⟩
end Go.Proofs.YtgffaeachbbjoaaGreatDoor
end
