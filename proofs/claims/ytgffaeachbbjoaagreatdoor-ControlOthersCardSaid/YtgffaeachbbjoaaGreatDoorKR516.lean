import Derived.Test.YtgffaeachbbjoaaGreatDoorKR515
section
namespace Go.Wx
def sameD (a b : Dec) : Bool := decide (a.run = b.run) && rtB a.par b.par && rtB a.est b.est && decide (a.uses = b.uses)
theorem sameD_iff (a b : Dec) : sameD a b = true ↔ a = b := by
  obtain ⟨a1, a2, a3, a4⟩ := a
  obtain ⟨b1, b2, b3, b4⟩ := b
  unfold sameD
  simp only [Bool.and_eq_true, decide_eq_true_eq, rtB_iff, Dec.mk.injEq, and_assoc]
theorem sameD_self (a : Dec) : sameD a a = true := (sameD_iff a a).2 rfl
def sameDs : List Dec → List Dec → Bool
  | [], [] => true
  | a :: l, b :: m => sameD a b && sameDs l m
  | _, _ => false
theorem sameDs_self : ∀ l : List Dec, sameDs l l = true
  | [] => rfl
  | a :: l => by unfold sameDs; rw [sameD_self, sameDs_self l]; rfl
theorem ints_step {l m : List Int} {k : Nat} {x y : Int} (hx : l[k]? = some x) (hy : m[k]? = some y) (h : l.take k = m.take k) (e : x = y) : l.take (k + 1) = m.take (k + 1) := by
  rw [take_one hx, take_one hy, h, e]
theorem same_no {a b : Dec} (h : (!decide (a.run = b.run) || !rtB a.par b.par || !rtB a.est b.est || !decide ((a.uses.length : Int) = (b.uses.length : Int))) = true) : sameD a b = false := by
  cases hs : sameD a b with
  | false => rfl
  | true =>
    have e := (sameD_iff a b).1 hs
    subst e
    simp [rtB_self] at h
theorem same_no2 {a b : Dec} {k : Nat} {x y : Int} (hx : a.uses[k]? = some x) (hy : b.uses[k]? = some y) (h : x ≠ y) : sameD a b = false := by
  cases hs : sameD a b with
  | false => rfl
  | true =>
    have e := (sameD_iff a b).1 hs
    subst e
    rw [hx] at hy
    exact absurd (Option.some.inj hy) h
theorem same_yes {a b : Dec} (h : (!decide (a.run = b.run) || !rtB a.par b.par || !rtB a.est b.est || !decide ((a.uses.length : Int) = (b.uses.length : Int))) = false) (hu : a.uses = b.uses) : sameD a b = true := by
  simp only [Bool.or_eq_false_iff, Bool.not_eq_false'] at h
  unfold sameD
  rw [h.1.1.1, h.1.1.2, h.1.2, hu, decide_eq_true rfl]; rfl
theorem sameDs_len : ∀ {l m : List Dec}, l.length ≠ m.length → sameDs l m = false
  | [], [], h => absurd rfl h
  | [], _ :: _, _ => rfl
  | _ :: _, [], _ => rfl
  | a :: l, b :: m, h => by unfold sameDs; rw [sameDs_len (fun e => h (by simp [e])), Bool.and_false]
theorem sameDs_step {l m : List Dec} {k : Nat} {x y : Dec} (hx : l[k]? = some x) (hy : m[k]? = some y) : sameDs (l.drop k) (m.drop k) = (sameD x y && sameDs (l.drop (k + 1)) (m.drop (k + 1))) := by
  have h1 := (List.getElem?_eq_some_iff.1 hx)
  have h2 := (List.getElem?_eq_some_iff.1 hy)
  rw [List.drop_eq_getElem_cons h1.1, List.drop_eq_getElem_cons h2.1, h1.2, h2.2]; rfl
theorem sameDs_end {l m : List Dec} {k : Nat} (h1 : l.length ≤ k) (h2 : m.length ≤ k) : sameDs (l.drop k) (m.drop k) = true := by
  rw [List.drop_eq_nil_of_le h1, List.drop_eq_nil_of_le h2]; rfl
theorem dp_at {L : List DP} {Ds : List Dec} {k : Nat} {p : DP} (hm : L.map DP.dec = Ds) (h : L[k]? = some p) : Ds[k]? = some p.dec := by rw [← hm, List.getElem?_map, h]; rfl
theorem dp_uses {w : World} {B o : Nat} {p : DP} (h : AggAt w B o p.cells) : w.cell? ⟨B, o + 5, none⟩ = some p.uv := h 5 _ rfl
theorem dp_run {w : World} {B o : Nat} {p : DP} (h : AggAt w B o p.cells) : w.cell? ⟨B, o, none⟩ = some (vi p.dec.run) := h 0 _ rfl
theorem dp_est {w : World} {B o : Nat} {p : DP} (h : AggAt w B o p.cells) : AggAt w B (o + 3) p.dec.est.cells := fun j v hv => by
  have h2 : p.cells[3 + j]? = some v := by
    match j with
    | 0 => simpa [Rt.cells, DP.cells, DecV.cells, Dec.v] using hv
    | 1 => simpa [Rt.cells, DP.cells, DecV.cells, Dec.v] using hv
    | j + 2 => simp [Rt.cells] at hv
  have := h (3 + j) v h2
  rwa [show o + (3 + j) = o + 3 + j by omega] at this
theorem dp_par0 {w : World} {B : Nat} {p : DP} {T : TypeId} (h : Blk w B p.cells T) : AggAt w B 1 p.dec.par.cells := by have := dp_par h.agg; rwa [Nat.zero_add] at this
theorem dp_est0 {w : World} {B : Nat} {p : DP} {T : TypeId} (h : Blk w B p.cells T) : AggAt w B 3 p.dec.est.cells := by have := dp_est h.agg; rwa [Nat.zero_add] at this
theorem els_p {w : World} {ad : Option Addr} {p q r : DP} (h : Els w ad 6 DP.cells [p, q, r]) : ∃ B o, ad = some ⟨B, o, none⟩ ∧ AggAt w B (o + 0 * 6) p.cells ∧ AggAt w B (o + 1 * 6) q.cells ∧ AggAt w B (o + 2 * 6) r.cells := by
  obtain ⟨B, o, e, h0⟩ := h 0 p rfl
  obtain ⟨B1, o1, e1, h1⟩ := h 1 q rfl
  obtain ⟨B2, o2, e2, h2⟩ := h 2 r rfl
  cases e.symm.trans e1
  cases e.symm.trans e2
  exact ⟨B, o, e, h0, h1, h2⟩
theorem sl_hd {w : World} {ad : Option Addr} {n c : Nat} {x : Int} {xs : List Int} (h : Sl w (.slice ad n c) 1 eInt (x :: xs)) : ∃ B o, ad = some ⟨B, o, none⟩ ∧ AggAt w B (o + 0 * 1) (eInt x) := by
  obtain ⟨ad, c, e, hE⟩ := h
  cases e
  obtain ⟨B, o, e1, h1⟩ := hE 0 x rfl
  exact ⟨B, o, e1, h1⟩
theorem dps3 {L : List DP} {a b c : Dec} (h : L.map DP.dec = [a, b, c]) : ∃ a1 c1 a2 c2 a3 c3, L = [⟨a, a1, c1⟩, ⟨b, a2, c2⟩, ⟨c, a3, c3⟩] := by
  match L, h with
  | [⟨p, a1, c1⟩, ⟨q, a2, c2⟩, ⟨r, a3, c3⟩], h =>
    injection h with h1 h
    injection h with h2 h
    injection h with h3 _
    dsimp only at h1 h2 h3
    subst h1 h2 h3
    exact ⟨a1, c1, a2, c2, a3, c3, rfl⟩
theorem exV : ∀ f ∈ exB.Processes, inI f.Value := fun f hf => by
  rcases List.mem_cons.1 hf with rfl | hf
  · exact ⟨by decide, by decide⟩
  · rcases List.mem_cons.1 hf with rfl | hf
    · exact ⟨by decide, by decide⟩
    · rcases List.mem_cons.1 hf with rfl | hf
      · exact ⟨by decide, by decide⟩
      · cases hf
theorem els_stoF {w w' : World} {B : Nat} {cs : Array Value} {T : TypeId} {ad : Option Addr} {xs : List Fact} (h : Els w ad 19 Fact.cells xs) (hb : Blk w B cs T) (hc : ∀ (i : Nat) (n : Int), cs[i]? ≠ some (vi n)) (u : Sto B w w') : Els w' ad 19 Fact.cells xs := fun i x hx => by
  obtain ⟨B', o, e, h1⟩ := h i x hx
  refine ⟨B', o, e, h1.sto u ?_⟩
  intro e2
  have h2 := h1 0 (vi x.Kind) rfl
  rw [e2] at h2
  have h3 : cs[o + i * 19 + 0]? = some (vi x.Kind) := by
    unfold World.cell? at h2
    rw [show w.heap[B]? = some (.cells cs T (0, 0)) from hb] at h2
    simpa using h2
  exact hc _ _ h3
theorem sl_stoF {w w' : World} {B : Nat} {cs : Array Value} {T : TypeId} {v : Value} {xs : List Fact} (h : Sl w v 19 Fact.cells xs) (hb : Blk w B cs T) (hc : ∀ (i : Nat) (n : Int), cs[i]? ≠ some (vi n)) (u : Sto B w w') : Sl w' v 19 Fact.cells xs := let ⟨ad, c, e, hE⟩ := h; ⟨ad, c, e, els_stoF hE hb hc u⟩
theorem base_sto {w w' : World} {B : Nat} {cs : Array Value} {T : TypeId} {bc : Array Value} {b : Base} (h : BaseC w bc b) (hb : Blk w B cs T) (hc : ∀ (i : Nat) (n : Int), cs[i]? ≠ some (vi n)) (u : Sto B w w') : BaseC w' bc b := by
  obtain ⟨v0, v1, v2, v3, v4, v5, v6, v7, v8, v9, v10, e, h0, h1, h2, h3, h4, h5, h6, h7, h8, h9, h10⟩ := h
  have f : ∀ {v : Value} {xs : List Fact}, Sl w v 19 Fact.cells xs → Sl w' v 19 Fact.cells xs := fun h => sl_stoF h hb hc u
  exact ⟨v0, v1, v2, v3, v4, v5, v6, v7, v8, v9, v10, e, f h0, f h1, f h2, f h3, f h4, f h5, f h6, f h7, f h8, f h9, f h10⟩
end Go.Wx
namespace Go.Proofs.YtgffaeachbbjoaaGreatDoor
open Go.Wx Go.RowKit
theorem rwhole_any (n : Int) (w : World) : Ret Tryz.prog 28 #[vi n] w fun r w' => r = .agg (rI n).cells ∧ Up w w' := by
  obtain ⟨w0, rfl⟩ : ∃ w0, w0 = w := ⟨_, rfl⟩
  have hS := Sep.start no w0
  refine Calls_start (n := 5) (m := 9) Tryz.func28 rfl rfl rfl ?_
  refine CW.S ?_
  refine LW.r (REv.allocA Tryz.zeroValue34) rfl rfl rfl rfl ?_
  rintro _ w1 ⟨B2, rfl, NB2⟩
  have eB2 := NB2.at_
  have zB2 := NB2.size
  replace hS := hS.addB NB2
  change Wx.Sep _ _ _ [_] at hS
  refine LW.S (CW.region (LW.M rfl ?_))
  refine LW.pp (PEv.build (cs := (rI n).cells) Tryz.underlying34 Tryz.zeroValue34 Tryz.places34 (.cons (.tmp rfl) (.cons (.const _) .nil)) rfl) ?_
  refine LW.s (SEv.storeA Tryz.sizeOf34 rfl (.tmp rfl) (.tmp rfl) (Rt.one _) (hS.blk 0 rfl) rfl) rfl rfl rfl ?_
  intro w2 Nw2
  have zw2 := Nw2.size
  replace hS := hS.putB 0 rfl (show Set_ _ w2 _ ((rI n).cells) _ from Nw2)
  change Wx.Sep _ _ _ [_] at hS
  refine LW.T (CW.ret ?_)
  refine KW.retA rfl rfl Tryz.isAgg34 Tryz.sizeOf34 rfl ((hS.blk 0 rfl).agg) ⟨_, rfl, ?_⟩
  exact ⟨rfl, hS.upd⟩
theorem run_any (i t v : Int) (w : World) : Ret Tryz.prog 56 #[vi i, vi t, vi v] w fun r w' => r = .agg (exR i t v).cells ∧ Up w w' := by
  obtain ⟨w0, rfl⟩ : ∃ w0, w0 = w := ⟨_, rfl⟩
  have hS := Sep.start no w0
  refine Calls_start (n := 12) (m := 9) Tryz.func56 rfl rfl rfl ?_
  refine CW.S ?_
  refine LW.r (REv.allocA Tryz.zeroValue50) rfl rfl rfl rfl ?_
  rintro _ w1 ⟨B6, rfl, NB6⟩
  have eB6 := NB6.at_
  have zB6 := NB6.size
  replace hS := hS.addB NB6
  change Wx.Sep _ _ _ [_] at hS
  refine LW.S (CW.region (LW.M rfl (LW.M rfl (LW.M rfl (LW.M rfl ?_)))))
  refine LW.pp (PEv.build (cs := (exR i t v).cells) Tryz.underlying50 Tryz.zeroValue50 Tryz.places50 (.cons (.const _) (.cons (.const _) (.cons (.tmp rfl) (.cons (.const _) (.cons (.const _) (.cons (.const _) (.cons (.const _) (.cons (.tmp rfl) (.cons (.tmp rfl) (.cons (.tmp rfl) .nil)))))))))) (by kernel_rfl)) ?_
  refine LW.s (SEv.storeA Tryz.sizeOf50 rfl (.tmp rfl) (.tmp rfl) (Fact.one _) (hS.blk 0 rfl) rfl) rfl rfl rfl ?_
  intro w2 Nw2
  have zw2 := Nw2.size
  replace hS := hS.putB 0 rfl (show Set_ _ w2 _ ((exR i t v).cells) _ from Nw2)
  change Wx.Sep _ _ _ [_] at hS
  refine LW.T (CW.ret ?_)
  refine KW.retA rfl rfl Tryz.isAgg50 Tryz.sizeOf50 rfl ((hS.blk 0 rfl).agg) ⟨_, rfl, ?_⟩
  exact ⟨rfl, hS.upd⟩
theorem example_any (w : World) : Ret Tryz.prog 30 #[] w fun r w' => ∃ bc, r = .agg bc ∧ BaseC w' bc exB ∧ Up w w' := by
  have hW := Up.refl w
  obtain ⟨w0, rfl⟩ : ∃ w0, w0 = w := ⟨_, rfl⟩
  refine Calls_start (n := 11) (m := 9) Tryz.func30 rfl rfl rfl ?_
  refine CW.S ?_
  refine LW.r (REv.allocA Tryz.zeroValue24) rfl rfl rfl rfl ?_
  rintro _ w1 ⟨B0, rfl, NB0⟩
  have eB0 := NB0.at_
  have zB0 := NB0.size
  replace hW := hW.up NB0.up
  have hB0 := NB0.blk
  refine LW.S (CW.region ?_)
  refine LW.c (enter_call0 (.cons (.const _) (.cons (.const _) (.cons (.const _) .nil))) (Tryz.en56)) rfl rfl rfl rfl (run_any _ _ _ _) ?_
  rintro _ w2 ⟨rfl, uw2⟩
  have zw2 := uw2.size
  replace hW := hW.up uw2
  replace hB0 := hB0.up uw2
  refine LW.c (enter_call0 (.cons (.const _) (.cons (.const _) (.cons (.const _) .nil))) (Tryz.en56)) rfl rfl rfl rfl (run_any _ _ _ _) ?_
  rintro _ w3 ⟨rfl, uw3⟩
  have zw3 := uw3.size
  replace hW := hW.up uw3
  replace hB0 := hB0.up uw3
  refine LW.c (enter_call0 (.cons (.const _) (.cons (.const _) (.cons (.const _) .nil))) (Tryz.en56)) rfl rfl rfl rfl (run_any _ _ _ _) ?_
  rintro _ w4 ⟨rfl, uw4⟩
  have zw4 := uw4.size
  replace hW := hW.up uw4
  replace hB0 := hB0.up uw4
  refine LW.r (REv.buildSlice (xs := [exR 1 10 0, exR 2 20 98000, exR 3 30 100000]) (enc := Fact.cells) (mk := fun f : Fact => .agg f.cells) Tryz.underlying22 Tryz.sizeOf50 Tryz.zeroValue50 rfl (by decide) (fun _ => rfl) (fun _ => rfl) (.cons (.tmp rfl) (.cons (.tmp rfl) (.cons (.tmp rfl) .nil))) rfl) rfl rfl rfl rfl ?_
  rintro _ w5 ⟨B4, cB4, rfl, NB4, yB4, xB4⟩
  have eB4 := NB4.at_
  have zB4 := NB4.size
  replace hW := hW.up NB4.up
  replace hB0 := hB0.up NB4.up
  have hB4 := NB4.blk
  have hE4 := xB4
  refine LW.pp (PEv.build (cs := exT.cells) Tryz.underlying50 Tryz.zeroValue50 Tryz.places50 (.cons (.const _) (.cons (.const _) (.cons (.const _) (.cons (.const _) .nil)))) (by kernel_rfl)) ?_
  refine LW.r (REv.buildSlice (xs := [exT]) (enc := Fact.cells) (mk := fun f : Fact => .agg f.cells) Tryz.underlying22 Tryz.sizeOf50 Tryz.zeroValue50 rfl (by decide) (fun _ => rfl) (fun _ => rfl) (.cons (.tmp rfl) .nil) rfl) rfl rfl rfl rfl ?_
  rintro _ w6 ⟨B6, cB6, rfl, NB6, yB6, xB6⟩
  have eB6 := NB6.at_
  have zB6 := NB6.size
  replace hW := hW.up NB6.up
  replace hB0 := hB0.up NB6.up
  replace hB4 := hB4.up NB6.up
  replace hE4 := hE4.up NB6.up
  have hB6 := NB6.blk
  have hE6 := xB6
  refine LW.pp (PEv.build (cs := (exM 1 15 108).cells) Tryz.underlying50 Tryz.zeroValue50 Tryz.places50 (.cons (.const _) (.cons (.const _) (.cons (.const _) (.cons (.const _) (.cons (.const _) .nil))))) (by kernel_rfl)) ?_
  refine LW.pp (PEv.build (cs := (exM 2 25 101).cells) Tryz.underlying50 Tryz.zeroValue50 Tryz.places50 (.cons (.const _) (.cons (.const _) (.cons (.const _) (.cons (.const _) (.cons (.const _) .nil))))) (by kernel_rfl)) ?_
  refine LW.r (REv.buildSlice (xs := [exM 1 15 108, exM 2 25 101]) (enc := Fact.cells) (mk := fun f : Fact => .agg f.cells) Tryz.underlying22 Tryz.sizeOf50 Tryz.zeroValue50 rfl (by decide) (fun _ => rfl) (fun _ => rfl) (.cons (.tmp rfl) (.cons (.tmp rfl) .nil)) rfl) rfl rfl rfl rfl ?_
  rintro _ w7 ⟨B9, cB9, rfl, NB9, yB9, xB9⟩
  have eB9 := NB9.at_
  have zB9 := NB9.size
  replace hW := hW.up NB9.up
  replace hB0 := hB0.up NB9.up
  replace hB4 := hB4.up NB9.up
  replace hE4 := hE4.up NB9.up
  replace hB6 := hB6.up NB9.up
  replace hE6 := hE6.up NB9.up
  have hB9 := NB9.blk
  have hE9 := xB9
  refine LW.pp (PEv.build (cs := #[.slice (some ⟨B4, 0, none⟩) 3 3, .slice (some ⟨B9, 0, none⟩) 2 2, .slice none 0 0, .slice none 0 0, .slice none 0 0, .slice none 0 0, .slice none 0 0, .slice none 0 0, .slice none 0 0, .slice (some ⟨B6, 0, none⟩) 1 1, .slice none 0 0]) Tryz.underlying24 Tryz.zeroValue24 Tryz.places24 (.cons (.tmp rfl) (.cons (.tmp rfl) (.cons (.tmp rfl) .nil))) (by kernel_rfl)) ?_
  refine LW.s (SEv.storeA Tryz.sizeOf24 rfl (.tmp rfl) (.tmp rfl) (by simp [Value.oneCell']) hB0 rfl) rfl rfl rfl ?_
  intro w8 Nw8
  have zw8 := Nw8.size
  replace hW := hW.sto Nw8.sto (by omega)
  replace hB4 := hB4.sto Nw8.sto (by omega)
  replace hE4 := hE4.sto Nw8.sto (by omega)
  replace hB6 := hB6.sto Nw8.sto (by omega)
  replace hE6 := hE6.sto Nw8.sto (by omega)
  replace hB9 := hB9.sto Nw8.sto (by omega)
  replace hE9 := hE9.sto Nw8.sto (by omega)
  replace hB0 := Nw8.blk
  refine LW.T (CW.ret ?_)
  refine KW.retA rfl rfl Tryz.isAgg24 Tryz.sizeOf24 rfl (hB0.agg) ⟨_, rfl, ?_⟩
  exact ⟨_, rfl, ⟨_, _, _, _, _, _, _, _, _, _, _, rfl, Sl.of_els hE4, Sl.of_els hE9, Sl.nil _ _ _, Sl.nil _ _ _, Sl.nil _ _ _, Sl.nil _ _ _, Sl.nil _ _ _, Sl.nil _ _ _, Sl.nil _ _ _, Sl.of_els hE6, Sl.nil _ _ _⟩, hW⟩
theorem same_any (p q : DP) (w : World) (hp0 : Sl w p.uv 1 eInt p.dec.uses) (hq0 : Sl w q.uv 1 eInt q.dec.uses) (hl : p.dec.uses.length ≤ 100000) : Ret Tryz.prog 16 #[.agg p.cells, .agg q.cells] w fun r w' => r = .bool (sameD p.dec q.dec) ∧ Up w w' := by
  obtain ⟨w0, rfl⟩ : ∃ w0, w0 = w := ⟨_, rfl⟩
  have hS := Sep.start no w0
  obtain ⟨ad0, cp0, ev0, hE0⟩ := hp0
  obtain ⟨ad1, cp1, ev1, hE1⟩ := hq0
  cases ev0
  cases ev1
  refine Calls_start (n := 52) (m := 9) Tryz.func16 rfl rfl rfl ?_
  refine CW.S ?_
  refine LW.r (REv.boxA (.tmp rfl)) rfl rfl rfl rfl ?_
  rintro _ w1 ⟨B2, rfl, NB2⟩
  have eB2 := NB2.at_
  have zB2 := NB2.size
  replace hS := hS.addB NB2
  change Wx.Sep _ _ _ [_] at hS
  refine LW.r (REv.boxA (.tmp rfl)) rfl rfl rfl rfl ?_
  rintro _ w2 ⟨B3, rfl, NB3⟩
  have eB3 := NB3.at_
  have zB3 := NB3.size
  replace hS := hS.addB NB3
  change Wx.Sep _ _ _ [_, _] at hS
  refine LW.C (LW.S (CW.S ?_))
  refine LW.pp (PEv.fieldAddr (off := 0) Tryz.underlying37 rfl rfl Tryz.sizeOf3 rfl (.tmp rfl)) ?_
  refine LW.pp (PEv.load Tryz.isAgg3 (.tmp rfl) ((hS.blk 0 rfl).celln rfl)) ?_
  refine LW.pp (PEv.fieldAddr (off := 0) Tryz.underlying37 rfl rfl Tryz.sizeOf3 rfl (.tmp rfl)) ?_
  refine LW.pp (PEv.load Tryz.isAgg3 (.tmp rfl) ((hS.blk 1 rfl).celln rfl)) ?_
  refine LW.pp (PEv.neq (.tmp rfl) (.tmp rfl)) ?_
  refine LW.M rfl ?_
  refine LW.g rfl rfl rfl rfl rfl rfl rfl (fun hc => PEv.fieldAddr (off := 1) Tryz.underlying37 rfl rfl Tryz.sizeOf34 rfl (.tmp rfl)) ?_
  refine LW.g rfl rfl rfl rfl rfl rfl rfl (fun hc => PEv.loadA Tryz.isAgg34 Tryz.sizeOf34 rfl (by first | exact .tmp rfl | exact .cond rfl (by first | assumption | simp_all)) (dp_par0 (hS.blk 0 rfl))) ?_
  refine LW.g rfl rfl rfl rfl rfl rfl rfl (fun hc => PEv.fieldAddr (off := 1) Tryz.underlying37 rfl rfl Tryz.sizeOf34 rfl (.tmp rfl)) ?_
  refine LW.g rfl rfl rfl rfl rfl rfl rfl (fun hc => PEv.loadA Tryz.isAgg34 Tryz.sizeOf34 rfl (by first | exact .tmp rfl | exact .cond rfl (by first | assumption | simp_all)) (dp_par0 (hS.blk 1 rfl))) ?_
  refine LW.g rfl rfl rfl rfl rfl rfl rfl (fun hc => PEv.neqA Tryz.eqGuardType34 (Tryz.eqRt _ _) (by first | exact .tmp rfl | exact .cond rfl (by first | assumption | simp_all)) (by first | exact .tmp rfl | exact .cond rfl (by first | assumption | simp_all))) ?_
  refine LW.pp (PEv.pick_or (.tmp rfl) (fun hp => (by first | exact .const _ | exact .tmp rfl | exact .cond rfl (by first | assumption | (rw [hp]; rfl) | (rw [hc, hp]; rfl) | simp_all)))) ?_
  refine LW.M rfl ?_
  refine LW.g rfl rfl rfl rfl rfl rfl rfl (fun hc => PEv.fieldAddr (off := 3) Tryz.underlying37 rfl rfl Tryz.sizeOf34 rfl (.tmp rfl)) ?_
  refine LW.g rfl rfl rfl rfl rfl rfl rfl (fun hc => PEv.loadA Tryz.isAgg34 Tryz.sizeOf34 rfl (by first | exact .tmp rfl | exact .cond rfl (by first | assumption | simp_all)) (dp_est0 (hS.blk 0 rfl))) ?_
  refine LW.g rfl rfl rfl rfl rfl rfl rfl (fun hc => PEv.fieldAddr (off := 3) Tryz.underlying37 rfl rfl Tryz.sizeOf34 rfl (.tmp rfl)) ?_
  refine LW.g rfl rfl rfl rfl rfl rfl rfl (fun hc => PEv.loadA Tryz.isAgg34 Tryz.sizeOf34 rfl (by first | exact .tmp rfl | exact .cond rfl (by first | assumption | simp_all)) (dp_est0 (hS.blk 1 rfl))) ?_
  refine LW.g rfl rfl rfl rfl rfl rfl rfl (fun hc => PEv.neqA Tryz.eqGuardType34 (Tryz.eqRt _ _) (by first | exact .tmp rfl | exact .cond rfl (by first | assumption | simp_all)) (by first | exact .tmp rfl | exact .cond rfl (by first | assumption | simp_all))) ?_
  refine LW.pp (PEv.pick_or (.tmp rfl) (fun hp => (by first | exact .const _ | exact .tmp rfl | exact .cond rfl (by first | assumption | (rw [hp]; rfl) | (rw [hc, hp]; rfl) | simp_all)))) ?_
  refine LW.M rfl ?_
  refine LW.g rfl rfl rfl rfl rfl rfl rfl (fun hc => PEv.fieldAddr (off := 5) Tryz.underlying37 rfl rfl Tryz.sizeOf35 rfl (.tmp rfl)) ?_
  refine LW.g rfl rfl rfl rfl rfl rfl rfl (fun hc => PEv.load Tryz.isAgg35 (by first | exact .tmp rfl | exact .cond rfl (by first | assumption | simp_all)) ((hS.blk 0 rfl).celln rfl)) ?_
  refine LW.g rfl rfl rfl rfl rfl rfl rfl (fun hc => PEv.lenS Tryz.underlying35 (by first | exact .tmp rfl | exact .cond rfl (by first | assumption | simp_all))) ?_
  refine LW.g rfl rfl rfl rfl rfl rfl rfl (fun hc => PEv.fieldAddr (off := 5) Tryz.underlying37 rfl rfl Tryz.sizeOf35 rfl (.tmp rfl)) ?_
  refine LW.g rfl rfl rfl rfl rfl rfl rfl (fun hc => PEv.load Tryz.isAgg35 (by first | exact .tmp rfl | exact .cond rfl (by first | assumption | simp_all)) ((hS.blk 1 rfl).celln rfl)) ?_
  refine LW.g rfl rfl rfl rfl rfl rfl rfl (fun hc => PEv.lenS Tryz.underlying35 (by first | exact .tmp rfl | exact .cond rfl (by first | assumption | simp_all))) ?_
  refine LW.g rfl rfl rfl rfl rfl rfl rfl (fun hc => PEv.neq (by first | exact .tmp rfl | exact .cond rfl (by first | assumption | simp_all)) (by first | exact .tmp rfl | exact .cond rfl (by first | assumption | simp_all))) ?_
  refine LW.pp (PEv.pick_or (.tmp rfl) (fun hp => (by first | exact .const _ | exact .tmp rfl | exact .cond rfl (by first | assumption | (rw [hp]; rfl) | (rw [hc, hp]; rfl) | simp_all)))) ?_
  refine LW.T ?_
  refine CW.cond (.tmp rfl) (fun h33 => ?_) (fun h33 => ?_)
  ·first | replace h33 := dT h33 | replace h33 := dF h33 | skip
   have hno : sameD p.dec q.dec = false := same_no h33
   refine CW.S (LW.C (LW.T (CW.ret (KW.then_ret ?_))))
   refine KW.ret1 rfl rfl ⟨_, rfl, ?_⟩
   first | exact ⟨by rw [hno], hS.upd⟩ | exact ⟨by rw [same_yes hyes (by have hkl : k = p.dec.uses.length := (by omega); rw [hkl, List.take_length, hll, List.take_length] at ht; exact ht)], hS.upd⟩
  ·first | replace h33 := dT h33 | replace h33 := dF h33 | skip
   have hyes : (!decide (p.dec.run = q.dec.run) || !rtB p.dec.par q.dec.par || !rtB p.dec.est q.dec.est || !decide ((p.dec.uses.length : Int) = (q.dec.uses.length : Int))) = false := h33
   have hll : p.dec.uses.length = q.dec.uses.length := by simp at hyes; omega
   refine CW.skip (KW.then (CW.seq (CW.S (LW.C (LW.T (CW.block ?_))))))
   refine CW.loopB (σ := Nat) (fun s w => (s ≤ p.dec.uses.length) ∧ (p.dec.uses.take s = q.dec.uses.take s) ∧ (Wx.Sep no w0 w [aBlk B2 p.cells 37, aBlk B3 q.cells 37])) (fun s => [(5, .eq (vi (s : Int)))]) ([(2, .eq _), (3, .eq _)]) (fun s => p.dec.uses.length - s) 0 ?_ ⟨rfl, rfl, rfl, trivial⟩ ?_
   ·exact ⟨Nat.zero_le _, rfl, hS⟩
   ·rintro k w3 ⟨hk, ht, hS⟩
    refine CW.seq (CW.S (LW.M rfl ?_))
    refine LW.pp (PEv.fieldAddr (off := 5) Tryz.underlying37 rfl rfl Tryz.sizeOf35 rfl (.tmp rfl)) ?_
    refine LW.pp (PEv.load Tryz.isAgg35 (.tmp rfl) ((hS.blk 0 rfl).celln rfl)) ?_
    refine LW.pp (PEv.lenS Tryz.underlying35 (.tmp rfl)) ?_
    refine LW.pp (PEv.lss (.tmp rfl) (.tmp rfl)) ?_
    refine LW.T ?_
    refine CW.cond (.tmp rfl) (fun h38 => ?_) (fun h38 => ?_)
    ·first | replace h38 := dT h38 | replace h38 := dF h38 | skip
     refine CW.skip (KW.then (CW.seq (CW.block (CW.seq ?_))))
     obtain ⟨x, hx⟩ := getElem?_of_lt (xs := p.dec.uses) (i := k) (by omega)
     obtain ⟨y, hy⟩ := getElem?_of_lt (xs := q.dec.uses) (i := k) (by omega)
     obtain ⟨Bx, ox, ax, hcx⟩ := (Els.up hE0 hS.upd) k x hx
     obtain ⟨By, oy, ay, hcy⟩ := (Els.up hE1 hS.upd) k y hy
     refine CW.draws (by kernel_rfl) (by kernel_rfl) rfl rfl ?_
     refine HW.pp (PEv.fieldAddr (off := 5) Tryz.underlying37 rfl rfl Tryz.sizeOf35 rfl (.tmp rfl)) ?_
     refine HW.pp (PEv.load Tryz.isAgg35 (.tmp rfl) ((hS.blk 0 rfl).celln rfl)) ?_
     refine HW.pp (PEv.move (.tmp rfl)) ?_
     refine HW.pp (PEv.indexAddr' Tryz.underlying35 Tryz.sizeOf3 (.tmp rfl) (.tmp rfl) (by omega) ax) ?_
     refine HW.pp (PEv.load Tryz.isAgg3 (.tmp rfl) (hcx.nth (j := 0) rfl)) ?_
     refine HW.pp (PEv.fieldAddr (off := 5) Tryz.underlying37 rfl rfl Tryz.sizeOf35 rfl (.tmp rfl)) ?_
     refine HW.pp (PEv.load Tryz.isAgg35 (.tmp rfl) ((hS.blk 1 rfl).celln rfl)) ?_
     refine HW.pp (PEv.move (.tmp rfl)) ?_
     refine HW.pp (PEv.indexAddr' Tryz.underlying35 Tryz.sizeOf3 (.tmp rfl) (.tmp rfl) (by omega) ay) ?_
     refine HW.pp (PEv.load Tryz.isAgg3 (.tmp rfl) (hcy.nth (j := 0) rfl)) ?_
     refine HW.pp (PEv.neq (.tmp rfl) (.tmp rfl)) ?_
     refine HW.nil ?_
     intro w4 uw4
     have zw4 := uw4.size
     replace hS := hS.up uw4
     refine KW.then ?_
     refine CW.cond (.tmp rfl) (fun h51 => ?_) (fun h51 => ?_)
     ·first | replace h51 := dT h51 | replace h51 := dF h51 | skip
      have hno : sameD p.dec q.dec = false := same_no2 hx hy (by simpa using h51)
      refine CW.S (LW.C (LW.T (CW.ret (KW.block_ret (KW.then_ret (KW.then_ret (KW.block_ret (KW.then_ret ?_))))))))
      refine KW.ret1 rfl rfl ⟨_, rfl, ?_⟩
      first | exact ⟨by rw [hno], hS.upd⟩ | exact ⟨by rw [same_yes hyes (by have hkl : k = p.dec.uses.length := (by omega); rw [hkl, List.take_length, hll, List.take_length] at ht; exact ht)], hS.upd⟩
     ·first | replace h51 := dT h51 | replace h51 := dF h51 | skip
      have hxy : x = y := by simpa using h51
      refine CW.skip (KW.inBlock (KW.then (CW.region (LW.M rfl ?_))))
      refine LW.pp (PEv.inc (.tmp rfl) (by omega)) ?_
      refine LW.A rfl (LW.nil (KW.round ?_))
      exact ⟨k + 1, ⟨by omega, ints_step hx hy ht hxy, hS.take 2⟩, ⟨rfl, rfl, rfl, trivial⟩, by omega⟩
    ·first | replace h38 := dT h38 | replace h38 := dF h38 | skip
     refine CW.exit (KW.then_exit (KW.then_exit (KW.block_hit (KW.then (CW.S (LW.C (LW.T (CW.ret ?_))))))))
     refine KW.ret1 rfl rfl ⟨_, rfl, ?_⟩
     first | exact ⟨by rw [hno], hS.upd⟩ | exact ⟨by rw [same_yes hyes (by have hkl : k = p.dec.uses.length := (by omega); rw [hkl, List.take_length, hll, List.take_length] at ht; exact ht)], hS.upd⟩
theorem sameList_any (v1 v2 : Go.Value) (l m : List Dec) (w : World) (h1 : DecsE w v1 l) (h2 : DecsE w v2 m) (hl : l.length ≤ 100000) (hu0 : ∀ D ∈ l, D.uses.length ≤ 100000) : Ret Tryz.prog 17 #[v1, v2] w fun r w' => r = .bool (sameDs l m) ∧ Up w w' := by
  have hW := Up.refl w
  obtain ⟨w0, rfl⟩ : ∃ w0, w0 = w := ⟨_, rfl⟩
  obtain ⟨L, ⟨ad1, cp1, rfl, hE1⟩, hL1, hm1⟩ := h1
  obtain ⟨M, ⟨ad2, cp2, rfl, hE2⟩, hL2, hm2⟩ := h2
  have hz1 : L.length = l.length := by rw [← hm1, List.length_map]
  have hz2 : M.length = m.length := by rw [← hm2, List.length_map]
  refine Calls_start (n := 27) (m := 9) Tryz.func17 rfl rfl rfl ?_
  refine CW.S (LW.C (LW.S (CW.S (LW.M rfl ?_))))
  refine LW.pp (PEv.lenS Tryz.underlying43 (.tmp rfl)) ?_
  refine LW.M rfl ?_
  refine LW.pp (PEv.lenS Tryz.underlying43 (.tmp rfl)) ?_
  refine LW.pp (PEv.neq (.tmp rfl) (.tmp rfl)) ?_
  refine LW.T ?_
  refine CW.cond (.tmp rfl) (fun h10 => ?_) (fun h10 => ?_)
  ·first | replace h10 := dT h10 | replace h10 := dF h10 | skip
   have hne : l.length ≠ m.length := by simp at h10; omega
   refine CW.S (LW.C (LW.T (CW.ret (KW.then_ret ?_))))
   refine KW.ret1 rfl rfl ⟨_, rfl, ?_⟩
   first | exact ⟨by rw [sameDs_len hne], hW⟩ | exact ⟨by rw [ht, sameDs_step hdx hdy, hno, Bool.false_and], hW⟩ | exact ⟨by rw [ht, sameDs_end (by omega) (by omega)], hW⟩
  ·first | replace h10 := dT h10 | replace h10 := dF h10 | skip
   have hlm : l.length = m.length := by simp at h10; omega
   refine CW.skip (KW.then (CW.seq (CW.S (LW.C (LW.T (CW.block ?_))))))
   refine CW.loopB (σ := Nat) (fun s w => (s ≤ L.length) ∧ (sameDs l m = sameDs (l.drop s) (m.drop s)) ∧ (Up w0 w)) (fun s => [(5, .eq (vi (s : Int)))]) ([(0, .eq _), (1, .eq _)]) (fun s => L.length - s) 0 ?_ ⟨rfl, rfl, rfl, trivial⟩ ?_
   ·exact ⟨Nat.zero_le _, rfl, hW⟩
   ·rintro k w1 ⟨hk, ht, hW⟩
    refine CW.seq (CW.S (LW.M rfl (LW.M rfl ?_)))
    refine LW.pp (PEv.lenS Tryz.underlying43 (.tmp rfl)) ?_
    refine LW.pp (PEv.lss (.tmp rfl) (.tmp rfl)) ?_
    refine LW.T ?_
    refine CW.cond (.tmp rfl) (fun h14 => ?_) (fun h14 => ?_)
    ·first | replace h14 := dT h14 | replace h14 := dF h14 | skip
     refine CW.skip (KW.then (CW.seq (CW.block (CW.seq ?_))))
     obtain ⟨x, hx⟩ := getElem?_of_lt (xs := L) (i := k) (by omega)
     obtain ⟨y, hy⟩ := getElem?_of_lt (xs := M) (i := k) (by omega)
     obtain ⟨Bx, ox, ax, hcx⟩ := (Els.up hE1 hW) k x hx
     obtain ⟨By, oy, ay, hcy⟩ := (Els.up hE2 hW) k y hy
     have hdx := dp_at hm1 hx
     have hdy := dp_at hm2 hy
     refine CW.draws (by kernel_rfl) (by kernel_rfl) rfl rfl ?_
     refine HW.pp (PEv.move (.tmp rfl)) ?_
     refine HW.pp (PEv.move (.tmp rfl)) ?_
     refine HW.pp (PEv.indexAddr' Tryz.underlying43 Tryz.sizeOf37 (.tmp rfl) (.tmp rfl) (by omega) ax) ?_
     refine HW.pp (PEv.loadA Tryz.isAgg37 Tryz.sizeOf37 rfl (.tmp rfl) (hcx)) ?_
     refine HW.pp (PEv.move (.tmp rfl)) ?_
     refine HW.pp (PEv.move (.tmp rfl)) ?_
     refine HW.pp (PEv.indexAddr' Tryz.underlying43 Tryz.sizeOf37 (.tmp rfl) (.tmp rfl) (by omega) ay) ?_
     refine HW.pp (PEv.loadA Tryz.isAgg37 Tryz.sizeOf37 rfl (.tmp rfl) (hcy)) ?_
     refine HW.c (fun a w _ ha => enter_call0 (.cons (.tmp rfl) (.cons (.tmp rfl) .nil)) (Tryz.en16) a ha) rfl rfl (fun w hu => same_any x y w ((hL1 x (List.mem_of_getElem? hx)).up (hW.trans hu)) ((hL2 y (List.mem_of_getElem? hy)).up (hW.trans hu)) (hu0 _ (List.mem_of_getElem? hdx))) ?_
     refine HW.pp (PEv.not (.tmp rfl)) ?_
     refine HW.nil ?_
     intro w2 uw2
     have zw2 := uw2.size
     replace hW := hW.up uw2
     refine KW.then ?_
     refine CW.cond (.tmp rfl) (fun h26 => ?_) (fun h26 => ?_)
     ·first | replace h26 := dT h26 | replace h26 := dF h26 | skip
      have hno : sameD x.dec y.dec = false := by simpa using h26
      refine CW.S (LW.C (LW.T (CW.ret (KW.block_ret (KW.then_ret (KW.then_ret (KW.block_ret (KW.then_ret ?_))))))))
      refine KW.ret1 rfl rfl ⟨_, rfl, ?_⟩
      first | exact ⟨by rw [sameDs_len hne], hW⟩ | exact ⟨by rw [ht, sameDs_step hdx hdy, hno, Bool.false_and], hW⟩ | exact ⟨by rw [ht, sameDs_end (by omega) (by omega)], hW⟩
     ·first | replace h26 := dT h26 | replace h26 := dF h26 | skip
      have hys : sameD x.dec y.dec = true := by simpa using h26
      refine CW.skip (KW.inBlock (KW.then (CW.region (LW.M rfl ?_))))
      refine LW.pp (PEv.inc (.tmp rfl) (by omega)) ?_
      refine LW.A rfl (LW.nil (KW.round ?_))
      exact ⟨k + 1, ⟨by omega, by rw [ht, sameDs_step hdx hdy, hys, Bool.true_and], hW⟩, ⟨rfl, rfl, rfl, trivial⟩, by first | omega | (dsimp only; omega)⟩
    ·first | replace h14 := dT h14 | replace h14 := dF h14 | skip
     refine CW.exit (KW.then_exit (KW.then_exit (KW.block_hit (KW.then (CW.S (LW.C (LW.T (CW.ret ?_))))))))
     refine KW.ret1 rfl rfl ⟨_, rfl, ?_⟩
     first | exact ⟨by rw [sameDs_len hne], hW⟩ | exact ⟨by rw [ht, sameDs_step hdx hdy, hno, Bool.false_and], hW⟩ | exact ⟨by rw [ht, sameDs_end (by omega) (by omega)], hW⟩
end Go.Proofs.YtgffaeachbbjoaaGreatDoor
end
section
namespace Go.Proofs.YtgffaeachbbjoaaGreatDoor
open Go.Wx Go.RowKit
theorem ex2_any (bc : Array Go.Value) (w : World) (hC : BaseC w bc exB) : Ret Tryz.prog 20 #[.agg bc, vi 2] w fun r w' => ∃ v, r = .tuple #[v, .bool true, vi 0] ∧ DecE w' v ⟨2, rI 98, rI 2, [1]⟩ ∧ Up w w' := by
  have h := Explain_any bc exB 2 w hC (by decide) (by decide) (by decide) (by decide) exV
  rw [ex_e2] at h; exact h
theorem ex3_any (bc : Array Go.Value) (w : World) (hC : BaseC w bc exB) : Ret Tryz.prog 20 #[.agg bc, vi 3] w fun r w' => ∃ v, r = .tuple #[v, .bool false, vi 0] ∧ DecE w' v ⟨3, rI 98, rI 2, [1]⟩ ∧ Up w w' := by
  have h := Explain_any bc exB 3 w hC (by decide) (by decide) (by decide) (by decide) exV
  rw [ex_e3] at h; exact h
theorem ex4_any (bc : Array Go.Value) (w : World) (hC : BaseC w bc exB) : Ret Tryz.prog 20 #[.agg bc, vi 4] w fun r w' => ∃ v, r = .tuple #[v, .bool false, vi 200] ∧ DecE w' v dec0 ∧ Up w w' := by
  have h := Explain_any bc exB 4 w hC (by decide) (by decide) (by decide) (by decide) exV
  rw [ex_e4] at h; exact h
theorem exd12_any (bc : Array Go.Value) (w : World) (hC : BaseC w bc exB) : Ret Tryz.prog 14 #[.agg bc, vi 4, vi 0, vi 9, vi 12] w fun r w' => ∃ ad cp, r = .tuple #[.agg (DP.cells ⟨⟨0, rI 100, rI 0, []⟩, ad, cp⟩), vi 0] ∧ Up w w' := by
  have h := Decide_any bc exB 4 0 9 12 w hC (by decide) (by decide) (by decide) (by decide)
  rw [ex_d12] at h
  exact h.mono fun r w' ⟨v, e, ⟨ad, cp, e2, _⟩, u⟩ => ⟨ad, cp, by rw [e, e2], u⟩
theorem exd15_any (bc : Array Go.Value) (w : World) (hC : BaseC w bc exB) : Ret Tryz.prog 14 #[.agg bc, vi 4, vi 0, vi 9, vi 15] w fun r w' => ∃ ad cp, r = .tuple #[.agg (DP.cells ⟨⟨0, rI 98, rI 2, [1]⟩, ad, cp⟩), vi 0] ∧ Up w w' := by
  have h := Decide_any bc exB 4 0 9 15 w hC (by decide) (by decide) (by decide) (by decide)
  rw [ex_d15] at h
  exact h.mono fun r w' ⟨v, e, ⟨ad, cp, e2, _⟩, u⟩ => ⟨ad, cp, by rw [e, e2], u⟩
set_option maxHeartbeats 4000000 in
theorem sane_any (w : World) : Ret Tryz.prog 10 #[] w fun r w' => r = .bool true ∧ Up w w' := by
  obtain ⟨w0, rfl⟩ : ∃ w0, w0 = w := ⟨_, rfl⟩
  have hS := Sep.start no w0
  refine Calls_start (n := 171) (m := 9) Tryz.func10 rfl rfl rfl ?_
  refine CW.S (LW.C (LW.S (CW.region ?_)))
  refine LW.c (enter_call0 .nil (Tryz.en30)) rfl rfl rfl rfl (example_any _) ?_
  rintro _ w1 ⟨bc, rfl, hC, uw1⟩
  have zw1 := uw1.size
  replace hS := hS.up uw1
  refine LW.r (REv.allocA Tryz.zeroValue24) rfl rfl rfl rfl ?_
  rintro _ w2 ⟨B1, rfl, MB1⟩
  refine LW.s (SEv.storeA Tryz.sizeOf24 hC.size (.tmp rfl) (.tmp rfl) hC.one MB1.blk rfl) rfl rfl rfl ?_
  intro w3 LB1
  have NB1 := MB1.set LB1
  clear LB1 MB1
  have eB1 := NB1.at_
  have zB1 := NB1.size
  replace hC := hC.up NB1.up
  replace hS := hS.addB NB1
  change Wx.Sep _ _ _ [_] at hS
  refine LW.S (CW.region ?_)
  refine LW.pp (PEv.loadA Tryz.isAgg24 Tryz.sizeOf24 (hC.size) (.tmp rfl) ((hS.blk 0 rfl).agg)) ?_
  refine LW.c (enter_call0 (.cons (.tmp rfl) (.cons (.const _) (.cons (.const _) (.cons (.const _) .nil)))) (Tryz.en18)) rfl rfl rfl rfl (Decisions_any bc exB 4 0 9 _ (hC) (by decide) (by decide) (by decide) (by decide)) ?_
  rintro v21 w4 ⟨_, L21, rfl, hm21, hT21⟩
  rw [ex_des] at hm21
  obtain ⟨a1, c1, a2, c2, a3, c3, rfl⟩ := dps3 hm21
  replace hS := hS.join hT21
  replace hC := hC.up hT21.upd
  change Wx.Sep no _ _ [_, _, _] at hS
  obtain ⟨ad21, cp21, rfl, _⟩ := (hS.own 1 rfl).sl (fun _ => rfl)
  clear hT21 hm21
  refine LW.A rfl (LW.S (CW.region ?_))
  refine LW.pp (PEv.loadA Tryz.isAgg24 Tryz.sizeOf24 (hC.size) (.tmp rfl) ((hS.blk 0 rfl).agg)) ?_
  refine LW.c (enter_call0 (.cons (.tmp rfl) (.cons (.const _) (.cons (.const _) (.cons (.const _) (.cons (.const _) .nil))))) (Tryz.en14)) rfl rfl rfl rfl (exd12_any bc _ hC) ?_
  rintro _ w5 ⟨ad12_, cd12_, rfl, uw5⟩
  have zw5 := uw5.size
  replace hC := hC.up uw5
  replace hS := hS.up uw5
  refine LW.M rfl (LW.pp (PEv.extract (.tmp rfl) rfl) (LW.pp (PEv.extract (.tmp rfl) rfl) ?_))
  refine LW.r (REv.allocA Tryz.zeroValue37) rfl rfl rfl rfl ?_
  rintro _ w6 ⟨B3, rfl, MB3⟩
  refine LW.s (SEv.storeA Tryz.sizeOf37 rfl (.tmp rfl) (.tmp rfl) (DP.one _) MB3.blk rfl) rfl rfl rfl ?_
  intro w7 LB3
  have NB3 := MB3.set LB3
  clear LB3 MB3
  have eB3 := NB3.at_
  have zB3 := NB3.size
  replace hC := hC.up NB3.up
  replace hS := hS.addB NB3
  change Wx.Sep _ _ _ [_, _, _, _] at hS
  refine LW.A rfl (LW.S (CW.region ?_))
  refine LW.pp (PEv.loadA Tryz.isAgg24 Tryz.sizeOf24 (hC.size) (.tmp rfl) ((hS.blk 0 rfl).agg)) ?_
  refine LW.c (enter_call0 (.cons (.tmp rfl) (.cons (.const _) (.cons (.const _) (.cons (.const _) (.cons (.const _) .nil))))) (Tryz.en14)) rfl rfl rfl rfl (exd15_any bc _ hC) ?_
  rintro _ w8 ⟨ad15_, cd15_, rfl, uw8⟩
  have zw8 := uw8.size
  replace hC := hC.up uw8
  replace hS := hS.up uw8
  refine LW.M rfl (LW.pp (PEv.extract (.tmp rfl) rfl) (LW.pp (PEv.extract (.tmp rfl) rfl) ?_))
  refine LW.r (REv.allocA Tryz.zeroValue37) rfl rfl rfl rfl ?_
  rintro _ w9 ⟨B5, rfl, MB5⟩
  refine LW.s (SEv.storeA Tryz.sizeOf37 rfl (.tmp rfl) (.tmp rfl) (DP.one _) MB5.blk rfl) rfl rfl rfl ?_
  intro w10 LB5
  have NB5 := MB5.set LB5
  clear LB5 MB5
  have eB5 := NB5.at_
  have zB5 := NB5.size
  replace hC := hC.up NB5.up
  replace hS := hS.addB NB5
  change Wx.Sep _ _ _ [_, _, _, _, _] at hS
  refine LW.A rfl (LW.S (CW.region ?_))
  refine LW.pp (PEv.loadA Tryz.isAgg24 Tryz.sizeOf24 (hC.size) (.tmp rfl) ((hS.blk 0 rfl).agg)) ?_
  refine LW.c (enter_call0 (.cons (.tmp rfl) (.cons (.const _) .nil)) (Tryz.en20)) rfl rfl rfl rfl (ex2_any bc _ hC) ?_
  rintro _ w11 ⟨_, rfl, ⟨ae2, ce2, rfl, _⟩, uw11⟩
  have zw11 := uw11.size
  replace hC := hC.up uw11
  replace hS := hS.up uw11
  refine LW.M rfl (LW.pp (PEv.extract (.tmp rfl) rfl) (LW.pp (PEv.extract (.tmp rfl) rfl) (LW.pp (PEv.extract (.tmp rfl) rfl) ?_)))
  refine LW.r (REv.allocA Tryz.zeroValue37) rfl rfl rfl rfl ?_
  rintro _ w12 ⟨B7, rfl, MB7⟩
  refine LW.s (SEv.storeA Tryz.sizeOf37 rfl (.tmp rfl) (.tmp rfl) (DP.one _) MB7.blk rfl) rfl rfl rfl ?_
  intro w13 LB7
  have NB7 := MB7.set LB7
  clear LB7 MB7
  have eB7 := NB7.at_
  have zB7 := NB7.size
  replace hC := hC.up NB7.up
  replace hS := hS.addB NB7
  change Wx.Sep _ _ _ [_, _, _, _, _, _] at hS
  refine LW.A rfl (LW.A rfl (LW.S (CW.region ?_)))
  refine LW.pp (PEv.loadA Tryz.isAgg24 Tryz.sizeOf24 (hC.size) (.tmp rfl) ((hS.blk 0 rfl).agg)) ?_
  refine LW.c (enter_call0 (.cons (.tmp rfl) (.cons (.const _) .nil)) (Tryz.en20)) rfl rfl rfl rfl (ex3_any bc _ hC) ?_
  rintro _ w14 ⟨_, rfl, ⟨ae3, ce3, rfl, _⟩, uw14⟩
  have zw14 := uw14.size
  replace hC := hC.up uw14
  replace hS := hS.up uw14
  refine LW.M rfl (LW.pp (PEv.extract (.tmp rfl) rfl) (LW.pp (PEv.extract (.tmp rfl) rfl) (LW.pp (PEv.extract (.tmp rfl) rfl) ?_)))
  refine LW.r (REv.allocA Tryz.zeroValue37) rfl rfl rfl rfl ?_
  rintro _ w15 ⟨B10, rfl, MB10⟩
  refine LW.s (SEv.storeA Tryz.sizeOf37 rfl (.tmp rfl) (.tmp rfl) (DP.one _) MB10.blk rfl) rfl rfl rfl ?_
  intro w16 LB10
  have NB10 := MB10.set LB10
  clear LB10 MB10
  have eB10 := NB10.at_
  have zB10 := NB10.size
  replace hC := hC.up NB10.up
  replace hS := hS.addB NB10
  change Wx.Sep _ _ _ [_, _, _, _, _, _, _] at hS
  refine LW.A rfl (LW.A rfl (LW.S (CW.region ?_)))
  refine LW.pp (PEv.loadA Tryz.isAgg24 Tryz.sizeOf24 (hC.size) (.tmp rfl) ((hS.blk 0 rfl).agg)) ?_
  refine LW.c (enter_call0 (.cons (.tmp rfl) (.cons (.const _) .nil)) (Tryz.en20)) rfl rfl rfl rfl (ex4_any bc _ hC) ?_
  rintro _ w17 ⟨_, rfl, ⟨ae4, ce4, rfl, _⟩, uw17⟩
  have zw17 := uw17.size
  replace hC := hC.up uw17
  replace hS := hS.up uw17
  refine LW.M rfl (LW.pp (PEv.extract (.tmp rfl) rfl) (LW.pp (PEv.extract (.tmp rfl) rfl) (LW.pp (PEv.extract (.tmp rfl) rfl) ?_)))
  refine LW.r (REv.allocA Tryz.zeroValue37) rfl rfl rfl rfl ?_
  rintro _ w18 ⟨B13, rfl, MB13⟩
  refine LW.s (SEv.storeA Tryz.sizeOf37 rfl (.tmp rfl) (.tmp rfl) (DP.one _) MB13.blk rfl) rfl rfl rfl ?_
  intro w19 LB13
  have NB13 := MB13.set LB13
  clear LB13 MB13
  have eB13 := NB13.at_
  have zB13 := NB13.size
  replace hC := hC.up NB13.up
  replace hS := hS.addB NB13
  change Wx.Sep _ _ _ [_, _, _, _, _, _, _, _] at hS
  refine LW.A rfl (LW.A rfl (LW.S ?_))
  have hB1o := hS.blk 0 rfl
  refine CW.region ?_
  refine LW.pp (PEv.build (cs := exZ.cells) Tryz.underlying50 Tryz.zeroValue50 Tryz.places50 (.cons (.const _) (.cons (.const _) (.cons (.const _) (.cons (.const _) (.cons (.const _) .nil))))) (by kernel_rfl)) ?_
  refine LW.r (REv.buildSlice (xs := [exZ]) (enc := Fact.cells) (mk := fun f : Fact => .agg f.cells) Tryz.underlying22 Tryz.sizeOf50 Tryz.zeroValue50 rfl (by decide) (fun _ => rfl) (fun _ => rfl) (.cons (.tmp rfl) .nil) rfl) rfl rfl rfl rfl ?_
  rintro _ w20 ⟨B51, cB51, rfl, NB51, yB51, xB51⟩
  have eB51 := NB51.at_
  have zB51 := NB51.size
  replace hC := hC.up NB51.up
  replace hS := hS.up NB51.up
  replace hB1o := hB1o.up NB51.up
  have hE51 := xB51
  refine LW.pp (PEv.fieldAddr (off := 8) Tryz.underlying24 rfl rfl Tryz.sizeOf22 rfl (.tmp rfl)) ?_
  refine LW.s (SEv.store Tryz.sizeOf22 (.tmp rfl) (.tmp rfl) rfl (hS.blk 0 rfl) (by have := hC.size; omega)) rfl rfl rfl ?_
  intro w21 Nw21
  have zw21 := Nw21.size
  replace hS := hS.putB 0 rfl Nw21
  change Wx.Sep _ _ _ [_, _, _, _, _, _, _, _] at hS
  replace hC := (base_sto hC hB1o (fun i n => hC.no i n) Nw21.sto).setResets (sl_stoF (Sl.of_els (c := 1) hE51) hB1o (fun i n => hC.no i n) Nw21.sto)
  clear hB1o
  refine LW.S ?_
  replace hC : BaseC w21 _ exB2 := hC
  refine CW.region ?_
  refine LW.pp (PEv.loadA Tryz.isAgg24 Tryz.sizeOf24 (hC.size) (.tmp rfl) ((hS.blk 0 rfl).agg)) ?_
  refine LW.c (enter_call0 (.cons (.tmp rfl) (.cons (.const _) (.cons (.const _) (.cons (.const _) .nil)))) (Tryz.en18)) rfl rfl rfl rfl (Decisions_any _ exB2 4 0 9 _ (hC) (by decide) (by decide) (by decide) (by decide)) ?_
  rintro v54 w22 ⟨_, L54, rfl, hm54, hT54⟩
  rw [ex_des2] at hm54
  obtain ⟨e1, f1, e2, f2, e3, f3, rfl⟩ := dps3 hm54
  replace hS := hS.join hT54
  change Wx.Sep no _ _ [_, _, _, _, _, _, _, _, _, _] at hS
  obtain ⟨ad54, cp54, rfl, _⟩ := (hS.own 8 rfl).sl (fun _ => rfl)
  clear hT54 hm54
  refine LW.A rfl (LW.S (CW.seq ?_))
  obtain ⟨Bx, ox, ax, hp, hq, hr⟩ := els_p ((hS.own 1 rfl).els (fun _ => rfl))
  obtain ⟨By, oy, ay, hp2, hq2, hr2⟩ := els_p ((hS.own 8 rfl).els (fun _ => rfl))
  obtain ⟨Bu, ou, au, hcu⟩ := sl_hd (usesA_get (hS.get 2 rfl) ⟨⟨3, rI 98, rI 2, [1]⟩, a3, c3⟩ (by simp))
  refine CW.region (LW.M rfl ?_)
  refine LW.pp (PEv.lenS Tryz.underlying43 (.tmp rfl)) ?_
  refine LW.pp (PEv.fa (PEv.neq (.tmp rfl) (.const _)) (rfl)) ?_
  refine LW.M rfl ?_
  refine LW.Y ?_
  refine LW.M rfl ?_
  refine LW.Y ?_
  refine LW.pp (PEv.lenS Tryz.underlying43 (.tmp rfl)) ?_
  refine LW.Y ?_
  refine LW.pp (PEv.fa (PEv.neq (.tmp rfl) (.const _)) (rfl)) ?_
  refine LW.pp (PEv.pick_or (.tmp rfl) (fun hp => (by first | exact .const _ | exact .tmp rfl | exact .cond rfl (by first | assumption | simp_all)))) ?_
  refine LW.M rfl ?_
  refine LW.Y ?_
  refine LW.M rfl ?_
  refine LW.Y ?_
  refine LW.pp (PEv.indexAddr' Tryz.underlying43 Tryz.sizeOf37 (j := 2) (.tmp rfl) (.const _) (Nat.le_of_ble_eq_true rfl) ax) ?_
  refine LW.Y ?_
  refine LW.pp (PEv.fieldAddr (off := 5) Tryz.underlying37 rfl rfl Tryz.sizeOf35 rfl (.tmp rfl)) ?_
  refine LW.Y ?_
  refine LW.pp (PEv.load Tryz.isAgg35 (.tmp rfl) (dp_uses hr)) ?_
  refine LW.Y ?_
  refine LW.pp (PEv.lenS Tryz.underlying35 (.tmp rfl)) ?_
  refine LW.Y ?_
  refine LW.pp (PEv.fa (PEv.neq (.tmp rfl) (.const _)) (rfl)) ?_
  refine LW.pp (PEv.pick_or (.tmp rfl) (fun hp => (by first | exact .const _ | exact .tmp rfl | exact .cond rfl (by first | assumption | simp_all)))) ?_
  refine LW.T ?_
  refine CW.cond_false (.tmp rfl) ?_
  refine CW.skip (KW.then (CW.seq ?_))
  refine CW.draws (by kernel_rfl) (by kernel_rfl) rfl rfl ?_
  refine HW.pp (PEv.move (.tmp rfl)) ?_
  refine HW.pp (PEv.indexAddr' Tryz.underlying43 Tryz.sizeOf37 (j := 0) (.tmp rfl) (.const _) (Nat.le_of_ble_eq_true rfl) ax) ?_
  refine HW.pp (PEv.fieldAddr (off := 1) Tryz.underlying37 rfl rfl Tryz.sizeOf34 rfl (.tmp rfl)) ?_
  refine HW.pp (PEv.loadA Tryz.isAgg34 Tryz.sizeOf34 rfl (.tmp rfl) (dp_par hp)) ?_
  refine HW.c (fun a w _ ha => enter_call0 (.cons (.const _) .nil) (Tryz.en28) a ha) rfl rfl (fun w hu => rwhole_any _ w) ?_
  refine HW.pp (PEv.tr (PEv.eqlA Tryz.eqGuardType34 (Tryz.eqRt _ _) (.tmp rfl) (.tmp rfl)) ((rtB_self _))) ?_
  refine HW.pp (PEv.move (.tmp rfl)) ?_
  refine HW.yp rfl rfl rfl rfl rfl (PEv.move (.tmp rfl)) rfl ?_
  refine HW.yp rfl rfl rfl rfl rfl (PEv.indexAddr' Tryz.underlying43 Tryz.sizeOf37 (j := 1) (.tmp rfl) (.const _) (Nat.le_of_ble_eq_true rfl) ax) rfl ?_
  refine HW.yp rfl rfl rfl rfl rfl (PEv.fieldAddr (off := 1) Tryz.underlying37 rfl rfl Tryz.sizeOf34 rfl (.tmp rfl)) rfl ?_
  refine HW.yp rfl rfl rfl rfl rfl (PEv.loadA Tryz.isAgg34 Tryz.sizeOf34 rfl (.tmp rfl) (dp_par hq)) rfl ?_
  refine HW.yc rfl rfl rfl rfl rfl (fun a w _ ha => enter_call0 (.cons (.const _) .nil) (Tryz.en28) a ha) rfl (fun w hu => rwhole_any _ w) ?_
  refine HW.yp rfl rfl rfl rfl rfl (PEv.tr (PEv.eqlA Tryz.eqGuardType34 (Tryz.eqRt _ _) (.tmp rfl) (.tmp rfl)) ((rtB_self _))) rfl ?_
  refine HW.pp (PEv.pick_and (.tmp rfl) (fun hp => (by first | exact .const _ | exact .tmp rfl | exact .cond rfl (by first | assumption | simp_all)))) ?_
  refine HW.pp (PEv.move (.tmp rfl)) ?_
  refine HW.yp rfl rfl rfl rfl rfl (PEv.move (.tmp rfl)) rfl ?_
  refine HW.yp rfl rfl rfl rfl rfl (PEv.indexAddr' Tryz.underlying43 Tryz.sizeOf37 (j := 1) (.tmp rfl) (.const _) (Nat.le_of_ble_eq_true rfl) ax) rfl ?_
  refine HW.yp rfl rfl rfl rfl rfl (PEv.fieldAddr (off := 3) Tryz.underlying37 rfl rfl Tryz.sizeOf34 rfl (.tmp rfl)) rfl ?_
  refine HW.yp rfl rfl rfl rfl rfl (PEv.loadA Tryz.isAgg34 Tryz.sizeOf34 rfl (.tmp rfl) (dp_est hq)) rfl ?_
  refine HW.yc rfl rfl rfl rfl rfl (fun a w _ ha => enter_call0 (.cons (.const _) .nil) (Tryz.en28) a ha) rfl (fun w hu => rwhole_any _ w) ?_
  refine HW.yp rfl rfl rfl rfl rfl (PEv.tr (PEv.eqlA Tryz.eqGuardType34 (Tryz.eqRt _ _) (.tmp rfl) (.tmp rfl)) ((rtB_self _))) rfl ?_
  refine HW.pp (PEv.pick_and (.tmp rfl) (fun hp => (by first | exact .const _ | exact .tmp rfl | exact .cond rfl (by first | assumption | simp_all)))) ?_
  refine HW.pp (PEv.move (.tmp rfl)) ?_
  refine HW.yp rfl rfl rfl rfl rfl (PEv.move (.tmp rfl)) rfl ?_
  refine HW.yp rfl rfl rfl rfl rfl (PEv.indexAddr' Tryz.underlying43 Tryz.sizeOf37 (j := 2) (.tmp rfl) (.const _) (Nat.le_of_ble_eq_true rfl) ax) rfl ?_
  refine HW.yp rfl rfl rfl rfl rfl (PEv.fieldAddr (off := 1) Tryz.underlying37 rfl rfl Tryz.sizeOf34 rfl (.tmp rfl)) rfl ?_
  refine HW.yp rfl rfl rfl rfl rfl (PEv.loadA Tryz.isAgg34 Tryz.sizeOf34 rfl (.tmp rfl) (dp_par hr)) rfl ?_
  refine HW.yc rfl rfl rfl rfl rfl (fun a w _ ha => enter_call0 (.cons (.const _) .nil) (Tryz.en28) a ha) rfl (fun w hu => rwhole_any _ w) ?_
  refine HW.yp rfl rfl rfl rfl rfl (PEv.tr (PEv.eqlA Tryz.eqGuardType34 (Tryz.eqRt _ _) (.tmp rfl) (.tmp rfl)) ((rtB_self _))) rfl ?_
  refine HW.pp (PEv.pick_and (.tmp rfl) (fun hp => (by first | exact .const _ | exact .tmp rfl | exact .cond rfl (by first | assumption | simp_all)))) ?_
  refine HW.pp (PEv.move (.tmp rfl)) ?_
  refine HW.yp rfl rfl rfl rfl rfl (PEv.move (.tmp rfl)) rfl ?_
  refine HW.yp rfl rfl rfl rfl rfl (PEv.indexAddr' Tryz.underlying43 Tryz.sizeOf37 (j := 2) (.tmp rfl) (.const _) (Nat.le_of_ble_eq_true rfl) ax) rfl ?_
  refine HW.yp rfl rfl rfl rfl rfl (PEv.fieldAddr (off := 5) Tryz.underlying37 rfl rfl Tryz.sizeOf35 rfl (.tmp rfl)) rfl ?_
  refine HW.yp rfl rfl rfl rfl rfl (PEv.load Tryz.isAgg35 (.tmp rfl) (dp_uses hr)) rfl ?_
  refine HW.yp rfl rfl rfl rfl rfl (PEv.indexAddr' Tryz.underlying35 Tryz.sizeOf3 (j := 0) (.tmp rfl) (.const _) (Nat.le_of_ble_eq_true rfl) au) rfl ?_
  refine HW.yp rfl rfl rfl rfl rfl (PEv.load Tryz.isAgg3 (.tmp rfl) (hcu 0 _ rfl)) rfl ?_
  refine HW.yp rfl rfl rfl rfl rfl (PEv.tr (PEv.eql (.tmp rfl) (.const _)) (rfl)) rfl ?_
  refine HW.pp (PEv.pick_and (.tmp rfl) (fun hp => (by first | exact .const _ | exact .tmp rfl | exact .cond rfl (by first | assumption | simp_all)))) ?_
  refine HW.pp (PEv.move (.tmp rfl)) ?_
  refine HW.yp rfl rfl rfl rfl rfl (PEv.move (.tmp rfl)) rfl ?_
  refine HW.yp rfl rfl rfl rfl rfl (PEv.indexAddr' Tryz.underlying43 Tryz.sizeOf37 (j := 2) (.tmp rfl) (.const _) (Nat.le_of_ble_eq_true rfl) ax) rfl ?_
  refine HW.yp rfl rfl rfl rfl rfl (PEv.fieldAddr (off := 0) Tryz.underlying37 rfl rfl Tryz.sizeOf3 rfl (.tmp rfl)) rfl ?_
  refine HW.yp rfl rfl rfl rfl rfl (PEv.load Tryz.isAgg3 (.tmp rfl) (dp_run hr)) rfl ?_
  refine HW.yp rfl rfl rfl rfl rfl (PEv.tr (PEv.eql (.tmp rfl) (.const _)) (rfl)) rfl ?_
  refine HW.pp (PEv.pick_and (.tmp rfl) (fun hp => (by first | exact .const _ | exact .tmp rfl | exact .cond rfl (by first | assumption | simp_all)))) ?_
  refine HW.pp (PEv.assign (.tmp rfl)) ?_
  refine HW.nil ?_
  intro w23 uw23
  have zw23 := uw23.size
  replace hS := hS.up uw23
  replace hp := hp.up uw23
  replace hq := hq.up uw23
  replace hr := hr.up uw23
  replace hr2 := hr2.up uw23
  replace hcu := hcu.up uw23
  refine KW.then (CW.seq ?_)
  refine CW.draws (by kernel_rfl) (by kernel_rfl) rfl rfl ?_
  refine HW.pp (PEv.move (.tmp rfl)) ?_
  refine HW.pp (PEv.tr (PEv.eql (.tmp rfl) (.const _)) (rfl)) ?_
  refine HW.pp (PEv.move (.tmp rfl)) ?_
  refine HW.yp rfl rfl rfl rfl rfl (PEv.fieldAddr (off := 1) Tryz.underlying37 rfl rfl Tryz.sizeOf34 rfl (.tmp rfl)) rfl ?_
  refine HW.yp rfl rfl rfl rfl rfl (PEv.loadA Tryz.isAgg34 Tryz.sizeOf34 rfl (.tmp rfl) (dp_par0 (hS.blk 3 rfl))) rfl ?_
  refine HW.yc rfl rfl rfl rfl rfl (fun a w _ ha => enter_call0 (.cons (.const _) .nil) (Tryz.en28) a ha) rfl (fun w hu => rwhole_any _ w) ?_
  refine HW.yp rfl rfl rfl rfl rfl (PEv.tr (PEv.eqlA Tryz.eqGuardType34 (Tryz.eqRt _ _) (.tmp rfl) (.tmp rfl)) ((rtB_self _))) rfl ?_
  refine HW.pp (PEv.pick_and (.tmp rfl) (fun hp => (by first | exact .const _ | exact .tmp rfl | exact .cond rfl (by first | assumption | simp_all)))) ?_
  refine HW.pp (PEv.move (.tmp rfl)) ?_
  refine HW.yp rfl rfl rfl rfl rfl (PEv.move (.tmp rfl)) rfl ?_
  refine HW.yp rfl rfl rfl rfl rfl (PEv.tr (PEv.eql (.tmp rfl) (.const _)) (rfl)) rfl ?_
  refine HW.pp (PEv.pick_and (.tmp rfl) (fun hp => (by first | exact .const _ | exact .tmp rfl | exact .cond rfl (by first | assumption | simp_all)))) ?_
  refine HW.pp (PEv.move (.tmp rfl)) ?_
  refine HW.yp rfl rfl rfl rfl rfl (PEv.fieldAddr (off := 1) Tryz.underlying37 rfl rfl Tryz.sizeOf34 rfl (.tmp rfl)) rfl ?_
  refine HW.yp rfl rfl rfl rfl rfl (PEv.loadA Tryz.isAgg34 Tryz.sizeOf34 rfl (.tmp rfl) (dp_par0 (hS.blk 4 rfl))) rfl ?_
  refine HW.yc rfl rfl rfl rfl rfl (fun a w _ ha => enter_call0 (.cons (.const _) .nil) (Tryz.en28) a ha) rfl (fun w hu => rwhole_any _ w) ?_
  refine HW.yp rfl rfl rfl rfl rfl (PEv.tr (PEv.eqlA Tryz.eqGuardType34 (Tryz.eqRt _ _) (.tmp rfl) (.tmp rfl)) ((rtB_self _))) rfl ?_
  refine HW.pp (PEv.pick_and (.tmp rfl) (fun hp => (by first | exact .const _ | exact .tmp rfl | exact .cond rfl (by first | assumption | simp_all)))) ?_
  refine HW.pp (PEv.move (.tmp rfl)) ?_
  refine HW.yp rfl rfl rfl rfl rfl (PEv.fieldAddr (off := 0) Tryz.underlying37 rfl rfl Tryz.sizeOf3 rfl (.tmp rfl)) rfl ?_
  refine HW.yp rfl rfl rfl rfl rfl (PEv.load Tryz.isAgg3 (.tmp rfl) ((hS.blk 5 rfl).celln rfl)) rfl ?_
  refine HW.yp rfl rfl rfl rfl rfl (PEv.tr (PEv.eql (.tmp rfl) (.const _)) (rfl)) rfl ?_
  refine HW.pp (PEv.pick_and (.tmp rfl) (fun hp => (by first | exact .const _ | exact .tmp rfl | exact .cond rfl (by first | assumption | simp_all)))) ?_
  refine HW.pp (PEv.move (.tmp rfl)) ?_
  refine HW.yp rfl rfl rfl rfl rfl (PEv.tr (PEv.move (.tmp rfl)) (rfl)) rfl ?_
  refine HW.pp (PEv.pick_and (.tmp rfl) (fun hp => (by first | exact .const _ | exact .tmp rfl | exact .cond rfl (by first | assumption | simp_all)))) ?_
  refine HW.pp (PEv.move (.tmp rfl)) ?_
  refine HW.yp rfl rfl rfl rfl rfl (PEv.move (.tmp rfl)) rfl ?_
  refine HW.yp rfl rfl rfl rfl rfl (PEv.tr (PEv.eql (.tmp rfl) (.const _)) (rfl)) rfl ?_
  refine HW.pp (PEv.pick_and (.tmp rfl) (fun hp => (by first | exact .const _ | exact .tmp rfl | exact .cond rfl (by first | assumption | simp_all)))) ?_
  refine HW.pp (PEv.move (.tmp rfl)) ?_
  refine HW.yp rfl rfl rfl rfl rfl (PEv.move (.tmp rfl)) rfl ?_
  refine HW.yp rfl rfl rfl rfl rfl (PEv.tr (PEv.not (.tmp rfl)) (rfl)) rfl ?_
  refine HW.pp (PEv.pick_and (.tmp rfl) (fun hp => (by first | exact .const _ | exact .tmp rfl | exact .cond rfl (by first | assumption | simp_all)))) ?_
  refine HW.pp (PEv.move (.tmp rfl)) ?_
  refine HW.yp rfl rfl rfl rfl rfl (PEv.move (.tmp rfl)) rfl ?_
  refine HW.yp rfl rfl rfl rfl rfl (PEv.tr (PEv.eql (.tmp rfl) (.const _)) (rfl)) rfl ?_
  refine HW.pp (PEv.pick_and (.tmp rfl) (fun hp => (by first | exact .const _ | exact .tmp rfl | exact .cond rfl (by first | assumption | simp_all)))) ?_
  refine HW.pp (PEv.move (.tmp rfl)) ?_
  refine HW.yp rfl rfl rfl rfl rfl (PEv.move (.tmp rfl)) rfl ?_
  refine HW.yp rfl rfl rfl rfl rfl (PEv.tr (PEv.eql (.tmp rfl) (.const _)) (rfl)) rfl ?_
  refine HW.pp (PEv.pick_and (.tmp rfl) (fun hp => (by first | exact .const _ | exact .tmp rfl | exact .cond rfl (by first | assumption | simp_all)))) ?_
  refine HW.pp (PEv.assign (.tmp rfl)) ?_
  refine HW.nil ?_
  intro w24 uw24
  have zw24 := uw24.size
  replace hS := hS.up uw24
  replace hp := hp.up uw24
  replace hq := hq.up uw24
  replace hr := hr.up uw24
  replace hr2 := hr2.up uw24
  replace hcu := hcu.up uw24
  refine KW.then (CW.seq ?_)
  refine CW.draws (by kernel_rfl) (by kernel_rfl) rfl rfl ?_
  refine HW.pp (PEv.move (.tmp rfl)) ?_
  refine HW.pp (PEv.move (.tmp rfl)) ?_
  refine HW.yp rfl rfl rfl rfl rfl (PEv.move (.tmp rfl)) rfl ?_
  refine HW.pp (PEv.pick_and (.tmp rfl) (fun hp => (by first | exact .const _ | exact .tmp rfl | exact .cond rfl (by first | assumption | simp_all)))) ?_
  refine HW.pp (PEv.move (.tmp rfl)) ?_
  refine HW.yp rfl rfl rfl rfl rfl (PEv.move (.tmp rfl)) rfl ?_
  refine HW.yp rfl rfl rfl rfl rfl (PEv.indexAddr' Tryz.underlying43 Tryz.sizeOf37 (j := 2) (.tmp rfl) (.const _) (Nat.le_of_ble_eq_true rfl) ay) rfl ?_
  refine HW.yp rfl rfl rfl rfl rfl (PEv.fieldAddr (off := 1) Tryz.underlying37 rfl rfl Tryz.sizeOf34 rfl (.tmp rfl)) rfl ?_
  refine HW.yp rfl rfl rfl rfl rfl (PEv.loadA Tryz.isAgg34 Tryz.sizeOf34 rfl (.tmp rfl) (dp_par hr2)) rfl ?_
  refine HW.yc rfl rfl rfl rfl rfl (fun a w _ ha => enter_call0 (.cons (.const _) .nil) (Tryz.en28) a ha) rfl (fun w hu => rwhole_any _ w) ?_
  refine HW.yp rfl rfl rfl rfl rfl (PEv.tr (PEv.eqlA Tryz.eqGuardType34 (Tryz.eqRt _ _) (.tmp rfl) (.tmp rfl)) ((rtB_self _))) rfl ?_
  refine HW.pp (PEv.pick_and (.tmp rfl) (fun hp => (by first | exact .const _ | exact .tmp rfl | exact .cond rfl (by first | assumption | simp_all)))) ?_
  refine HW.pp (PEv.assign (.tmp rfl)) ?_
  refine HW.nil ?_
  intro w25 uw25
  have zw25 := uw25.size
  replace hS := hS.up uw25
  replace hp := hp.up uw25
  replace hq := hq.up uw25
  replace hr := hr.up uw25
  replace hr2 := hr2.up uw25
  replace hcu := hcu.up uw25
  refine KW.then (CW.ret ?_)
  refine KW.ret1 rfl rfl ⟨_, rfl, ?_⟩
  exact ⟨rfl, hS.upd⟩
end Go.Proofs.YtgffaeachbbjoaaGreatDoor
end
section
namespace Go.Wx
theorem lst_mem {l : List Fact} {d : Int} {j : Nat} (hj : j < 11) {x : Fact} : x ∈ lstOf (ofB l d) j ↔ eff l d x ∧ x.Gone = false ∧ x.Kind = ((j + 1 : Nat) : Int) := by
  rw [lst_ofB l d hj]
  unfold lstAt
  rw [if_pos (List.mem_singleton.2 rfl), (sortK_sts _).same.mem, List.mem_filter, best_eff]
  simp
theorem eff_valid {l : List Fact} {d : Int} {x : Fact} (h : eff l d x) : validB x = true := keyB_valid h.2.1
theorem eff_key {l : List Fact} {d : Int} {x y : Fact} (hx : eff l d x) (hy : eff l d y) (e : keyB x = keyB y) : x = y := prev_total (eff_valid hx) (eff_valid hy) e (hy.2.2.2 x hx.1 hx.2.2.1) (hx.2.2.2 y hy.1 hy.2.2.1)
theorem lst_nodup (l : List Fact) (d : Int) {j : Nat} (hj : j < 11) : (lstOf (ofB l d) j).Nodup := by
  rw [lst_ofB l d hj]
  unfold lstAt
  rw [if_pos (List.mem_singleton.2 rfl)]
  exact ((sortK_sts _).same.perm.nodup_iff).2 ((factsM_nodup l d).filter _)
theorem desF_uses (b : Base) (t c r : Int) : ∀ D ∈ desF b t c r, D.uses.length ≤ (rnsF b t c r).length := fun D hD => by
  unfold desF at hD
  obtain ⟨i, hi, rfl⟩ := List.mem_map.1 hD
  have hi := List.mem_range.1 hi
  obtain ⟨x, hx⟩ := getElem?_of_lt hi
  rw [decAt_some hx]
  refine Nat.le_trans (decF_uses b t c r x.Time _) ?_
  rw [List.length_take]; omega
def shortN (n : Nat) (b : Base) : Prop := ∀ j, (lstOf b j).length ≤ n
theorem ofB_shortN {l : List Fact} {n : Nat} (h : l.length ≤ n) (d : Int) : shortN n (ofB l d) := fun j => by
  by_cases hj : j < 11
  · rw [lst_ofB l d hj]
    exact Nat.le_trans (lst_len _ _ _) (Nat.le_trans (factsM_len l d) h)
  · rw [lstOf_big _ hj]; simp
end Go.Wx
namespace Go.Proofs.YtgffaeachbbjoaaGreatDoor
open Go.Wx Go.RowKit
theorem DecisionsE_any (bc : Array Go.Value) (b : Base) (t c r : Int) (w : World) (hC : BaseC w bc b) (hlP : b.Processes.length ≤ 400) (hlR : b.Resets.length ≤ 100000) (hlM : b.Measures.length ≤ 100000) (hlT : b.Targets.length ≤ 100000) : Ret Tryz.prog 18 #[.agg bc, vi t, vi c, vi r] w fun r0 w' => DecsE w' r0 (desF b t c r) ∧ Up w w' :=
  (Decisions_any bc b t c r w hC hlP hlR hlM hlT).mono fun r0 w' ⟨v, L, e, hm, hT⟩ => ⟨by rw [e]; exact decsE_of hT hm, hT.upd⟩
end Go.Proofs.YtgffaeachbbjoaaGreatDoor
end
section
namespace Go.Wx
theorem sortK_filter {α : Type} {key : α → K2} (p : α → Bool) (l : List α) : (sortK key l).filter p = sortK key (l.filter p) :=
  StS.unique ⟨(sortK_sts l).ord.sublist List.filter_sublist, fun k => by
    rw [List.filter_filter, List.filter_filter]
    have h := (sortK_sts (key := key) l).same k
    rw [show (fun x => (key x == k) && p x) = fun x => p x && (key x == k) from funext fun x => Bool.and_comm _ _, ← List.filter_filter, ← List.filter_filter, h]⟩ (sortK_sts _)
theorem rnsF_sort (b : Base) (t c r : Int) : rnsF b t c r = sortK runK ((b.Processes.filter (runP t c)).filter fun x => decide (x.Recipe = r)) := by unfold rnsF runsB; rw [sortK_filter]
theorem rns_mem {b : Base} {t c r : Int} {x : Fact} : x ∈ rnsF b t c r ↔ x ∈ b.Processes ∧ x.Tool = t ∧ x.Chamber = c ∧ x.Recipe = r := by
  rw [rnsF_sort, (sortK_sts _).same.mem, List.mem_filter, List.mem_filter]
  unfold runP
  simp only [Bool.and_eq_true, decide_eq_true_eq]
  exact ⟨fun ⟨⟨a, b, c⟩, d⟩ => ⟨a, b, c, d⟩, fun ⟨a, b, c, d⟩ => ⟨⟨a, b, c⟩, d⟩⟩
theorem sumF_congr {M T M' T' : List Fact} {r t : Int} : ∀ {l : List Fact}, (∀ x ∈ l, devF M T r x t = devF M' T' r x t) → ∀ s, l.foldl (sumStep M T r t) s = l.foldl (sumStep M' T' r t) s
  | [], _, _ => rfl
  | x :: l, h, s => by
    rw [List.foldl_cons, List.foldl_cons, sumF_congr (fun y hy => h y (List.mem_cons_of_mem _ hy))]
    congr 1
    unfold sumStep
    rw [h x List.mem_cons_self]
theorem since_mem : ∀ {rs a : List Fact} {x : Fact}, x ∈ sinceF rs a ↔ x ∈ a ∧ ∀ y ∈ rs, y.Time ≤ x.Time
  | [], a, x => by simp [sinceF]
  | y :: rs, a, x => by
    have e : sinceF (y :: rs) a = sinceF rs (a.filter fun x => decide (y.Time ≤ x.Time)) := rfl
    rw [e, since_mem, List.mem_filter]
    simp only [decide_eq_true_eq, List.forall_mem_cons]
    exact ⟨fun ⟨⟨a, b⟩, c⟩ => ⟨a, b, c⟩, fun ⟨a, b, c⟩ => ⟨⟨a, b⟩, c⟩⟩
theorem decF_congr {b b' : Base} {t c r time : Int} {a : List Fact} (hR : resL b t c time = resL b' t c time) (hT : ∀ tm, tarF b.Targets r tm = tarF b'.Targets r tm) (hM : ∀ x ∈ a, (b.Measures.find? fun y => decide (y.ID = x.ID)) = (b'.Measures.find? fun y => decide (y.ID = x.ID))) : decF b t c r time a = decF b' t c r time a := by
  have hd : ∀ x ∈ sinceF (resL b' t c time) a, devF b.Measures b.Targets r x time = devF b'.Measures b'.Targets r x time := fun x hx => by
    unfold devF
    rw [hM x (since_mem.1 hx).1, hT]
  have hs : sumF b.Measures b.Targets r time (sinceF (resL b' t c time) a) = sumF b'.Measures b'.Targets r time (sinceF (resL b' t c time) a) := sumF_congr hd _
  unfold decF
  rw [hR, hT, hs]
theorem desF_congr {b b' : Base} {t c r : Int} (hP : rnsF b t c r = rnsF b' t c r) (hR : ∀ time, resL b t c time = resL b' t c time) (hT : ∀ tm, tarF b.Targets r tm = tarF b'.Targets r tm) (hM : ∀ x ∈ rnsF b t c r, (b.Measures.find? fun y => decide (y.ID = x.ID)) = (b'.Measures.find? fun y => decide (y.ID = x.ID))) : desF b t c r = desF b' t c r := by
  unfold desF
  rw [← hP]
  refine List.map_congr_left fun i hi => ?_
  have hi := List.mem_range.1 hi
  obtain ⟨x, hx⟩ := getElem?_of_lt hi
  rw [decAt_some hx, decAt_some hx, decF_congr (hR _) hT (fun y hy => hM y (List.mem_of_mem_take hy))]
theorem tgF_filter (r t : Int) : ∀ (l : List Fact) (s : Fact × Bool), (l.filter fun x => decide (x.Recipe = r)).foldl (tgStep r t) s = l.foldl (tgStep r t) s
  | [], _ => rfl
  | x :: l, s => by
    rw [List.foldl_cons]
    by_cases h : x.Recipe = r
    · rw [List.filter_cons_of_pos (by simpa using h), List.foldl_cons]
      exact tgF_filter r t l _
    · rw [List.filter_cons_of_neg (by simpa using h), tg_no (by simp [h])]
      exact tgF_filter r t l _
theorem tarF_filter (T : List Fact) (r t : Int) : tarF (T.filter fun x => decide (x.Recipe = r)) r t = tarF T r t := by
  have h : tgF r t (T.filter fun x => decide (x.Recipe = r)) = tgF r t T := tgF_filter r t T _
  unfold tarF
  rw [h]
structure KnB (b : Base) : Prop where
  sh : shortN 100 b
  nd : b.Processes.Nodup
  uid : ∀ f ∈ b.Processes, ∀ g ∈ b.Processes, f.ID = g.ID → f = g
theorem kn_of {l : List Fact} (h : l.length ≤ 100) (d : Int) : KnB (ofB l d) := by
  refine ⟨ofB_shortN h d, lst_nodup l d (j := 0) (by decide), fun f hf g hg e => ?_⟩
  have h1 := (lst_mem (j := 0) (by decide)).1 hf
  have h2 := (lst_mem (j := 0) (by decide)).1 hg
  exact eff_key h1.1 h2.1 (key_of_ord (k := 1) (eff_valid h1.1) (eff_valid h2.1) h1.2.2 h2.2.2 (by show (f.ID, (0 : Int)) = (g.ID, 0); rw [e]))
theorem els_frF {w w' : World} {B : Nat} {cs : Array Value} {T : TypeId} {ad : Option Addr} {xs : List Fact} (h : Els w ad 19 Fact.cells xs) (hb : Blk w B cs T) (hc : ∀ (i : Nat) (n : Int), cs[i]? ≠ some (vi n)) (f : Fr (fun i => i = B) w w') : Els w' ad 19 Fact.cells xs := fun i x hx => by
  obtain ⟨B', o, e, h1⟩ := h i x hx
  have hne : B' ≠ B := fun e2 => by
    have h2 := h1 0 (vi x.Kind) rfl
    rw [e2] at h2
    have h3 : cs[o + i * 19 + 0]? = some (vi x.Kind) := by
      unfold World.cell? at h2
      rw [show w.heap[B]? = some (.cells cs T (0, 0)) from hb] at h2
      simpa using h2
    exact hc _ _ h3
  exact ⟨B', o, e, fun j v hv => cell_fr (h1 j v hv) f hne⟩
theorem base_fr {w w' : World} {B : Nat} {cs : Array Value} {T : TypeId} {bc : Array Value} {b : Base} (h : BaseC w bc b) (hb : Blk w B cs T) (hc : ∀ (i : Nat) (n : Int), cs[i]? ≠ some (vi n)) (u : Fr (fun i => i = B) w w') : BaseC w' bc b := by
  obtain ⟨v0, v1, v2, v3, v4, v5, v6, v7, v8, v9, v10, e, h0, h1, h2, h3, h4, h5, h6, h7, h8, h9, h10⟩ := h
  have f : ∀ {v : Value} {xs : List Fact}, Sl w v 19 Fact.cells xs → Sl w' v 19 Fact.cells xs := fun ⟨ad, c, e, hE⟩ => ⟨ad, c, e, els_frF hE hb hc u⟩
  exact ⟨v0, v1, v2, v3, v4, v5, v6, v7, v8, v9, v10, e, f h0, f h1, f h2, f h3, f h4, f h5, f h6, f h7, f h8, f h9, f h10⟩
theorem pk10 : pickI 10 11 = 10 := by decide
theorem nil11 (i : Nat) (n : Int) : (#[.slice none 0 0, .slice none 0 0, .slice none 0 0, .slice none 0 0, .slice none 0 0, .slice none 0 0, .slice none 0 0, .slice none 0 0, .slice none 0 0, .slice none 0 0, .slice none 0 0] : Array Value)[i]? ≠ some (vi n) := by
  match i with
  | 0 | 1 | 2 | 3 | 4 | 5 | 6 | 7 | 8 | 9 | 10 => simp
  | i + 11 => simp
end Go.Wx
namespace Go.Proofs.YtgffaeachbbjoaaGreatDoor
open Go.Wx Go.RowKit
theorem known_any (ad : Option Addr) (cp : Nat) (xs : List I6) (day : Int) (w : World) (hE0 : Els w ad 6 I6.cells xs) : Ret Tryz.prog 12 #[.slice ad xs.length cp, vi day] w fun r w' => ∃ bc, r = .agg bc ∧ BaseC w' bc (ofB (soL xs) (pickI day 11)) ∧ Up w w' := by
  obtain ⟨w0, rfl⟩ : ∃ w0, w0 = w := ⟨_, rfl⟩
  have hS := Sep.start no w0
  refine Calls_start (n := 10) (m := 9) Tryz.func12 rfl rfl rfl ?_
  refine CW.S ?_
  refine LW.r (REv.allocA Tryz.zeroValue24) rfl rfl rfl rfl ?_
  rintro _ w1 ⟨B4, rfl, NB4⟩
  have eB4 := NB4.at_
  have zB4 := NB4.size
  replace hS := hS.addB NB4
  change Wx.Sep _ _ _ [_] at hS
  refine LW.S (CW.region (LW.M rfl ?_))
  refine LW.c (enter_call0 (.cons (.tmp rfl) .nil) (Tryz.en22)) rfl rfl rfl rfl (Some_any ad cp xs _ (Els.up hE0 hS.upd)) ?_
  rintro v6 w2 ⟨hO6, uw2⟩
  have zw2 := uw2.size
  replace hS := hS.up uw2
  obtain ⟨ad6, cp6, rfl, hE6_⟩ := hO6.sl (fun _ => rfl)
  have hE6 : Els w2 ad6 19 Fact.cells (soL xs) := hE6_
  clear hO6 hE6_
  refine LW.M rfl ?_
  refine LW.c (enter_call0 (.cons (.tmp rfl) (.cons (.const _) .nil)) (Tryz.en13)) rfl rfl rfl rfl (pick_any _ _ _ (by decide)) ?_
  rintro _ w3 ⟨rfl, uw3⟩
  have zw3 := uw3.size
  replace hS := hS.up uw3
  replace hE6 := hE6.up uw3
  refine LW.c (enter_call0 (.cons (.tmp rfl) (.cons (.tmp rfl) .nil)) (Tryz.en23)) rfl rfl rfl rfl (Of_any ad6 cp6 (soL xs) _ _ hE6 (Nat.le_trans (soL_len xs) (by decide))) ?_
  rintro _ w4 ⟨bc, rfl, hC, uw4⟩
  have zw4 := uw4.size
  replace hS := hS.up uw4
  replace hE6 := hE6.up uw4
  have hB4o := hS.blk 0 rfl
  have hno4 : ∀ (i : Nat) (n : Int), (#[.slice none 0 0, .slice none 0 0, .slice none 0 0, .slice none 0 0, .slice none 0 0, .slice none 0 0, .slice none 0 0, .slice none 0 0, .slice none 0 0, .slice none 0 0, .slice none 0 0] : Array Go.Value)[i]? ≠ some (vi n) := nil11
  refine LW.s (SEv.storeA Tryz.sizeOf24 hC.size (.tmp rfl) (.tmp rfl) hC.one (hS.blk 0 rfl) rfl) rfl rfl rfl ?_
  intro w5 Nw5
  have zw5 := Nw5.size
  replace hS := hS.putB 0 rfl (show Set_ _ w5 _ (bc) _ from Nw5)
  change Wx.Sep _ _ _ [_] at hS
  clear hE6
  replace hC := base_sto hC hB4o hno4 Nw5.sto
  refine LW.T (CW.ret ?_)
  refine KW.retA rfl rfl Tryz.isAgg24 Tryz.sizeOf24 hC.size ((hS.blk 0 rfl).agg) ⟨_, rfl, ?_⟩
  exact ⟨bc, rfl, hC, hS.upd⟩
end Go.Proofs.YtgffaeachbbjoaaGreatDoor
end
section
namespace Go.Wx
def p3 (t c r : Int) (f : Fact) : Bool := decide (f.Tool = t) && decide (f.Chamber = c) && decide (f.Recipe = r)
def isP (P : List Fact) (id : Int) : Bool := (P.find? fun x => decide (x.ID = id)).isSome
def otherB (b : Base) (t c r : Int) : Base := ⟨b.Processes.filter (p3 t c r), b.Measures.filter fun m => isP (b.Processes.filter (p3 t c r)) m.ID, [], [], [], [], [], [], b.Resets.filter (runP t c), b.Targets.filter fun f => decide (f.Recipe = r), []⟩
theorem filt_find {p : Fact → Bool} {id : Int} : ∀ {l : List Fact}, (∀ f ∈ l, f.ID = id → p f = true) → (l.filter p).find? (fun y => decide (y.ID = id)) = l.find? fun y => decide (y.ID = id)
  | [], _ => rfl
  | x :: l, h => by
    have ih := filt_find (p := p) (id := id) (l := l) fun f hf => h f (List.mem_cons_of_mem _ hf)
    by_cases hx : x.ID = id
    · rw [List.filter_cons_of_pos (h x List.mem_cons_self hx), List.find?_cons_of_pos (by simpa using hx), List.find?_cons_of_pos (by simpa using hx)]
    · rw [List.find?_cons_of_neg (by simpa using hx)]
      by_cases hp : p x = true
      · rw [List.filter_cons_of_pos hp, List.find?_cons_of_neg (by simpa using hx)]; exact ih
      · rw [List.filter_cons_of_neg hp]; exact ih
theorem isP_mem {P : List Fact} {x : Fact} (h : x ∈ P) : isP P x.ID = true := by
  unfold isP
  rw [List.find?_isSome]
  exact ⟨x, h, by simp⟩
theorem other_des (b : Base) (t c r : Int) : desF (otherB b t c r) t c r = desF b t c r := by
  symm
  refine desF_congr ?_ (fun time => ?_) (fun tm => ?_) (fun x hx => ?_)
  · rw [rnsF_sort, rnsF_sort]
    congr 1
    show (b.Processes.filter _).filter _ = ((b.Processes.filter _).filter _).filter _
    rw [List.filter_filter, List.filter_filter, List.filter_filter]
    congr 1
    funext x
    unfold runP p3
    cases decide (x.Tool = t) <;> cases decide (x.Chamber = c) <;> cases decide (x.Recipe = r) <;> rfl
  · show b.Resets.filter _ = (b.Resets.filter _).filter _
    rw [List.filter_filter]
    congr 1
    funext x
    unfold runP hereF
    cases decide (x.Tool = t) <;> cases decide (x.Chamber = c) <;> cases decide (x.Time ≤ time) <;> rfl
  · exact (tarF_filter _ _ _).symm
  · refine (filt_find fun f hf e => ?_).symm
    have hm := rns_mem.1 hx
    rw [e]
    exact isP_mem (List.mem_filter.2 ⟨hm.1, by unfold p3; simp [hm.2.1, hm.2.2.1, hm.2.2.2]⟩)
end Go.Wx
namespace Go.Proofs.YtgffaeachbbjoaaGreatDoor
open Go.Wx Go.RowKit
end Go.Proofs.YtgffaeachbbjoaaGreatDoor
end
section
namespace Go.Wx
def N0 : Value := .slice none 0 0
def cC (p m r t : Value) : Array Value := #[p, m, N0, N0, N0, N0, N0, N0, r, t, N0]
theorem sl0 (w : World) : Sl w N0 19 Fact.cells ([] : List Fact) := Sl.nil w 19 Fact.cells
theorem cC_base {w : World} {p m r t : Value} {P M R T : List Fact} (hp : Sl w p 19 Fact.cells P) (hm : Sl w m 19 Fact.cells M) (hr : Sl w r 19 Fact.cells R) (ht : Sl w t 19 Fact.cells T) : BaseC w (cC p m r t) ⟨P, M, [], [], [], [], [], [], R, T, []⟩ :=
  ⟨_, _, _, _, _, _, _, _, _, _, _, rfl, hp, hm, sl0 w, sl0 w, sl0 w, sl0 w, sl0 w, sl0 w, hr, ht, sl0 w⟩
end Go.Wx
namespace Go.Proofs.YtgffaeachbbjoaaGreatDoor
open Go.Wx Go.RowKit
end Go.Proofs.YtgffaeachbbjoaaGreatDoor
end
section
namespace Go.Proofs.YtgffaeachbbjoaaGreatDoor
open Go.Wx Go.RowKit
theorem DecisionsO_any (bc : Array Go.Value) (b : Base) (t c r : Int) (w : World) (hC : BaseC w bc (otherB b t c r)) (hk : KnB b) : Ret Tryz.prog 18 #[.agg bc, vi t, vi c, vi r] w fun r0 w' => DecsE w' r0 (desF b t c r) ∧ Up w w' := by
  have h := DecisionsE_any bc (otherB b t c r) t c r w hC (Nat.le_trans (List.length_filter_le _ _) (Nat.le_trans (hk.sh 0) (by decide))) (Nat.le_trans (List.length_filter_le _ _) (Nat.le_trans (hk.sh 8) (by decide))) (Nat.le_trans (List.length_filter_le _ _) (Nat.le_trans (hk.sh 1) (by decide))) (Nat.le_trans (List.length_filter_le _ _) (Nat.le_trans (hk.sh 9) (by decide)))
  rw [other_des] at h; exact h
set_option maxHeartbeats 4000000 in
theorem ControlOthers_any (ad : Option Addr) (cp : Nat) (xs : List I6) (tool chamber recipe : Int) (w : World) (hE1 : Els w ad 6 I6.cells xs) (htool : inI tool) (hch : inI chamber) (hrec : inI recipe) : Ret Tryz.prog 5 #[.slice ad xs.length cp, vi tool, vi chamber, vi recipe] w fun r0 w' => r0 = .bool true ∧ Up w w' := by
  obtain ⟨w0, rfl⟩ : ∃ w0, w0 = w := ⟨_, rfl⟩
  have hS := Sep.start no w0
  refine Calls_start (n := 166) (m := 9) Tryz.func5 rfl rfl rfl ?_
  refine CW.S (LW.C (LW.S (CW.region ?_)))
  refine LW.c (enter_call0 .nil (Tryz.en10)) rfl rfl rfl rfl (sane_any _) ?_
  rintro _ w1 ⟨rfl, uw1⟩
  have zw1 := uw1.size
  replace hS := hS.up uw1
  refine LW.A rfl (LW.S (CW.region (LW.M rfl ?_)))
  refine LW.c (enter_call0 (.cons (.tmp rfl) (.cons (.const _) .nil)) (Tryz.en13)) rfl rfl rfl rfl (pick_any _ _ _ (by decide)) ?_
  rintro _ w2 ⟨rfl, uw2⟩
  have zw2 := uw2.size
  replace hS := hS.up uw2
  have ht := pick_range (c := tool) (n := 2) htool (by decide)
  obtain ⟨t, et⟩ : ∃ t, t = pickI tool 2 := ⟨_, rfl⟩
  rw [← et] at ht ⊢
  refine LW.A rfl (LW.S (CW.region (LW.M rfl ?_)))
  refine LW.c (enter_call0 (.cons (.tmp rfl) (.cons (.const _) .nil)) (Tryz.en13)) rfl rfl rfl rfl (pick_any _ _ _ (by decide)) ?_
  rintro _ w3 ⟨rfl, uw3⟩
  have zw3 := uw3.size
  replace hS := hS.up uw3
  have hc := pick_range (c := chamber) (n := 2) hch (by decide)
  obtain ⟨c, ec⟩ : ∃ c, c = pickI chamber 2 := ⟨_, rfl⟩
  rw [← ec] at hc ⊢
  refine LW.A rfl (LW.S (CW.region (LW.M rfl ?_)))
  refine LW.c (enter_call0 (.cons (.tmp rfl) (.cons (.const _) .nil)) (Tryz.en13)) rfl rfl rfl rfl (pick_any _ _ _ (by decide)) ?_
  rintro _ w4 ⟨rfl, uw4⟩
  have zw4 := uw4.size
  replace hS := hS.up uw4
  have hrp := pick_range (c := recipe) (n := 2) hrec (by decide)
  obtain ⟨rp, erp⟩ : ∃ rp, rp = pickI recipe 2 := ⟨_, rfl⟩
  rw [← erp] at hrp ⊢
  refine LW.pp (PEv.add_w (.const _) (.tmp rfl)) ?_
  refine LW.A rfl (LW.S (CW.region (LW.M rfl ?_)))
  refine LW.c (enter_call0 (.cons (.tmp rfl) (.cons (.const _) .nil)) (Tryz.en12)) rfl rfl rfl rfl (known_any ad cp xs 10 _ (Els.up hE1 hS.upd)) ?_
  rintro _ w5 ⟨bc, rfl, hC, uw5⟩
  have zw5 := uw5.size
  replace hS := hS.up uw5
  rw [pk10] at hC
  obtain ⟨b, eb⟩ : ∃ b, b = ofB (soL xs) 10 := ⟨_, rfl⟩
  rw [← eb] at hC
  have hk : KnB b := by rw [eb]; exact kn_of (Nat.le_trans (soL_len xs) (by decide)) 10
  refine LW.r (REv.allocA Tryz.zeroValue24) rfl rfl rfl rfl ?_
  rintro _ w6 ⟨B10, rfl, MB10⟩
  refine LW.s (SEv.storeA Tryz.sizeOf24 hC.size (.tmp rfl) (.tmp rfl) hC.one MB10.blk rfl) rfl rfl rfl ?_
  intro w7 LB10
  have NB10 := MB10.set LB10
  clear LB10 MB10
  have eB10 := NB10.at_
  have zB10 := NB10.size
  replace hC := hC.up NB10.up
  replace hS := hS.addB NB10
  change Wx.Sep _ _ _ [_] at hS
  refine LW.S ?_
  obtain ⟨r, er⟩ : ∃ r, r = IntKind.i64.wrap (1 + rp) := ⟨_, rfl⟩
  rw [← er]
  refine CW.region ?_
  refine LW.r (REv.allocA Tryz.zeroValue24) rfl rfl rfl rfl ?_
  rintro _ w8 ⟨B11, rfl, NB11⟩
  have eB11 := NB11.at_
  have zB11 := NB11.size
  replace hC := hC.up NB11.up
  replace hS := hS.addB NB11
  change Wx.Sep _ _ _ [_, _] at hS
  refine LW.S (CW.seq ?_)
  have hUL := hS.upd
  obtain ⟨wL, ewL⟩ : ∃ W, W = w8 := ⟨_, rfl⟩
  have hS9 := hS
  rw [← ewL] at hS9 hC
  obtain ⟨v0, h0, adp, cpp, rfl, hEp_⟩ := hC.at0
  obtain ⟨v1, h1, adm, cpm, rfl, hEm_⟩ := hC.at1
  obtain ⟨v8, h8, adr, cpr, rfl, hEr_⟩ := hC.at8
  obtain ⟨v9, h9, adt, cpt, rfl, hEt_⟩ := hC.at9
  have hn11 := hS9.blkNe 0 1 (by decide) rfl rfl
  have hsz11 : w0.heap.size ≤ B11 := (hS.foot 1 rfl B11 rfl).resolve_left (fun h => h)
  have hl0 : b.Processes.length ≤ 100 := hk.sh 0
  have hl1 : b.Measures.length ≤ 100 := hk.sh 1
  have hl8 : b.Resets.length ≤ 100 := hk.sh 8
  have hl9 : b.Targets.length ≤ 100 := hk.sh 9
  have hB10f : ∀ W, Fr (fun i => i = B11) wL W → Blk W B10 bc 24 := fun W f => (hS9.blk 0 rfl).fr f hn11
  have hCf : ∀ W, Fr (fun i => i = B11) wL W → BaseC W bc b := fun W f => base_fr hC (hS9.blk 1 rfl) nil11 f
  have hEpf : ∀ W, Fr (fun i => i = B11) wL W → Els W adp 19 Fact.cells b.Processes := fun W f => els_frF hEp_ (hS9.blk 1 rfl) nil11 f
  have hEmf : ∀ W, Fr (fun i => i = B11) wL W → Els W adm 19 Fact.cells b.Measures := fun W f => els_frF hEm_ (hS9.blk 1 rfl) nil11 f
  have hErf : ∀ W, Fr (fun i => i = B11) wL W → Els W adr 19 Fact.cells b.Resets := fun W f => els_frF hEr_ (hS9.blk 1 rfl) nil11 f
  have hEtf : ∀ W, Fr (fun i => i = B11) wL W → Els W adt 19 Fact.cells b.Targets := fun W f => els_frF hEt_ (hS9.blk 1 rfl) nil11 f
  have hUp : ∀ W, Fr (fun i => i = B11) wL W → Up w0 W := fun W f => by rw [ewL] at f; exact up_fr hUL f hsz11
  replace hS : Wx.Sep (fun i => i = B11) wL w8 [aBlk B11 (cC N0 N0 N0 N0) 24] := by rw [ewL]; exact Sep.cons (hS.blk 1 rfl) (fun _ h => h) (Sep.start _ _) (by simp)
  replace hS := hS.add (Up.refl _) (A' := aOwn 50 19 Fact.cells N0 ([] : List Fact)) (OwnS.nil _ _ _ _ _) (by intro i h; cases h)
  replace hS := hS.add (Up.refl _) (A' := aOwn 50 19 Fact.cells N0 ([] : List Fact)) (OwnS.nil _ _ _ _ _) (by intro i h; cases h)
  replace hS := hS.add (Up.refl _) (A' := aOwn 50 19 Fact.cells N0 ([] : List Fact)) (OwnS.nil _ _ _ _ _) (by intro i h; cases h)
  replace hS := hS.add (Up.refl _) (A' := aOwn 50 19 Fact.cells N0 ([] : List Fact)) (OwnS.nil _ _ _ _ _) (by intro i h; cases h)
  change Wx.Sep _ _ _ [_, _, _, _, _] at hS
  clear hC
  refine CW.region (LW.C (LW.T (CW.block ?_)))
  refine CW.loopB (σ := Nat × Go.Value) (fun s w => (s.1 ≤ b.Processes.length) ∧ (Wx.Sep (fun i => i = B11) wL w [aBlk B11 (cC s.2 N0 N0 N0) 24, aOwn 50 19 Fact.cells s.2 ((b.Processes.take s.1).filter (p3 t c r)), aOwn 50 19 Fact.cells N0 ([] : List Fact), aOwn 50 19 Fact.cells N0 ([] : List Fact), aOwn 50 19 Fact.cells N0 ([] : List Fact)])) (fun s => [(12, .eq (vi (s.1 : Int)))]) ([(1, .eq _), (2, .eq _), (3, .eq _), (8, .eq _), (9, .eq _), (10, .eq _), (11, .eq _)]) (fun s => b.Processes.length - s.1) (0, N0) ?_ ⟨rfl, rfl, rfl, rfl, rfl, rfl, rfl, rfl, trivial⟩ ?_
  ·exact ⟨Nat.zero_le _, hS⟩
  ·rintro ⟨j, vP⟩ w9 ⟨hj, hS⟩
   dsimp only at hj hS
   change CW _ _ _ _ _ _ _ ([(12, .eq (vi (j : Int)))] ++ _) _
   refine CW.seq (CW.S (LW.M rfl ?_))
   refine LW.pp (PEv.fieldAddr (off := 0) Tryz.underlying24 rfl rfl Tryz.sizeOf22 rfl (.tmp rfl)) ?_
   refine LW.pp (PEv.load Tryz.isAgg22 (.tmp rfl) ((hB10f _ hS.fr).cell h0)) ?_
   refine LW.pp (PEv.lenS Tryz.underlying22 (.tmp rfl)) ?_
   refine LW.pp (PEv.lss (.tmp rfl) (.tmp rfl)) ?_
   refine LW.T ?_
   refine CW.cond (.tmp rfl) (fun h33 => ?_) (fun h33 => ?_)
   ·first | replace h33 := dT h33 | replace h33 := dF h33 | skip
    refine CW.skip (KW.then (CW.seq (CW.block (CW.seq ?_))))
    obtain ⟨x, hx⟩ := getElem?_of_lt (xs := b.Processes) (i := j) (by omega)
    obtain ⟨Bx, ox, ax, hcx⟩ := hEpf _ hS.fr j x hx
    refine CW.region ?_
    refine LW.pp (PEv.fieldAddr (off := 0) Tryz.underlying24 rfl rfl Tryz.sizeOf22 rfl (.tmp rfl)) ?_
    refine LW.pp (PEv.load Tryz.isAgg22 (.tmp rfl) ((hB10f _ hS.fr).cell h0)) ?_
    refine LW.M rfl ?_
    refine LW.pp (PEv.indexAddr' Tryz.underlying22 Tryz.sizeOf50 (.tmp rfl) (.tmp rfl) (by omega) ax) ?_
    refine LW.pp (PEv.loadA Tryz.isAgg50 Tryz.sizeOf50 rfl (.tmp rfl) (hcx)) ?_
    refine LW.r (REv.allocA Tryz.zeroValue50) rfl rfl rfl rfl ?_
    rintro _ w10 ⟨B13, rfl, MB13⟩
    refine LW.s (SEv.storeA Tryz.sizeOf50 rfl (.tmp rfl) (.tmp rfl) (Fact.one _) MB13.blk rfl) rfl rfl rfl ?_
    intro w11 LB13
    have NB13 := MB13.set LB13
    clear LB13 MB13
    have eB13 := NB13.at_
    have zB13 := NB13.size
    replace hcx := hcx.up NB13.up
    replace hS := hS.addB NB13
    change Wx.Sep _ _ _ [_, _, _, _, _, _] at hS
    refine LW.S (CW.region ?_)
    refine LW.pp (PEv.fieldAddr (off := 11) Tryz.underlying50 rfl rfl Tryz.sizeOf3 rfl (.tmp rfl)) ?_
    refine LW.pp (PEv.load Tryz.isAgg3 (.tmp rfl) ((hS.blk 5 rfl).celln rfl)) ?_
    refine LW.M rfl ?_
    refine LW.pp (PEv.eql (.tmp rfl) (.tmp rfl)) ?_
    refine LW.M rfl ?_
    refine LW.g rfl rfl rfl rfl rfl rfl rfl (fun hc => PEv.fieldAddr (off := 12) Tryz.underlying50 rfl rfl Tryz.sizeOf3 rfl (.tmp rfl)) ?_
    refine LW.g rfl rfl rfl rfl rfl rfl rfl (fun hc => PEv.load Tryz.isAgg3 (by first | exact .tmp rfl | exact .cond rfl (by first | assumption | simp_all)) ((hS.blk 5 rfl).celln rfl)) ?_
    refine LW.g rfl rfl rfl rfl rfl rfl rfl (fun hc => PEv.move (.tmp rfl)) ?_
    refine LW.g rfl rfl rfl rfl rfl rfl rfl (fun hc => PEv.eql (by first | exact .tmp rfl | exact .cond rfl (by first | assumption | simp_all)) (by first | exact .tmp rfl | exact .cond rfl (by first | assumption | simp_all))) ?_
    refine LW.pp (PEv.pick_and (.tmp rfl) (fun hp => (by first | exact .const _ | exact .tmp rfl | exact .cond rfl (by first | assumption | (rw [hp]; rfl) | (rw [hc, hp]; rfl) | simp_all)))) ?_
    refine LW.M rfl ?_
    refine LW.g rfl rfl rfl rfl rfl rfl rfl (fun hc => PEv.fieldAddr (off := 14) Tryz.underlying50 rfl rfl Tryz.sizeOf3 rfl (.tmp rfl)) ?_
    refine LW.g rfl rfl rfl rfl rfl rfl rfl (fun hc => PEv.load Tryz.isAgg3 (by first | exact .tmp rfl | exact .cond rfl (by first | assumption | simp_all)) ((hS.blk 5 rfl).celln rfl)) ?_
    refine LW.g rfl rfl rfl rfl rfl rfl rfl (fun hc => PEv.move (.tmp rfl)) ?_
    refine LW.g rfl rfl rfl rfl rfl rfl rfl (fun hc => PEv.eql (by first | exact .tmp rfl | exact .cond rfl (by first | assumption | simp_all)) (by first | exact .tmp rfl | exact .cond rfl (by first | assumption | simp_all))) ?_
    refine LW.pp (PEv.pick_and (.tmp rfl) (fun hp => (by first | exact .const _ | exact .tmp rfl | exact .cond rfl (by first | assumption | (rw [hp]; rfl) | (rw [hc, hp]; rfl) | simp_all)))) ?_
    refine LW.T ?_
    refine CW.cond (.tmp rfl) (fun h56 => ?_) (fun h56 => ?_)
    ·first | replace h56 := dT h56 | replace h56 := dF h56 | skip
     have hid : p3 t c r x = true := by unfold p3; exact h56
     refine CW.region ?_
     refine LW.pp (PEv.fieldAddr (off := 0) Tryz.underlying24 rfl rfl Tryz.sizeOf22 rfl (.tmp rfl)) ?_
     refine LW.pp (PEv.load Tryz.isAgg22 (.tmp rfl) ((hS.blk 0 rfl).celln rfl)) ?_
     refine LW.pp (PEv.loadA Tryz.isAgg50 Tryz.sizeOf50 rfl (.tmp rfl) ((hS.blk 5 rfl).agg)) ?_
     refine LW.r (REv.buildSlice (xs := [x]) (enc := Fact.cells) (mk := fun f : Fact => .agg f.cells) Tryz.underlying22 Tryz.sizeOf50 Tryz.zeroValue50 rfl (by decide) (fun _ => rfl) (fun _ => rfl) (.cons (.tmp rfl) .nil) rfl) rfl rfl rfl rfl ?_
     rintro _ w12 ⟨B60, cB60, rfl, NB60, yB60, xB60⟩
     have eB60 := NB60.at_
     have zB60 := NB60.size
     replace hS := hS.up NB60.up
     have hE60 := xB60
     refine LW.r (REv.appendF (enc := Fact.cells) (bytes := 160) (i := Tryz.t50) Tryz.underlying22 (by kernel_rfl) rfl rfl rfl rfl (by decide) (fun _ => rfl) Fact.one (.tmp rfl) (.tmp rfl) (hS.own 1 rfl) (Sl.of_els hE60) (by have := filt_len (p3 t c r) b.Processes j; simp [maxLen]; omega) (by have := filt_len (p3 t c r) b.Processes j; simp; omega)) rfl rfl rfl rfl ?_
     intro v61 w13 Gw13
     have zw13 := Gw13.fr.size
     replace hS := hS.stp 1 rfl Gw13
     change Wx.Sep _ _ _ [_, _, _, _, _, _] at hS
     refine LW.pp (PEv.fieldAddr (off := 0) Tryz.underlying24 rfl rfl Tryz.sizeOf22 rfl (.tmp rfl)) ?_
     refine LW.s (SEv.store Tryz.sizeOf22 (.tmp rfl) (.tmp rfl) ((hS.own 1 rfl).oneV (fun _ => rfl)) (hS.blk 0 rfl) (Nat.le_of_ble_eq_true rfl)) rfl rfl rfl ?_
     intro w14 Nw14
     have zw14 := Nw14.size
     replace hS := hS.putB 0 rfl (show Set_ _ w14 _ (cC v61 N0 N0 N0) _ from Nw14)
     change Wx.Sep _ _ _ [_, _, _, _, _, _] at hS
     refine LW.nil (KW.inBlock (KW.then (CW.region (LW.M rfl ?_))))
     refine LW.pp (PEv.inc (.tmp rfl) (by omega)) ?_
     refine LW.A rfl (LW.nil (KW.round ?_))
     first | exact ⟨(j + 1, v61), ⟨by show j + 1 ≤ _; omega, by first | (rw [fp_yes hx hid]; exact hS.take 5) | (rw [fp_no hx hid]; exact hS.take 5)⟩, ⟨rfl, rfl, rfl, rfl, rfl, rfl, rfl, rfl, trivial⟩, by show b.Processes.length - (j + 1) < b.Processes.length - j; omega⟩ | exact ⟨(j + 1, vP), ⟨by show j + 1 ≤ _; omega, by first | (rw [fp_yes hx hid]; exact hS.take 5) | (rw [fp_no hx hid]; exact hS.take 5)⟩, ⟨rfl, rfl, rfl, rfl, rfl, rfl, rfl, rfl, trivial⟩, by show b.Processes.length - (j + 1) < b.Processes.length - j; omega⟩
    ·first | replace h56 := dT h56 | replace h56 := dF h56 | skip
     have hid : p3 t c r x = false := by unfold p3; exact h56
     refine CW.skip (KW.inBlock (KW.then (CW.region (LW.M rfl ?_))))
     refine LW.pp (PEv.inc (.tmp rfl) (by omega)) ?_
     refine LW.A rfl (LW.nil (KW.round ?_))
     first | exact ⟨(j + 1, v61), ⟨by show j + 1 ≤ _; omega, by first | (rw [fp_yes hx hid]; exact hS.take 5) | (rw [fp_no hx hid]; exact hS.take 5)⟩, ⟨rfl, rfl, rfl, rfl, rfl, rfl, rfl, rfl, trivial⟩, by show b.Processes.length - (j + 1) < b.Processes.length - j; omega⟩ | exact ⟨(j + 1, vP), ⟨by show j + 1 ≤ _; omega, by first | (rw [fp_yes hx hid]; exact hS.take 5) | (rw [fp_no hx hid]; exact hS.take 5)⟩, ⟨rfl, rfl, rfl, rfl, rfl, rfl, rfl, rfl, trivial⟩, by show b.Processes.length - (j + 1) < b.Processes.length - j; omega⟩
   ·first | replace h33 := dT h33 | replace h33 := dF h33 | skip
    refine CW.exit (KW.then_exit (KW.then_exit (KW.block_hit (KW.then (CW.seq (CW.seq ?_))))))
    have hjl : j = b.Processes.length := by omega
    rw [hjl, List.take_length] at hS
    refine CW.region (LW.C (LW.T (CW.block ?_)))
    refine CW.loopB (σ := Nat × Go.Value) (fun s w => (s.1 ≤ b.Measures.length) ∧ (Wx.Sep (fun i => i = B11) wL w [aBlk B11 (cC vP s.2 N0 N0) 24, aOwn 50 19 Fact.cells vP (b.Processes.filter (p3 t c r)), aOwn 50 19 Fact.cells s.2 ((b.Measures.take s.1).filter (fun m : Fact => isP (b.Processes.filter (p3 t c r)) m.ID)), aOwn 50 19 Fact.cells N0 ([] : List Fact), aOwn 50 19 Fact.cells N0 ([] : List Fact)])) (fun s => [(14, .eq (vi (s.1 : Int)))]) ([(1, .eq _), (2, .eq _), (3, .eq _), (8, .eq _), (9, .eq _), (10, .eq _), (11, .eq _)]) (fun s => b.Measures.length - s.1) (0, N0) ?_ ⟨rfl, rfl, rfl, rfl, rfl, rfl, rfl, rfl, trivial⟩ ?_
    ·exact ⟨Nat.zero_le _, hS⟩
    ·rintro ⟨j, vM⟩ w15 ⟨hj, hS⟩
     dsimp only at hj hS
     change CW _ _ _ _ _ _ _ ([(14, .eq (vi (j : Int)))] ++ _) _
     refine CW.seq (CW.S (LW.M rfl ?_))
     refine LW.pp (PEv.fieldAddr (off := 1) Tryz.underlying24 rfl rfl Tryz.sizeOf22 rfl (.tmp rfl)) ?_
     refine LW.pp (PEv.load Tryz.isAgg22 (.tmp rfl) ((hB10f _ hS.fr).cell h1)) ?_
     refine LW.pp (PEv.lenS Tryz.underlying22 (.tmp rfl)) ?_
     refine LW.pp (PEv.lss (.tmp rfl) (.tmp rfl)) ?_
     refine LW.T ?_
     refine CW.cond (.tmp rfl) (fun h67 => ?_) (fun h67 => ?_)
     ·first | replace h67 := dT h67 | replace h67 := dF h67 | skip
      refine CW.skip (KW.then (CW.seq (CW.block (CW.seq ?_))))
      obtain ⟨x, hx⟩ := getElem?_of_lt (xs := b.Measures) (i := j) (by omega)
      obtain ⟨Bx, ox, ax, hcx⟩ := hEmf _ hS.fr j x hx
      refine CW.boxU 14 11 12 9 15 79 (Fact.cells zeroF) [.eq (.agg (cC vP vM N0 N0)), .eq (.pointer (some ⟨B10, 1, none⟩)), .eq (.slice adm b.Measures.length cpm), .eq (vi (j : Int)), .eq (.pointer (some ⟨Bx, ox + j * 19, none⟩)), .eq (.pointer (some ⟨Bx, ox + j * 19 + 1, none⟩)), .eq (vi x.ID), .eq (.tuple #[.agg (Fact.cells (((b.Processes.filter (p3 t c r)).find? fun y : Fact => decide (y.ID = x.ID)).getD zeroF)), .bool (isP (b.Processes.filter (p3 t c r)) x.ID)]), .eq (.tuple #[.agg (Fact.cells (((b.Processes.filter (p3 t c r)).find? fun y : Fact => decide (y.ID = x.ID)).getD zeroF)), .bool (isP (b.Processes.filter (p3 t c r)) x.ID)]), .eq (.agg (Fact.cells (((b.Processes.filter (p3 t c r)).find? fun y : Fact => decide (y.ID = x.ID)).getD zeroF))), .eq (.bool (isP (b.Processes.filter (p3 t c r)) x.ID)), .pred fun v _ => ∃ B, v = .pointer (some ⟨B, 0, none⟩), .eq (undef), .eq (.bool (isP (b.Processes.filter (p3 t c r)) x.ID))] [16] Tryz.zeroValue50 Tryz.sizeOf50 (by kernel_rfl) rfl (by kernel_rfl) (by kernel_rfl) (by kernel_rfl) (by kernel_rfl) (by kernel_rfl) (by kernel_rfl) (by kernel_rfl) rfl rfl ⟨_, _, _, rfl⟩ _ rfl ⟨_, _, _, rfl⟩ ⟨PhT.eq _ _, PhT.eq _ _, PhT.eq _ _, PhT.eq _ _, PhT.eq _ _, PhT.eq _ _, PhT.eq _ _, PhT.eq _ _, PhT.eq _ _, PhT.eq _ _, PhT.eq _ _, PhT.pred fun _ _ _ h _ => h, PhT.eq _ _, PhT.eq _ _, trivial⟩ rfl (fun v W h => ⟨_, h, rfl, Fact.one _⟩) (fun B W => ⟨B, rfl⟩) ?_ ?_
      ·intro W hU0
       have hU := (Up.drew w15).trans hU0
       have hSW := hS.up hU
       have hcxW := hcx.up hU
       refine allL.cons (.inr ⟨rfl, TU.p (PEv.loadA Tryz.isAgg24 Tryz.sizeOf24 rfl (.tmp rfl) (hSW.blk 0 rfl).agg) rfl⟩) ?_
       refine allL.cons (.inr ⟨rfl, TU.p (PEv.fieldAddr (off := 1) Tryz.underlying24 rfl rfl Tryz.sizeOf22 rfl (.tmp rfl)) rfl⟩) ?_
       refine allL.cons (.inr ⟨rfl, TU.p (PEv.load Tryz.isAgg22 (.tmp rfl) ((hB10f _ hSW.fr).cell h1)) rfl⟩) ?_
       refine allL.cons (.inr ⟨rfl, TU.p (PEv.move (.tmp rfl)) rfl⟩) ?_
       refine allL.cons (.inr ⟨rfl, TU.p (PEv.indexAddr' Tryz.underlying22 Tryz.sizeOf50 (.tmp rfl) (.tmp rfl) (by omega) ax) rfl⟩) ?_
       refine allL.cons (.inr ⟨rfl, TU.p (PEv.fieldAddr (off := 1) Tryz.underlying50 rfl rfl Tryz.sizeOf3 rfl (.tmp rfl)) rfl⟩) ?_
       refine allL.cons (.inr ⟨rfl, TU.p (PEv.load Tryz.isAgg3 (.tmp rfl) (hcxW.nth (j := 1) rfl)) rfl⟩) ?_
       refine allL.cons (.inr ⟨rfl, TU.c (enter_call0 (.cons (.tmp rfl) (.cons (.tmp rfl) .nil)) (Tryz.en24)) (Process_any _ _ x.ID W (cC_base ((hSW.own 1 rfl).sl (fun _ => rfl)) ((hSW.own 2 rfl).sl (fun _ => rfl)) (sl0 _) (sl0 _)) (Nat.le_trans (List.length_filter_le _ _) (Nat.le_trans (hk.sh 0) (by decide)))) (by rintro _ W1 ⟨rfl, u⟩; exact ⟨u, rfl⟩)⟩) ?_
       refine allL.cons (.inr ⟨rfl, TU.p (PEv.move (.tmp rfl)) rfl⟩) ?_
       refine allL.cons (.inr ⟨rfl, TU.p (PEv.extract (.tmp rfl) rfl) rfl⟩) ?_
       refine allL.cons (.inr ⟨rfl, TU.p (PEv.extract (.tmp rfl) rfl) rfl⟩) ?_
       refine allL.cons (.inl (.inl rfl)) ?_
       refine allL.cons (.inl (.inr rfl)) ?_
       refine allL.cons (.inr ⟨rfl, TU.p (PEv.assign (.tmp rfl)) rfl⟩) ?_
       exact allL.nil
      ·intro w16 B15 g hU0 zB15_ hB15 hg
       have hU := (Up.drew w15).trans hU0
       have zw16 := hU.size
       have zdr : w15.drew.heap.size = w15.heap.size := rfl
       have g79_ : g 79 = .agg (Fact.cells (((b.Processes.filter (p3 t c r)).find? fun y : Fact => decide (y.ID = x.ID)).getD zeroF)) := hg 9 _ 79 (by decide) rfl rfl
       have g16_ : g 16 = .bool (isP (b.Processes.filter (p3 t c r)) x.ID) := hg 13 _ 16 (by decide) rfl rfl
       rw [g79_] at hB15
       replace hB15 : Blk w16 B15 (Fact.cells (((b.Processes.filter (p3 t c r)).find? fun y : Fact => decide (y.ID = x.ID)).getD zeroF)) 50 := hB15
       change LW _ _ _ _ _ _ _ _ ((15, _) :: (16, .eq (g 16)) :: _) _
       rw [g16_]
       clear hg
       replace hcx := hcx.up hU
       replace hS := (hS.up (Up.drew _)).add hU0 (A' := aBlk B15 (Fact.cells (((b.Processes.filter (p3 t c r)).find? fun y : Fact => decide (y.ID = x.ID)).getD zeroF)) 50) hB15 (fun i (e : i = B15) => by omega)
       change Wx.Sep _ _ _ [_, _, _, _, _, _] at hS
       clear hB15
       refine LW.S (CW.region (LW.M rfl (LW.T ?_)))
       refine CW.cond (.tmp rfl) (fun h81 => ?_) (fun h81 => ?_)
       ·first | replace h81 := dT h81 | replace h81 := dF h81 | skip
        have hid : (fun m : Fact => isP (b.Processes.filter (p3 t c r)) m.ID) x = true := h81
        refine CW.draws_heavy 8 (fun v w'' => Wx.Sep (fun i => i = B11) wL w'' [aBlk B11 (cC vP vM N0 N0) 24, aOwn 50 19 Fact.cells vP (b.Processes.filter (p3 t c r)), aOwn 50 19 Fact.cells v ((b.Measures.take j).filter (fun m : Fact => isP (b.Processes.filter (p3 t c r)) m.ID) ++ [x]), aOwn 50 19 Fact.cells N0 ([] : List Fact), aOwn 50 19 Fact.cells N0 ([] : List Fact), aBlk B15 (Fact.cells (((b.Processes.filter (p3 t c r)).find? fun y : Fact => decide (y.ID = x.ID)).getD zeroF)) 50]) (by kernel_rfl) (by kernel_rfl) (by kernel_rfl) (by kernel_rfl) (by kernel_rfl) (by kernel_rfl) rfl rfl rfl rfl rfl ?_
        refine HW.pp (PEv.fieldAddr (off := 1) Tryz.underlying24 rfl rfl Tryz.sizeOf22 rfl (.tmp rfl)) ?_
        refine HW.pp (PEv.load Tryz.isAgg22 (.tmp rfl) ((hS.blk 0 rfl).celln rfl)) ?_
        refine HW.pp (PEv.fieldAddr (off := 1) Tryz.underlying24 rfl rfl Tryz.sizeOf22 rfl (.tmp rfl)) ?_
        refine HW.pp (PEv.load Tryz.isAgg22 (.tmp rfl) ((hB10f _ hS.fr).cell h1)) ?_
        refine HW.pp (PEv.move (.tmp rfl)) ?_
        refine HW.pp (PEv.indexAddr' Tryz.underlying22 Tryz.sizeOf50 (.tmp rfl) (.tmp rfl) (by omega) ax) ?_
        refine HW.pp (PEv.loadA Tryz.isAgg50 Tryz.sizeOf50 rfl (.tmp rfl) (hcx)) ?_
        refine HW.r (p := fun v w => Sl w v 19 (Fact.cells) [x]) (fun _ _ _ h u => Sl.up h u) rfl (fun w hu a ha => let ⟨v, w', h1, h2⟩ := REv.buildSlice (xs := [x]) (enc := Fact.cells) (mk := fun f : Fact => .agg f.cells) Tryz.underlying22 Tryz.sizeOf50 Tryz.zeroValue50 rfl (Nat.le_of_ble_eq_true rfl) (fun _ => rfl) (fun _ => rfl) (.cons (.tmp rfl) .nil) rfl a ha; ⟨v, w', h1, h2.q⟩) rfl ?_
        refine HW.nil ⟨fun a w' hu ha => ?_, ?_⟩
        ·exact (REv.open (d := 89) (p := fun v w => Sl w v 19 Fact.cells [x]) rfl fun vv hv => (REv.appendF (bytes := 160) (i := Tryz.t50) Tryz.underlying22 (by kernel_rfl) rfl rfl rfl rfl (by decide) (fun _ => rfl) Fact.one (.tmp rfl) (.tmp rfl) ((hS.up hu).own 2 rfl) hv (by have h1 := filt_len ((fun m : Fact => isP (b.Processes.filter (p3 t c r)) m.ID)) b.Measures j; have h2 := hk.sh 1; simp [maxLen]; omega) (by have h1 := filt_len ((fun m : Fact => isP (b.Processes.filter (p3 t c r)) m.ID)) b.Measures j; simp; omega)).mono fun v' w'' h => (hS.up hu).stp 2 rfl h).y ha
        intro v90 w17 hS
        refine LW.pp (PEv.fieldAddr (off := 1) Tryz.underlying24 rfl rfl Tryz.sizeOf22 rfl (.tmp rfl)) ?_
        refine LW.s (SEv.store Tryz.sizeOf22 (.tmp rfl) (.tmp rfl) ((hS.own 2 rfl).oneV (fun _ => rfl)) (hS.blk 0 rfl) (Nat.le_of_ble_eq_true rfl)) rfl rfl rfl ?_
        intro w18 Nw18
        have zw18 := Nw18.size
        replace hS := hS.putB 0 rfl (show Set_ _ w18 _ (cC vP v90 N0 N0) _ from Nw18)
        change Wx.Sep _ _ _ [_, _, _, _, _, _] at hS
        clear hcx
        refine LW.nil (KW.inBlock (KW.then (CW.region (LW.M rfl ?_))))
        refine LW.pp (PEv.inc (.tmp rfl) (by omega)) ?_
        refine LW.A rfl (LW.nil (KW.round ?_))
        first | exact ⟨(j + 1, v90), ⟨by show j + 1 ≤ _; omega, by first | (rw [fp_yes hx hid]; exact hS.take 5) | (rw [fp_no hx hid]; exact hS.take 5)⟩, ⟨rfl, rfl, rfl, rfl, rfl, rfl, rfl, rfl, trivial⟩, by show b.Measures.length - (j + 1) < b.Measures.length - j; omega⟩ | exact ⟨(j + 1, vM), ⟨by show j + 1 ≤ _; omega, by first | (rw [fp_yes hx hid]; exact hS.take 5) | (rw [fp_no hx hid]; exact hS.take 5)⟩, ⟨rfl, rfl, rfl, rfl, rfl, rfl, rfl, rfl, trivial⟩, by show b.Measures.length - (j + 1) < b.Measures.length - j; omega⟩
       ·first | replace h81 := dT h81 | replace h81 := dF h81 | skip
        have hid : (fun m : Fact => isP (b.Processes.filter (p3 t c r)) m.ID) x = false := h81
        refine CW.skip (KW.inBlock (KW.then (CW.region (LW.M rfl ?_))))
        refine LW.pp (PEv.inc (.tmp rfl) (by omega)) ?_
        refine LW.A rfl (LW.nil (KW.round ?_))
        first | exact ⟨(j + 1, v90), ⟨by show j + 1 ≤ _; omega, by first | (rw [fp_yes hx hid]; exact hS.take 5) | (rw [fp_no hx hid]; exact hS.take 5)⟩, ⟨rfl, rfl, rfl, rfl, rfl, rfl, rfl, rfl, trivial⟩, by show b.Measures.length - (j + 1) < b.Measures.length - j; omega⟩ | exact ⟨(j + 1, vM), ⟨by show j + 1 ≤ _; omega, by first | (rw [fp_yes hx hid]; exact hS.take 5) | (rw [fp_no hx hid]; exact hS.take 5)⟩, ⟨rfl, rfl, rfl, rfl, rfl, rfl, rfl, rfl, trivial⟩, by show b.Measures.length - (j + 1) < b.Measures.length - j; omega⟩
     ·first | replace h67 := dT h67 | replace h67 := dF h67 | skip
      refine CW.exit (KW.then_exit (KW.then_exit (KW.block_hit (KW.then (CW.seq (CW.seq ?_))))))
      have hjl : j = b.Measures.length := by omega
      rw [hjl, List.take_length] at hS
      refine CW.region (LW.C (LW.T (CW.block ?_)))
      refine CW.loopB (σ := Nat × Go.Value) (fun s w => (s.1 ≤ b.Resets.length) ∧ (Wx.Sep (fun i => i = B11) wL w [aBlk B11 (cC vP vM s.2 N0) 24, aOwn 50 19 Fact.cells vP (b.Processes.filter (p3 t c r)), aOwn 50 19 Fact.cells vM (b.Measures.filter (fun m : Fact => isP (b.Processes.filter (p3 t c r)) m.ID)), aOwn 50 19 Fact.cells s.2 ((b.Resets.take s.1).filter (runP t c)), aOwn 50 19 Fact.cells N0 ([] : List Fact)])) (fun s => [(17, .eq (vi (s.1 : Int)))]) ([(1, .eq _), (2, .eq _), (3, .eq _), (8, .eq _), (9, .eq _), (10, .eq _), (11, .eq _)]) (fun s => b.Resets.length - s.1) (0, N0) ?_ ⟨rfl, rfl, rfl, rfl, rfl, rfl, rfl, rfl, trivial⟩ ?_
      ·exact ⟨Nat.zero_le _, hS⟩
      ·rintro ⟨j, vR⟩ w19 ⟨hj, hS⟩
       dsimp only at hj hS
       change CW _ _ _ _ _ _ _ ([(17, .eq (vi (j : Int)))] ++ _) _
       refine CW.seq (CW.S (LW.M rfl ?_))
       refine LW.pp (PEv.fieldAddr (off := 8) Tryz.underlying24 rfl rfl Tryz.sizeOf22 rfl (.tmp rfl)) ?_
       refine LW.pp (PEv.load Tryz.isAgg22 (.tmp rfl) ((hB10f _ hS.fr).cell h8)) ?_
       refine LW.pp (PEv.lenS Tryz.underlying22 (.tmp rfl)) ?_
       refine LW.pp (PEv.lss (.tmp rfl) (.tmp rfl)) ?_
       refine LW.T ?_
       refine CW.cond (.tmp rfl) (fun h96 => ?_) (fun h96 => ?_)
       ·first | replace h96 := dT h96 | replace h96 := dF h96 | skip
        refine CW.skip (KW.then (CW.seq (CW.block (CW.seq ?_))))
        obtain ⟨x, hx⟩ := getElem?_of_lt (xs := b.Resets) (i := j) (by omega)
        obtain ⟨Bx, ox, ax, hcx⟩ := hErf _ hS.fr j x hx
        refine CW.region ?_
        refine LW.pp (PEv.fieldAddr (off := 8) Tryz.underlying24 rfl rfl Tryz.sizeOf22 rfl (.tmp rfl)) ?_
        refine LW.pp (PEv.load Tryz.isAgg22 (.tmp rfl) ((hB10f _ hS.fr).cell h8)) ?_
        refine LW.M rfl ?_
        refine LW.pp (PEv.indexAddr' Tryz.underlying22 Tryz.sizeOf50 (.tmp rfl) (.tmp rfl) (by omega) ax) ?_
        refine LW.pp (PEv.fieldAddr (off := 11) Tryz.underlying50 rfl rfl Tryz.sizeOf3 rfl (.tmp rfl)) ?_
        refine LW.pp (PEv.load Tryz.isAgg3 (.tmp rfl) (hcx.nth (j := 11) rfl)) ?_
        refine LW.M rfl ?_
        refine LW.pp (PEv.eql (.tmp rfl) (.tmp rfl)) ?_
        refine LW.M rfl ?_
        refine LW.g rfl rfl rfl rfl rfl rfl rfl (fun hc => PEv.fieldAddr (off := 8) Tryz.underlying24 rfl rfl Tryz.sizeOf22 rfl (.tmp rfl)) ?_
        refine LW.g rfl rfl rfl rfl rfl rfl rfl (fun hc => PEv.load Tryz.isAgg22 (by first | exact .tmp rfl | exact .cond rfl (by first | assumption | simp_all)) ((hB10f _ hS.fr).cell h8)) ?_
        refine LW.g rfl rfl rfl rfl rfl rfl rfl (fun hc => PEv.move (.tmp rfl)) ?_
        refine LW.g rfl rfl rfl rfl rfl rfl rfl (fun hc => PEv.indexAddr' Tryz.underlying22 Tryz.sizeOf50 (by first | exact .tmp rfl | exact .cond rfl (by first | assumption | simp_all)) (by first | exact .tmp rfl | exact .cond rfl (by first | assumption | simp_all)) (by omega) ax) ?_
        refine LW.g rfl rfl rfl rfl rfl rfl rfl (fun hc => PEv.fieldAddr (off := 12) Tryz.underlying50 rfl rfl Tryz.sizeOf3 rfl (by first | exact .tmp rfl | exact .cond rfl (by first | assumption | simp_all))) ?_
        refine LW.g rfl rfl rfl rfl rfl rfl rfl (fun hc => PEv.load Tryz.isAgg3 (by first | exact .tmp rfl | exact .cond rfl (by first | assumption | simp_all)) (hcx.nth (j := 12) rfl)) ?_
        refine LW.g rfl rfl rfl rfl rfl rfl rfl (fun hc => PEv.move (.tmp rfl)) ?_
        refine LW.g rfl rfl rfl rfl rfl rfl rfl (fun hc => PEv.eql (by first | exact .tmp rfl | exact .cond rfl (by first | assumption | simp_all)) (by first | exact .tmp rfl | exact .cond rfl (by first | assumption | simp_all))) ?_
        refine LW.pp (PEv.pick_and (.tmp rfl) (fun hp => (by first | exact .const _ | exact .tmp rfl | exact .cond rfl (by first | assumption | (rw [hp]; rfl) | (rw [hc, hp]; rfl) | simp_all)))) ?_
        refine LW.T ?_
        refine CW.cond (.tmp rfl) (fun h116 => ?_) (fun h116 => ?_)
        ·first | replace h116 := dT h116 | replace h116 := dF h116 | skip
         have hid : runP t c x = true := by unfold runP; exact h116
         refine CW.draws_heavy 8 (fun v w'' => Wx.Sep (fun i => i = B11) wL w'' [aBlk B11 (cC vP vM vR N0) 24, aOwn 50 19 Fact.cells vP (b.Processes.filter (p3 t c r)), aOwn 50 19 Fact.cells vM (b.Measures.filter (fun m : Fact => isP (b.Processes.filter (p3 t c r)) m.ID)), aOwn 50 19 Fact.cells v ((b.Resets.take j).filter (runP t c) ++ [x]), aOwn 50 19 Fact.cells N0 ([] : List Fact)]) (by kernel_rfl) (by kernel_rfl) (by kernel_rfl) (by kernel_rfl) (by kernel_rfl) (by kernel_rfl) rfl rfl rfl rfl rfl ?_
         refine HW.pp (PEv.fieldAddr (off := 8) Tryz.underlying24 rfl rfl Tryz.sizeOf22 rfl (.tmp rfl)) ?_
         refine HW.pp (PEv.load Tryz.isAgg22 (.tmp rfl) ((hS.blk 0 rfl).celln rfl)) ?_
         refine HW.pp (PEv.fieldAddr (off := 8) Tryz.underlying24 rfl rfl Tryz.sizeOf22 rfl (.tmp rfl)) ?_
         refine HW.pp (PEv.load Tryz.isAgg22 (.tmp rfl) ((hB10f _ hS.fr).cell h8)) ?_
         refine HW.pp (PEv.move (.tmp rfl)) ?_
         refine HW.pp (PEv.indexAddr' Tryz.underlying22 Tryz.sizeOf50 (.tmp rfl) (.tmp rfl) (by omega) ax) ?_
         refine HW.pp (PEv.loadA Tryz.isAgg50 Tryz.sizeOf50 rfl (.tmp rfl) (hcx)) ?_
         refine HW.r (p := fun v w => Sl w v 19 (Fact.cells) [x]) (fun _ _ _ h u => Sl.up h u) rfl (fun w hu a ha => let ⟨v, w', h1, h2⟩ := REv.buildSlice (xs := [x]) (enc := Fact.cells) (mk := fun f : Fact => .agg f.cells) Tryz.underlying22 Tryz.sizeOf50 Tryz.zeroValue50 rfl (Nat.le_of_ble_eq_true rfl) (fun _ => rfl) (fun _ => rfl) (.cons (.tmp rfl) .nil) rfl a ha; ⟨v, w', h1, h2.q⟩) rfl ?_
         refine HW.nil ⟨fun a w' hu ha => ?_, ?_⟩
         ·exact (REv.open (d := 124) (p := fun v w => Sl w v 19 Fact.cells [x]) rfl fun vv hv => (REv.appendF (bytes := 160) (i := Tryz.t50) Tryz.underlying22 (by kernel_rfl) rfl rfl rfl rfl (by decide) (fun _ => rfl) Fact.one (.tmp rfl) (.tmp rfl) ((hS.up hu).own 3 rfl) hv (by have h1 := filt_len ((runP t c)) b.Resets j; have h2 := hk.sh 8; simp [maxLen]; omega) (by have h1 := filt_len ((runP t c)) b.Resets j; simp; omega)).mono fun v' w'' h => (hS.up hu).stp 3 rfl h).y ha
         intro v125 w20 hS
         refine LW.pp (PEv.fieldAddr (off := 8) Tryz.underlying24 rfl rfl Tryz.sizeOf22 rfl (.tmp rfl)) ?_
         refine LW.s (SEv.store Tryz.sizeOf22 (.tmp rfl) (.tmp rfl) ((hS.own 3 rfl).oneV (fun _ => rfl)) (hS.blk 0 rfl) (Nat.le_of_ble_eq_true rfl)) rfl rfl rfl ?_
         intro w21 Nw21
         have zw21 := Nw21.size
         replace hS := hS.putB 0 rfl (show Set_ _ w21 _ (cC vP vM v125 N0) _ from Nw21)
         change Wx.Sep _ _ _ [_, _, _, _, _] at hS
         clear hcx
         refine LW.nil (KW.inBlock (KW.then (CW.region (LW.M rfl ?_))))
         refine LW.pp (PEv.inc (.tmp rfl) (by omega)) ?_
         refine LW.A rfl (LW.nil (KW.round ?_))
         first | exact ⟨(j + 1, v125), ⟨by show j + 1 ≤ _; omega, by first | (rw [fp_yes hx hid]; exact hS.take 5) | (rw [fp_no hx hid]; exact hS.take 5)⟩, ⟨rfl, rfl, rfl, rfl, rfl, rfl, rfl, rfl, trivial⟩, by show b.Resets.length - (j + 1) < b.Resets.length - j; omega⟩ | exact ⟨(j + 1, vR), ⟨by show j + 1 ≤ _; omega, by first | (rw [fp_yes hx hid]; exact hS.take 5) | (rw [fp_no hx hid]; exact hS.take 5)⟩, ⟨rfl, rfl, rfl, rfl, rfl, rfl, rfl, rfl, trivial⟩, by show b.Resets.length - (j + 1) < b.Resets.length - j; omega⟩
        ·first | replace h116 := dT h116 | replace h116 := dF h116 | skip
         have hid : runP t c x = false := by unfold runP; exact h116
         refine CW.skip (KW.inBlock (KW.then (CW.region (LW.M rfl ?_))))
         refine LW.pp (PEv.inc (.tmp rfl) (by omega)) ?_
         refine LW.A rfl (LW.nil (KW.round ?_))
         first | exact ⟨(j + 1, v125), ⟨by show j + 1 ≤ _; omega, by first | (rw [fp_yes hx hid]; exact hS.take 5) | (rw [fp_no hx hid]; exact hS.take 5)⟩, ⟨rfl, rfl, rfl, rfl, rfl, rfl, rfl, rfl, trivial⟩, by show b.Resets.length - (j + 1) < b.Resets.length - j; omega⟩ | exact ⟨(j + 1, vR), ⟨by show j + 1 ≤ _; omega, by first | (rw [fp_yes hx hid]; exact hS.take 5) | (rw [fp_no hx hid]; exact hS.take 5)⟩, ⟨rfl, rfl, rfl, rfl, rfl, rfl, rfl, rfl, trivial⟩, by show b.Resets.length - (j + 1) < b.Resets.length - j; omega⟩
       ·first | replace h96 := dT h96 | replace h96 := dF h96 | skip
        refine CW.exit (KW.then_exit (KW.then_exit (KW.block_hit (KW.then (CW.seq (CW.seq ?_))))))
        have hjl : j = b.Resets.length := by omega
        rw [hjl, List.take_length] at hS
        refine CW.region (LW.C (LW.T (CW.block ?_)))
        refine CW.loopB (σ := Nat × Go.Value) (fun s w => (s.1 ≤ b.Targets.length) ∧ (Wx.Sep (fun i => i = B11) wL w [aBlk B11 (cC vP vM vR s.2) 24, aOwn 50 19 Fact.cells vP (b.Processes.filter (p3 t c r)), aOwn 50 19 Fact.cells vM (b.Measures.filter (fun m : Fact => isP (b.Processes.filter (p3 t c r)) m.ID)), aOwn 50 19 Fact.cells vR (b.Resets.filter (runP t c)), aOwn 50 19 Fact.cells s.2 ((b.Targets.take s.1).filter (fun f : Fact => decide (f.Recipe = r)))])) (fun s => [(18, .eq (vi (s.1 : Int)))]) ([(1, .eq _), (2, .eq _), (3, .eq _), (8, .eq _), (9, .eq _), (10, .eq _), (11, .eq _)]) (fun s => b.Targets.length - s.1) (0, N0) ?_ ⟨rfl, rfl, rfl, rfl, rfl, rfl, rfl, rfl, trivial⟩ ?_
        ·exact ⟨Nat.zero_le _, hS⟩
        ·rintro ⟨j, vT⟩ w22 ⟨hj, hS⟩
         dsimp only at hj hS
         change CW _ _ _ _ _ _ _ ([(18, .eq (vi (j : Int)))] ++ _) _
         refine CW.seq (CW.S (LW.M rfl ?_))
         refine LW.pp (PEv.fieldAddr (off := 9) Tryz.underlying24 rfl rfl Tryz.sizeOf22 rfl (.tmp rfl)) ?_
         refine LW.pp (PEv.load Tryz.isAgg22 (.tmp rfl) ((hB10f _ hS.fr).cell h9)) ?_
         refine LW.pp (PEv.lenS Tryz.underlying22 (.tmp rfl)) ?_
         refine LW.pp (PEv.lss (.tmp rfl) (.tmp rfl)) ?_
         refine LW.T ?_
         refine CW.cond (.tmp rfl) (fun h131 => ?_) (fun h131 => ?_)
         ·first | replace h131 := dT h131 | replace h131 := dF h131 | skip
          refine CW.skip (KW.then (CW.seq (CW.block (CW.seq ?_))))
          obtain ⟨x, hx⟩ := getElem?_of_lt (xs := b.Targets) (i := j) (by omega)
          obtain ⟨Bx, ox, ax, hcx⟩ := hEtf _ hS.fr j x hx
          refine CW.region ?_
          refine LW.pp (PEv.fieldAddr (off := 9) Tryz.underlying24 rfl rfl Tryz.sizeOf22 rfl (.tmp rfl)) ?_
          refine LW.pp (PEv.load Tryz.isAgg22 (.tmp rfl) ((hB10f _ hS.fr).cell h9)) ?_
          refine LW.M rfl ?_
          refine LW.pp (PEv.indexAddr' Tryz.underlying22 Tryz.sizeOf50 (.tmp rfl) (.tmp rfl) (by omega) ax) ?_
          refine LW.pp (PEv.fieldAddr (off := 14) Tryz.underlying50 rfl rfl Tryz.sizeOf3 rfl (.tmp rfl)) ?_
          refine LW.pp (PEv.load Tryz.isAgg3 (.tmp rfl) (hcx.nth rfl)) ?_
          refine LW.M rfl ?_
          refine LW.pp (PEv.eql (.tmp rfl) (.tmp rfl)) ?_
          refine LW.T ?_
          refine CW.cond (.tmp rfl) (fun h141 => ?_) (fun h141 => ?_)
          ·first | replace h141 := dT h141 | replace h141 := dF h141 | skip
           have hid : (fun f : Fact => decide (f.Recipe = r)) x = true := decide_eq_true h141
           refine CW.draws_heavy 8 (fun v w'' => Wx.Sep (fun i => i = B11) wL w'' [aBlk B11 (cC vP vM vR vT) 24, aOwn 50 19 Fact.cells vP (b.Processes.filter (p3 t c r)), aOwn 50 19 Fact.cells vM (b.Measures.filter (fun m : Fact => isP (b.Processes.filter (p3 t c r)) m.ID)), aOwn 50 19 Fact.cells vR (b.Resets.filter (runP t c)), aOwn 50 19 Fact.cells v ((b.Targets.take j).filter (fun f : Fact => decide (f.Recipe = r)) ++ [x]), ]) (by kernel_rfl) (by kernel_rfl) (by kernel_rfl) (by kernel_rfl) (by kernel_rfl) (by kernel_rfl) rfl rfl rfl rfl rfl ?_
           refine HW.pp (PEv.fieldAddr (off := 9) Tryz.underlying24 rfl rfl Tryz.sizeOf22 rfl (.tmp rfl)) ?_
           refine HW.pp (PEv.load Tryz.isAgg22 (.tmp rfl) ((hS.blk 0 rfl).celln rfl)) ?_
           refine HW.pp (PEv.fieldAddr (off := 9) Tryz.underlying24 rfl rfl Tryz.sizeOf22 rfl (.tmp rfl)) ?_
           refine HW.pp (PEv.load Tryz.isAgg22 (.tmp rfl) ((hB10f _ hS.fr).cell h9)) ?_
           refine HW.pp (PEv.move (.tmp rfl)) ?_
           refine HW.pp (PEv.indexAddr' Tryz.underlying22 Tryz.sizeOf50 (.tmp rfl) (.tmp rfl) (by omega) ax) ?_
           refine HW.pp (PEv.loadA Tryz.isAgg50 Tryz.sizeOf50 rfl (.tmp rfl) (hcx)) ?_
           refine HW.r (p := fun v w => Sl w v 19 (Fact.cells) [x]) (fun _ _ _ h u => Sl.up h u) rfl (fun w hu a ha => let ⟨v, w', h1, h2⟩ := REv.buildSlice (xs := [x]) (enc := Fact.cells) (mk := fun f : Fact => .agg f.cells) Tryz.underlying22 Tryz.sizeOf50 Tryz.zeroValue50 rfl (Nat.le_of_ble_eq_true rfl) (fun _ => rfl) (fun _ => rfl) (.cons (.tmp rfl) .nil) rfl a ha; ⟨v, w', h1, h2.q⟩) rfl ?_
           refine HW.nil ⟨fun a w' hu ha => ?_, ?_⟩
           ·exact (REv.open (d := 149) (p := fun v w => Sl w v 19 Fact.cells [x]) rfl fun vv hv => (REv.appendF (bytes := 160) (i := Tryz.t50) Tryz.underlying22 (by kernel_rfl) rfl rfl rfl rfl (by decide) (fun _ => rfl) Fact.one (.tmp rfl) (.tmp rfl) ((hS.up hu).own 4 rfl) hv (by have h1 := filt_len ((fun f : Fact => decide (f.Recipe = r))) b.Targets j; have h2 := hk.sh 9; simp [maxLen]; omega) (by have h1 := filt_len ((fun f : Fact => decide (f.Recipe = r))) b.Targets j; simp; omega)).mono fun v' w'' h => (hS.up hu).stp 4 rfl h).y ha
           intro v150 w23 hS
           refine LW.pp (PEv.fieldAddr (off := 9) Tryz.underlying24 rfl rfl Tryz.sizeOf22 rfl (.tmp rfl)) ?_
           refine LW.s (SEv.store Tryz.sizeOf22 (.tmp rfl) (.tmp rfl) ((hS.own 4 rfl).oneV (fun _ => rfl)) (hS.blk 0 rfl) (Nat.le_of_ble_eq_true rfl)) rfl rfl rfl ?_
           intro w24 Nw24
           have zw24 := Nw24.size
           replace hS := hS.putB 0 rfl (show Set_ _ w24 _ (cC vP vM vR v150) _ from Nw24)
           change Wx.Sep _ _ _ [_, _, _, _, _] at hS
           clear hcx
           refine LW.nil (KW.inBlock (KW.then (CW.region (LW.M rfl ?_))))
           refine LW.pp (PEv.inc (.tmp rfl) (by omega)) ?_
           refine LW.A rfl (LW.nil (KW.round ?_))
           first | exact ⟨(j + 1, v150), ⟨by show j + 1 ≤ _; omega, by first | (rw [fp_yes hx hid]; exact hS.take 5) | (rw [fp_no hx hid]; exact hS.take 5)⟩, ⟨rfl, rfl, rfl, rfl, rfl, rfl, rfl, rfl, trivial⟩, by show b.Targets.length - (j + 1) < b.Targets.length - j; omega⟩ | exact ⟨(j + 1, vT), ⟨by show j + 1 ≤ _; omega, by first | (rw [fp_yes hx hid]; exact hS.take 5) | (rw [fp_no hx hid]; exact hS.take 5)⟩, ⟨rfl, rfl, rfl, rfl, rfl, rfl, rfl, rfl, trivial⟩, by show b.Targets.length - (j + 1) < b.Targets.length - j; omega⟩
          ·first | replace h141 := dT h141 | replace h141 := dF h141 | skip
           have hid : (fun f : Fact => decide (f.Recipe = r)) x = false := decide_eq_false h141
           refine CW.skip (KW.inBlock (KW.then (CW.region (LW.M rfl ?_))))
           refine LW.pp (PEv.inc (.tmp rfl) (by omega)) ?_
           refine LW.A rfl (LW.nil (KW.round ?_))
           first | exact ⟨(j + 1, v150), ⟨by show j + 1 ≤ _; omega, by first | (rw [fp_yes hx hid]; exact hS.take 5) | (rw [fp_no hx hid]; exact hS.take 5)⟩, ⟨rfl, rfl, rfl, rfl, rfl, rfl, rfl, rfl, trivial⟩, by show b.Targets.length - (j + 1) < b.Targets.length - j; omega⟩ | exact ⟨(j + 1, vT), ⟨by show j + 1 ≤ _; omega, by first | (rw [fp_yes hx hid]; exact hS.take 5) | (rw [fp_no hx hid]; exact hS.take 5)⟩, ⟨rfl, rfl, rfl, rfl, rfl, rfl, rfl, rfl, trivial⟩, by show b.Targets.length - (j + 1) < b.Targets.length - j; omega⟩
         ·first | replace h131 := dT h131 | replace h131 := dF h131 | skip
          refine CW.exit (KW.then_exit (KW.then_exit (KW.block_hit (KW.then (CW.seq ?_)))))
          have hjl : j = b.Targets.length := by omega
          rw [hjl, List.take_length] at hS
          have hW := hUp _ hS.fr
          have hC := hCf _ hS.fr
          have hB10 := hB10f _ hS.fr
          have hB11 := hS.blk 0 rfl
          have hC2 : BaseC w22 (cC vP vM vR vT) (otherB b t c r) := cC_base ((hS.own 1 rfl).sl (fun _ => rfl)) ((hS.own 2 rfl).sl (fun _ => rfl)) ((hS.own 3 rfl).sl (fun _ => rfl)) ((hS.own 4 rfl).sl (fun _ => rfl))
          refine CW.draws (by kernel_rfl) (by kernel_rfl) rfl rfl ?_
          refine HW.pp (PEv.move (.tmp rfl)) ?_
          refine HW.pp (PEv.move (.tmp rfl)) ?_
          refine HW.yp rfl rfl rfl rfl rfl (PEv.loadA Tryz.isAgg24 Tryz.sizeOf24 (hC.size) (.tmp rfl) (hB10.agg)) rfl ?_
          refine HW.yp rfl rfl rfl rfl rfl (PEv.move (.tmp rfl)) rfl ?_
          refine HW.yp rfl rfl rfl rfl rfl (PEv.move (.tmp rfl)) rfl ?_
          refine HW.yp rfl rfl rfl rfl rfl (PEv.move (.tmp rfl)) rfl ?_
          refine HW.yqc (ph := .pred fun v w => DecsE w v (desF b t c r)) (fun _ _ _ h u => DecsE.up h u) rfl rfl rfl rfl rfl (fun a w hu ha => ⟨_, _, enter_call0 (.cons (.tmp rfl) (.cons (.tmp rfl) (.cons (.tmp rfl) (.cons (.tmp rfl) .nil)))) (Tryz.en18) a ha, (DecisionsE_any bc b t c r w (hC.up hu) (Nat.le_trans (hk.sh 0) (by decide)) (Nat.le_trans (hk.sh 8) (by decide)) (Nat.le_trans (hk.sh 1) (by decide)) (Nat.le_trans (hk.sh 9) (by decide))).mono fun v w' h => ⟨h.2, h.1⟩⟩) rfl ?_
          refine HW.yp rfl rfl rfl rfl rfl (PEv.loadA Tryz.isAgg24 Tryz.sizeOf24 rfl (.tmp rfl) (hB11.agg)) rfl ?_
          refine HW.yp rfl rfl rfl rfl rfl (PEv.move (.tmp rfl)) rfl ?_
          refine HW.yp rfl rfl rfl rfl rfl (PEv.move (.tmp rfl)) rfl ?_
          refine HW.yp rfl rfl rfl rfl rfl (PEv.move (.tmp rfl)) rfl ?_
          refine HW.yqc (ph := .pred fun v w => DecsE w v (desF b t c r)) (fun _ _ _ h u => DecsE.up h u) rfl rfl rfl rfl rfl (fun a w hu ha => ⟨_, _, enter_call0 (.cons (.tmp rfl) (.cons (.tmp rfl) (.cons (.tmp rfl) (.cons (.tmp rfl) .nil)))) (Tryz.en18) a ha, (DecisionsO_any (cC vP vM vR vT) b t c r w (hC2.up hu) hk).mono fun v w' h => ⟨h.2, h.1⟩⟩) rfl ?_
          refine HW.yqc (ph := .eq (.bool true)) (phUp.eq _) rfl rfl rfl rfl rfl (fun a w hu ha => ⟨_, _, enter_any2 Tryz.en17 a w, (sameList_any (a.eval (.tmp 158)) (a.eval (.tmp 163)) (desF b t c r) (desF b t c r) w (ha.known (p := fun v w => DecsE w v (desF b t c r)) rfl) (ha.known (p := fun v w => DecsE w v (desF b t c r)) rfl) (by rw [desF_len]; exact Nat.le_trans (rnsF_len _ _ _ _) (Nat.le_trans (hk.sh 0) (by decide))) (fun D hD => Nat.le_trans (desF_uses _ _ _ _ D hD) (Nat.le_trans (rnsF_len _ _ _ _) (Nat.le_trans (hk.sh 0) (by decide))))).mono fun _ _ h => ⟨h.2, h.1.trans (by rw [sameDs_self])⟩⟩) rfl ?_
          refine HW.pp (PEv.pick_and (.tmp rfl) (fun hp => (by first | exact .const _ | exact .tmp rfl | exact .cond rfl (by first | assumption | (rw [hp]; rfl) | (rw [hc, hp]; rfl) | simp_all)))) ?_
          refine HW.pp (PEv.assign (.tmp rfl)) ?_
          refine HW.nil ?_
          intro w25 uw25
          have zw25 := uw25.size
          replace hW := hW.up uw25
          replace hC := hC.up uw25
          replace hB10 := hB10.up uw25
          replace hB11 := hB11.up uw25
          replace hC2 := hC2.up uw25
          refine KW.then (CW.ret ?_)
          refine KW.ret1 rfl rfl ⟨_, rfl, ?_⟩
          exact ⟨rfl, hW⟩
end Go.Proofs.YtgffaeachbbjoaaGreatDoor
end
