import Derived.Test.YtgffaeachbbjoaaGreatDoorKR115
section
namespace Go.Wx
def sameD (a b : Dec) : Bool := decide (a.run = b.run) && rtB a.par b.par && rtB a.est b.est && decide (a.uses = b.uses)
theorem sameD_iff (a b : Dec) : sameD a b = true ↔ a = b := by
  obtain ⟨a1, a2, a3, a4⟩ := a
  obtain ⟨b1, b2, b3, b4⟩ := b
  unfold sameD
  simp only [Bool.and_eq_true, decide_eq_true_eq, rtB_iff, Dec.mk.injEq, and_assoc]
theorem sameD_self (a : Dec) : sameD a a = true := (sameD_iff a a).2 rfl
def sameDs : List Dec → List Dec → Bool
  | [], [] => true
  | a :: l, b :: m => sameD a b && sameDs l m
  | _, _ => false
theorem sameDs_self : ∀ l : List Dec, sameDs l l = true
  | [] => rfl
  | a :: l => by unfold sameDs; rw [sameD_self, sameDs_self l]; rfl
theorem ints_step {l m : List Int} {k : Nat} {x y : Int} (hx : l[k]? = some x) (hy : m[k]? = some y) (h : l.take k = m.take k) (e : x = y) : l.take (k + 1) = m.take (k + 1) := by
  rw [take_one hx, take_one hy, h, e]
theorem same_no {a b : Dec} (h : (!decide (a.run = b.run) || !rtB a.par b.par || !rtB a.est b.est || !decide ((a.uses.length : Int) = (b.uses.length : Int))) = true) : sameD a b = false := by
  cases hs : sameD a b with
  | false => rfl
  | true =>
    have e := (sameD_iff a b).1 hs
    subst e
    simp [rtB_self] at h
theorem same_no2 {a b : Dec} {k : Nat} {x y : Int} (hx : a.uses[k]? = some x) (hy : b.uses[k]? = some y) (h : x ≠ y) : sameD a b = false := by
  cases hs : sameD a b with
  | false => rfl
  | true =>
    have e := (sameD_iff a b).1 hs
    subst e
    rw [hx] at hy
    exact absurd (Option.some.inj hy) h
theorem same_yes {a b : Dec} (h : (!decide (a.run = b.run) || !rtB a.par b.par || !rtB a.est b.est || !decide ((a.uses.length : Int) = (b.uses.length : Int))) = false) (hu : a.uses = b.uses) : sameD a b = true := by
  simp only [Bool.or_eq_false_iff, Bool.not_eq_false'] at h
  unfold sameD
  rw [h.1.1.1, h.1.1.2, h.1.2, hu, decide_eq_true rfl]; rfl
theorem sameDs_len : ∀ {l m : List Dec}, l.length ≠ m.length → sameDs l m = false
  | [], [], h => absurd rfl h
  | [], _ :: _, _ => rfl
  | _ :: _, [], _ => rfl
  | a :: l, b :: m, h => by unfold sameDs; rw [sameDs_len (fun e => h (by simp [e])), Bool.and_false]
theorem sameDs_step {l m : List Dec} {k : Nat} {x y : Dec} (hx : l[k]? = some x) (hy : m[k]? = some y) : sameDs (l.drop k) (m.drop k) = (sameD x y && sameDs (l.drop (k + 1)) (m.drop (k + 1))) := by
  have h1 := (List.getElem?_eq_some_iff.1 hx)
  have h2 := (List.getElem?_eq_some_iff.1 hy)
  rw [List.drop_eq_getElem_cons h1.1, List.drop_eq_getElem_cons h2.1, h1.2, h2.2]; rfl
theorem sameDs_end {l m : List Dec} {k : Nat} (h1 : l.length ≤ k) (h2 : m.length ≤ k) : sameDs (l.drop k) (m.drop k) = true := by
  rw [List.drop_eq_nil_of_le h1, List.drop_eq_nil_of_le h2]; rfl
theorem dp_at {L : List DP} {Ds : List Dec} {k : Nat} {p : DP} (hm : L.map DP.dec = Ds) (h : L[k]? = some p) : Ds[k]? = some p.dec := by rw [← hm, List.getElem?_map, h]; rfl
theorem dp_uses {w : World} {B o : Nat} {p : DP} (h : AggAt w B o p.cells) : w.cell? ⟨B, o + 5, none⟩ = some p.uv := h 5 _ rfl
theorem dp_run {w : World} {B o : Nat} {p : DP} (h : AggAt w B o p.cells) : w.cell? ⟨B, o, none⟩ = some (vi p.dec.run) := h 0 _ rfl
theorem dp_est {w : World} {B o : Nat} {p : DP} (h : AggAt w B o p.cells) : AggAt w B (o + 3) p.dec.est.cells := fun j v hv => by
  have h2 : p.cells[3 + j]? = some v := by
    match j with
    | 0 => simpa [Rt.cells, DP.cells, DecV.cells, Dec.v] using hv
    | 1 => simpa [Rt.cells, DP.cells, DecV.cells, Dec.v] using hv
    | j + 2 => simp [Rt.cells] at hv
  have := h (3 + j) v h2
  rwa [show o + (3 + j) = o + 3 + j by omega] at this
theorem dp_par0 {w : World} {B : Nat} {p : DP} {T : TypeId} (h : Blk w B p.cells T) : AggAt w B 1 p.dec.par.cells := by have := dp_par h.agg; rwa [Nat.zero_add] at this
theorem dp_est0 {w : World} {B : Nat} {p : DP} {T : TypeId} (h : Blk w B p.cells T) : AggAt w B 3 p.dec.est.cells := by have := dp_est h.agg; rwa [Nat.zero_add] at this
theorem els_p {w : World} {ad : Option Addr} {p q r : DP} (h : Els w ad 6 DP.cells [p, q, r]) : ∃ B o, ad = some ⟨B, o, none⟩ ∧ AggAt w B (o + 0 * 6) p.cells ∧ AggAt w B (o + 1 * 6) q.cells ∧ AggAt w B (o + 2 * 6) r.cells := by
  obtain ⟨B, o, e, h0⟩ := h 0 p rfl
  obtain ⟨B1, o1, e1, h1⟩ := h 1 q rfl
  obtain ⟨B2, o2, e2, h2⟩ := h 2 r rfl
  cases e.symm.trans e1
  cases e.symm.trans e2
  exact ⟨B, o, e, h0, h1, h2⟩
theorem sl_hd {w : World} {ad : Option Addr} {n c : Nat} {x : Int} {xs : List Int} (h : Sl w (.slice ad n c) 1 eInt (x :: xs)) : ∃ B o, ad = some ⟨B, o, none⟩ ∧ AggAt w B (o + 0 * 1) (eInt x) := by
  obtain ⟨ad, c, e, hE⟩ := h
  cases e
  obtain ⟨B, o, e1, h1⟩ := hE 0 x rfl
  exact ⟨B, o, e1, h1⟩
theorem dps3 {L : List DP} {a b c : Dec} (h : L.map DP.dec = [a, b, c]) : ∃ a1 c1 a2 c2 a3 c3, L = [⟨a, a1, c1⟩, ⟨b, a2, c2⟩, ⟨c, a3, c3⟩] := by
  match L, h with
  | [⟨p, a1, c1⟩, ⟨q, a2, c2⟩, ⟨r, a3, c3⟩], h =>
    injection h with h1 h
    injection h with h2 h
    injection h with h3 _
    dsimp only at h1 h2 h3
    subst h1 h2 h3
    exact ⟨a1, c1, a2, c2, a3, c3, rfl⟩
theorem exV : ∀ f ∈ exB.Processes, inI f.Value := fun f hf => by
  rcases List.mem_cons.1 hf with rfl | hf
  · exact ⟨by decide, by decide⟩
  · rcases List.mem_cons.1 hf with rfl | hf
    · exact ⟨by decide, by decide⟩
    · rcases List.mem_cons.1 hf with rfl | hf
      · exact ⟨by decide, by decide⟩
      · cases hf
theorem els_stoF {w w' : World} {B : Nat} {cs : Array Value} {T : TypeId} {ad : Option Addr} {xs : List Fact} (h : Els w ad 19 Fact.cells xs) (hb : Blk w B cs T) (hc : ∀ (i : Nat) (n : Int), cs[i]? ≠ some (vi n)) (u : Sto B w w') : Els w' ad 19 Fact.cells xs := fun i x hx => by
  obtain ⟨B', o, e, h1⟩ := h i x hx
  refine ⟨B', o, e, h1.sto u ?_⟩
  intro e2
  have h2 := h1 0 (vi x.Kind) rfl
  rw [e2] at h2
  have h3 : cs[o + i * 19 + 0]? = some (vi x.Kind) := by
    unfold World.cell? at h2
    rw [show w.heap[B]? = some (.cells cs T (0, 0)) from hb] at h2
    simpa using h2
  exact hc _ _ h3
theorem sl_stoF {w w' : World} {B : Nat} {cs : Array Value} {T : TypeId} {v : Value} {xs : List Fact} (h : Sl w v 19 Fact.cells xs) (hb : Blk w B cs T) (hc : ∀ (i : Nat) (n : Int), cs[i]? ≠ some (vi n)) (u : Sto B w w') : Sl w' v 19 Fact.cells xs := let ⟨ad, c, e, hE⟩ := h; ⟨ad, c, e, els_stoF hE hb hc u⟩
theorem base_sto {w w' : World} {B : Nat} {cs : Array Value} {T : TypeId} {bc : Array Value} {b : Base} (h : BaseC w bc b) (hb : Blk w B cs T) (hc : ∀ (i : Nat) (n : Int), cs[i]? ≠ some (vi n)) (u : Sto B w w') : BaseC w' bc b := by
  obtain ⟨v0, v1, v2, v3, v4, v5, v6, v7, v8, v9, v10, e, h0, h1, h2, h3, h4, h5, h6, h7, h8, h9, h10⟩ := h
  have f : ∀ {v : Value} {xs : List Fact}, Sl w v 19 Fact.cells xs → Sl w' v 19 Fact.cells xs := fun h => sl_stoF h hb hc u
  exact ⟨v0, v1, v2, v3, v4, v5, v6, v7, v8, v9, v10, e, f h0, f h1, f h2, f h3, f h4, f h5, f h6, f h7, f h8, f h9, f h10⟩
end Go.Wx
namespace Go.Proofs.YtgffaeachbbjoaaGreatDoor
open Go.Wx Go.RowKit
theorem rwhole_any (n : Int) (w : World) : Ret Tryz.prog 28 #[vi n] w fun r w' => r = .agg (rI n).cells ∧ Up w w' := by
  obtain ⟨w0, rfl⟩ : ∃ w0, w0 = w := ⟨_, rfl⟩
  have hS := Sep.start no w0
  refine Calls_start (n := 5) (m := 9) Tryz.func28 rfl rfl rfl ?_
  refine CW.S ?_
  refine LW.r (REv.allocA Tryz.zeroValue34) rfl rfl rfl rfl ?_
  rintro _ w1 ⟨B2, rfl, NB2⟩
  have eB2 := NB2.at_
  have zB2 := NB2.size
  replace hS := hS.addB NB2
  change Wx.Sep _ _ _ [_] at hS
  refine LW.S (CW.region (LW.M rfl ?_))
  refine LW.pp (PEv.build (cs := (rI n).cells) Tryz.underlying34 Tryz.zeroValue34 Tryz.places34 (.cons (.tmp rfl) (.cons (.const _) .nil)) rfl) ?_
  refine LW.s (SEv.storeA Tryz.sizeOf34 rfl (.tmp rfl) (.tmp rfl) (Rt.one _) (hS.blk 0 rfl) rfl) rfl rfl rfl ?_
  intro w2 Nw2
  have zw2 := Nw2.size
  replace hS := hS.putB 0 rfl (show Set_ _ w2 _ ((rI n).cells) _ from Nw2)
  change Wx.Sep _ _ _ [_] at hS
  refine LW.T (CW.ret ?_)
  refine KW.retA rfl rfl Tryz.isAgg34 Tryz.sizeOf34 rfl ((hS.blk 0 rfl).agg) ⟨_, rfl, ?_⟩
  exact ⟨rfl, hS.upd⟩
theorem run_any (i t v : Int) (w : World) : Ret Tryz.prog 56 #[vi i, vi t, vi v] w fun r w' => r = .agg (exR i t v).cells ∧ Up w w' := by
  obtain ⟨w0, rfl⟩ : ∃ w0, w0 = w := ⟨_, rfl⟩
  have hS := Sep.start no w0
  refine Calls_start (n := 12) (m := 9) Tryz.func56 rfl rfl rfl ?_
  refine CW.S ?_
  refine LW.r (REv.allocA Tryz.zeroValue50) rfl rfl rfl rfl ?_
  rintro _ w1 ⟨B6, rfl, NB6⟩
  have eB6 := NB6.at_
  have zB6 := NB6.size
  replace hS := hS.addB NB6
  change Wx.Sep _ _ _ [_] at hS
  refine LW.S (CW.region (LW.M rfl (LW.M rfl (LW.M rfl (LW.M rfl ?_)))))
  refine LW.pp (PEv.build (cs := (exR i t v).cells) Tryz.underlying50 Tryz.zeroValue50 Tryz.places50 (.cons (.const _) (.cons (.const _) (.cons (.tmp rfl) (.cons (.const _) (.cons (.const _) (.cons (.const _) (.cons (.const _) (.cons (.tmp rfl) (.cons (.tmp rfl) (.cons (.tmp rfl) .nil)))))))))) (by kernel_rfl)) ?_
  refine LW.s (SEv.storeA Tryz.sizeOf50 rfl (.tmp rfl) (.tmp rfl) (Fact.one _) (hS.blk 0 rfl) rfl) rfl rfl rfl ?_
  intro w2 Nw2
  have zw2 := Nw2.size
  replace hS := hS.putB 0 rfl (show Set_ _ w2 _ ((exR i t v).cells) _ from Nw2)
  change Wx.Sep _ _ _ [_] at hS
  refine LW.T (CW.ret ?_)
  refine KW.retA rfl rfl Tryz.isAgg50 Tryz.sizeOf50 rfl ((hS.blk 0 rfl).agg) ⟨_, rfl, ?_⟩
  exact ⟨rfl, hS.upd⟩
theorem example_any (w : World) : Ret Tryz.prog 30 #[] w fun r w' => ∃ bc, r = .agg bc ∧ BaseC w' bc exB ∧ Up w w' := by
  have hW := Up.refl w
  obtain ⟨w0, rfl⟩ : ∃ w0, w0 = w := ⟨_, rfl⟩
  refine Calls_start (n := 11) (m := 9) Tryz.func30 rfl rfl rfl ?_
  refine CW.S ?_
  refine LW.r (REv.allocA Tryz.zeroValue24) rfl rfl rfl rfl ?_
  rintro _ w1 ⟨B0, rfl, NB0⟩
  have eB0 := NB0.at_
  have zB0 := NB0.size
  replace hW := hW.up NB0.up
  have hB0 := NB0.blk
  refine LW.S (CW.region ?_)
  refine LW.c (enter_call0 (.cons (.const _) (.cons (.const _) (.cons (.const _) .nil))) (Tryz.en56)) rfl rfl rfl rfl (run_any _ _ _ _) ?_
  rintro _ w2 ⟨rfl, uw2⟩
  have zw2 := uw2.size
  replace hW := hW.up uw2
  replace hB0 := hB0.up uw2
  refine LW.c (enter_call0 (.cons (.const _) (.cons (.const _) (.cons (.const _) .nil))) (Tryz.en56)) rfl rfl rfl rfl (run_any _ _ _ _) ?_
  rintro _ w3 ⟨rfl, uw3⟩
  have zw3 := uw3.size
  replace hW := hW.up uw3
  replace hB0 := hB0.up uw3
  refine LW.c (enter_call0 (.cons (.const _) (.cons (.const _) (.cons (.const _) .nil))) (Tryz.en56)) rfl rfl rfl rfl (run_any _ _ _ _) ?_
  rintro _ w4 ⟨rfl, uw4⟩
  have zw4 := uw4.size
  replace hW := hW.up uw4
  replace hB0 := hB0.up uw4
  refine LW.r (REv.buildSlice (xs := [exR 1 10 0, exR 2 20 98000, exR 3 30 100000]) (enc := Fact.cells) (mk := fun f : Fact => .agg f.cells) Tryz.underlying22 Tryz.sizeOf50 Tryz.zeroValue50 rfl (by decide) (fun _ => rfl) (fun _ => rfl) (.cons (.tmp rfl) (.cons (.tmp rfl) (.cons (.tmp rfl) .nil))) rfl) rfl rfl rfl rfl ?_
  rintro _ w5 ⟨B4, cB4, rfl, NB4, yB4, xB4⟩
  have eB4 := NB4.at_
  have zB4 := NB4.size
  replace hW := hW.up NB4.up
  replace hB0 := hB0.up NB4.up
  have hB4 := NB4.blk
  have hE4 := xB4
  refine LW.pp (PEv.build (cs := exT.cells) Tryz.underlying50 Tryz.zeroValue50 Tryz.places50 (.cons (.const _) (.cons (.const _) (.cons (.const _) (.cons (.const _) .nil)))) (by kernel_rfl)) ?_
  refine LW.r (REv.buildSlice (xs := [exT]) (enc := Fact.cells) (mk := fun f : Fact => .agg f.cells) Tryz.underlying22 Tryz.sizeOf50 Tryz.zeroValue50 rfl (by decide) (fun _ => rfl) (fun _ => rfl) (.cons (.tmp rfl) .nil) rfl) rfl rfl rfl rfl ?_
  rintro _ w6 ⟨B6, cB6, rfl, NB6, yB6, xB6⟩
  have eB6 := NB6.at_
  have zB6 := NB6.size
  replace hW := hW.up NB6.up
  replace hB0 := hB0.up NB6.up
  replace hB4 := hB4.up NB6.up
  replace hE4 := hE4.up NB6.up
  have hB6 := NB6.blk
  have hE6 := xB6
  refine LW.pp (PEv.build (cs := (exM 1 15 108).cells) Tryz.underlying50 Tryz.zeroValue50 Tryz.places50 (.cons (.const _) (.cons (.const _) (.cons (.const _) (.cons (.const _) (.cons (.const _) .nil))))) (by kernel_rfl)) ?_
  refine LW.pp (PEv.build (cs := (exM 2 25 101).cells) Tryz.underlying50 Tryz.zeroValue50 Tryz.places50 (.cons (.const _) (.cons (.const _) (.cons (.const _) (.cons (.const _) (.cons (.const _) .nil))))) (by kernel_rfl)) ?_
  refine LW.r (REv.buildSlice (xs := [exM 1 15 108, exM 2 25 101]) (enc := Fact.cells) (mk := fun f : Fact => .agg f.cells) Tryz.underlying22 Tryz.sizeOf50 Tryz.zeroValue50 rfl (by decide) (fun _ => rfl) (fun _ => rfl) (.cons (.tmp rfl) (.cons (.tmp rfl) .nil)) rfl) rfl rfl rfl rfl ?_
  rintro _ w7 ⟨B9, cB9, rfl, NB9, yB9, xB9⟩
  have eB9 := NB9.at_
  have zB9 := NB9.size
  replace hW := hW.up NB9.up
  replace hB0 := hB0.up NB9.up
  replace hB4 := hB4.up NB9.up
  replace hE4 := hE4.up NB9.up
  replace hB6 := hB6.up NB9.up
  replace hE6 := hE6.up NB9.up
  have hB9 := NB9.blk
  have hE9 := xB9
  refine LW.pp (PEv.build (cs := #[.slice (some ⟨B4, 0, none⟩) 3 3, .slice (some ⟨B9, 0, none⟩) 2 2, .slice none 0 0, .slice none 0 0, .slice none 0 0, .slice none 0 0, .slice none 0 0, .slice none 0 0, .slice none 0 0, .slice (some ⟨B6, 0, none⟩) 1 1, .slice none 0 0]) Tryz.underlying24 Tryz.zeroValue24 Tryz.places24 (.cons (.tmp rfl) (.cons (.tmp rfl) (.cons (.tmp rfl) .nil))) (by kernel_rfl)) ?_
  refine LW.s (SEv.storeA Tryz.sizeOf24 rfl (.tmp rfl) (.tmp rfl) (by simp [Value.oneCell']) hB0 rfl) rfl rfl rfl ?_
  intro w8 Nw8
  have zw8 := Nw8.size
  replace hW := hW.sto Nw8.sto (by omega)
  replace hB4 := hB4.sto Nw8.sto (by omega)
  replace hE4 := hE4.sto Nw8.sto (by omega)
  replace hB6 := hB6.sto Nw8.sto (by omega)
  replace hE6 := hE6.sto Nw8.sto (by omega)
  replace hB9 := hB9.sto Nw8.sto (by omega)
  replace hE9 := hE9.sto Nw8.sto (by omega)
  replace hB0 := Nw8.blk
  refine LW.T (CW.ret ?_)
  refine KW.retA rfl rfl Tryz.isAgg24 Tryz.sizeOf24 rfl (hB0.agg) ⟨_, rfl, ?_⟩
  exact ⟨_, rfl, ⟨_, _, _, _, _, _, _, _, _, _, _, rfl, Sl.of_els hE4, Sl.of_els hE9, Sl.nil _ _ _, Sl.nil _ _ _, Sl.nil _ _ _, Sl.nil _ _ _, Sl.nil _ _ _, Sl.nil _ _ _, Sl.nil _ _ _, Sl.of_els hE6, Sl.nil _ _ _⟩, hW⟩
theorem same_any (p q : DP) (w : World) (hp0 : Sl w p.uv 1 eInt p.dec.uses) (hq0 : Sl w q.uv 1 eInt q.dec.uses) (hl : p.dec.uses.length ≤ 100000) : Ret Tryz.prog 16 #[.agg p.cells, .agg q.cells] w fun r w' => r = .bool (sameD p.dec q.dec) ∧ Up w w' := by
  obtain ⟨w0, rfl⟩ : ∃ w0, w0 = w := ⟨_, rfl⟩
  have hS := Sep.start no w0
  obtain ⟨ad0, cp0, ev0, hE0⟩ := hp0
  obtain ⟨ad1, cp1, ev1, hE1⟩ := hq0
  cases ev0
  cases ev1
  refine Calls_start (n := 52) (m := 9) Tryz.func16 rfl rfl rfl ?_
  refine CW.S ?_
  refine LW.r (REv.boxA (.tmp rfl)) rfl rfl rfl rfl ?_
  rintro _ w1 ⟨B2, rfl, NB2⟩
  have eB2 := NB2.at_
  have zB2 := NB2.size
  replace hS := hS.addB NB2
  change Wx.Sep _ _ _ [_] at hS
  refine LW.r (REv.boxA (.tmp rfl)) rfl rfl rfl rfl ?_
  rintro _ w2 ⟨B3, rfl, NB3⟩
  have eB3 := NB3.at_
  have zB3 := NB3.size
  replace hS := hS.addB NB3
  change Wx.Sep _ _ _ [_, _] at hS
  refine LW.C (LW.S (CW.S ?_))
  refine LW.pp (PEv.fieldAddr (off := 0) Tryz.underlying37 rfl rfl Tryz.sizeOf3 rfl (.tmp rfl)) ?_
  refine LW.pp (PEv.load Tryz.isAgg3 (.tmp rfl) ((hS.blk 0 rfl).celln rfl)) ?_
  refine LW.pp (PEv.fieldAddr (off := 0) Tryz.underlying37 rfl rfl Tryz.sizeOf3 rfl (.tmp rfl)) ?_
  refine LW.pp (PEv.load Tryz.isAgg3 (.tmp rfl) ((hS.blk 1 rfl).celln rfl)) ?_
  refine LW.pp (PEv.neq (.tmp rfl) (.tmp rfl)) ?_
  refine LW.M rfl ?_
  refine LW.g rfl rfl rfl rfl rfl rfl rfl (fun hc => PEv.fieldAddr (off := 1) Tryz.underlying37 rfl rfl Tryz.sizeOf34 rfl (.tmp rfl)) ?_
  refine LW.g rfl rfl rfl rfl rfl rfl rfl (fun hc => PEv.loadA Tryz.isAgg34 Tryz.sizeOf34 rfl (by first | exact .tmp rfl | exact .cond rfl (by first | assumption | simp_all)) (dp_par0 (hS.blk 0 rfl))) ?_
  refine LW.g rfl rfl rfl rfl rfl rfl rfl (fun hc => PEv.fieldAddr (off := 1) Tryz.underlying37 rfl rfl Tryz.sizeOf34 rfl (.tmp rfl)) ?_
  refine LW.g rfl rfl rfl rfl rfl rfl rfl (fun hc => PEv.loadA Tryz.isAgg34 Tryz.sizeOf34 rfl (by first | exact .tmp rfl | exact .cond rfl (by first | assumption | simp_all)) (dp_par0 (hS.blk 1 rfl))) ?_
  refine LW.g rfl rfl rfl rfl rfl rfl rfl (fun hc => PEv.neqA Tryz.eqGuardType34 (Tryz.eqRt _ _) (by first | exact .tmp rfl | exact .cond rfl (by first | assumption | simp_all)) (by first | exact .tmp rfl | exact .cond rfl (by first | assumption | simp_all))) ?_
  refine LW.pp (PEv.pick_or (.tmp rfl) (fun hp => (by first | exact .const _ | exact .tmp rfl | exact .cond rfl (by first | assumption | (rw [hp]; rfl) | (rw [hc, hp]; rfl) | simp_all)))) ?_
  refine LW.M rfl ?_
  refine LW.g rfl rfl rfl rfl rfl rfl rfl (fun hc => PEv.fieldAddr (off := 3) Tryz.underlying37 rfl rfl Tryz.sizeOf34 rfl (.tmp rfl)) ?_
  refine LW.g rfl rfl rfl rfl rfl rfl rfl (fun hc => PEv.loadA Tryz.isAgg34 Tryz.sizeOf34 rfl (by first | exact .tmp rfl | exact .cond rfl (by first | assumption | simp_all)) (dp_est0 (hS.blk 0 rfl))) ?_
  refine LW.g rfl rfl rfl rfl rfl rfl rfl (fun hc => PEv.fieldAddr (off := 3) Tryz.underlying37 rfl rfl Tryz.sizeOf34 rfl (.tmp rfl)) ?_
  refine LW.g rfl rfl rfl rfl rfl rfl rfl (fun hc => PEv.loadA Tryz.isAgg34 Tryz.sizeOf34 rfl (by first | exact .tmp rfl | exact .cond rfl (by first | assumption | simp_all)) (dp_est0 (hS.blk 1 rfl))) ?_
  refine LW.g rfl rfl rfl rfl rfl rfl rfl (fun hc => PEv.neqA Tryz.eqGuardType34 (Tryz.eqRt _ _) (by first | exact .tmp rfl | exact .cond rfl (by first | assumption | simp_all)) (by first | exact .tmp rfl | exact .cond rfl (by first | assumption | simp_all))) ?_
  refine LW.pp (PEv.pick_or (.tmp rfl) (fun hp => (by first | exact .const _ | exact .tmp rfl | exact .cond rfl (by first | assumption | (rw [hp]; rfl) | (rw [hc, hp]; rfl) | simp_all)))) ?_
  refine LW.M rfl ?_
  refine LW.g rfl rfl rfl rfl rfl rfl rfl (fun hc => PEv.fieldAddr (off := 5) Tryz.underlying37 rfl rfl Tryz.sizeOf35 rfl (.tmp rfl)) ?_
  refine LW.g rfl rfl rfl rfl rfl rfl rfl (fun hc => PEv.load Tryz.isAgg35 (by first | exact .tmp rfl | exact .cond rfl (by first | assumption | simp_all)) ((hS.blk 0 rfl).celln rfl)) ?_
  refine LW.g rfl rfl rfl rfl rfl rfl rfl (fun hc => PEv.lenS Tryz.underlying35 (by first | exact .tmp rfl | exact .cond rfl (by first | assumption | simp_all))) ?_
  refine LW.g rfl rfl rfl rfl rfl rfl rfl (fun hc => PEv.fieldAddr (off := 5) Tryz.underlying37 rfl rfl Tryz.sizeOf35 rfl (.tmp rfl)) ?_
  refine LW.g rfl rfl rfl rfl rfl rfl rfl (fun hc => PEv.load Tryz.isAgg35 (by first | exact .tmp rfl | exact .cond rfl (by first | assumption | simp_all)) ((hS.blk 1 rfl).celln rfl)) ?_
  refine LW.g rfl rfl rfl rfl rfl rfl rfl (fun hc => PEv.lenS Tryz.underlying35 (by first | exact .tmp rfl | exact .cond rfl (by first | assumption | simp_all))) ?_
  refine LW.g rfl rfl rfl rfl rfl rfl rfl (fun hc => PEv.neq (by first | exact .tmp rfl | exact .cond rfl (by first | assumption | simp_all)) (by first | exact .tmp rfl | exact .cond rfl (by first | assumption | simp_all))) ?_
  refine LW.pp (PEv.pick_or (.tmp rfl) (fun hp => (by first | exact .const _ | exact .tmp rfl | exact .cond rfl (by first | assumption | (rw [hp]; rfl) | (rw [hc, hp]; rfl) | simp_all)))) ?_
  refine LW.T ?_
  refine CW.cond (.tmp rfl) (fun h33 => ?_) (fun h33 => ?_)
  ·first | replace h33 := dT h33 | replace h33 := dF h33 | skip
   have hno : sameD p.dec q.dec = false := same_no h33
   refine CW.S (LW.C (LW.T (CW.ret (KW.then_ret ?_))))
   refine KW.ret1 rfl rfl ⟨_, rfl, ?_⟩
   first | exact ⟨by rw [hno], hS.upd⟩ | exact ⟨by rw [same_yes hyes (by have hkl : k = p.dec.uses.length := (by omega); rw [hkl, List.take_length, hll, List.take_length] at ht; exact ht)], hS.upd⟩
  ·first | replace h33 := dT h33 | replace h33 := dF h33 | skip
   have hyes : (!decide (p.dec.run = q.dec.run) || !rtB p.dec.par q.dec.par || !rtB p.dec.est q.dec.est || !decide ((p.dec.uses.length : Int) = (q.dec.uses.length : Int))) = false := h33
   have hll : p.dec.uses.length = q.dec.uses.length := by simp at hyes; omega
   refine CW.skip (KW.then (CW.seq (CW.S (LW.C (LW.T (CW.block ?_))))))
   refine CW.loopB (σ := Nat) (fun s w => (s ≤ p.dec.uses.length) ∧ (p.dec.uses.take s = q.dec.uses.take s) ∧ (Wx.Sep no w0 w [aBlk B2 p.cells 37, aBlk B3 q.cells 37])) (fun s => [(5, .eq (vi (s : Int)))]) ([(2, .eq _), (3, .eq _)]) (fun s => p.dec.uses.length - s) 0 ?_ ⟨rfl, rfl, rfl, trivial⟩ ?_
   ·exact ⟨Nat.zero_le _, rfl, hS⟩
   ·rintro k w3 ⟨hk, ht, hS⟩
    refine CW.seq (CW.S (LW.M rfl ?_))
    refine LW.pp (PEv.fieldAddr (off := 5) Tryz.underlying37 rfl rfl Tryz.sizeOf35 rfl (.tmp rfl)) ?_
    refine LW.pp (PEv.load Tryz.isAgg35 (.tmp rfl) ((hS.blk 0 rfl).celln rfl)) ?_
    refine LW.pp (PEv.lenS Tryz.underlying35 (.tmp rfl)) ?_
    refine LW.pp (PEv.lss (.tmp rfl) (.tmp rfl)) ?_
    refine LW.T ?_
    refine CW.cond (.tmp rfl) (fun h38 => ?_) (fun h38 => ?_)
    ·first | replace h38 := dT h38 | replace h38 := dF h38 | skip
     refine CW.skip (KW.then (CW.seq (CW.block (CW.seq ?_))))
     obtain ⟨x, hx⟩ := getElem?_of_lt (xs := p.dec.uses) (i := k) (by omega)
     obtain ⟨y, hy⟩ := getElem?_of_lt (xs := q.dec.uses) (i := k) (by omega)
     obtain ⟨Bx, ox, ax, hcx⟩ := (Els.up hE0 hS.upd) k x hx
     obtain ⟨By, oy, ay, hcy⟩ := (Els.up hE1 hS.upd) k y hy
     refine CW.draws (by kernel_rfl) (by kernel_rfl) rfl rfl ?_
     refine HW.pp (PEv.fieldAddr (off := 5) Tryz.underlying37 rfl rfl Tryz.sizeOf35 rfl (.tmp rfl)) ?_
     refine HW.pp (PEv.load Tryz.isAgg35 (.tmp rfl) ((hS.blk 0 rfl).celln rfl)) ?_
     refine HW.pp (PEv.move (.tmp rfl)) ?_
     refine HW.pp (PEv.indexAddr' Tryz.underlying35 Tryz.sizeOf3 (.tmp rfl) (.tmp rfl) (by omega) ax) ?_
     refine HW.pp (PEv.load Tryz.isAgg3 (.tmp rfl) (hcx.nth (j := 0) rfl)) ?_
     refine HW.pp (PEv.fieldAddr (off := 5) Tryz.underlying37 rfl rfl Tryz.sizeOf35 rfl (.tmp rfl)) ?_
     refine HW.pp (PEv.load Tryz.isAgg35 (.tmp rfl) ((hS.blk 1 rfl).celln rfl)) ?_
     refine HW.pp (PEv.move (.tmp rfl)) ?_
     refine HW.pp (PEv.indexAddr' Tryz.underlying35 Tryz.sizeOf3 (.tmp rfl) (.tmp rfl) (by omega) ay) ?_
     refine HW.pp (PEv.load Tryz.isAgg3 (.tmp rfl) (hcy.nth (j := 0) rfl)) ?_
     refine HW.pp (PEv.neq (.tmp rfl) (.tmp rfl)) ?_
     refine HW.nil ?_
     intro w4 uw4
     have zw4 := uw4.size
     replace hS := hS.up uw4
     refine KW.then ?_
     refine CW.cond (.tmp rfl) (fun h51 => ?_) (fun h51 => ?_)
     ·first | replace h51 := dT h51 | replace h51 := dF h51 | skip
      have hno : sameD p.dec q.dec = false := same_no2 hx hy (by simpa using h51)
      refine CW.S (LW.C (LW.T (CW.ret (KW.block_ret (KW.then_ret (KW.then_ret (KW.block_ret (KW.then_ret ?_))))))))
      refine KW.ret1 rfl rfl ⟨_, rfl, ?_⟩
      first | exact ⟨by rw [hno], hS.upd⟩ | exact ⟨by rw [same_yes hyes (by have hkl : k = p.dec.uses.length := (by omega); rw [hkl, List.take_length, hll, List.take_length] at ht; exact ht)], hS.upd⟩
     ·first | replace h51 := dT h51 | replace h51 := dF h51 | skip
      have hxy : x = y := by simpa using h51
      refine CW.skip (KW.inBlock (KW.then (CW.region (LW.M rfl ?_))))
      refine LW.pp (PEv.inc (.tmp rfl) (by omega)) ?_
      refine LW.A rfl (LW.nil (KW.round ?_))
      exact ⟨k + 1, ⟨by omega, ints_step hx hy ht hxy, hS.take 2⟩, ⟨rfl, rfl, rfl, trivial⟩, by omega⟩
    ·first | replace h38 := dT h38 | replace h38 := dF h38 | skip
     refine CW.exit (KW.then_exit (KW.then_exit (KW.block_hit (KW.then (CW.S (LW.C (LW.T (CW.ret ?_))))))))
     refine KW.ret1 rfl rfl ⟨_, rfl, ?_⟩
     first | exact ⟨by rw [hno], hS.upd⟩ | exact ⟨by rw [same_yes hyes (by have hkl : k = p.dec.uses.length := (by omega); rw [hkl, List.take_length, hll, List.take_length] at ht; exact ht)], hS.upd⟩
theorem sameList_any (v1 v2 : Go.Value) (l m : List Dec) (w : World) (h1 : DecsE w v1 l) (h2 : DecsE w v2 m) (hl : l.length ≤ 100000) (hu0 : ∀ D ∈ l, D.uses.length ≤ 100000) : Ret Tryz.prog 17 #[v1, v2] w fun r w' => r = .bool (sameDs l m) ∧ Up w w' := by
  have hW := Up.refl w
  obtain ⟨w0, rfl⟩ : ∃ w0, w0 = w := ⟨_, rfl⟩
  obtain ⟨L, ⟨ad1, cp1, rfl, hE1⟩, hL1, hm1⟩ := h1
  obtain ⟨M, ⟨ad2, cp2, rfl, hE2⟩, hL2, hm2⟩ := h2
  have hz1 : L.length = l.length := by rw [← hm1, List.length_map]
  have hz2 : M.length = m.length := by rw [← hm2, List.length_map]
  refine Calls_start (n := 27) (m := 9) Tryz.func17 rfl rfl rfl ?_
  refine CW.S (LW.C (LW.S (CW.S (LW.M rfl ?_))))
  refine LW.pp (PEv.lenS Tryz.underlying43 (.tmp rfl)) ?_
  refine LW.M rfl ?_
  refine LW.pp (PEv.lenS Tryz.underlying43 (.tmp rfl)) ?_
  refine LW.pp (PEv.neq (.tmp rfl) (.tmp rfl)) ?_
  refine LW.T ?_
  refine CW.cond (.tmp rfl) (fun h10 => ?_) (fun h10 => ?_)
  ·first | replace h10 := dT h10 | replace h10 := dF h10 | skip
   have hne : l.length ≠ m.length := by simp at h10; omega
   refine CW.S (LW.C (LW.T (CW.ret (KW.then_ret ?_))))
   refine KW.ret1 rfl rfl ⟨_, rfl, ?_⟩
   first | exact ⟨by rw [sameDs_len hne], hW⟩ | exact ⟨by rw [ht, sameDs_step hdx hdy, hno, Bool.false_and], hW⟩ | exact ⟨by rw [ht, sameDs_end (by omega) (by omega)], hW⟩
  ·first | replace h10 := dT h10 | replace h10 := dF h10 | skip
   have hlm : l.length = m.length := by simp at h10; omega
   refine CW.skip (KW.then (CW.seq (CW.S (LW.C (LW.T (CW.block ?_))))))
   refine CW.loopB (σ := Nat) (fun s w => (s ≤ L.length) ∧ (sameDs l m = sameDs (l.drop s) (m.drop s)) ∧ (Up w0 w)) (fun s => [(5, .eq (vi (s : Int)))]) ([(0, .eq _), (1, .eq _)]) (fun s => L.length - s) 0 ?_ ⟨rfl, rfl, rfl, trivial⟩ ?_
   ·exact ⟨Nat.zero_le _, rfl, hW⟩
   ·rintro k w1 ⟨hk, ht, hW⟩
    refine CW.seq (CW.S (LW.M rfl (LW.M rfl ?_)))
    refine LW.pp (PEv.lenS Tryz.underlying43 (.tmp rfl)) ?_
    refine LW.pp (PEv.lss (.tmp rfl) (.tmp rfl)) ?_
    refine LW.T ?_
    refine CW.cond (.tmp rfl) (fun h14 => ?_) (fun h14 => ?_)
    ·first | replace h14 := dT h14 | replace h14 := dF h14 | skip
     refine CW.skip (KW.then (CW.seq (CW.block (CW.seq ?_))))
     obtain ⟨x, hx⟩ := getElem?_of_lt (xs := L) (i := k) (by omega)
     obtain ⟨y, hy⟩ := getElem?_of_lt (xs := M) (i := k) (by omega)
     obtain ⟨Bx, ox, ax, hcx⟩ := (Els.up hE1 hW) k x hx
     obtain ⟨By, oy, ay, hcy⟩ := (Els.up hE2 hW) k y hy
     have hdx := dp_at hm1 hx
     have hdy := dp_at hm2 hy
     refine CW.draws (by kernel_rfl) (by kernel_rfl) rfl rfl ?_
     refine HW.pp (PEv.move (.tmp rfl)) ?_
     refine HW.pp (PEv.move (.tmp rfl)) ?_
     refine HW.pp (PEv.indexAddr' Tryz.underlying43 Tryz.sizeOf37 (.tmp rfl) (.tmp rfl) (by omega) ax) ?_
     refine HW.pp (PEv.loadA Tryz.isAgg37 Tryz.sizeOf37 rfl (.tmp rfl) (hcx)) ?_
     refine HW.pp (PEv.move (.tmp rfl)) ?_
     refine HW.pp (PEv.move (.tmp rfl)) ?_
     refine HW.pp (PEv.indexAddr' Tryz.underlying43 Tryz.sizeOf37 (.tmp rfl) (.tmp rfl) (by omega) ay) ?_
     refine HW.pp (PEv.loadA Tryz.isAgg37 Tryz.sizeOf37 rfl (.tmp rfl) (hcy)) ?_
     refine HW.c (fun a w _ ha => enter_call0 (.cons (.tmp rfl) (.cons (.tmp rfl) .nil)) (Tryz.en16) a ha) rfl rfl (fun w hu => same_any x y w ((hL1 x (List.mem_of_getElem? hx)).up (hW.trans hu)) ((hL2 y (List.mem_of_getElem? hy)).up (hW.trans hu)) (hu0 _ (List.mem_of_getElem? hdx))) ?_
     refine HW.pp (PEv.not (.tmp rfl)) ?_
     refine HW.nil ?_
     intro w2 uw2
     have zw2 := uw2.size
     replace hW := hW.up uw2
     refine KW.then ?_
     refine CW.cond (.tmp rfl) (fun h26 => ?_) (fun h26 => ?_)
     ·first | replace h26 := dT h26 | replace h26 := dF h26 | skip
      have hno : sameD x.dec y.dec = false := by simpa using h26
      refine CW.S (LW.C (LW.T (CW.ret (KW.block_ret (KW.then_ret (KW.then_ret (KW.block_ret (KW.then_ret ?_))))))))
      refine KW.ret1 rfl rfl ⟨_, rfl, ?_⟩
      first | exact ⟨by rw [sameDs_len hne], hW⟩ | exact ⟨by rw [ht, sameDs_step hdx hdy, hno, Bool.false_and], hW⟩ | exact ⟨by rw [ht, sameDs_end (by omega) (by omega)], hW⟩
     ·first | replace h26 := dT h26 | replace h26 := dF h26 | skip
      have hys : sameD x.dec y.dec = true := by simpa using h26
      refine CW.skip (KW.inBlock (KW.then (CW.region (LW.M rfl ?_))))
      refine LW.pp (PEv.inc (.tmp rfl) (by omega)) ?_
      refine LW.A rfl (LW.nil (KW.round ?_))
      exact ⟨k + 1, ⟨by omega, by rw [ht, sameDs_step hdx hdy, hys, Bool.true_and], hW⟩, ⟨rfl, rfl, rfl, trivial⟩, by first | omega | (dsimp only; omega)⟩
    ·first | replace h14 := dT h14 | replace h14 := dF h14 | skip
     refine CW.exit (KW.then_exit (KW.then_exit (KW.block_hit (KW.then (CW.S (LW.C (LW.T (CW.ret ?_))))))))
     refine KW.ret1 rfl rfl ⟨_, rfl, ?_⟩
     first | exact ⟨by rw [sameDs_len hne], hW⟩ | exact ⟨by rw [ht, sameDs_step hdx hdy, hno, Bool.false_and], hW⟩ | exact ⟨by rw [ht, sameDs_end (by omega) (by omega)], hW⟩
end Go.Proofs.YtgffaeachbbjoaaGreatDoor
end
section
namespace Go.Proofs.YtgffaeachbbjoaaGreatDoor
open Go.Wx Go.RowKit
theorem ex2_any (bc : Array Go.Value) (w : World) (hC : BaseC w bc exB) : Ret Tryz.prog 20 #[.agg bc, vi 2] w fun r w' => ∃ v, r = .tuple #[v, .bool true, vi 0] ∧ DecE w' v ⟨2, rI 98, rI 2, [1]⟩ ∧ Up w w' := by
  have h := Explain_any bc exB 2 w hC (by decide) (by decide) (by decide) (by decide) exV
  rw [ex_e2] at h; exact h
theorem ex3_any (bc : Array Go.Value) (w : World) (hC : BaseC w bc exB) : Ret Tryz.prog 20 #[.agg bc, vi 3] w fun r w' => ∃ v, r = .tuple #[v, .bool false, vi 0] ∧ DecE w' v ⟨3, rI 98, rI 2, [1]⟩ ∧ Up w w' := by
  have h := Explain_any bc exB 3 w hC (by decide) (by decide) (by decide) (by decide) exV
  rw [ex_e3] at h; exact h
theorem ex4_any (bc : Array Go.Value) (w : World) (hC : BaseC w bc exB) : Ret Tryz.prog 20 #[.agg bc, vi 4] w fun r w' => ∃ v, r = .tuple #[v, .bool false, vi 200] ∧ DecE w' v dec0 ∧ Up w w' := by
  have h := Explain_any bc exB 4 w hC (by decide) (by decide) (by decide) (by decide) exV
  rw [ex_e4] at h; exact h
theorem exd12_any (bc : Array Go.Value) (w : World) (hC : BaseC w bc exB) : Ret Tryz.prog 14 #[.agg bc, vi 4, vi 0, vi 9, vi 12] w fun r w' => ∃ ad cp, r = .tuple #[.agg (DP.cells ⟨⟨0, rI 100, rI 0, []⟩, ad, cp⟩), vi 0] ∧ Up w w' := by
  have h := Decide_any bc exB 4 0 9 12 w hC (by decide) (by decide) (by decide) (by decide)
  rw [ex_d12] at h
  exact h.mono fun r w' ⟨v, e, ⟨ad, cp, e2, _⟩, u⟩ => ⟨ad, cp, by rw [e, e2], u⟩
theorem exd15_any (bc : Array Go.Value) (w : World) (hC : BaseC w bc exB) : Ret Tryz.prog 14 #[.agg bc, vi 4, vi 0, vi 9, vi 15] w fun r w' => ∃ ad cp, r = .tuple #[.agg (DP.cells ⟨⟨0, rI 98, rI 2, [1]⟩, ad, cp⟩), vi 0] ∧ Up w w' := by
  have h := Decide_any bc exB 4 0 9 15 w hC (by decide) (by decide) (by decide) (by decide)
  rw [ex_d15] at h
  exact h.mono fun r w' ⟨v, e, ⟨ad, cp, e2, _⟩, u⟩ => ⟨ad, cp, by rw [e, e2], u⟩
set_option maxHeartbeats 4000000 in
theorem sane_any (w : World) : Ret Tryz.prog 10 #[] w fun r w' => r = .bool true ∧ Up w w' := by
  obtain ⟨w0, rfl⟩ : ∃ w0, w0 = w := ⟨_, rfl⟩
  have hS := Sep.start no w0
  refine Calls_start (n := 171) (m := 9) Tryz.func10 rfl rfl rfl ?_
  refine CW.S (LW.C (LW.S (CW.region ?_)))
  refine LW.c (enter_call0 .nil (Tryz.en30)) rfl rfl rfl rfl (example_any _) ?_
  rintro _ w1 ⟨bc, rfl, hC, uw1⟩
  have zw1 := uw1.size
  replace hS := hS.up uw1
  refine LW.r (REv.allocA Tryz.zeroValue24) rfl rfl rfl rfl ?_
  rintro _ w2 ⟨B1, rfl, MB1⟩
  refine LW.s (SEv.storeA Tryz.sizeOf24 hC.size (.tmp rfl) (.tmp rfl) hC.one MB1.blk rfl) rfl rfl rfl ?_
  intro w3 LB1
  have NB1 := MB1.set LB1
  clear LB1 MB1
  have eB1 := NB1.at_
  have zB1 := NB1.size
  replace hC := hC.up NB1.up
  replace hS := hS.addB NB1
  change Wx.Sep _ _ _ [_] at hS
  refine LW.S (CW.region ?_)
  refine LW.pp (PEv.loadA Tryz.isAgg24 Tryz.sizeOf24 (hC.size) (.tmp rfl) ((hS.blk 0 rfl).agg)) ?_
  refine LW.c (enter_call0 (.cons (.tmp rfl) (.cons (.const _) (.cons (.const _) (.cons (.const _) .nil)))) (Tryz.en18)) rfl rfl rfl rfl (Decisions_any bc exB 4 0 9 _ (hC) (by decide) (by decide) (by decide) (by decide)) ?_
  rintro v21 w4 ⟨_, L21, rfl, hm21, hT21⟩
  rw [ex_des] at hm21
  obtain ⟨a1, c1, a2, c2, a3, c3, rfl⟩ := dps3 hm21
  replace hS := hS.join hT21
  replace hC := hC.up hT21.upd
  change Wx.Sep no _ _ [_, _, _] at hS
  obtain ⟨ad21, cp21, rfl, _⟩ := (hS.own 1 rfl).sl (fun _ => rfl)
  clear hT21 hm21
  refine LW.A rfl (LW.S (CW.region ?_))
  refine LW.pp (PEv.loadA Tryz.isAgg24 Tryz.sizeOf24 (hC.size) (.tmp rfl) ((hS.blk 0 rfl).agg)) ?_
  refine LW.c (enter_call0 (.cons (.tmp rfl) (.cons (.const _) (.cons (.const _) (.cons (.const _) (.cons (.const _) .nil))))) (Tryz.en14)) rfl rfl rfl rfl (exd12_any bc _ hC) ?_
  rintro _ w5 ⟨ad12_, cd12_, rfl, uw5⟩
  have zw5 := uw5.size
  replace hC := hC.up uw5
  replace hS := hS.up uw5
  refine LW.M rfl (LW.pp (PEv.extract (.tmp rfl) rfl) (LW.pp (PEv.extract (.tmp rfl) rfl) ?_))
  refine LW.r (REv.allocA Tryz.zeroValue37) rfl rfl rfl rfl ?_
  rintro _ w6 ⟨B3, rfl, MB3⟩
  refine LW.s (SEv.storeA Tryz.sizeOf37 rfl (.tmp rfl) (.tmp rfl) (DP.one _) MB3.blk rfl) rfl rfl rfl ?_
  intro w7 LB3
  have NB3 := MB3.set LB3
  clear LB3 MB3
  have eB3 := NB3.at_
  have zB3 := NB3.size
  replace hC := hC.up NB3.up
  replace hS := hS.addB NB3
  change Wx.Sep _ _ _ [_, _, _, _] at hS
  refine LW.A rfl (LW.S (CW.region ?_))
  refine LW.pp (PEv.loadA Tryz.isAgg24 Tryz.sizeOf24 (hC.size) (.tmp rfl) ((hS.blk 0 rfl).agg)) ?_
  refine LW.c (enter_call0 (.cons (.tmp rfl) (.cons (.const _) (.cons (.const _) (.cons (.const _) (.cons (.const _) .nil))))) (Tryz.en14)) rfl rfl rfl rfl (exd15_any bc _ hC) ?_
  rintro _ w8 ⟨ad15_, cd15_, rfl, uw8⟩
  have zw8 := uw8.size
  replace hC := hC.up uw8
  replace hS := hS.up uw8
  refine LW.M rfl (LW.pp (PEv.extract (.tmp rfl) rfl) (LW.pp (PEv.extract (.tmp rfl) rfl) ?_))
  refine LW.r (REv.allocA Tryz.zeroValue37) rfl rfl rfl rfl ?_
  rintro _ w9 ⟨B5, rfl, MB5⟩
  refine LW.s (SEv.storeA Tryz.sizeOf37 rfl (.tmp rfl) (.tmp rfl) (DP.one _) MB5.blk rfl) rfl rfl rfl ?_
  intro w10 LB5
  have NB5 := MB5.set LB5
  clear LB5 MB5
  have eB5 := NB5.at_
  have zB5 := NB5.size
  replace hC := hC.up NB5.up
  replace hS := hS.addB NB5
  change Wx.Sep _ _ _ [_, _, _, _, _] at hS
  refine LW.A rfl (LW.S (CW.region ?_))
  refine LW.pp (PEv.loadA Tryz.isAgg24 Tryz.sizeOf24 (hC.size) (.tmp rfl) ((hS.blk 0 rfl).agg)) ?_
  refine LW.c (enter_call0 (.cons (.tmp rfl) (.cons (.const _) .nil)) (Tryz.en20)) rfl rfl rfl rfl (ex2_any bc _ hC) ?_
  rintro _ w11 ⟨_, rfl, ⟨ae2, ce2, rfl, _⟩, uw11⟩
  have zw11 := uw11.size
  replace hC := hC.up uw11
  replace hS := hS.up uw11
  refine LW.M rfl (LW.pp (PEv.extract (.tmp rfl) rfl) (LW.pp (PEv.extract (.tmp rfl) rfl) (LW.pp (PEv.extract (.tmp rfl) rfl) ?_)))
  refine LW.r (REv.allocA Tryz.zeroValue37) rfl rfl rfl rfl ?_
  rintro _ w12 ⟨B7, rfl, MB7⟩
  refine LW.s (SEv.storeA Tryz.sizeOf37 rfl (.tmp rfl) (.tmp rfl) (DP.one _) MB7.blk rfl) rfl rfl rfl ?_
  intro w13 LB7
  have NB7 := MB7.set LB7
  clear LB7 MB7
  have eB7 := NB7.at_
  have zB7 := NB7.size
  replace hC := hC.up NB7.up
  replace hS := hS.addB NB7
  change Wx.Sep _ _ _ [_, _, _, _, _, _] at hS
  refine LW.A rfl (LW.A rfl (LW.S (CW.region ?_)))
  refine LW.pp (PEv.loadA Tryz.isAgg24 Tryz.sizeOf24 (hC.size) (.tmp rfl) ((hS.blk 0 rfl).agg)) ?_
  refine LW.c (enter_call0 (.cons (.tmp rfl) (.cons (.const _) .nil)) (Tryz.en20)) rfl rfl rfl rfl (ex3_any bc _ hC) ?_
  rintro _ w14 ⟨_, rfl, ⟨ae3, ce3, rfl, _⟩, uw14⟩
  have zw14 := uw14.size
  replace hC := hC.up uw14
  replace hS := hS.up uw14
  refine LW.M rfl (LW.pp (PEv.extract (.tmp rfl) rfl) (LW.pp (PEv.extract (.tmp rfl) rfl) (LW.pp (PEv.extract (.tmp rfl) rfl) ?_)))
  refine LW.r (REv.allocA Tryz.zeroValue37) rfl rfl rfl rfl ?_
  rintro _ w15 ⟨B10, rfl, MB10⟩
  refine LW.s (SEv.storeA Tryz.sizeOf37 rfl (.tmp rfl) (.tmp rfl) (DP.one _) MB10.blk rfl) rfl rfl rfl ?_
  intro w16 LB10
  have NB10 := MB10.set LB10
  clear LB10 MB10
  have eB10 := NB10.at_
  have zB10 := NB10.size
  replace hC := hC.up NB10.up
  replace hS := hS.addB NB10
  change Wx.Sep _ _ _ [_, _, _, _, _, _, _] at hS
  refine LW.A rfl (LW.A rfl (LW.S (CW.region ?_)))
  refine LW.pp (PEv.loadA Tryz.isAgg24 Tryz.sizeOf24 (hC.size) (.tmp rfl) ((hS.blk 0 rfl).agg)) ?_
  refine LW.c (enter_call0 (.cons (.tmp rfl) (.cons (.const _) .nil)) (Tryz.en20)) rfl rfl rfl rfl (ex4_any bc _ hC) ?_
  rintro _ w17 ⟨_, rfl, ⟨ae4, ce4, rfl, _⟩, uw17⟩
  have zw17 := uw17.size
  replace hC := hC.up uw17
  replace hS := hS.up uw17
  refine LW.M rfl (LW.pp (PEv.extract (.tmp rfl) rfl) (LW.pp (PEv.extract (.tmp rfl) rfl) (LW.pp (PEv.extract (.tmp rfl) rfl) ?_)))
  refine LW.r (REv.allocA Tryz.zeroValue37) rfl rfl rfl rfl ?_
  rintro _ w18 ⟨B13, rfl, MB13⟩
  refine LW.s (SEv.storeA Tryz.sizeOf37 rfl (.tmp rfl) (.tmp rfl) (DP.one _) MB13.blk rfl) rfl rfl rfl ?_
  intro w19 LB13
  have NB13 := MB13.set LB13
  clear LB13 MB13
  have eB13 := NB13.at_
  have zB13 := NB13.size
  replace hC := hC.up NB13.up
  replace hS := hS.addB NB13
  change Wx.Sep _ _ _ [_, _, _, _, _, _, _, _] at hS
  refine LW.A rfl (LW.A rfl (LW.S ?_))
  have hB1o := hS.blk 0 rfl
  refine CW.region ?_
  refine LW.pp (PEv.build (cs := exZ.cells) Tryz.underlying50 Tryz.zeroValue50 Tryz.places50 (.cons (.const _) (.cons (.const _) (.cons (.const _) (.cons (.const _) (.cons (.const _) .nil))))) (by kernel_rfl)) ?_
  refine LW.r (REv.buildSlice (xs := [exZ]) (enc := Fact.cells) (mk := fun f : Fact => .agg f.cells) Tryz.underlying22 Tryz.sizeOf50 Tryz.zeroValue50 rfl (by decide) (fun _ => rfl) (fun _ => rfl) (.cons (.tmp rfl) .nil) rfl) rfl rfl rfl rfl ?_
  rintro _ w20 ⟨B51, cB51, rfl, NB51, yB51, xB51⟩
  have eB51 := NB51.at_
  have zB51 := NB51.size
  replace hC := hC.up NB51.up
  replace hS := hS.up NB51.up
  replace hB1o := hB1o.up NB51.up
  have hE51 := xB51
  refine LW.pp (PEv.fieldAddr (off := 8) Tryz.underlying24 rfl rfl Tryz.sizeOf22 rfl (.tmp rfl)) ?_
  refine LW.s (SEv.store Tryz.sizeOf22 (.tmp rfl) (.tmp rfl) rfl (hS.blk 0 rfl) (by have := hC.size; omega)) rfl rfl rfl ?_
  intro w21 Nw21
  have zw21 := Nw21.size
  replace hS := hS.putB 0 rfl Nw21
  change Wx.Sep _ _ _ [_, _, _, _, _, _, _, _] at hS
  replace hC := (base_sto hC hB1o (fun i n => hC.no i n) Nw21.sto).setResets (sl_stoF (Sl.of_els (c := 1) hE51) hB1o (fun i n => hC.no i n) Nw21.sto)
  clear hB1o
  refine LW.S ?_
  replace hC : BaseC w21 _ exB2 := hC
  refine CW.region ?_
  refine LW.pp (PEv.loadA Tryz.isAgg24 Tryz.sizeOf24 (hC.size) (.tmp rfl) ((hS.blk 0 rfl).agg)) ?_
  refine LW.c (enter_call0 (.cons (.tmp rfl) (.cons (.const _) (.cons (.const _) (.cons (.const _) .nil)))) (Tryz.en18)) rfl rfl rfl rfl (Decisions_any _ exB2 4 0 9 _ (hC) (by decide) (by decide) (by decide) (by decide)) ?_
  rintro v54 w22 ⟨_, L54, rfl, hm54, hT54⟩
  rw [ex_des2] at hm54
  obtain ⟨e1, f1, e2, f2, e3, f3, rfl⟩ := dps3 hm54
  replace hS := hS.join hT54
  change Wx.Sep no _ _ [_, _, _, _, _, _, _, _, _, _] at hS
  obtain ⟨ad54, cp54, rfl, _⟩ := (hS.own 8 rfl).sl (fun _ => rfl)
  clear hT54 hm54
  refine LW.A rfl (LW.S (CW.seq ?_))
  obtain ⟨Bx, ox, ax, hp, hq, hr⟩ := els_p ((hS.own 1 rfl).els (fun _ => rfl))
  obtain ⟨By, oy, ay, hp2, hq2, hr2⟩ := els_p ((hS.own 8 rfl).els (fun _ => rfl))
  obtain ⟨Bu, ou, au, hcu⟩ := sl_hd (usesA_get (hS.get 2 rfl) ⟨⟨3, rI 98, rI 2, [1]⟩, a3, c3⟩ (by simp))
  refine CW.region (LW.M rfl ?_)
  refine LW.pp (PEv.lenS Tryz.underlying43 (.tmp rfl)) ?_
  refine LW.pp (PEv.fa (PEv.neq (.tmp rfl) (.const _)) (rfl)) ?_
  refine LW.M rfl ?_
  refine LW.Y ?_
  refine LW.M rfl ?_
  refine LW.Y ?_
  refine LW.pp (PEv.lenS Tryz.underlying43 (.tmp rfl)) ?_
  refine LW.Y ?_
  refine LW.pp (PEv.fa (PEv.neq (.tmp rfl) (.const _)) (rfl)) ?_
  refine LW.pp (PEv.pick_or (.tmp rfl) (fun hp => (by first | exact .const _ | exact .tmp rfl | exact .cond rfl (by first | assumption | simp_all)))) ?_
  refine LW.M rfl ?_
  refine LW.Y ?_
  refine LW.M rfl ?_
  refine LW.Y ?_
  refine LW.pp (PEv.indexAddr' Tryz.underlying43 Tryz.sizeOf37 (j := 2) (.tmp rfl) (.const _) (Nat.le_of_ble_eq_true rfl) ax) ?_
  refine LW.Y ?_
  refine LW.pp (PEv.fieldAddr (off := 5) Tryz.underlying37 rfl rfl Tryz.sizeOf35 rfl (.tmp rfl)) ?_
  refine LW.Y ?_
  refine LW.pp (PEv.load Tryz.isAgg35 (.tmp rfl) (dp_uses hr)) ?_
  refine LW.Y ?_
  refine LW.pp (PEv.lenS Tryz.underlying35 (.tmp rfl)) ?_
  refine LW.Y ?_
  refine LW.pp (PEv.fa (PEv.neq (.tmp rfl) (.const _)) (rfl)) ?_
  refine LW.pp (PEv.pick_or (.tmp rfl) (fun hp => (by first | exact .const _ | exact .tmp rfl | exact .cond rfl (by first | assumption | simp_all)))) ?_
  refine LW.T ?_
  refine CW.cond_false (.tmp rfl) ?_
  refine CW.skip (KW.then (CW.seq ?_))
  refine CW.draws (by kernel_rfl) (by kernel_rfl) rfl rfl ?_
  refine HW.pp (PEv.move (.tmp rfl)) ?_
  refine HW.pp (PEv.indexAddr' Tryz.underlying43 Tryz.sizeOf37 (j := 0) (.tmp rfl) (.const _) (Nat.le_of_ble_eq_true rfl) ax) ?_
  refine HW.pp (PEv.fieldAddr (off := 1) Tryz.underlying37 rfl rfl Tryz.sizeOf34 rfl (.tmp rfl)) ?_
  refine HW.pp (PEv.loadA Tryz.isAgg34 Tryz.sizeOf34 rfl (.tmp rfl) (dp_par hp)) ?_
  refine HW.c (fun a w _ ha => enter_call0 (.cons (.const _) .nil) (Tryz.en28) a ha) rfl rfl (fun w hu => rwhole_any _ w) ?_
  refine HW.pp (PEv.tr (PEv.eqlA Tryz.eqGuardType34 (Tryz.eqRt _ _) (.tmp rfl) (.tmp rfl)) ((rtB_self _))) ?_
  refine HW.pp (PEv.move (.tmp rfl)) ?_
  refine HW.yp rfl rfl rfl rfl rfl (PEv.move (.tmp rfl)) rfl ?_
  refine HW.yp rfl rfl rfl rfl rfl (PEv.indexAddr' Tryz.underlying43 Tryz.sizeOf37 (j := 1) (.tmp rfl) (.const _) (Nat.le_of_ble_eq_true rfl) ax) rfl ?_
  refine HW.yp rfl rfl rfl rfl rfl (PEv.fieldAddr (off := 1) Tryz.underlying37 rfl rfl Tryz.sizeOf34 rfl (.tmp rfl)) rfl ?_
  refine HW.yp rfl rfl rfl rfl rfl (PEv.loadA Tryz.isAgg34 Tryz.sizeOf34 rfl (.tmp rfl) (dp_par hq)) rfl ?_
  refine HW.yc rfl rfl rfl rfl rfl (fun a w _ ha => enter_call0 (.cons (.const _) .nil) (Tryz.en28) a ha) rfl (fun w hu => rwhole_any _ w) ?_
  refine HW.yp rfl rfl rfl rfl rfl (PEv.tr (PEv.eqlA Tryz.eqGuardType34 (Tryz.eqRt _ _) (.tmp rfl) (.tmp rfl)) ((rtB_self _))) rfl ?_
  refine HW.pp (PEv.pick_and (.tmp rfl) (fun hp => (by first | exact .const _ | exact .tmp rfl | exact .cond rfl (by first | assumption | simp_all)))) ?_
  refine HW.pp (PEv.move (.tmp rfl)) ?_
  refine HW.yp rfl rfl rfl rfl rfl (PEv.move (.tmp rfl)) rfl ?_
  refine HW.yp rfl rfl rfl rfl rfl (PEv.indexAddr' Tryz.underlying43 Tryz.sizeOf37 (j := 1) (.tmp rfl) (.const _) (Nat.le_of_ble_eq_true rfl) ax) rfl ?_
  refine HW.yp rfl rfl rfl rfl rfl (PEv.fieldAddr (off := 3) Tryz.underlying37 rfl rfl Tryz.sizeOf34 rfl (.tmp rfl)) rfl ?_
  refine HW.yp rfl rfl rfl rfl rfl (PEv.loadA Tryz.isAgg34 Tryz.sizeOf34 rfl (.tmp rfl) (dp_est hq)) rfl ?_
  refine HW.yc rfl rfl rfl rfl rfl (fun a w _ ha => enter_call0 (.cons (.const _) .nil) (Tryz.en28) a ha) rfl (fun w hu => rwhole_any _ w) ?_
  refine HW.yp rfl rfl rfl rfl rfl (PEv.tr (PEv.eqlA Tryz.eqGuardType34 (Tryz.eqRt _ _) (.tmp rfl) (.tmp rfl)) ((rtB_self _))) rfl ?_
  refine HW.pp (PEv.pick_and (.tmp rfl) (fun hp => (by first | exact .const _ | exact .tmp rfl | exact .cond rfl (by first | assumption | simp_all)))) ?_
  refine HW.pp (PEv.move (.tmp rfl)) ?_
  refine HW.yp rfl rfl rfl rfl rfl (PEv.move (.tmp rfl)) rfl ?_
  refine HW.yp rfl rfl rfl rfl rfl (PEv.indexAddr' Tryz.underlying43 Tryz.sizeOf37 (j := 2) (.tmp rfl) (.const _) (Nat.le_of_ble_eq_true rfl) ax) rfl ?_
  refine HW.yp rfl rfl rfl rfl rfl (PEv.fieldAddr (off := 1) Tryz.underlying37 rfl rfl Tryz.sizeOf34 rfl (.tmp rfl)) rfl ?_
  refine HW.yp rfl rfl rfl rfl rfl (PEv.loadA Tryz.isAgg34 Tryz.sizeOf34 rfl (.tmp rfl) (dp_par hr)) rfl ?_
  refine HW.yc rfl rfl rfl rfl rfl (fun a w _ ha => enter_call0 (.cons (.const _) .nil) (Tryz.en28) a ha) rfl (fun w hu => rwhole_any _ w) ?_
  refine HW.yp rfl rfl rfl rfl rfl (PEv.tr (PEv.eqlA Tryz.eqGuardType34 (Tryz.eqRt _ _) (.tmp rfl) (.tmp rfl)) ((rtB_self _))) rfl ?_
  refine HW.pp (PEv.pick_and (.tmp rfl) (fun hp => (by first | exact .const _ | exact .tmp rfl | exact .cond rfl (by first | assumption | simp_all)))) ?_
  refine HW.pp (PEv.move (.tmp rfl)) ?_
  refine HW.yp rfl rfl rfl rfl rfl (PEv.move (.tmp rfl)) rfl ?_
  refine HW.yp rfl rfl rfl rfl rfl (PEv.indexAddr' Tryz.underlying43 Tryz.sizeOf37 (j := 2) (.tmp rfl) (.const _) (Nat.le_of_ble_eq_true rfl) ax) rfl ?_
  refine HW.yp rfl rfl rfl rfl rfl (PEv.fieldAddr (off := 5) Tryz.underlying37 rfl rfl Tryz.sizeOf35 rfl (.tmp rfl)) rfl ?_
  refine HW.yp rfl rfl rfl rfl rfl (PEv.load Tryz.isAgg35 (.tmp rfl) (dp_uses hr)) rfl ?_
  refine HW.yp rfl rfl rfl rfl rfl (PEv.indexAddr' Tryz.underlying35 Tryz.sizeOf3 (j := 0) (.tmp rfl) (.const _) (Nat.le_of_ble_eq_true rfl) au) rfl ?_
  refine HW.yp rfl rfl rfl rfl rfl (PEv.load Tryz.isAgg3 (.tmp rfl) (hcu 0 _ rfl)) rfl ?_
  refine HW.yp rfl rfl rfl rfl rfl (PEv.tr (PEv.eql (.tmp rfl) (.const _)) (rfl)) rfl ?_
  refine HW.pp (PEv.pick_and (.tmp rfl) (fun hp => (by first | exact .const _ | exact .tmp rfl | exact .cond rfl (by first | assumption | simp_all)))) ?_
  refine HW.pp (PEv.move (.tmp rfl)) ?_
  refine HW.yp rfl rfl rfl rfl rfl (PEv.move (.tmp rfl)) rfl ?_
  refine HW.yp rfl rfl rfl rfl rfl (PEv.indexAddr' Tryz.underlying43 Tryz.sizeOf37 (j := 2) (.tmp rfl) (.const _) (Nat.le_of_ble_eq_true rfl) ax) rfl ?_
  refine HW.yp rfl rfl rfl rfl rfl (PEv.fieldAddr (off := 0) Tryz.underlying37 rfl rfl Tryz.sizeOf3 rfl (.tmp rfl)) rfl ?_
  refine HW.yp rfl rfl rfl rfl rfl (PEv.load Tryz.isAgg3 (.tmp rfl) (dp_run hr)) rfl ?_
  refine HW.yp rfl rfl rfl rfl rfl (PEv.tr (PEv.eql (.tmp rfl) (.const _)) (rfl)) rfl ?_
  refine HW.pp (PEv.pick_and (.tmp rfl) (fun hp => (by first | exact .const _ | exact .tmp rfl | exact .cond rfl (by first | assumption | simp_all)))) ?_
  refine HW.pp (PEv.assign (.tmp rfl)) ?_
  refine HW.nil ?_
  intro w23 uw23
  have zw23 := uw23.size
  replace hS := hS.up uw23
  replace hp := hp.up uw23
  replace hq := hq.up uw23
  replace hr := hr.up uw23
  replace hr2 := hr2.up uw23
  replace hcu := hcu.up uw23
  refine KW.then (CW.seq ?_)
  refine CW.draws (by kernel_rfl) (by kernel_rfl) rfl rfl ?_
  refine HW.pp (PEv.move (.tmp rfl)) ?_
  refine HW.pp (PEv.tr (PEv.eql (.tmp rfl) (.const _)) (rfl)) ?_
  refine HW.pp (PEv.move (.tmp rfl)) ?_
  refine HW.yp rfl rfl rfl rfl rfl (PEv.fieldAddr (off := 1) Tryz.underlying37 rfl rfl Tryz.sizeOf34 rfl (.tmp rfl)) rfl ?_
  refine HW.yp rfl rfl rfl rfl rfl (PEv.loadA Tryz.isAgg34 Tryz.sizeOf34 rfl (.tmp rfl) (dp_par0 (hS.blk 3 rfl))) rfl ?_
  refine HW.yc rfl rfl rfl rfl rfl (fun a w _ ha => enter_call0 (.cons (.const _) .nil) (Tryz.en28) a ha) rfl (fun w hu => rwhole_any _ w) ?_
  refine HW.yp rfl rfl rfl rfl rfl (PEv.tr (PEv.eqlA Tryz.eqGuardType34 (Tryz.eqRt _ _) (.tmp rfl) (.tmp rfl)) ((rtB_self _))) rfl ?_
  refine HW.pp (PEv.pick_and (.tmp rfl) (fun hp => (by first | exact .const _ | exact .tmp rfl | exact .cond rfl (by first | assumption | simp_all)))) ?_
  refine HW.pp (PEv.move (.tmp rfl)) ?_
  refine HW.yp rfl rfl rfl rfl rfl (PEv.move (.tmp rfl)) rfl ?_
  refine HW.yp rfl rfl rfl rfl rfl (PEv.tr (PEv.eql (.tmp rfl) (.const _)) (rfl)) rfl ?_
  refine HW.pp (PEv.pick_and (.tmp rfl) (fun hp => (by first | exact .const _ | exact .tmp rfl | exact .cond rfl (by first | assumption | simp_all)))) ?_
  refine HW.pp (PEv.move (.tmp rfl)) ?_
  refine HW.yp rfl rfl rfl rfl rfl (PEv.fieldAddr (off := 1) Tryz.underlying37 rfl rfl Tryz.sizeOf34 rfl (.tmp rfl)) rfl ?_
  refine HW.yp rfl rfl rfl rfl rfl (PEv.loadA Tryz.isAgg34 Tryz.sizeOf34 rfl (.tmp rfl) (dp_par0 (hS.blk 4 rfl))) rfl ?_
  refine HW.yc rfl rfl rfl rfl rfl (fun a w _ ha => enter_call0 (.cons (.const _) .nil) (Tryz.en28) a ha) rfl (fun w hu => rwhole_any _ w) ?_
  refine HW.yp rfl rfl rfl rfl rfl (PEv.tr (PEv.eqlA Tryz.eqGuardType34 (Tryz.eqRt _ _) (.tmp rfl) (.tmp rfl)) ((rtB_self _))) rfl ?_
  refine HW.pp (PEv.pick_and (.tmp rfl) (fun hp => (by first | exact .const _ | exact .tmp rfl | exact .cond rfl (by first | assumption | simp_all)))) ?_
  refine HW.pp (PEv.move (.tmp rfl)) ?_
  refine HW.yp rfl rfl rfl rfl rfl (PEv.fieldAddr (off := 0) Tryz.underlying37 rfl rfl Tryz.sizeOf3 rfl (.tmp rfl)) rfl ?_
  refine HW.yp rfl rfl rfl rfl rfl (PEv.load Tryz.isAgg3 (.tmp rfl) ((hS.blk 5 rfl).celln rfl)) rfl ?_
  refine HW.yp rfl rfl rfl rfl rfl (PEv.tr (PEv.eql (.tmp rfl) (.const _)) (rfl)) rfl ?_
  refine HW.pp (PEv.pick_and (.tmp rfl) (fun hp => (by first | exact .const _ | exact .tmp rfl | exact .cond rfl (by first | assumption | simp_all)))) ?_
  refine HW.pp (PEv.move (.tmp rfl)) ?_
  refine HW.yp rfl rfl rfl rfl rfl (PEv.tr (PEv.move (.tmp rfl)) (rfl)) rfl ?_
  refine HW.pp (PEv.pick_and (.tmp rfl) (fun hp => (by first | exact .const _ | exact .tmp rfl | exact .cond rfl (by first | assumption | simp_all)))) ?_
  refine HW.pp (PEv.move (.tmp rfl)) ?_
  refine HW.yp rfl rfl rfl rfl rfl (PEv.move (.tmp rfl)) rfl ?_
  refine HW.yp rfl rfl rfl rfl rfl (PEv.tr (PEv.eql (.tmp rfl) (.const _)) (rfl)) rfl ?_
  refine HW.pp (PEv.pick_and (.tmp rfl) (fun hp => (by first | exact .const _ | exact .tmp rfl | exact .cond rfl (by first | assumption | simp_all)))) ?_
  refine HW.pp (PEv.move (.tmp rfl)) ?_
  refine HW.yp rfl rfl rfl rfl rfl (PEv.move (.tmp rfl)) rfl ?_
  refine HW.yp rfl rfl rfl rfl rfl (PEv.tr (PEv.not (.tmp rfl)) (rfl)) rfl ?_
  refine HW.pp (PEv.pick_and (.tmp rfl) (fun hp => (by first | exact .const _ | exact .tmp rfl | exact .cond rfl (by first | assumption | simp_all)))) ?_
  refine HW.pp (PEv.move (.tmp rfl)) ?_
  refine HW.yp rfl rfl rfl rfl rfl (PEv.move (.tmp rfl)) rfl ?_
  refine HW.yp rfl rfl rfl rfl rfl (PEv.tr (PEv.eql (.tmp rfl) (.const _)) (rfl)) rfl ?_
  refine HW.pp (PEv.pick_and (.tmp rfl) (fun hp => (by first | exact .const _ | exact .tmp rfl | exact .cond rfl (by first | assumption | simp_all)))) ?_
  refine HW.pp (PEv.move (.tmp rfl)) ?_
  refine HW.yp rfl rfl rfl rfl rfl (PEv.move (.tmp rfl)) rfl ?_
  refine HW.yp rfl rfl rfl rfl rfl (PEv.tr (PEv.eql (.tmp rfl) (.const _)) (rfl)) rfl ?_
  refine HW.pp (PEv.pick_and (.tmp rfl) (fun hp => (by first | exact .const _ | exact .tmp rfl | exact .cond rfl (by first | assumption | simp_all)))) ?_
  refine HW.pp (PEv.assign (.tmp rfl)) ?_
  refine HW.nil ?_
  intro w24 uw24
  have zw24 := uw24.size
  replace hS := hS.up uw24
  replace hp := hp.up uw24
  replace hq := hq.up uw24
  replace hr := hr.up uw24
  replace hr2 := hr2.up uw24
  replace hcu := hcu.up uw24
  refine KW.then (CW.seq ?_)
  refine CW.draws (by kernel_rfl) (by kernel_rfl) rfl rfl ?_
  refine HW.pp (PEv.move (.tmp rfl)) ?_
  refine HW.pp (PEv.move (.tmp rfl)) ?_
  refine HW.yp rfl rfl rfl rfl rfl (PEv.move (.tmp rfl)) rfl ?_
  refine HW.pp (PEv.pick_and (.tmp rfl) (fun hp => (by first | exact .const _ | exact .tmp rfl | exact .cond rfl (by first | assumption | simp_all)))) ?_
  refine HW.pp (PEv.move (.tmp rfl)) ?_
  refine HW.yp rfl rfl rfl rfl rfl (PEv.move (.tmp rfl)) rfl ?_
  refine HW.yp rfl rfl rfl rfl rfl (PEv.indexAddr' Tryz.underlying43 Tryz.sizeOf37 (j := 2) (.tmp rfl) (.const _) (Nat.le_of_ble_eq_true rfl) ay) rfl ?_
  refine HW.yp rfl rfl rfl rfl rfl (PEv.fieldAddr (off := 1) Tryz.underlying37 rfl rfl Tryz.sizeOf34 rfl (.tmp rfl)) rfl ?_
  refine HW.yp rfl rfl rfl rfl rfl (PEv.loadA Tryz.isAgg34 Tryz.sizeOf34 rfl (.tmp rfl) (dp_par hr2)) rfl ?_
  refine HW.yc rfl rfl rfl rfl rfl (fun a w _ ha => enter_call0 (.cons (.const _) .nil) (Tryz.en28) a ha) rfl (fun w hu => rwhole_any _ w) ?_
  refine HW.yp rfl rfl rfl rfl rfl (PEv.tr (PEv.eqlA Tryz.eqGuardType34 (Tryz.eqRt _ _) (.tmp rfl) (.tmp rfl)) ((rtB_self _))) rfl ?_
  refine HW.pp (PEv.pick_and (.tmp rfl) (fun hp => (by first | exact .const _ | exact .tmp rfl | exact .cond rfl (by first | assumption | simp_all)))) ?_
  refine HW.pp (PEv.assign (.tmp rfl)) ?_
  refine HW.nil ?_
  intro w25 uw25
  have zw25 := uw25.size
  replace hS := hS.up uw25
  replace hp := hp.up uw25
  replace hq := hq.up uw25
  replace hr := hr.up uw25
  replace hr2 := hr2.up uw25
  replace hcu := hcu.up uw25
  refine KW.then (CW.ret ?_)
  refine KW.ret1 rfl rfl ⟨_, rfl, ?_⟩
  exact ⟨rfl, hS.upd⟩
end Go.Proofs.YtgffaeachbbjoaaGreatDoor
end
section
namespace Go.Wx
def updL (f : Fact → Fact) (L : List Fact) (k : Nat) : List Fact := (L.take k).map f ++ L.drop k
theorem updL_len (f : Fact → Fact) (L : List Fact) {k : Nat} (h : k ≤ L.length) : (updL f L k).length = L.length := by unfold updL; rw [List.length_append, List.length_map, List.length_take, List.length_drop]; omega
theorem updL_at {f : Fact → Fact} {L : List Fact} {k : Nat} {x : Fact} (h : L[k]? = some x) : (updL f L k)[k]? = some x := by
  have hk := (List.getElem?_eq_some_iff.1 h).1
  unfold updL
  rw [List.getElem?_append_right (by rw [List.length_map, List.length_take]; omega), List.length_map, List.length_take, Nat.min_eq_left (by omega), Nat.sub_self, List.getElem?_drop, Nat.add_zero, h]
theorem updL_set {f : Fact → Fact} {L : List Fact} {k : Nat} {x : Fact} (h : L[k]? = some x) : (updL f L k).set k (f x) = updL f L (k + 1) := by
  have hk := (List.getElem?_eq_some_iff.1 h).1
  have e : L.drop k = x :: L.drop (k + 1) := by
    rw [List.drop_eq_getElem_cons hk]
    congr 1
    exact (List.getElem?_eq_some_iff.1 h).2
  unfold updL
  rw [e, take_succ_of h, List.map_append, List.set_append_right _ _ (by rw [List.length_map, List.length_take]; omega), List.length_map, List.length_take, Nat.min_eq_left (by omega), Nat.sub_self]
  simp
theorem updL_end (f : Fact → Fact) (L : List Fact) {k : Nat} (h : L.length ≤ k) : updL f L k = L.map f := by unfold updL; rw [List.take_of_length_le h, List.drop_eq_nil_of_le h, List.append_nil]
def laterF (d : Int) (x : Fact) : Fact := { x with Day := wI (wI (d + 1) + x.Day) }
theorem days_gen {l m : List Fact} {d : Int} (h : ∀ x ∈ m, d < x.Day) : ofB (m ++ l) d = ofB l d := by
  rw [ofB_set (m := l ++ m) (fun x => by rw [List.mem_append, List.mem_append, or_comm])]
  unfold ofB
  rw [best_app h]
theorem wI_in {n : Int} (h1 : -9223372036854775808 ≤ n) (h2 : n ≤ 9223372036854775807) : wI n = n := wrap_i64_in h1 h2
theorem soF_mem {xs : List I6} {f : Fact} (h : f ∈ soL xs) : ∃ y ∈ xs, soF y = some f := by
  unfold soL at h
  obtain ⟨y, hy, e⟩ := List.mem_filterMap.1 h
  exact ⟨y, List.mem_of_mem_take hy, e⟩
theorem so_cases {y : I6} {f : Fact} (h : soF y = some f) : f = soP y ∨ f = soM y ∨ f = soT y ∨ f = soR y := by
  unfold soF at h
  split at h
  · exact .inl (Option.some.inj h).symm
  · split at h
    · exact .inr (.inl (Option.some.inj h).symm)
    · split at h
      · exact .inr (.inr (.inl (Option.some.inj h).symm))
      · split at h
        · cases h
        · exact .inr (.inr (.inr (Option.some.inj h).symm))
theorem so_day {y : I6} {f : Fact} (hy : I6Ok y) (h : soF y = some f) : 0 ≤ f.Day ∧ f.Day < 10 := by
  have e : f.Day = pickI y.b 10 := by rcases so_cases h with rfl | rfl | rfl | rfl <;> rfl
  rw [e]
  exact pick_range hy.2.1 (by decide)
theorem so_later {xs ys : List I6} {d : Int} (hy : ∀ y ∈ ys, I6Ok y) (hd : 0 ≤ d ∧ d < 10) : ofB ((soL ys).map (laterF d) ++ soL xs) d = ofB (soL xs) d := by
  refine days_gen fun x hx => ?_
  obtain ⟨f, hf, rfl⟩ := List.mem_map.1 hx
  obtain ⟨y, hyy, e⟩ := soF_mem hf
  have h1 := so_day (hy y hyy) e
  show d < wI (wI (d + 1) + f.Day)
  rw [wI_in (n := d + 1) (by omega) (by omega), wI_in (by omega) (by omega)]
  omega
theorem desF_uses (b : Base) (t c r : Int) : ∀ D ∈ desF b t c r, D.uses.length ≤ (rnsF b t c r).length := fun D hD => by
  unfold desF at hD
  obtain ⟨i, hi, rfl⟩ := List.mem_map.1 hD
  have hi := List.mem_range.1 hi
  obtain ⟨x, hx⟩ := getElem?_of_lt hi
  rw [decAt_some hx]
  refine Nat.le_trans (decF_uses b t c r x.Time _) ?_
  rw [List.length_take]; omega
def shortN (n : Nat) (b : Base) : Prop := ∀ j, (lstOf b j).length ≤ n
theorem ofB_shortN {l : List Fact} {n : Nat} (h : l.length ≤ n) (d : Int) : shortN n (ofB l d) := fun j => by
  by_cases hj : j < 11
  · rw [lst_ofB l d hj]
    exact Nat.le_trans (lst_len _ _ _) (Nat.le_trans (factsM_len l d) h)
  · rw [lstOf_big _ hj]; simp
end Go.Wx
namespace Go.Proofs.YtgffaeachbbjoaaGreatDoor
open Go.Wx Go.RowKit
theorem DecisionsE_any (bc : Array Go.Value) (b : Base) (t c r : Int) (w : World) (hC : BaseC w bc b) (hlP : b.Processes.length ≤ 400) (hlR : b.Resets.length ≤ 100000) (hlM : b.Measures.length ≤ 100000) (hlT : b.Targets.length ≤ 100000) : Ret Tryz.prog 18 #[.agg bc, vi t, vi c, vi r] w fun r0 w' => DecsE w' r0 (desF b t c r) ∧ Up w w' :=
  (Decisions_any bc b t c r w hC hlP hlR hlM hlT).mono fun r0 w' ⟨v, L, e, hm, hT⟩ => ⟨by rw [e]; exact decsE_of hT hm, hT.upd⟩
theorem OfV_any (v : Go.Value) (l : List Fact) (d : Int) (w : World) (h : Sl w v 19 Fact.cells l) (hl : l.length ≤ 100000) : Ret Tryz.prog 23 #[v, vi d] w fun r w' => ∃ bc, r = .agg bc ∧ BaseC w' bc (ofB l d) ∧ Up w w' := by
  obtain ⟨ad, cp, rfl, hE⟩ := h
  exact Of_any ad cp l d w hE hl
end Go.Proofs.YtgffaeachbbjoaaGreatDoor
end
section
namespace Go.Proofs.YtgffaeachbbjoaaGreatDoor
open Go.Wx Go.RowKit
set_option maxHeartbeats 4000000 in
theorem ControlDays_any (ad ad' : Option Addr) (cp cp' : Nat) (xs ys : List I6) (day tool chamber recipe : Int) (w : World) (hE1 : Els w ad 6 I6.cells xs) (hE2 : Els w ad' 6 I6.cells ys) (hy : ∀ y ∈ ys, I6Ok y) (hday : inI day) : Ret Tryz.prog 9 #[.slice ad xs.length cp, .slice ad' ys.length cp', vi day, vi tool, vi chamber, vi recipe] w fun r w' => r = .bool true ∧ Up w w' := by
  obtain ⟨w0, rfl⟩ : ∃ w0, w0 = w := ⟨_, rfl⟩
  have hS := Sep.start no w0
  refine Calls_start (n := 73) (m := 9) Tryz.func9 rfl rfl rfl ?_
  refine CW.S (LW.C (LW.S (CW.region ?_)))
  refine LW.c (enter_call0 .nil (Tryz.en10)) rfl rfl rfl rfl (sane_any _) ?_
  rintro _ w1 ⟨rfl, uw1⟩
  have zw1 := uw1.size
  replace hS := hS.up uw1
  refine LW.A rfl (LW.S (CW.region (LW.M rfl ?_)))
  refine LW.c (enter_call0 (.cons (.tmp rfl) (.cons (.const _) .nil)) (Tryz.en13)) rfl rfl rfl rfl (pick_any _ _ _ (by decide)) ?_
  rintro _ w2 ⟨rfl, uw2⟩
  have zw2 := uw2.size
  replace hS := hS.up uw2
  have hd := pick_range (c := day) (n := 10) hday (by decide)
  obtain ⟨d, ed⟩ : ∃ d, d = pickI day 10 := ⟨_, rfl⟩
  rw [← ed] at hd ⊢
  refine LW.A rfl (LW.S (CW.region (LW.M rfl ?_)))
  refine LW.c (enter_call0 (.cons (.tmp rfl) .nil) (Tryz.en22)) rfl rfl rfl rfl (Some_any ad' cp' ys _ (Els.up hE2 hS.upd)) ?_
  rintro v22 w3 ⟨hO22, uw3⟩
  have zw3 := uw3.size
  replace hS := hS.add uw3 (A' := aOwn 50 19 Fact.cells v22 (soL ys)) (hO22.mono (Nat.zero_le _)) (fun i h => hO22.base i h)
  change Wx.Sep _ _ _ [_] at hS
  clear hO22
  obtain ⟨ad22, cp22, rfl, _⟩ := (hS.own 0 rfl).sl (fun _ => rfl)
  have hl22 := soL_len ys
  have hlx := soL_len xs
  have hly := soL_len ys
  refine LW.A rfl (LW.S (CW.S (LW.C (LW.T (CW.block ?_)))))
  refine CW.loopB (σ := Nat) (fun s w => (s ≤ (soL ys).length) ∧ (Wx.Sep no w0 w [aOwn 50 19 Fact.cells (.slice ad22 (soL ys).length cp22) (updL (laterF d) (soL ys) s)])) (fun s => [(15, .eq (vi (s : Int)))]) ([(0, .eq _), (2, .eq _), (3, .eq _), (4, .eq _), (5, .eq _), (12, .eq _), (13, .eq _), (14, .eq _)]) (fun s => (soL ys).length - s) 0 ?_ ⟨rfl, rfl, rfl, rfl, rfl, rfl, rfl, rfl, rfl, trivial⟩ ?_
  ·exact ⟨Nat.zero_le _, hS⟩
  ·rintro k w4 ⟨hk, hS⟩
   refine CW.seq (CW.S (LW.M rfl (LW.M rfl ?_)))
   refine LW.pp (PEv.lenS Tryz.underlying22 (.tmp rfl)) ?_
   refine LW.pp (PEv.lss (.tmp rfl) (.tmp rfl)) ?_
   refine LW.T ?_
   refine CW.cond (.tmp rfl) (fun h26 => ?_) (fun h26 => ?_)
   ·first | replace h26 := dT h26 | replace h26 := dF h26 | skip
    refine CW.skip (KW.then (CW.seq (CW.block ?_)))
    obtain ⟨x, hx⟩ := getElem?_of_lt (xs := soL ys) (i := k) (by omega)
    obtain ⟨g, rfl⟩ := (hS.own 0 rfl).adr (by rw [updL_len _ _ (by omega)]; omega)
    obtain ⟨Bx, ox, ax, hcx⟩ := ((hS.own 0 rfl).els (fun _ => rfl)) k x (updL_at hx)
    cases ax
    refine CW.region (LW.M rfl (LW.M rfl (LW.M rfl ?_)))
    refine LW.pp (PEv.add_w (.tmp rfl) (.const _)) ?_
    refine LW.M rfl (LW.M rfl ?_)
    refine LW.pp (PEv.indexAddr' Tryz.underlying22 Tryz.sizeOf50 (.tmp rfl) (.tmp rfl) (by omega) rfl) ?_
    refine LW.pp (PEv.fieldAddr (off := 3) Tryz.underlying50 rfl rfl Tryz.sizeOf3 rfl (.tmp rfl)) ?_
    refine LW.pp (PEv.load Tryz.isAgg3 (.tmp rfl) (hcx.nth (j := 3) rfl)) ?_
    refine LW.pp (PEv.add_w (.tmp rfl) (.tmp rfl)) ?_
    refine LW.pp (PEv.indexAddr' Tryz.underlying22 Tryz.sizeOf50 (.tmp rfl) (.tmp rfl) (by omega) rfl) ?_
    refine LW.pp (PEv.fieldAddr (off := 3) Tryz.underlying50 rfl rfl Tryz.sizeOf3 rfl (.tmp rfl)) ?_
    refine LW.s (SEv.storeOwnF (enc := Fact.cells) (k := 19) (z := laterF d x) (i := k) (j := 3) Tryz.sizeOf3 (fun _ => rfl) rfl (.tmp rfl) (.tmp rfl) (hS.own 0 rfl) (updL_at hx) (by decide) rfl) rfl rfl rfl ?_
    intro w5 Gw5
    rw [updL_set hx] at Gw5
    have zw5 := Gw5.fr.size
    replace hS := hS.stp 0 rfl Gw5
    change Wx.Sep _ _ _ [_] at hS
    refine LW.nil (KW.inBlock (KW.then (CW.region (LW.M rfl ?_))))
    refine LW.pp (PEv.inc (.tmp rfl) (by omega)) ?_
    refine LW.A rfl (LW.nil (KW.round ?_))
    exact ⟨k + 1, ⟨by omega, hS⟩, ⟨rfl, rfl, rfl, rfl, rfl, rfl, rfl, rfl, rfl, trivial⟩, by first | omega | (dsimp only; omega)⟩
   ·first | replace h26 := dT h26 | replace h26 := dF h26 | skip
    refine CW.exit (KW.then_exit (KW.then_exit (KW.block_hit (KW.then (CW.seq ?_)))))
    rw [updL_end _ _ (by omega)] at hS
    have hSh := ofB_shortN (l := soL xs) (n := 100) (by have := soL_len xs; omega) d
    have hltM0 := (hS.own 0 rfl).lt
    refine CW.region (LW.M rfl ?_)
    refine LW.c (enter_call0 (.cons (.tmp rfl) .nil) (Tryz.en22)) rfl rfl rfl rfl (Some_any ad cp xs _ (Els.up hE1 hS.upd)) ?_
    rintro v42 w6 ⟨hO42, uw6⟩
    have zw6 := uw6.size
    replace hS := hS.up uw6
    obtain ⟨ad42, cp42, rfl, hE42_⟩ := hO42.sl (fun _ => rfl)
    have hE42 : Els w6 ad42 19 Fact.cells (soL xs) := hE42_
    clear hO42 hE42_
    refine LW.M rfl ?_
    refine LW.c (enter_call0 (.cons (.tmp rfl) (.cons (.tmp rfl) .nil)) (Tryz.en23)) rfl rfl rfl rfl (Of_own _ _ (soL xs) d _ hE42 (by omega)) ?_
    rintro _ w7 ⟨bc1, rfl, hC1, hb1, uw7⟩
    have zw7 := uw7.size
    replace hS := hS.up uw7
    refine LW.r (REv.allocA Tryz.zeroValue24) rfl rfl rfl rfl ?_
    rintro _ w8 ⟨B16, rfl, MB16⟩
    refine LW.s (SEv.storeA Tryz.sizeOf24 (hC1.size) (.tmp rfl) (.tmp rfl) (hC1.one) MB16.blk rfl) rfl rfl rfl ?_
    intro w9 LB16
    have NB16 := MB16.set LB16
    clear LB16 MB16
    have eB16 := NB16.at_
    have zB16 := NB16.size
    replace hC1 := hC1.up NB16.up
    replace hS := hS.addB NB16
    change Wx.Sep _ _ _ [_, _] at hS
    refine LW.S ?_
    have hltM : ∀ i, (aOwn 50 19 Fact.cells (.slice ad22 (soL ys).length cp22) ((soL ys).map (laterF d))).foot i → _ := fun i hi => hltM0 i hi
    refine CW.region (LW.M rfl (LW.M rfl ?_))
    refine LW.c (enter_call0 (.cons (.tmp rfl) .nil) (Tryz.en22)) rfl rfl rfl rfl (Some_any ad cp xs _ (Els.up hE1 hS.upd)) ?_
    rintro v47 w10 ⟨hO47, uw10⟩
    have zw10 := uw10.size
    replace hS := hS.up uw10
    replace hC1 := hC1.up uw10
    obtain ⟨ad47, cp47, rfl, hE47_⟩ := hO47.sl (fun _ => rfl)
    have hE47 : Els w10 ad47 19 Fact.cells (soL xs) := hE47_
    clear hO47 hE47_
    refine LW.r (REv.appendF (enc := Fact.cells) (bytes := 160) (i := Tryz.t50) Tryz.underlying22 (by kernel_rfl) rfl rfl rfl rfl (by decide) (fun _ => rfl) Fact.one (.tmp rfl) (.tmp rfl) (hS.own 0 rfl) (Sl.of_els hE47) (by simp [maxLen]; omega) (by simp; omega)) rfl rfl rfl rfl ?_
    intro v48 w11 Gw11
    have zw11 := Gw11.fr.size
    replace hS := hS.stp 0 rfl Gw11
    change Wx.Sep _ _ _ [_, _] at hS
    replace hC1 := hC1.frB hb1 Gw11.fr (fun i hi => Nat.lt_of_lt_of_le (hltM i hi) (by omega))
    refine LW.M rfl ?_
    refine LW.c (enter_call0 (.cons (.tmp rfl) (.cons (.tmp rfl) .nil)) (Tryz.en23)) rfl rfl rfl rfl (OfV_any _ _ d _ ((hS.own 0 rfl).sl (fun _ => rfl)) (by simp; omega)) ?_
    rintro _ w12 ⟨bc2, rfl, hC2, uw12⟩
    have zw12 := uw12.size
    replace hS := hS.up uw12
    replace hC1 := hC1.up uw12
    rw [so_later hy hd] at hC2
    refine LW.r (REv.allocA Tryz.zeroValue24) rfl rfl rfl rfl ?_
    rintro _ w13 ⟨B17, rfl, MB17⟩
    refine LW.s (SEv.storeA Tryz.sizeOf24 (hC2.size) (.tmp rfl) (.tmp rfl) (hC2.one) MB17.blk rfl) rfl rfl rfl ?_
    intro w14 LB17
    have NB17 := MB17.set LB17
    clear LB17 MB17
    have eB17 := NB17.at_
    have zB17 := NB17.size
    replace hC1 := hC1.up NB17.up
    replace hC2 := hC2.up NB17.up
    replace hS := hS.addB NB17
    change Wx.Sep _ _ _ [_, _, _] at hS
    refine LW.S ?_
    have hUz := hS.upd
    refine CW.draws (by kernel_rfl) (by kernel_rfl) rfl rfl ?_
    refine HW.pp (PEv.move (.tmp rfl)) ?_
    refine HW.pp (PEv.move (.tmp rfl)) ?_
    refine HW.yp rfl rfl rfl rfl rfl (PEv.loadA Tryz.isAgg24 Tryz.sizeOf24 (hC1.size) (.tmp rfl) ((hS.blk 1 rfl).agg)) rfl ?_
    refine HW.yp rfl rfl rfl rfl rfl (PEv.move (.tmp rfl)) rfl ?_
    refine HW.yc rfl rfl rfl rfl rfl (fun a w _ ha => enter_call0 (.cons (.tmp rfl) (.cons (.const _) .nil)) (Tryz.en13) a ha) rfl (fun w hu => pick_any tool 2 w (by decide)) ?_
    refine HW.yp rfl rfl rfl rfl rfl (PEv.move (.tmp rfl)) rfl ?_
    refine HW.yc rfl rfl rfl rfl rfl (fun a w _ ha => enter_call0 (.cons (.tmp rfl) (.cons (.const _) .nil)) (Tryz.en13) a ha) rfl (fun w hu => pick_any chamber 2 w (by decide)) ?_
    refine HW.yp rfl rfl rfl rfl rfl (PEv.move (.tmp rfl)) rfl ?_
    refine HW.yc rfl rfl rfl rfl rfl (fun a w _ ha => enter_call0 (.cons (.tmp rfl) (.cons (.const _) .nil)) (Tryz.en13) a ha) rfl (fun w hu => pick_any recipe 2 w (by decide)) ?_
    refine HW.yp rfl rfl rfl rfl rfl (PEv.add_w (.const _) (.tmp rfl)) rfl ?_
    refine HW.yqc (ph := .pred fun v w => DecsE w v (desF (ofB (soL xs) d) (pickI tool 2) (pickI chamber 2) (IntKind.i64.wrap (1 + pickI recipe 2)))) (fun _ _ _ h u => DecsE.up h u) rfl rfl rfl rfl rfl (fun a w hu ha => ⟨_, _, enter_call0 (.cons (.tmp rfl) (.cons (.tmp rfl) (.cons (.tmp rfl) (.cons (.tmp rfl) .nil)))) (Tryz.en18) a ha, (DecisionsE_any bc1 (ofB (soL xs) d) (pickI tool 2) (pickI chamber 2) (IntKind.i64.wrap (1 + pickI recipe 2)) w (hC1.up hu) (Nat.le_trans (hSh 0) (by decide)) (Nat.le_trans (hSh 8) (by decide)) (Nat.le_trans (hSh 1) (by decide)) (Nat.le_trans (hSh 9) (by decide))).mono fun v w' h => ⟨h.2, h.1⟩⟩) rfl ?_
    refine HW.yp rfl rfl rfl rfl rfl (PEv.loadA Tryz.isAgg24 Tryz.sizeOf24 (hC2.size) (.tmp rfl) ((hS.blk 2 rfl).agg)) rfl ?_
    refine HW.yp rfl rfl rfl rfl rfl (PEv.move (.tmp rfl)) rfl ?_
    refine HW.yc rfl rfl rfl rfl rfl (fun a w _ ha => enter_call0 (.cons (.tmp rfl) (.cons (.const _) .nil)) (Tryz.en13) a ha) rfl (fun w hu => pick_any tool 2 w (by decide)) ?_
    refine HW.yp rfl rfl rfl rfl rfl (PEv.move (.tmp rfl)) rfl ?_
    refine HW.yc rfl rfl rfl rfl rfl (fun a w _ ha => enter_call0 (.cons (.tmp rfl) (.cons (.const _) .nil)) (Tryz.en13) a ha) rfl (fun w hu => pick_any chamber 2 w (by decide)) ?_
    refine HW.yp rfl rfl rfl rfl rfl (PEv.move (.tmp rfl)) rfl ?_
    refine HW.yc rfl rfl rfl rfl rfl (fun a w _ ha => enter_call0 (.cons (.tmp rfl) (.cons (.const _) .nil)) (Tryz.en13) a ha) rfl (fun w hu => pick_any recipe 2 w (by decide)) ?_
    refine HW.yp rfl rfl rfl rfl rfl (PEv.add_w (.const _) (.tmp rfl)) rfl ?_
    refine HW.yqc (ph := .pred fun v w => DecsE w v (desF (ofB (soL xs) d) (pickI tool 2) (pickI chamber 2) (IntKind.i64.wrap (1 + pickI recipe 2)))) (fun _ _ _ h u => DecsE.up h u) rfl rfl rfl rfl rfl (fun a w hu ha => ⟨_, _, enter_call0 (.cons (.tmp rfl) (.cons (.tmp rfl) (.cons (.tmp rfl) (.cons (.tmp rfl) .nil)))) (Tryz.en18) a ha, (DecisionsE_any bc2 (ofB (soL xs) d) (pickI tool 2) (pickI chamber 2) (IntKind.i64.wrap (1 + pickI recipe 2)) w (hC2.up hu) (Nat.le_trans (hSh 0) (by decide)) (Nat.le_trans (hSh 8) (by decide)) (Nat.le_trans (hSh 1) (by decide)) (Nat.le_trans (hSh 9) (by decide))).mono fun v w' h => ⟨h.2, h.1⟩⟩) rfl ?_
    refine HW.yqc (ph := .eq (.bool true)) (phUp.eq _) rfl rfl rfl rfl rfl (fun a w hu ha => ⟨_, _, enter_any2 Tryz.en17 a w, (sameList_any (a.eval (.tmp 61)) (a.eval (.tmp 70)) (desF (ofB (soL xs) d) (pickI tool 2) (pickI chamber 2) (IntKind.i64.wrap (1 + pickI recipe 2))) (desF (ofB (soL xs) d) (pickI tool 2) (pickI chamber 2) (IntKind.i64.wrap (1 + pickI recipe 2))) w (ha.known (p := fun v w => DecsE w v (desF (ofB (soL xs) d) (pickI tool 2) (pickI chamber 2) (IntKind.i64.wrap (1 + pickI recipe 2)))) rfl) (ha.known (p := fun v w => DecsE w v (desF (ofB (soL xs) d) (pickI tool 2) (pickI chamber 2) (IntKind.i64.wrap (1 + pickI recipe 2)))) rfl) (by rw [desF_len]; have h1 := rnsF_len (ofB (soL xs) d) (pickI tool 2) (pickI chamber 2) (IntKind.i64.wrap (1 + pickI recipe 2)); have h2 : (ofB (soL xs) d).Processes.length ≤ 100 := hSh 0; omega) (fun D hD => Nat.le_trans (desF_uses _ _ _ _ D hD) (Nat.le_trans (rnsF_len _ _ _ _) (Nat.le_trans (hSh 0) (by decide))))).mono fun _ _ h => ⟨h.2, h.1.trans (by rw [sameDs_self])⟩⟩) rfl ?_
    refine HW.pp (PEv.pick_and (.tmp rfl) (fun hp => (by first | exact .const _ | exact .tmp rfl | exact .cond rfl (by first | assumption | simp_all)))) ?_
    refine HW.pp (PEv.assign (.tmp rfl)) ?_
    refine HW.nil ?_
    intro w15 uw15
    have zw15 := uw15.size
    replace hS := hS.up uw15
    replace hC1 := hC1.up uw15
    replace hC2 := hC2.up uw15
    refine KW.then (CW.ret ?_)
    refine KW.ret1 rfl rfl ⟨_, rfl, ?_⟩
    exact ⟨rfl, hS.upd⟩
end Go.Proofs.YtgffaeachbbjoaaGreatDoor
end
