import Derived.Test.YtmimclgihlhaeaaGreatKR521
section
namespace Go.Wx
theorem kY {k : Int} (h : 1 ≤ k ∧ k ≤ 11) : ∀ x ∈ Du k, x ∈ fieldsOf k := by
 have hc : k = 1 ∨ k = 2 ∨ k = 3 ∨ k = 4 ∨ k = 5 ∨ k = 6 ∨ k = 7 ∨ k = 8 ∨ k = 9 ∨ k = 10 ∨ k = 11 := by omega
 rcases hc with rfl | rfl | rfl | rfl | rfl | rfl | rfl | rfl | rfl | rfl | rfl <;>
   simp [Du, fieldsOf, Oy, Lc, Bu, Bj, Hb]
theorem cP {f : Fact} (hf : Aw f = true) : ∀ x ∈ Ny f, Ot x := fun x hx => by
 have hk := Ea hf
 unfold Ny at hx
 rcases List.mem_cons.1 hx with rfl | hx
 · exact ⟨by omega, by omega⟩
 obtain ⟨y, hy, rfl⟩ := List.mem_map.1 hx
 exact (Ln hf).2.1 y (kY hk y hy)
theorem kZ {f g : Fact} (hf : Aw f = true) (hg : Aw g = true) (h : A7 f = A7 g) : f.Kind = g.Kind ∧ Dv (Du f.Kind) f = Dv (Du f.Kind) g := by
 have hk := Rx hf hg h
 unfold A7 at h
 rw [if_pos hf, if_pos hg] at h
 have e := (O5 (r := []) (s := []) (cP hf) (cP hg) (by unfold Ny; simp [Dv, hk]) (by rw [h])).1
 unfold Ny at e
 rw [← hk] at e
 exact ⟨hk, (List.cons.inj e).2⟩
theorem uI {a b : Fact} (h : D6 a b = true) : Aw a = true ∧ Aw b = true ∧ A7 a = A7 b := by
 unfold D6 at h
 simp only [Bool.and_eq_true] at h
 exact ⟨h.1.1.1, h.1.1.2, by simpa using h.1.2⟩
theorem oT {b : Base} {x : Exc} {L : List VP} {k : Nat} {wf : Int} {p : VP} (hm : L.map VP.vd = Gy b x) (hx : G8 x = true) (hw : (A9 b.Lots b.Processes b.Swaps)[k]? = some wf) (hp : L[k]? = some p) : p.vd = Yk b x wf := by
 rw [Oq hx] at hm
 have h1 : (L.map VP.vd)[k]? = some p.vd := by rw [List.getElem?_map, hp]; rfl
 rw [hm, List.getElem?_map, hw] at h1
 exact (Option.some.inj h1).symm
theorem Qt {b : Base} {x : Exc} {L : List VP} (hm : L.map VP.vd = Gy b x) {k : Nat} {p : VP} (hp : L[k]? = some p) : p.vd ∈ Gy b x := by
 rw [← hm]
 exact List.mem_map.2 ⟨p, List.mem_of_getElem? hp, rfl⟩
def fS (c : Int) (l : List Fact) : List Fact := l.filter fun p => decide (p.Chamber = c)
def Kv (b : Base) (c : Int) : Base := { b with Processes := fS c b.Processes, Gaps := fS c b.Gaps }
theorem lA (x : Exc) (gs : List Fact) : Hl (fS x.chamber gs) x = Hl gs x := by
 unfold Hl fS
 rw [List.filter_filter]
 refine List.filter_congr fun g _ => ?_
 unfold Gj
 by_cases h : g.Chamber = x.chamber
 · simp [h]
 simp [h, show ¬ x.chamber = g.Chamber from fun e => h e.symm]
theorem nZ (b : Base) (x : Exc) (w : Int) (p : Fact) : Ev b.Swaps b.Gaps x w p = Ev (Kv b x.chamber).Swaps (Kv b x.chamber).Gaps x w p := by
 unfold Ev Ls
 rw [show Hl (Kv b x.chamber).Gaps x = Hl b.Gaps x from lA x b.Gaps]
 rfl
theorem cR {b : Base} {c : Int} {p : Fact} (h : p.Chamber = c) : p ∈ b.Processes ↔ p ∈ (Kv b c).Processes := by
 show _ ↔ p ∈ fS c b.Processes
 unfold fS
 rw [List.mem_filter]
 exact ⟨fun e => ⟨e, decide_eq_true h⟩, fun e => e.1⟩
theorem qV (b : Base) (x : Exc) (w : Int) : Yk b x w = Yk (Kv b x.chamber) x w := kW (nZ b x w) fun _ h => cR (kX h)
theorem oA {b : Base} {c : Int} {w : Int} (h : w ∈ A9 (Kv b c).Lots (Kv b c).Processes (Kv b c).Swaps) : w ∈ A9 b.Lots b.Processes b.Swaps := by
 obtain ⟨h1, h2⟩ := Je.1 h
 exact Je.2 ⟨h1, h2.imp id fun ⟨p, hp, e⟩ => ⟨p, (List.mem_filter.1 hp).1, e⟩⟩
theorem oB {b : Base} {x : Exc} (hx : G8 x = true) : ∀ v ∈ Gy (Kv b x.chamber) x, v = Gq (Gy b x) v.w := fun v hv => by
 rw [Oq hx] at hv
 obtain ⟨w, hw, rfl⟩ := List.mem_map.1 hv
 show Yk _ x w = Gq _ w
 rw [Yj hx (oA hw)]
 exact (qV b x w).symm
theorem oC {b : Base} {x : Exc} (hx : G8 x = true) : ∀ v ∈ Gy b x, (Gq (Gy (Kv b x.chamber) x) v.w).t < 0 → v.t = 0 := fun v hv ht => by
 rw [Oq hx] at hv
 obtain ⟨w, hw, rfl⟩ := List.mem_map.1 hv
 replace ht : (Gq (Gy (Kv b x.chamber) x) w).t < 0 := ht
 rw [cM]
 by_cases hin : w ∈ A9 (Kv b x.chamber).Lots (Kv b x.chamber).Processes (Kv b x.chamber).Swaps
 · rw [Yj hx hin, cM] at ht
   have := Pr (Kv b x.chamber) x w
   omega
 by_cases h0 : K3 b x w = 0
 · exact h0
 obtain ⟨p, hp, ho⟩ := cO.1 h0
 exact absurd (Je.2 ⟨(Je.1 hw).1, .inr ⟨p, (cR (kX ho)).1 hp, nX ho⟩⟩) hin
theorem lB {gs gs' : List Fact} (h : ∀ g ∈ gs, g ∈ gs') {x : Exc} {p : Fact} (hm : Ls gs x p = true) : Ls gs' x p = true := by
 unfold Ls at *
 rw [Bool.or_eq_true, Bool.or_eq_true] at *
 refine hm.imp id fun hm => hm.imp id fun hm => ?_
 obtain ⟨g, hg, e⟩ := List.any_eq_true.1 hm
 obtain ⟨h1, h2⟩ := List.mem_filter.1 hg
 exact List.any_eq_true.2 ⟨g, List.mem_filter.2 ⟨h g h1, h2⟩, e⟩
theorem lC {ss gs gs' : List Fact} (h : ∀ g ∈ gs, g ∈ gs') {x : Exc} {w : Int} {p : Fact} (ho : Ev ss gs x w p = true) : Ev ss gs' x w p = true := by
 unfold Ev at *
 simp only [Bool.and_eq_true] at *
 exact ⟨⟨ho.1.1, lB h ho.1.2⟩, ho.2⟩
theorem Sn (ss gs gs' : List Fact) (x : Exc) (w : Int) (p : Fact) : (Ev ss gs x w p && Ec x p) = (Ev ss gs' x w p && Ec x p) := by
 cases h : Ec x p with
 | false => simp
 | true =>
   have hm : ∀ gs, Ls gs x p = true := fun gs => by unfold Ls; rw [h]; rfl
   unfold Ev
   rw [hm, hm]
theorem qW {b c : Base} {x : Exc} (hs : c.Swaps = b.Swaps) (hp : c.Processes = b.Processes) (hg : ∀ g ∈ b.Gaps, g ∈ c.Gaps) (w : Int) : K3 b x w ≤ K3 c x w ∧ (K3 b x w = 2 → (Yk b x w).why = (Yk c x w).why) := by
 have h2 : K3 b x w = 2 → K3 c x w = 2 := fun h => by
   rw [nW] at h ⊢
   obtain ⟨p, h1, h2⟩ := h
   exact ⟨p, by rw [hp]; exact h1, by rw [hs, Sn _ _ b.Gaps]; exact h2⟩
 have h1 : K3 b x w ≠ 0 → K3 c x w ≠ 0 := fun h => by
   rw [cO] at h ⊢
   obtain ⟨p, h1, h2⟩ := h
   exact ⟨p, by rw [hp]; exact h1, by rw [hs]; exact lC hg h2⟩
 refine ⟨by have := Pr b x w; have := Pr c x w; omega, fun h => ?_⟩
 have e1 := Pq b x w
 have e2 := Pq c x w
 rw [h] at e1
 rw [h2 h] at e2
 have hw : ∀ V : List (Int × Bool), (Cf V).1 = 2 → (Cf V).2 = (V.filter (·.2)).map (·.1) := fun V hV => by
   unfold Cf at hV ⊢
   split at hV
   · rename_i h5; rw [if_pos h5]
   split at hV
   · exact absurd (show (0 : Int) = 2 from hV) cQ
   exact absurd (show (1 : Int) = 2 from hV) cQ
 show Fp (Cf _).2 = Fp (Cf _).2
 rw [hw _ e1, hw _ e2]
 refine H6 (G7 (Jf (Mh _ _ _ _ _)) (Jf (Mh _ _ _ _ _)) fun k => ?_)
 rw [cN, cN, Oo, Oo, hp, hs]
 exact ⟨fun ⟨p, h1, h2, h3⟩ => ⟨p, h1, by rw [Sn _ _ b.Gaps]; exact h2, h3⟩, fun ⟨p, h1, h2, h3⟩ => ⟨p, h1, by rw [Sn _ _ c.Gaps]; exact h2, h3⟩⟩
def G9 (c t u : Int) : Fact := { Hi with Kind := 11, Version := 1, ID := 500, Tool := 2, Chamber := c, Time := t, Until := u }
theorem lD {l : List Fact} {g : Fact} (hk : g.Kind = 11) (hid : ∀ f ∈ l, f.ID ≠ g.ID) (d : Int) : (H5 (l ++ [g]) d).Processes = (H5 l d).Processes ∧ (H5 (l ++ [g]) d).Swaps = (H5 l d).Swaps ∧ (H5 (l ++ [g]) d).Lots = (H5 l d).Lots ∧ ∀ f ∈ (H5 l d).Gaps, f ∈ (H5 (l ++ [g]) d).Gaps := by
 have hx : ∀ j : Nat, j < 10 → ∀ x : Fact, x.Kind = ((j + 1 : Nat) : Int) → (x ∈ l ++ [g] ↔ x ∈ l) := fun j hj x e => by
   rw [List.mem_append, List.mem_singleton]
   refine ⟨fun h => h.resolve_right fun h => ?_, .inl⟩
   subst h
   rw [hk] at e
   omega
 refine ⟨Rz (j := 0) cQ (hx 0 cQ), Rz (j := 2) cQ (hx 2 cQ), Rz (j := 3) cQ (hx 3 cQ), fun f hf => ?_⟩
 obtain ⟨h1, h2, h3⟩ := (Jc (l := l) (d := d) (j := 10) cQ).1 hf
 refine (Jc (l := l ++ [g]) (d := d) (j := 10) cQ).2 ⟨N9 h1 fun _ => ?_, h2, h3⟩
 cases e : D6 g f with
 | false => rfl
 | true =>
   exfalso
   obtain ⟨v1, v2, e1⟩ := uI e
   have e2 := (kZ v1 v2 e1).2
   rw [hk] at e2
   replace e2 : [g.ID] = [f.ID] := e2
   exact hid f h1.1 (List.cons.inj e2).1.symm
theorem qX {xs : List I5} : ∀ f ∈ E7 xs, f.ID ≤ 30 := fun f hf => by
 obtain ⟨k, y, _, hk, rfl⟩ := Yi hf
 have q := Yh (n := 1 + (k : Int)) oQ oQ
 unfold Vn
 split
 · simp only [fJ, q]; omega
 split
 · simp only [S9, q]; omega
 split
 · show (0 : Int) ≤ 30; decide
 simp only [Ye, q]; omega
def VerE (w : World) (v : Go.Value) (u : Vd) : Prop := ∃ q : VP, v = .agg q.cells ∧ q.vd = u ∧ Sl w q.uv 1 A8 q.vd.why
theorem VerE.up {w w' : World} {v : Go.Value} {u : Vd} (h : VerE w v u) (k : Up w w') : VerE w' v u := let ⟨q, e, h1, h2⟩ := h; ⟨q, e, h1, Sl.up h2 k⟩
def VerS (w : World) (v : Go.Value) (u : Vd) : Prop := ∃ ad cp, ∃ q : VP, v = .slice ad ([q] : List VP).length cp ∧ q.vd = u ∧ Els w ad 3 VP.cells [q] ∧ Sl w q.uv 1 A8 q.vd.why
theorem VerS.up {w w' : World} {v : Go.Value} {u : Vd} (h : VerS w v u) (k : Up w w') : VerS w' v u := let ⟨ad, cp, q, e, h1, h2, h3⟩ := h; ⟨ad, cp, q, e, h1, Els.up h2 k, Sl.up h3 k⟩
theorem fT {w w' : World} {v : Go.Value} {L : List VP} {wf : Int} {u : Vd} (hu : Gq (L.map (·.vd)) wf = u) (h : (∃ p ∈ L, v = .agg p.cells ∧ p.vd = Gq (L.map (·.vd)) wf) ∨ (v = .agg (VP.mk S8 none 0).cells ∧ Gq (L.map (·.vd)) wf = S8 ∧ ∀ p ∈ L, ¬ p.vd.w = wf)) (hw : WhyS w L) (k : Up w w') : VerE w' v u := by
 rw [hu] at h
 rcases h with ⟨p, hp, e, h1⟩ | ⟨e, h1, _⟩
 · exact ⟨p, e, h1, Sl.up (hw p hp) k⟩
 exact ⟨VP.mk S8 none 0, e, h1.symm, oS _ _ _⟩
def BasX (w : World) (v : Go.Value) (b : Base) : Prop := ∃ bc, v = .agg bc ∧ BaseC w bc b
theorem BasX.up {w w' : World} {v : Go.Value} {b : Base} (h : BasX w v b) (u : Up w w') : BasX w' v b := let ⟨bc, e, hC⟩ := h; ⟨bc, e, hC.up u⟩
end Go.Wx
namespace Go.Proofs.YtmimclgihlhaeaaGreat
open Go.Proofs.Tryz
open Go.Wx Go.RowKit
set_option maxHeartbeats 4000000 in
theorem aL (ad : Option Addr) (cp : Nat) (xs : List I5) (y : I5) (at_ ln : Int) (w : World) (hE0 : Els w ad 5 I5.cells xs) (hxs : ∀ x ∈ xs, V6 x) (hy : V6 y) (hat : Uj at_) (hln : Uj ln) : Ret Tryz.prog 7 #[.slice ad xs.length cp, .agg y.cells, vi at_, vi ln] w fun r w' => r = .bool true ∧ Up w w' := by
 obtain ⟨w0, rfl⟩ : ∃ w0, w0 = w := ⟨_, rfl⟩
 have hS := Sep.start no w0
 refine cS (n := 200) (m := 9) func7 rfl rfl rfl ?_
 refine CW.S ?_
 refine Ai (.Er (.t rfl)) rfl ?_
 rintro _ w1 ⟨B5, rfl, NB5⟩
 have eB5 := NB5.at_
 have zB5 := NB5.size
 replace hS := hS.C6 NB5
 change Wx.Sep _ _ _ [_] at hS
 refine LW.C (LW.S (CW.region ?_))
 refine LW.K (eC .nil (uQ)) rfl (aI _) ?_
 rintro _ w2 ⟨rfl, uw2⟩
 have zw2 := uw2.size
 replace hS := hS.up uw2
 refine LW.A rfl (LW.S (CW.region (LW.M rfl ?_)))
 refine LW.K (eC (.o rfl) (uS)) rfl (Yg ad cp xs _ (Els.up hE0 hS.Cn)) ?_
 rintro v25 w3 ⟨hO25, uw3⟩
 have zw3 := uw3.size
 replace hS := hS.add uw3 (A' := Ah 36 19 Fact.cells v25 (E7 xs)) (hO25.mono (Nat.zero_le _)) (fun i h => hO25.base i h)
 change Wx.Sep _ _ _ [_, _] at hS
 clear hO25
 obtain ⟨ad25, cp25, rfl, _⟩ := (hS.own 1 rfl).sl (fun _ => rfl)
 have hl25 := Iy xs
 refine LW.A rfl (LW.S (CW.region (LW.M rfl ?_)))
 refine LW.K (eC (.cons (.t rfl) (.cons (.const _) .nil)) (oW)) rfl (Zh ad25 cp25 (E7 xs) 100000 _ (D9 (hS.own 1 rfl) (fun _ => rfl)) oQ) ?_
 rintro _ w4 ⟨bc, rfl, hC, uw4⟩
 have zw4 := uw4.size
 replace hS := hS.up uw4
 obtain ⟨b, hb⟩ : ∃ b, b = H5 (E7 xs) 100000 := ⟨_, rfl⟩
 rw [← hb] at hC
 have hT : ∀ p ∈ b.Processes, Lr p := by rw [hb]; exact uH hxs 100000
 obtain ⟨hlP, hlG, hlL, hls⟩ : b.Processes.length ≤ 100 ∧ b.Gaps.length ≤ 100 ∧ b.Lots.length ≤ 100 ∧ b.Swaps.length ≤ 100 := by rw [hb]; exact cL oQ 100000
 refine Ai (.A6 zeroValue38) rfl ?_
 rintro _ w5 ⟨B11, rfl, MB11⟩
 refine LW.E (.A3 sizeOf38 hC.size (.t rfl) (.t rfl) hC.one MB11.blk rfl) ?_
 intro w6 LB11
 have NB11 := MB11.set LB11
 clear LB11 MB11
 have eB11 := NB11.at_
 have zB11 := NB11.size
 replace hC := hC.up NB11.up
 replace hS := hS.C6 NB11
 change Wx.Sep _ _ _ [_, _, _] at hS
 refine LW.S (CW.region ?_)
 refine LW.pp (.la isAgg26 sizeOf26 rfl ((hS.blk 0 rfl).agg)) ?_
 refine LW.K (eC (.o rfl) (uT)) rfl (aG y _) ?_
 rintro _ w7 ⟨rfl, uw7⟩
 have zw7 := uw7.size
 replace hS := hS.up uw7
 replace hC := hC.up uw7
 have hx0 := nV hy
 obtain ⟨x, hx⟩ : ∃ x, x = Iw y := ⟨_, rfl⟩
 rw [← hx] at hx0 ⊢
 clear hx
 have hxo : G8 x = true := (Ty x).2 oQ
 refine Ai (.A6 zeroValue25) rfl ?_
 rintro _ w8 ⟨B12, rfl, MB12⟩
 refine LW.E (.A3 sizeOf25 rfl (.t rfl) (.t rfl) (Exc.one _) MB12.blk rfl) ?_
 intro w9 LB12
 have NB12 := MB12.set LB12
 clear LB12 MB12
 have eB12 := NB12.at_
 have zB12 := NB12.size
 replace hC := hC.up NB12.up
 replace hS := hS.C6 NB12
 change Wx.Sep _ _ _ [_, _, _, _] at hS
 refine LW.S (CW.region ?_)
 refine LW.pp (.K5 isAgg38 sizeOf38 (hC.size) (.t rfl) ((hS.blk 2 rfl).agg)) ?_
 refine LW.pp (.la isAgg25 sizeOf25 rfl ((hS.blk 3 rfl).agg)) ?_
 refine LW.K (eC (.u rfl rfl) (gA)) rfl (J1 bc b x _ hC hT oQ oQ oQ oQ) ?_
 rintro _ w10 ⟨v32, L32, rfl, hm32, hT32⟩
 have hn32 : L32.length = (A9 b.Lots b.Processes b.Swaps).length := by rw [← Sm hxo, ← hm32, List.length_map]
 replace hC := hC.up hT32.Cn
 replace hS := hS.join hT32
 change Wx.Sep _ _ _ [_, _, _, _, _, _] at hS
 clear hT32
 obtain ⟨ad32, cp32, rfl, _⟩ := (hS.own 4 rfl).sl (fun _ => rfl)
 refine LW.A rfl (LW.S ?_)
 have hUa := hS.Cn
 have hB11z := hS.blk 2 rfl
 have hB12z := hS.blk 3 rfl
 have hFz := D9 (hS.own 1 rfl) (fun _ => rfl)
 have hLz := D9 (hS.own 4 rfl) (fun _ => rfl)
 have hYz : WhyS w10 L32 := Lu (hS.get 5 rfl)
 have h1o := hC.one
 obtain ⟨v0, v1, v2, v3, v4, v5, v6, v7, v8, v9, v10, rfl, a0, a1, a2, a3, a4, a5, a6, a7, a8, a9, a10⟩ := hC
 obtain ⟨adP, cpP, rfl, hEP⟩ := a0
 obtain ⟨adG, cpG, rfl, hEG⟩ := a10
 clear hS
 have hS := Sep.start no w10
 have hwl := Lw b.Lots b.Processes b.Swaps
 refine CW.region ?_
 refine LW.pp (.la isAgg38 sizeOf38 rfl ((hB11z.up hS.Cn).agg)) ?_
 refine Ai (.A6 zeroValue38) rfl ?_
 rintro _ w11 ⟨B14, rfl, MB14⟩
 refine LW.E (.A3 sizeOf38 rfl (.t rfl) (.t rfl) h1o MB14.blk rfl) ?_
 intro w12 LB14
 have NB14 := MB14.set LB14
 clear LB14 MB14
 have eB14 := NB14.at_
 have zB14 := NB14.size
 replace hS := hS.C6 NB14
 change Wx.Sep _ _ _ [_] at hS
 refine LW.S (CW.region ?_)
 refine LW.pp (.fA 0 underlying38 rfl sizeOf23 rfl) ?_
 refine LW.E (.store sizeOf23 (.t rfl) (.const _) rfl (hS.blk 0 rfl) (Nat.le_of_ble_eq_true rfl)) ?_
 intro w13 Nw13
 have zw13 := Nw13.size
 replace hS := hS.F9 0 rfl (show Set_ _ w13 _ (#[(.slice none 0 0), v1, v2, v3, v4, v5, v6, v7, v8, v9, (.slice adG b.Gaps.length cpG)]) _ from Nw13)
 change Wx.Sep _ _ _ [_] at hS
 refine LW.S (CW.region ?_)
 refine LW.pp (.fA 10 underlying38 rfl sizeOf23 rfl) ?_
 refine LW.E (.store sizeOf23 (.t rfl) (.const _) rfl (hS.blk 0 rfl) (Nat.le_of_ble_eq_true rfl)) ?_
 intro w14 Nw14
 have zw14 := Nw14.size
 replace hS := hS.F9 0 rfl (show Set_ _ w14 _ (#[(.slice none 0 0), v1, v2, v3, v4, v5, v6, v7, v8, v9, (.slice none 0 0)]) _ from Nw14)
 change Wx.Sep _ _ _ [_] at hS
 refine LW.S (CW.seq ?_)
 replace hS := hS.add (Up.refl _) (A' := Ah 36 19 Fact.cells (.slice none 0 0) ([] : List Fact)) (OwnS.nil _ _ _ _ _) (by intro i h; cases h)
 replace hS := hS.add (Up.refl _) (A' := Ah 36 19 Fact.cells (.slice none 0 0) ([] : List Fact)) (OwnS.nil _ _ _ _ _) (by intro i h; cases h)
 change Wx.Sep _ _ _ [_, _, _] at hS
 refine CW.region (LW.C (LW.T (CW.block ?_)))
 refine Am (σ := Nat × Go.Value) (fun s w => (s.1 ≤ b.Processes.length) ∧ (Wx.Sep no w10 w [Cp B14 #[s.2, v1, v2, v3, v4, v5, v6, v7, v8, v9, (.slice none 0 0)] 38, Ah 36 19 Fact.cells s.2 ((b.Processes.take s.1).filter (fun p : Fact => decide (p.Chamber = x.chamber))), Ah 36 19 Fact.cells (.slice none 0 0) ([] : List Fact)])) (fun s => [(15, .eq (vi (s.1 : Int)))]) ([(2, .eq _), (3, .eq _), (8, .eq _), (9, .eq _), (10, .eq _), (11, .eq _), (12, .eq _), (13, .eq _), (14, .eq _)]) (fun s => b.Processes.length - s.1) (0, (.slice none 0 0)) ?_ ⟨rfl, rfl, rfl, rfl, rfl, rfl, rfl, rfl, rfl, rfl, trivial⟩ ?_
 ·exact ⟨Nat.zero_le _, hS⟩
 rintro ⟨j, vP⟩ w15 ⟨hj, hS⟩
 dsimp only at hj hS
 change Wx.Sep _ _ _ [_, _, _] at hS
 change CW _ _ _ _ _ _ _ ([(15, .eq (vi (j : Int)))] ++ _) _
 refine CW.seq (CW.S (LW.M rfl ?_))
 refine LW.pp (.fA 0 underlying38 rfl sizeOf23 rfl) ?_
 refine LW.pp (.ld isAgg23 rfl ((hB11z.up hS.Cn).Ak rfl)) ?_
 refine LW.pp (.Dl underlying23 (.t rfl)) ?_
 refine LW.pp (.lss (.t rfl) (.t rfl)) ?_
 refine LW.T ?_
 refine CW.cond (.t rfl) (fun h40 => ?_) (fun h40 => ?_)
 ·replace h40 := dQ h40
  refine CW.skip (KW.then (CW.seq (CW.block (CW.seq ?_))))
  obtain ⟨p, hp⟩ := Ac (xs := b.Processes) (i := j) oQ
  obtain ⟨Bp, op_, ap, hcp⟩ := (Els.up hEP hS.Cn) j p hp
  refine Cq kQ kQ rfl rfl ?_
  refine HW.pp (.fA 0 underlying38 rfl sizeOf23 rfl) ?_
  refine HW.pp (.ld isAgg23 rfl ((hB11z.up hS.Cn).Ak rfl)) ?_
  refine HW.pp (.move (.t rfl)) ?_
  refine HW.pp (.Al underlying23 sizeOf36 (j := j) (.t rfl) (.t rfl) oQ ap) ?_
  refine HW.pp (.fA 12 underlying36 rfl sizeOf3 rfl) ?_
  refine HW.pp (.ld isAgg3 rfl (hcp.nth (j := 12) rfl)) ?_
  refine HW.pp (.fA 1 underlying25 rfl sizeOf3 rfl) ?_
  refine HW.pp (.ld isAgg3 rfl ((hB12z.up hS.Cn).Ak rfl)) ?_
  refine HW.pp (.eql (.t rfl) (.t rfl)) ?_
  refine HW.nil ?_
  intro w16 uw16
  have zw16 := uw16.size
  replace hS := hS.up uw16
  refine KW.then ?_
  refine CW.cond (.t rfl) (fun h51 => ?_) (fun h51 => ?_)
  ·replace h51 := dQ h51
   have hid : (fun p : Fact => decide (p.Chamber = x.chamber)) p = true := decide_eq_true h51
   obtain ⟨Bp, op_, ap, hcp⟩ := (Els.up hEP hS.Cn) j p hp
   refine Ih 8 (fun v w'' => Wx.Sep no w10 w'' [Cp B14 #[vP, v1, v2, v3, v4, v5, v6, v7, v8, v9, (.slice none 0 0)] 38, Ah 36 19 Fact.cells v ((b.Processes.take j).filter (fun p : Fact => decide (p.Chamber = x.chamber)) ++ [p]), Ah 36 19 Fact.cells (.slice none 0 0) ([] : List Fact)]) kQ kQ kQ kQ kQ kQ rfl rfl rfl rfl rfl ?_
   refine HW.pp (.fA 0 underlying38 rfl sizeOf23 rfl) ?_
   refine HW.pp (.ld isAgg23 rfl ((hS.blk 0 rfl).Ak rfl)) ?_
   refine HW.pp (.fA 0 underlying38 rfl sizeOf23 rfl) ?_
   refine HW.pp (.ld isAgg23 rfl ((hB11z.up hS.Cn).Ak rfl)) ?_
   refine HW.pp (.move (.t rfl)) ?_
   refine HW.pp (.Al underlying23 sizeOf36 (j := j) (.t rfl) (.t rfl) oQ ap) ?_
   refine HW.pp (.la isAgg36 sizeOf36 rfl (hcp)) ?_
   refine HW.r (p := fun v w => Sl w v 19 (Fact.cells) [p]) (fun _ _ _ h u => Sl.up h u) rfl (fun w hu a ha => let ⟨v, w', h1, h2⟩ := REv.buildSlice (xs := [p]) (enc := Fact.cells) (mk := fun f : Fact => .agg f.cells) underlying23 sizeOf36 zeroValue36 rfl (Nat.le_of_ble_eq_true rfl) (fun _ => rfl) (fun _ => rfl) (.cons (.t rfl) .nil) rfl a ha; ⟨v, w', h1, h2.q⟩) rfl ?_
   refine HW.nil ⟨fun a w' hu ha => ?_, ?_⟩
   ·exact (REv.open (d := 59) (p := fun v w => Sl w v 19 Fact.cells [p]) rfl fun vv hv => (REv.Cy (bytes := 160) (i := Tryz.t36) underlying23 kQ rfl rfl rfl rfl cQ (fun _ => rfl) Fact.one (.t rfl) (.t rfl) ((hS.up hu).own 1 rfl) hv (by have h1 := Jz (fun p : Fact => decide (p.Chamber = x.chamber)) b.Processes j; simp [maxLen]; omega) (by have h1 := Jz (fun p : Fact => decide (p.Chamber = x.chamber)) b.Processes j; simp; omega)).mono fun v' w'' h => (hS.up hu).Di 1 rfl h).y ha
   intro v60 w17 hS
   refine LW.pp (.fA 0 underlying38 rfl sizeOf23 rfl) ?_
   refine LW.E (.store sizeOf23 (.t rfl) (.t rfl) ((hS.own 1 rfl).jO (fun _ => rfl)) (hS.blk 0 rfl) (Nat.le_of_ble_eq_true rfl)) ?_
   intro w18 Nw18
   have zw18 := Nw18.size
   replace hS := hS.F9 0 rfl (show Set_ _ w18 _ (#[v60, v1, v2, v3, v4, v5, v6, v7, v8, v9, (.slice none 0 0)]) _ from Nw18)
   change Wx.Sep _ _ _ [_, _, _] at hS
   refine LW.nil (KW.inBlock (KW.then (CW.region (LW.M rfl ?_))))
   refine LW.pp (.inc (.t rfl) oQ) ?_
   refine LW.A rfl (LW.nil (KW.round ?_))
   first | exact ⟨(j + 1, v60), ⟨by show j + 1 ≤ _; omega, by first | (rw [Fs hp hid]; exact hS.take 3) | (rw [Hj hp hid]; exact hS.take 3)⟩, ⟨rfl, rfl, rfl, rfl, rfl, rfl, rfl, rfl, rfl, rfl, trivial⟩, by show b.Processes.length - (j + 1) < b.Processes.length - j; omega⟩ | exact ⟨(j + 1, vP), ⟨by show j + 1 ≤ _; omega, by first | (rw [Fs hp hid]; exact hS.take 3) | (rw [Hj hp hid]; exact hS.take 3)⟩, ⟨rfl, rfl, rfl, rfl, rfl, rfl, rfl, rfl, rfl, rfl, trivial⟩, by show b.Processes.length - (j + 1) < b.Processes.length - j; omega⟩
  replace h51 := dQ h51
  have hid : (fun p : Fact => decide (p.Chamber = x.chamber)) p = false := decide_eq_false h51
  refine CW.skip (KW.inBlock (KW.then (CW.region (LW.M rfl ?_))))
  refine LW.pp (.inc (.t rfl) oQ) ?_
  refine LW.A rfl (LW.nil (KW.round ?_))
  first | exact ⟨(j + 1, v60), ⟨by show j + 1 ≤ _; omega, by first | (rw [Fs hp hid]; exact hS.take 3) | (rw [Hj hp hid]; exact hS.take 3)⟩, ⟨rfl, rfl, rfl, rfl, rfl, rfl, rfl, rfl, rfl, rfl, trivial⟩, by show b.Processes.length - (j + 1) < b.Processes.length - j; omega⟩ | exact ⟨(j + 1, vP), ⟨by show j + 1 ≤ _; omega, by first | (rw [Fs hp hid]; exact hS.take 3) | (rw [Hj hp hid]; exact hS.take 3)⟩, ⟨rfl, rfl, rfl, rfl, rfl, rfl, rfl, rfl, rfl, rfl, trivial⟩, by show b.Processes.length - (j + 1) < b.Processes.length - j; omega⟩
 replace h40 := dQ h40
 refine CW.exit (Aa (Aa (Ad (KW.then (CW.seq (CW.seq ?_))))))
 have hjl : j = b.Processes.length := by omega
 rw [hjl, List.take_length] at hS
 refine CW.region (LW.C (LW.T (CW.block ?_)))
 refine Am (σ := Nat × Go.Value) (fun s w => (s.1 ≤ b.Gaps.length) ∧ (Wx.Sep no w10 w [Cp B14 #[vP, v1, v2, v3, v4, v5, v6, v7, v8, v9, s.2] 38, Ah 36 19 Fact.cells vP (b.Processes.filter (fun p : Fact => decide (p.Chamber = x.chamber))), Ah 36 19 Fact.cells s.2 ((b.Gaps.take s.1).filter (fun p : Fact => decide (p.Chamber = x.chamber)))])) (fun s => [(16, .eq (vi (s.1 : Int)))]) ([(2, .eq _), (3, .eq _), (8, .eq _), (9, .eq _), (10, .eq _), (11, .eq _), (12, .eq _), (13, .eq _), (14, .eq _)]) (fun s => b.Gaps.length - s.1) (0, (.slice none 0 0)) ?_ ⟨rfl, rfl, rfl, rfl, rfl, rfl, rfl, rfl, rfl, rfl, trivial⟩ ?_
 ·exact ⟨Nat.zero_le _, hS⟩
 rintro ⟨j, vG⟩ w19 ⟨hj, hS⟩
 dsimp only at hj hS
 change Wx.Sep _ _ _ [_, _, _] at hS
 change CW _ _ _ _ _ _ _ ([(16, .eq (vi (j : Int)))] ++ _) _
 refine CW.seq (CW.S (LW.M rfl ?_))
 refine LW.pp (.fA 10 underlying38 rfl sizeOf23 rfl) ?_
 refine LW.pp (.ld isAgg23 rfl ((hB11z.up hS.Cn).Ak rfl)) ?_
 refine LW.pp (.Dl underlying23 (.t rfl)) ?_
 refine LW.pp (.lss (.t rfl) (.t rfl)) ?_
 refine LW.T ?_
 refine CW.cond (.t rfl) (fun h66 => ?_) (fun h66 => ?_)
 ·replace h66 := dQ h66
  refine CW.skip (KW.then (CW.seq (CW.block (CW.seq ?_))))
  obtain ⟨p, hp⟩ := Ac (xs := b.Gaps) (i := j) oQ
  obtain ⟨Bp, op_, ap, hcp⟩ := (Els.up hEG hS.Cn) j p hp
  refine Cq kQ kQ rfl rfl ?_
  refine HW.pp (.fA 10 underlying38 rfl sizeOf23 rfl) ?_
  refine HW.pp (.ld isAgg23 rfl ((hB11z.up hS.Cn).Ak rfl)) ?_
  refine HW.pp (.move (.t rfl)) ?_
  refine HW.pp (.Al underlying23 sizeOf36 (j := j) (.t rfl) (.t rfl) oQ ap) ?_
  refine HW.pp (.fA 12 underlying36 rfl sizeOf3 rfl) ?_
  refine HW.pp (.ld isAgg3 rfl (hcp.nth (j := 12) rfl)) ?_
  refine HW.pp (.fA 1 underlying25 rfl sizeOf3 rfl) ?_
  refine HW.pp (.ld isAgg3 rfl ((hB12z.up hS.Cn).Ak rfl)) ?_
  refine HW.pp (.eql (.t rfl) (.t rfl)) ?_
  refine HW.nil ?_
  intro w20 uw20
  have zw20 := uw20.size
  replace hS := hS.up uw20
  refine KW.then ?_
  refine CW.cond (.t rfl) (fun h77 => ?_) (fun h77 => ?_)
  ·replace h77 := dQ h77
   have hid : (fun p : Fact => decide (p.Chamber = x.chamber)) p = true := decide_eq_true h77
   obtain ⟨Bp, op_, ap, hcp⟩ := (Els.up hEG hS.Cn) j p hp
   refine Ih 8 (fun v w'' => Wx.Sep no w10 w'' [Cp B14 #[vP, v1, v2, v3, v4, v5, v6, v7, v8, v9, vG] 38, Ah 36 19 Fact.cells vP (b.Processes.filter (fun p : Fact => decide (p.Chamber = x.chamber))), Ah 36 19 Fact.cells v ((b.Gaps.take j).filter (fun p : Fact => decide (p.Chamber = x.chamber)) ++ [p])]) kQ kQ kQ kQ kQ kQ rfl rfl rfl rfl rfl ?_
   refine HW.pp (.fA 10 underlying38 rfl sizeOf23 rfl) ?_
   refine HW.pp (.ld isAgg23 rfl ((hS.blk 0 rfl).Ak rfl)) ?_
   refine HW.pp (.fA 10 underlying38 rfl sizeOf23 rfl) ?_
   refine HW.pp (.ld isAgg23 rfl ((hB11z.up hS.Cn).Ak rfl)) ?_
   refine HW.pp (.move (.t rfl)) ?_
   refine HW.pp (.Al underlying23 sizeOf36 (j := j) (.t rfl) (.t rfl) oQ ap) ?_
   refine HW.pp (.la isAgg36 sizeOf36 rfl (hcp)) ?_
   refine HW.r (p := fun v w => Sl w v 19 (Fact.cells) [p]) (fun _ _ _ h u => Sl.up h u) rfl (fun w hu a ha => let ⟨v, w', h1, h2⟩ := REv.buildSlice (xs := [p]) (enc := Fact.cells) (mk := fun f : Fact => .agg f.cells) underlying23 sizeOf36 zeroValue36 rfl (Nat.le_of_ble_eq_true rfl) (fun _ => rfl) (fun _ => rfl) (.cons (.t rfl) .nil) rfl a ha; ⟨v, w', h1, h2.q⟩) rfl ?_
   refine HW.nil ⟨fun a w' hu ha => ?_, ?_⟩
   ·exact (REv.open (d := 85) (p := fun v w => Sl w v 19 Fact.cells [p]) rfl fun vv hv => (REv.Cy (bytes := 160) (i := Tryz.t36) underlying23 kQ rfl rfl rfl rfl cQ (fun _ => rfl) Fact.one (.t rfl) (.t rfl) ((hS.up hu).own 2 rfl) hv (by have h1 := Jz (fun p : Fact => decide (p.Chamber = x.chamber)) b.Gaps j; simp [maxLen]; omega) (by have h1 := Jz (fun p : Fact => decide (p.Chamber = x.chamber)) b.Gaps j; simp; omega)).mono fun v' w'' h => (hS.up hu).Di 2 rfl h).y ha
   intro v86 w21 hS
   refine LW.pp (.fA 10 underlying38 rfl sizeOf23 rfl) ?_
   refine LW.E (.store sizeOf23 (.t rfl) (.t rfl) ((hS.own 2 rfl).jO (fun _ => rfl)) (hS.blk 0 rfl) (Nat.le_of_ble_eq_true rfl)) ?_
   intro w22 Nw22
   have zw22 := Nw22.size
   replace hS := hS.F9 0 rfl (show Set_ _ w22 _ (#[vP, v1, v2, v3, v4, v5, v6, v7, v8, v9, v86]) _ from Nw22)
   change Wx.Sep _ _ _ [_, _, _] at hS
   refine LW.nil (KW.inBlock (KW.then (CW.region (LW.M rfl ?_))))
   refine LW.pp (.inc (.t rfl) oQ) ?_
   refine LW.A rfl (LW.nil (KW.round ?_))
   first | exact ⟨(j + 1, v86), ⟨by show j + 1 ≤ _; omega, by first | (rw [Fs hp hid]; exact hS.take 3) | (rw [Hj hp hid]; exact hS.take 3)⟩, ⟨rfl, rfl, rfl, rfl, rfl, rfl, rfl, rfl, rfl, rfl, trivial⟩, by show b.Gaps.length - (j + 1) < b.Gaps.length - j; omega⟩ | exact ⟨(j + 1, vG), ⟨by show j + 1 ≤ _; omega, by first | (rw [Fs hp hid]; exact hS.take 3) | (rw [Hj hp hid]; exact hS.take 3)⟩, ⟨rfl, rfl, rfl, rfl, rfl, rfl, rfl, rfl, rfl, rfl, trivial⟩, by show b.Gaps.length - (j + 1) < b.Gaps.length - j; omega⟩
  replace h77 := dQ h77
  have hid : (fun p : Fact => decide (p.Chamber = x.chamber)) p = false := decide_eq_false h77
  refine CW.skip (KW.inBlock (KW.then (CW.region (LW.M rfl ?_))))
  refine LW.pp (.inc (.t rfl) oQ) ?_
  refine LW.A rfl (LW.nil (KW.round ?_))
  first | exact ⟨(j + 1, v86), ⟨by show j + 1 ≤ _; omega, by first | (rw [Fs hp hid]; exact hS.take 3) | (rw [Hj hp hid]; exact hS.take 3)⟩, ⟨rfl, rfl, rfl, rfl, rfl, rfl, rfl, rfl, rfl, rfl, trivial⟩, by show b.Gaps.length - (j + 1) < b.Gaps.length - j; omega⟩ | exact ⟨(j + 1, vG), ⟨by show j + 1 ≤ _; omega, by first | (rw [Fs hp hid]; exact hS.take 3) | (rw [Hj hp hid]; exact hS.take 3)⟩, ⟨rfl, rfl, rfl, rfl, rfl, rfl, rfl, rfl, rfl, rfl, trivial⟩, by show b.Gaps.length - (j + 1) < b.Gaps.length - j; omega⟩
 replace h66 := dQ h66
 refine CW.exit (Aa (Aa (Ad (KW.then (CW.seq ?_)))))
 have hjl2 : j = b.Gaps.length := by omega
 rw [hjl2, List.take_length] at hS
 have hCo : BaseC w19 #[vP, v1, v2, v3, v4, v5, v6, v7, v8, v9, vG] (Kv b x.chamber) := ⟨_, v1, v2, v3, v4, v5, v6, v7, v8, v9, _, rfl, (hS.own 1 rfl).sl (fun _ => rfl), Sl.up a1 hS.Cn, Sl.up a2 hS.Cn, Sl.up a3 hS.Cn, Sl.up a4 hS.Cn, Sl.up a5 hS.Cn, Sl.up a6 hS.Cn, Sl.up a7 hS.Cn, Sl.up a8 hS.Cn, Sl.up a9 hS.Cn, (hS.own 2 rfl).sl (fun _ => rfl)⟩
 refine CW.region ?_
 refine LW.pp (.la isAgg38 sizeOf38 rfl ((hS.blk 0 rfl).agg)) ?_
 refine LW.pp (.la isAgg25 sizeOf25 rfl ((hB12z.up hS.Cn).agg)) ?_
 refine LW.K (eC (.u rfl rfl) (gA)) rfl (J1 _ (Kv b x.chamber) x _ hCo (fun p hp => hT p (List.mem_filter.1 hp).1) (Nat.le_trans (List.length_filter_le _ _) oQ) (Nat.le_trans (List.length_filter_le _ _) oQ) (by show b.Lots.length ≤ _; omega) (by show b.Swaps.length ≤ _; omega)) ?_
 rintro _ w23 ⟨v90, L90, rfl, hm90, hT90⟩
 replace hS := hS.join hT90
 change Wx.Sep _ _ _ [_, _, _, _, _] at hS
 clear hT90
 obtain ⟨ad90, cp90, rfl, _⟩ := (hS.own 3 rfl).sl (fun _ => rfl)
 have hn90 : L90.length ≤ 10000 := by have h5 := Sm (b := (Kv b x.chamber)) hxo; rw [← hm90, List.length_map] at h5; rw [h5]; exact Nat.le_trans (Lw _ _ _) (Nat.le_trans (Nat.add_le_add_left (List.length_filter_le _ _) _) (by show b.Lots.length + b.Processes.length ≤ _; omega))
 refine LW.A rfl (LW.S (CW.seq ?_))
 have hWz := hS.Cn
 have hE90 : Els w23 ad90 3 VP.cells L90 := D9 (hS.own 3 rfl) (fun _ => rfl)
 have hw90 : WhyS w23 L90 := Lu (hS.get 4 rfl)
 have hE32 : Els w23 ad32 3 VP.cells L32 := Els.up hLz hWz
 have hw32 : WhyS w23 L32 := WhyS.up hYz hWz
 refine CW.region (LW.C (LW.T (CW.block ?_)))
 refine Am (σ := Nat) (fun s w => (s ≤ L90.length) ∧ (Up w23 w)) (fun s => [(18, .eq (vi (s : Int)))]) ([(2, .eq _), (3, .eq _), (9, .eq _), (10, .eq _), (12, .eq _), (13, .eq _), (17, .eq _)]) (fun s => L90.length - s) 0 ?_ ⟨rfl, rfl, rfl, rfl, rfl, rfl, rfl, rfl, trivial⟩ ?_
 ·exact ⟨Nat.zero_le _, Up.refl _⟩
 rintro i w24 ⟨hi, hL3⟩
 have zzw24 := hL3.size
 replace hWz := hWz.up hL3
 replace hE32 := hE32.up hL3
 replace hw32 := hw32.up hL3
 replace hE90 := hE90.up hL3
 replace hw90 := hw90.up hL3
 refine CW.seq (CW.S (LW.M rfl (LW.M rfl ?_)))
 refine LW.pp (.Dl underlying27 (.t rfl)) ?_
 refine LW.pp (.lss (.t rfl) (.t rfl)) ?_
 refine LW.T ?_
 refine CW.cond (.t rfl) (fun h94 => ?_) (fun h94 => ?_)
 ·replace h94 := dQ h94
  refine CW.skip (KW.then (CW.seq (CW.block (CW.seq ?_))))
  obtain ⟨e, he⟩ := Ac (xs := L90) (i := i) oQ
  obtain ⟨Be, oe, ae, hce⟩ := hE90 i e he
  have hem := List.mem_of_getElem? he
  have hej := Qt hm90 he
  have hel : e.vd.why.length ≤ 1000000000 := Nat.le_trans (Vq hej) (Nat.le_trans (List.length_filter_le _ _) oQ)
  refine Hq 15 [.eq (.slice ad90 L90.length cp90), .eq (vi (i : Int)), .eq (.pointer (some ⟨Be, oe + i * 3, none⟩)), .eq (.agg e.cells), .pred fun v W => VerS W v e.vd, .eq (.slice ad32 L32.length cp32), .eq (.slice ad90 L90.length cp90), .eq (vi (i : Int)), .eq (.pointer (some ⟨Be, oe + i * 3, none⟩)), .eq (.pointer (some ⟨Be, oe + i * 3 + 0, none⟩)), .eq (vi e.vd.w), .pred fun v W => VerE W v e.vd, .pred fun v W => VerS W v e.vd, .eq (.bool true), .eq (.bool false)] [111] kQ rfl kQ kQ kQ kQ kQ kQ kQ ⟨PhU.eq _, PhU.eq _, PhU.eq _, PhU.eq _, PhU.pred fun _ _ _ h u => h.up u, PhU.eq _, PhU.eq _, PhU.eq _, PhU.eq _, PhU.eq _, PhU.eq _, PhU.pred fun _ _ _ h u => h.up u, PhU.pred fun _ _ _ h u => h.up u, PhU.eq _, PhU.eq _, trivial⟩ ?_ ?_
  ·intro W hU0
   have hU := (Up.drew w24).trans hU0
   skip
   refine aC ⟨rfl, TU.p (.move (.t rfl)) rfl⟩ ?_
   refine aC ⟨rfl, TU.p (.move (.t rfl)) rfl⟩ ?_
   refine aC ⟨rfl, TU.p (.Al underlying27 sizeOf32 (j := i) (.t rfl) (.t rfl) oQ ae) rfl⟩ ?_
   refine aC ⟨rfl, TU.p (.la isAgg32 sizeOf32 rfl ((hce.up hU))) rfl⟩ ?_
   refine aC ⟨rfl, TU.r (REv.buildSlice (xs := [e]) (enc := VP.cells) (mk := fun p : VP => .agg p.cells) underlying27 sizeOf32 zeroValue32 rfl (Nat.le_of_ble_eq_true rfl) (fun _ => rfl) (fun _ => rfl) (.cons (.t rfl) .nil) rfl) (by rintro _ W1 ⟨B, c, rfl, N, y, x⟩; exact ⟨N.up, _, _, e, rfl, rfl, x, Sl.up (hw90 e hem) (hU.trans N.up)⟩)⟩ ?_
   refine aC ⟨rfl, TU.p (.move (.t rfl)) rfl⟩ ?_
   refine aC ⟨rfl, TU.p (.move (.t rfl)) rfl⟩ ?_
   refine aC ⟨rfl, TU.p (.move (.t rfl)) rfl⟩ ?_
   refine aC ⟨rfl, TU.p (.Al underlying27 sizeOf32 (j := i) (.t rfl) (.t rfl) oQ ae) rfl⟩ ?_
   refine aC ⟨rfl, TU.p (.fA 0 underlying32 rfl sizeOf3 rfl) rfl⟩ ?_
   refine aC ⟨rfl, TU.p (.ld isAgg3 rfl ((hce.up hU).nth (j := 0) rfl)) rfl⟩ ?_
   refine aC ⟨rfl, TU.c (eC (.u rfl rfl) (oY)) (Jm ad32 cp32 L32 e.vd.w W (Els.up hE32 hU) oQ) (by rintro _ W1 ⟨h, u⟩; exact ⟨u, fT (by rw [show (L32.map (·.vd)) = Gy b x from hm32]; exact (oB hxo e.vd hej).symm) h (WhyS.up hw32 hU) u⟩)⟩ ?_
   refine aC ⟨rfl, TU.open (d := 108) rfl (by rintro _ ⟨q, rfl, hq, hs⟩; exact TU.r (REv.buildSlice (xs := [q]) (enc := VP.cells) (mk := fun p : VP => .agg p.cells) underlying27 sizeOf32 zeroValue32 rfl (Nat.le_of_ble_eq_true rfl) (fun _ => rfl) (fun _ => rfl) (.cons (.t rfl) .nil) rfl) (by rintro _ W1 ⟨B, c, rfl, N, y, x⟩; exact ⟨N.up, _, _, q, rfl, hq, x, Sl.up hs N.up⟩))⟩ ?_
   refine aC ⟨rfl, TU.open (d := 101) rfl (by rintro _ ⟨a1, c1, q1, rfl, hq1, hE1, hs1⟩; exact TU.open (d := 109) rfl (by rintro _ ⟨a2, c2, q2, rfl, hq2, hE2, hs2⟩; exact TU.c (eC (.u rfl rfl) (rD)) (Si a1 c1 a2 c2 [q1] [q2] W hE1 hE2 (fun p hp => by rw [List.mem_singleton.1 hp]; exact hs1) (fun p hp => by rw [List.mem_singleton.1 hp]; exact hs2) (fun p hp => by rw [List.mem_singleton.1 hp, hq1]; exact hel) (fun p hp => by rw [List.mem_singleton.1 hp, hq2]; exact hel) (Nat.le_of_ble_eq_true rfl)) (by rintro _ W1 ⟨rfl, u⟩; exact ⟨u, by rw [show ([q1].map (·.vd)) = [q2].map (·.vd) from by simp [hq1, hq2]]; simp [Ph.holds]⟩)))⟩ ?_
   refine aC ⟨rfl, TU.p (.fa (PEv.not (.t rfl)) rfl) rfl⟩ ?_
   exact allL.nil
  intro w25 g hU0 hg
  have hU := (Up.drew w24).trans hU0
  have zw25 := hU.size
  replace hWz := hWz.up hU
  replace hE32 := hE32.up hU
  replace hw32 := hw32.up hU
  replace hE90 := hE90.up hU
  replace hw90 := hw90.up hU
  replace hL3 := hL3.up hU
  have e111 : g 111 = .bool false := hg 14 _ 111 cQ rfl rfl
  change LW _ _ _ _ _ _ _ _ ((111, .eq (g 111)) :: _) _
  rw [e111]
  clear hg e111
  refine LW.T ?_
  refine CW.cond_false (.t rfl) ?_
  refine CW.skip (KW.inBlock (KW.then (CW.region (LW.M rfl ?_))))
  refine LW.pp (.inc (.t rfl) oQ) ?_
  refine LW.A rfl (LW.nil (KW.round ?_))
  exact ⟨i + 1, ⟨by omega, hL3⟩, ⟨rfl, rfl, rfl, rfl, rfl, rfl, rfl, rfl, trivial⟩, by first | omega | (dsimp only; omega)⟩
 replace h94 := dQ h94
 refine CW.exit (Aa (Aa (Ad (KW.then (CW.seq (CW.S (LW.C (LW.T (CW.block ?_)))))))))
 refine Am (σ := Nat) (fun s w => (s ≤ L32.length) ∧ (Up w24 w)) (fun s => [(19, .eq (vi (s : Int)))]) ([(2, .eq _), (3, .eq _), (9, .eq _), (10, .eq _), (12, .eq _), (13, .eq _), (17, .eq _)]) (fun s => L32.length - s) 0 ?_ ⟨rfl, rfl, rfl, rfl, rfl, rfl, rfl, rfl, trivial⟩ ?_
 ·exact ⟨Nat.zero_le _, Up.refl _⟩
 rintro i w26 ⟨hi, hL4⟩
 have zzw26 := hL4.size
 replace hWz := hWz.up hL4
 replace hE32 := hE32.up hL4
 replace hw32 := hw32.up hL4
 replace hE90 := hE90.up hL4
 replace hw90 := hw90.up hL4
 replace hL3 := hL3.up hL4
 refine CW.seq (CW.S (LW.M rfl (LW.M rfl ?_)))
 refine LW.pp (.Dl underlying27 (.t rfl)) ?_
 refine LW.pp (.lss (.t rfl) (.t rfl)) ?_
 refine LW.T ?_
 refine CW.cond (.t rfl) (fun h115 => ?_) (fun h115 => ?_)
 ·replace h115 := dQ h115
  refine CW.skip (KW.then (CW.seq (CW.block (CW.seq ?_))))
  obtain ⟨e, he⟩ := Ac (xs := L32) (i := i) oQ
  obtain ⟨Be, oe, ae, hce⟩ := hE32 i e he
  have hlo := oC hxo e.vd (Qt hm32 he)
  cases hq28 : decide ((Gq (Gy (Kv b x.chamber) x) e.vd.w).t < 0) with
  | true =>
   have hq1 := hlo (of_decide_eq_true hq28)
   refine CW.region (LW.M rfl (LW.M rfl (LW.M rfl ?_)))
   refine LW.pp (.Al underlying27 sizeOf32 (j := i) (.t rfl) (.t rfl) oQ ae) ?_
   refine LW.pp (.fA 0 underlying32 rfl sizeOf3 rfl) ?_
   refine LW.pp (.ld isAgg3 rfl (hce.nth (j := 0) rfl)) ?_
   refine LW.K (eC (.u rfl rfl) (oY)) rfl (Jm ad90 cp90 L90 e.vd.w _ hE90 oQ) ?_
   rintro v124 w27 ⟨hv_, uw27⟩
   have zw27 := uw27.size
   replace hWz := hWz.up uw27
   replace hE32 := hE32.up uw27
   replace hw32 := hw32.up uw27
   replace hE90 := hE90.up uw27
   replace hw90 := hw90.up uw27
   replace hL3 := hL3.up uw27
   replace hL4 := hL4.up uw27
   replace hce := hce.up uw27
   obtain ⟨e2, rfl, he2⟩ : ∃ e2 : VP, v124 = .agg e2.cells ∧ e2.vd = Gq (L90.map (·.vd)) e.vd.w := hv_.elim (fun ⟨e, _, e1, h⟩ => ⟨e, e1, h⟩) fun ⟨e1, h, _⟩ => ⟨VP.mk S8 none 0, e1, h.symm⟩
   rw [show L90.map (·.vd) = _ from hm90] at he2
   refine LW.pp (.Ur (off := 1) underlying32 rfl rfl isAgg3 (.t rfl) rfl) ?_
   refine LW.pp (.tr (PEv.lss (.t rfl) (.const _)) (decide_eq_true (by rw [he2]; exact of_decide_eq_true hq28))) ?_
   refine LW.M rfl ?_
   refine LW.Y ?_
   refine LW.M rfl ?_
   refine LW.Y ?_
   refine LW.M rfl ?_
   refine LW.Y ?_
   refine LW.pp (.Al underlying27 sizeOf32 (j := i) (.t rfl) (.t rfl) oQ ae) ?_
   refine LW.Y ?_
   refine LW.pp (.fA 1 underlying32 rfl sizeOf3 rfl) ?_
   refine LW.Y ?_
   refine LW.pp (.ld isAgg3 rfl (hce.nth (j := 1) rfl)) ?_
   refine LW.Y ?_
   refine LW.pp (.fa (PEv.neq (.t rfl) (.const _)) (by rw [hq1]; rfl)) ?_
   refine LW.pp (.A5 (.t rfl) (fun hp => (by first | exact .const _ | exact .tmp rfl | exact .cond rfl (by first | assumption | (rw [hp]; rfl) | (rw [hc, hp]; rfl) | simp_all)))) ?_
   refine LW.T ?_
   refine CW.cond_false (.t rfl) ?_
   refine CW.skip (KW.inBlock (KW.then (CW.region (LW.M rfl ?_))))
   refine LW.pp (.inc (.t rfl) oQ) ?_
   refine LW.A rfl (LW.nil (KW.round ?_))
   exact ⟨i + 1, ⟨by omega, hL4⟩, ⟨rfl, rfl, rfl, rfl, rfl, rfl, rfl, rfl, trivial⟩, by first | omega | (dsimp only; omega)⟩
  | false =>
   have hq1 := of_decide_eq_false hq28
   refine CW.region (LW.M rfl (LW.M rfl (LW.M rfl ?_)))
   refine LW.pp (.Al underlying27 sizeOf32 (j := i) (.t rfl) (.t rfl) oQ ae) ?_
   refine LW.pp (.fA 0 underlying32 rfl sizeOf3 rfl) ?_
   refine LW.pp (.ld isAgg3 rfl (hce.nth (j := 0) rfl)) ?_
   refine LW.K (eC (.u rfl rfl) (oY)) rfl (Jm ad90 cp90 L90 e.vd.w _ hE90 oQ) ?_
   rintro v124 w28 ⟨hv_, uw28⟩
   have zw28 := uw28.size
   replace hWz := hWz.up uw28
   replace hE32 := hE32.up uw28
   replace hw32 := hw32.up uw28
   replace hE90 := hE90.up uw28
   replace hw90 := hw90.up uw28
   replace hL3 := hL3.up uw28
   replace hL4 := hL4.up uw28
   replace hce := hce.up uw28
   obtain ⟨e2, rfl, he2⟩ : ∃ e2 : VP, v124 = .agg e2.cells ∧ e2.vd = Gq (L90.map (·.vd)) e.vd.w := hv_.elim (fun ⟨e, _, e1, h⟩ => ⟨e, e1, h⟩) fun ⟨e1, h, _⟩ => ⟨VP.mk S8 none 0, e1, h.symm⟩
   rw [show L90.map (·.vd) = _ from hm90] at he2
   refine LW.pp (.Ur (off := 1) underlying32 rfl rfl isAgg3 (.t rfl) rfl) ?_
   refine LW.pp (.fa (PEv.lss (.t rfl) (.const _)) (decide_eq_false (by rw [he2]; exact hq1))) ?_
   refine LW.M rfl ?_
   refine LW.N ?_
   refine LW.N ?_
   refine LW.N ?_
   refine LW.N ?_
   refine LW.N ?_
   refine LW.N ?_
   refine LW.pp (.A5 (b := false) (.t rfl) (fun hp => absurd (show false = true from hp) cQ)) ?_
   refine LW.T ?_
   refine CW.cond_false (.t rfl) ?_
   refine CW.skip (KW.inBlock (KW.then (CW.region (LW.M rfl ?_))))
   refine LW.pp (.inc (.t rfl) oQ) ?_
   refine LW.A rfl (LW.nil (KW.round ?_))
   exact ⟨i + 1, ⟨by omega, hL4⟩, ⟨rfl, rfl, rfl, rfl, rfl, rfl, rfl, rfl, trivial⟩, by first | omega | (dsimp only; omega)⟩
 replace h115 := dQ h115
 refine CW.exit (Aa (Aa (Ad (KW.then (CW.seq ?_)))))
 have hU1 := hWz
 have hS := Sep.start no w26
 refine CW.qF 7 5 6 4 20 139 (Fact.cells Hi) [.eq (.pointer (some ⟨B12, 1, none⟩)), .eq (vi x.chamber), .eq (vi at_), .eq (vi (An at_ 200)), .eq (.agg ((G9 x.chamber (An at_ 200) 0)).cells), .pred fun v _ => ∃ B, v = .pointer (some ⟨B, 0, none⟩), .eq (undef)] [] zeroValue36 sizeOf36 kQ rfl kQ kQ kQ kQ kQ kQ kQ rfl rfl ⟨_, _, _, rfl⟩ _ rfl ⟨_, _, _, rfl⟩ ⟨PhT.eq _ _, PhT.eq _ _, PhT.eq _ _, PhT.eq _ _, PhT.eq _ _, PhT.pred fun _ _ _ h _ => h, PhT.eq _ _, trivial⟩ rfl (fun v W h => ⟨_, h, rfl, Fact.one _⟩) (fun B W => ⟨B, rfl⟩) ?_ ?_
 ·intro W hU0
  have hU := (Up.drew w26).trans hU0
  refine aC (.inr ⟨rfl, TU.p (.fA 1 underlying25 rfl sizeOf3 rfl) rfl⟩) ?_
  refine aC (.inr ⟨rfl, TU.p (.ld isAgg3 rfl (((hB12z.up hU1).up hU).Ak rfl)) rfl⟩) ?_
  refine aC (.inr ⟨rfl, TU.p (.move (.t rfl)) rfl⟩) ?_
  refine aC (.inr ⟨rfl, TU.c (eC (.cons (.t rfl) (.cons (.const _) .nil)) (Kw)) (Cj _ _ _ cQ) sQ⟩) ?_
  refine aC (.inr ⟨rfl, TU.p (.build (cs := ((G9 x.chamber (An at_ 200) 0)).cells) underlying36 zeroValue36 C1 (.cons (.const _) (.cons (.const _) (.cons (.const _) (.cons (.const _) (.cons (.t rfl) (.cons (.t rfl) .nil)))))) rfl) rfl⟩) ?_
  refine aC (.inl (.inl rfl)) ?_
  refine aC (.inl (.inr rfl)) ?_
  exact allL.nil
 intro w29 B20 g hU0 zB20_ hB20 hg
 have hU := (Up.drew w26).trans hU0
 have zw29 := hU.size
 have zdr : w26.drew.heap.size = w26.heap.size := rfl
 have g139_ : g 139 = .agg ((G9 x.chamber (An at_ 200) 0)).cells := hg 4 _ 139 cQ rfl rfl
 rw [g139_] at hB20
 replace hB20 : Blk w29 B20 (((G9 x.chamber (An at_ 200) 0)).cells) 36 := hB20
 change LW _ _ _ _ _ _ _ _ ((20, _) :: _) _
 clear hg
 replace hL3 := hL3.up hU
 replace hL4 := hL4.up hU
 replace hS := (hS.up (Up.drew _)).add hU0 (A' := Cp B20 (((G9 x.chamber (An at_ 200) 0)).cells) 36) hB20 (fun i (e : i = B20) => by omega)
 change Wx.Sep _ _ _ [_] at hS
 clear hB20
 refine LW.S ?_
 have p1 := E0 (c := at_) (n := 200) hat cQ
 have p2 := E0 (c := ln) (n := 40) hln cQ
 refine D5 6 kQ kQ kQ kQ kQ rfl rfl ?_
 refine HW.pp (.fA 5 underlying36 rfl sizeOf3 rfl) ?_
 refine HW.pp (.val (v' := vi (An at_ 200)) (PEv.ld isAgg3 rfl ((hS.blk 0 rfl).Ak rfl)) rfl) ?_
 refine HW.pp (.move (.t rfl)) ?_
 refine HW.c (fun a w _ ha => Cg (.cons (.t rfl) (.cons (.const _) .nil)) (Kw) a ha) rfl rfl (fun w hu => Cj _ _ w cQ) ?_
 refine HW.pp (.add (.t rfl) (.t rfl) oQ oQ) ?_
 refine HW.pp (.fA 6 underlying36 rfl sizeOf3 rfl) ?_
 refine HW.nil ?_
 intro w30 uw30
 have zw30 := uw30.size
 replace hL3 := hL3.up uw30
 replace hL4 := hL4.up uw30
 replace hS := hS.up uw30
 refine LW.E (.store sizeOf3 (.t rfl) (.t rfl) rfl (hS.blk 0 rfl) (Nat.le_of_ble_eq_true rfl)) ?_
 intro w31 Nw31
 have zw31 := Nw31.size
 replace hS := hS.F9 0 rfl (show Set_ _ w31 _ (((G9 x.chamber (An at_ 200) (An at_ 200 + An ln 40))).cells) _ from Nw31)
 change Wx.Sep _ _ _ [_] at hS
 replace hL3 := hL3.sto Nw31.sto oQ
 replace hL4 := hL4.sto Nw31.sto oQ
 refine LW.S ?_
 obtain ⟨g1, g2, g3, g4⟩ := lD (l := E7 xs) (g := (G9 x.chamber (An at_ 200) (An at_ 200 + An ln 40))) rfl (fun f hf => by have h5 := qX f hf; show f.ID ≠ 500; omega) 100000
 rw [← hb] at g1 g2 g3 g4
 have hTg : ∀ p ∈ (H5 (E7 xs ++ [(G9 x.chamber (An at_ 200) (An at_ 200 + An ln 40))]) 100000).Processes, Lr p := by rw [g1]; exact hT
 have hg1 : (H5 (E7 xs ++ [(G9 x.chamber (An at_ 200) (An at_ 200 + An ln 40))]) 100000).Processes.length ≤ 100 := by rw [g1]; exact hlP
 have hg2 : (H5 (E7 xs ++ [(G9 x.chamber (An at_ 200) (An at_ 200 + An ln 40))]) 100000).Swaps.length ≤ 100 := by rw [g2]; exact hls
 have hg3 : (H5 (E7 xs ++ [(G9 x.chamber (An at_ 200) (An at_ 200 + An ln 40))]) 100000).Lots.length ≤ 100 := by rw [g3]; exact hlL
 have hg4 := (cL (l := (E7 xs ++ [(G9 x.chamber (An at_ 200) (An at_ 200 + An ln 40))])) (by rw [List.length_append, List.length_singleton]; omega) 100000).2.1
 refine jK 9 5 [2, 4, 0] [6, 8] [.pred fun v W => ∃ B, v = .slice (some ⟨B, 0, none⟩) 0 0 ∧ OwnS W w31.drew.heap.size 36 19 Fact.cells (.slice (some ⟨B, 0, none⟩) 0 0) ([] : List Fact), .eq (.slice ad25 (E7 xs).length cp25), .pred fun v W => OwnS W w31.drew.heap.size 36 19 Fact.cells v (E7 xs), .eq (.agg ((G9 x.chamber (An at_ 200) (An at_ 200 + An ln 40))).cells), .pred fun v W => Sl W v 19 Fact.cells [(G9 x.chamber (An at_ 200) (An at_ 200 + An ln 40))], .pred fun v W => OwnS W w31.drew.heap.size 36 19 Fact.cells v (E7 xs ++ [(G9 x.chamber (An at_ 200) (An at_ 200 + An ln 40))]), .pred fun v W => BasX W v (H5 (E7 xs ++ [(G9 x.chamber (An at_ 200) (An at_ 200 + An ln 40))]) 100000), .eq (.agg x.cells), .pred fun v W => VdsE W v (Gy (H5 (E7 xs ++ [(G9 x.chamber (An at_ 200) (An at_ 200 + An ln 40))]) 100000) x)] [154] (fun _ _ => True) kQ rfl kQ kQ kQ kQ kQ kQ kQ kQ kQ kQ ⟨PhU.pred fun _ _ _ h u => let ⟨B, e, ho⟩ := h; ⟨B, e, ho.up u⟩, PhU.eq _, PhU.pred fun _ _ _ h u => OwnS.up h u, PhU.eq _, PhU.pred fun _ _ _ h u => Sl.up h u, PhU.pred fun _ _ _ h u => OwnS.up h u, PhU.pred fun _ _ _ h u => BasX.up h u, PhU.eq _, PhU.pred fun _ _ _ h u => VdsE.up h u, trivial⟩ ⟨.inl rfl, .inr (fun _ _ _ h _ => h), .inl rfl, .inr (fun _ _ _ h _ => h), .inl rfl, .inl rfl, .inl rfl, .inr (fun _ _ _ h _ => h), .inl rfl, trivial⟩ ?_ ?_
 ·intro W hU0
  have hU := (Up.drew w31).trans hU0
  have hSW := hS.up hU
  have zU0 := hU0.size
  refine aC ⟨rfl, fun _ => TU.r (REv.buildSlice (xs := ([] : List Fact)) (enc := Fact.cells) (mk := fun f : Fact => .agg f.cells) underlying23 sizeOf36 zeroValue36 rfl (Nat.le_of_ble_eq_true rfl) (fun _ => rfl) (fun _ => rfl) .nil rfl) (fun v W' h => let ⟨u, B, e, ho⟩ := Q3 (base := w31.drew.heap.size) h zU0; ⟨u, B, e, ho⟩), fun h => absurd h cQ⟩ ?_
  refine aC ⟨rfl, fun _ => TU.p (.move (.t rfl)) rfl, fun h => absurd h cQ⟩ ?_
  refine aC ⟨rfl, fun _ => TU.open (d := 146) rfl fun v hv => by obtain ⟨B, rfl, ho⟩ := hv; exact TU.r (V4 (enc := Fact.cells) (k := 19) (bytes := 160) (i := Tryz.t36) underlying23 kQ rfl rfl rfl rfl cQ (fun _ => rfl) (.t rfl) (.t rfl) ho (Aj (Els.up hFz (hU1.trans hSW.Cn))) (by unfold maxLen; omega) oQ zU0) (fun _ _ h => h), fun h => absurd h cQ⟩ ?_
  refine aC ⟨rfl, fun _ => TU.p (.la isAgg36 sizeOf36 rfl ((hSW.blk 0 rfl).agg)) rfl, fun h => absurd h cQ⟩ ?_
  refine aC ⟨rfl, fun _ => TU.r (REv.buildSlice (xs := [(G9 x.chamber (An at_ 200) (An at_ 200 + An ln 40))]) (enc := Fact.cells) (mk := fun f : Fact => .agg f.cells) underlying23 sizeOf36 zeroValue36 rfl (Nat.le_of_ble_eq_true rfl) (fun _ => rfl) (fun _ => rfl) (.cons (.t rfl) .nil) rfl) (fun v W' h => h.q), fun h => absurd h cQ⟩ ?_
  refine aC ⟨rfl, fun h => absurd rfl h, fun _ a ha => ?_⟩ ?_
  ·skip
   have h1 := ha.known (p := fun v W => OwnS W w31.drew.heap.size 36 19 Fact.cells v (E7 xs)) (t := 148) rfl
   have h2 := ha.known (p := fun v W => Sl W v 19 Fact.cells [(G9 x.chamber (An at_ 200) (An at_ 200 + An ln 40))]) (t := 150) rfl
   obtain ⟨v, W', hr, hG⟩ := REv.Cy (enc := Fact.cells) (bytes := 160) (i := Tryz.t36) underlying23 kQ rfl rfl rfl rfl cQ (fun _ => rfl) Fact.one (.tmp (t := 148) rfl) (.tmp (t := 150) rfl) (h1.mono (Nat.zero_le _)) h2 (by rw [List.length_singleton]; unfold maxLen; omega) (by rw [List.length_singleton]; omega) a ((ha.oM (t := 148) rfl).oM (t := 150) rfl)
   exact .inl ⟨v, W', hr, ⟨hU0.oK hG.fr (fun b hb => h1.base b hb), trivial⟩, OwnS.R0 hG.holds fun i hi => (hG.sub i hi).elim (fun h => h1.base i h) (fun h => Nat.le_trans zU0 h)⟩
  refine aC ⟨rfl, fun _ => TU.open (d := 151) rfl fun v hv => by obtain ⟨ad, cp, rfl, hE⟩ := OwnS.sl hv (fun _ => rfl); exact TU.c (eC (.cons (.t rfl) (.cons (.const _) .nil)) (oW)) (Zh ad cp (E7 xs ++ [(G9 x.chamber (An at_ 200) (An at_ 200 + An ln 40))]) 100000 W hE (by simp; omega)) (fun v W' h => let ⟨bc', e, hB, u⟩ := h; ⟨u, bc', e, hB⟩), fun h => absurd h cQ⟩ ?_
  refine aC ⟨rfl, fun _ => TU.p (.la isAgg25 sizeOf25 rfl ((hB12z.up (hU1.trans hSW.Cn)).agg)) rfl, fun h => absurd h cQ⟩ ?_
  refine aC ⟨rfl, fun _ => TU.open (d := 152) rfl fun v hv => by obtain ⟨bc', rfl, hB⟩ := hv; exact TU.c (eC (.u rfl rfl) (gA)) (J1 bc' (H5 (E7 xs ++ [(G9 x.chamber (An at_ 200) (An at_ 200 + An ln 40))]) 100000) x W hB hTg oQ oQ oQ oQ) (by rintro _ W1 ⟨v, L, rfl, hm, hS2⟩; obtain ⟨a1, c1, rfl, _⟩ := (hS2.own 0 rfl).sl (fun _ => rfl); exact ⟨hS2.Cn, ⟨a1, c1, L, rfl, hm, (hS2.own 0 rfl).els (fun _ => rfl), Lu (hS2.get 1 rfl)⟩⟩), fun h => absurd h cQ⟩ ?_
  exact allL.nil
 intro w32 g hU0 hg
 have hU := (Up.drew w31).trans hU0
 have zw32 := hU.size
 replace hL3 := hL3.up hU
 replace hL4 := hL4.up hU
 replace hS := hS.up hU
 obtain ⟨ad154, cp154, L154, e7, hm154, hE154, hw154⟩ : VdsE w32 (g 154) (Gy (H5 (E7 xs ++ [(G9 x.chamber (An at_ 200) (An at_ 200 + An ln 40))]) 100000) x) := hg 8 _ 154 cQ rfl rfl rfl
 change LW _ _ _ _ _ _ _ _ ((154, .eq (g 154)) :: _) _
 rw [e7]
 clear hg e7
 replace hw154 : WhyS w32 L154 := hw154
 have hn154 : L154.length = (A9 b.Lots b.Processes b.Swaps).length := by rw [← g3, ← g1, ← g2, ← Sm hxo, ← hm154, List.length_map]
 refine LW.A rfl (LW.S (CW.seq ?_))
 have hW := hUa.trans (hU1.trans hS.Cn)
 have hE32 : Els w32 ad32 3 VP.cells L32 := Els.up hLz (hU1.trans hS.Cn)
 have hw32 : WhyS w32 L32 := WhyS.up hYz (hU1.trans hS.Cn)
 refine CW.region (LW.M rfl ?_)
 refine LW.pp (.Dl underlying27 (.t rfl)) ?_
 refine LW.M rfl ?_
 refine LW.pp (.Dl underlying27 (.t rfl)) ?_
 refine LW.pp (.fa (PEv.neq (.t rfl) (.t rfl)) (by simp [hn32, hn154])) ?_
 refine LW.T ?_
 refine CW.cond_false (.t rfl) ?_
 refine CW.skip (KW.then (CW.seq (CW.S (LW.C (LW.T (CW.block ?_))))))
 refine Am (σ := Nat) (fun s w => (s ≤ L32.length) ∧ (Up w32 w)) (fun s => [(22, .eq (vi (s : Int)))]) ([(9, .eq _), (13, .eq _), (21, .eq _)]) (fun s => L32.length - s) 0 ?_ ⟨rfl, rfl, rfl, rfl, trivial⟩ ?_
 ·exact ⟨Nat.zero_le _, Up.refl _⟩
 rintro k w33 ⟨hk, hL5⟩
 have zzw33 := hL5.size
 replace hL3 := hL3.up hL5
 replace hL4 := hL4.up hL5
 replace hW := hW.up hL5
 replace hE32 := hE32.up hL5
 replace hw32 := hw32.up hL5
 replace hE154 := hE154.up hL5
 replace hw154 := hw154.up hL5
 refine CW.seq (CW.S (LW.M rfl (LW.M rfl ?_)))
 refine LW.pp (.Dl underlying27 (.t rfl)) ?_
 refine LW.pp (.lss (.t rfl) (.t rfl)) ?_
 refine LW.T ?_
 refine CW.cond (.t rfl) (fun h163 => ?_) (fun h163 => ?_)
 ·replace h163 := dQ h163
  refine CW.skip (KW.then (CW.seq (CW.block (CW.seq ?_))))
  obtain ⟨e, he⟩ := Ac (xs := L32) (i := k) oQ
  obtain ⟨Be, oe, ae, hce⟩ := hE32 k e he
  obtain ⟨f, hf⟩ := Ac (xs := L154) (i := k) oQ
  obtain ⟨Bf, of, af, hcf⟩ := hE154 k f hf
  obtain ⟨wf, hwf⟩ := Ac (xs := A9 b.Lots b.Processes b.Swaps) (i := k) oQ
  have e1 := oT hm32 hxo hwf he
  have e2 := oT hm154 hxo (show (A9 (H5 (E7 xs ++ [(G9 x.chamber (An at_ 200) (An at_ 200 + An ln 40))]) 100000).Lots (H5 (E7 xs ++ [(G9 x.chamber (An at_ 200) (An at_ 200 + An ln 40))]) 100000).Processes (H5 (E7 xs ++ [(G9 x.chamber (An at_ 200) (An at_ 200 + An ln 40))]) 100000).Swaps)[k]? = some wf from by rw [g1, g2, g3]; exact hwf) hf
  have gk := qW (b := b) (c := (H5 (E7 xs ++ [(G9 x.chamber (An at_ 200) (An at_ 200 + An ln 40))]) 100000)) (x := x) g2 g1 g4 wf
  rw [← cM, ← cM, ← e1, ← e2] at gk
  have hwe := hw32 e (List.mem_of_getElem? he)
  have hwf2 := hw154 f (List.mem_of_getElem? hf)
  have hel : e.vd.why.length ≤ 1000000000 := Nat.le_trans (Vq (Qt hm32 he)) oQ
  have hfl : f.vd.why.length ≤ 1000000000 := Nat.le_trans (Vq (Qt hm154 hf)) oQ
  cases hq38 : decide (e.vd.t = 2) with
  | true =>
   have hq1 := of_decide_eq_true hq38
   refine Cq kQ kQ rfl rfl ?_
   refine HW.pp (.move (.t rfl)) ?_
   refine HW.pp (.move (.t rfl)) ?_
   refine HW.pp (.Al underlying27 sizeOf32 (j := k) (.t rfl) (.t rfl) oQ af) ?_
   refine HW.pp (.fA 1 underlying32 rfl sizeOf3 rfl) ?_
   refine HW.pp (.ld isAgg3 rfl (hcf.nth (j := 1) rfl)) ?_
   refine HW.pp (.move (.t rfl)) ?_
   refine HW.pp (.move (.t rfl)) ?_
   refine HW.pp (.Al underlying27 sizeOf32 (j := k) (.t rfl) (.t rfl) oQ ae) ?_
   refine HW.pp (.fA 1 underlying32 rfl sizeOf3 rfl) ?_
   refine HW.pp (.ld isAgg3 rfl (hce.nth (j := 1) rfl)) ?_
   refine HW.pp (.fa (PEv.lss (.t rfl) (.t rfl)) (decide_eq_false (by have := gk.1; omega))) ?_
   refine HW.pp (.move (.t rfl)) ?_
   refine Ck (.move (.t rfl)) ?_
   refine Ck (.move (.t rfl)) ?_
   refine Ck (.Al underlying27 sizeOf32 (j := k) (.t rfl) (.t rfl) oQ ae) ?_
   refine Ck (.fA 1 underlying32 rfl sizeOf3 rfl) ?_
   refine Ck (.ld isAgg3 rfl (hce.nth (j := 1) rfl)) ?_
   refine Ck (.tr (PEv.eql (.t rfl) (.const _)) (decide_eq_true hq1)) ?_
   refine Ck (.move (.t rfl)) ?_
   refine Ck (.move (.t rfl)) ?_
   refine Ck (.move (.t rfl)) ?_
   refine Ck (.Al underlying27 sizeOf32 (j := k) (.t rfl) (.t rfl) oQ ae) ?_
   refine Ck (.fA 2 underlying32 rfl sizeOf30 rfl) ?_
   refine Ck (.ld isAgg30 rfl (hce.nth (j := 2) rfl)) ?_
   refine Ck (.move (.t rfl)) ?_
   refine Ck (.move (.t rfl)) ?_
   refine Ck (.Al underlying27 sizeOf32 (j := k) (.t rfl) (.t rfl) oQ af) ?_
   refine Ck (.fA 2 underlying32 rfl sizeOf30 rfl) ?_
   refine Ck (.ld isAgg30 rfl (hcf.nth (j := 2) rfl)) ?_
   refine fZ rfl rfl rfl rfl rfl (fun a w _ ha => Cg (.cons (.t rfl) (.cons (.t rfl) .nil)) (lI) a ha) rfl (fun w hu => Hz _ _ e.vd.why f.vd.why w (Sl.up hwe hu) (Sl.up hwf2 hu) hel hfl) ?_
   refine Ck (.fa (PEv.not (.t rfl)) (by rw [decide_eq_true (gk.2 hq1)]; rfl)) ?_
   refine Ck (.A5 (.t rfl) (fun hp => (by first | exact .const _ | exact .tmp rfl | exact .cond rfl (by first | assumption | (rw [hp]; rfl) | (rw [hc, hp]; rfl) | simp_all)))) ?_
   refine HW.pp (.Cd (.t rfl) (fun hp => (by first | exact .const _ | exact .tmp rfl | exact .cond rfl (by first | assumption | (rw [hp]; rfl) | (rw [hc, hp]; rfl) | simp_all)))) ?_
   refine HW.nil ?_
   intro w34 uw34
   have zw34 := uw34.size
   replace hL3 := hL3.up uw34
   replace hL4 := hL4.up uw34
   replace hW := hW.up uw34
   replace hE32 := hE32.up uw34
   replace hw32 := hw32.up uw34
   replace hE154 := hE154.up uw34
   replace hw154 := hw154.up uw34
   replace hL5 := hL5.up uw34
   refine KW.then ?_
   refine CW.cond_false (.t rfl) ?_
   refine CW.skip (KW.inBlock (KW.then (CW.region (LW.M rfl ?_))))
   refine LW.pp (.inc (.t rfl) oQ) ?_
   refine LW.A rfl (LW.nil (KW.round ?_))
   exact ⟨k + 1, ⟨by omega, hL5⟩, ⟨rfl, rfl, rfl, rfl, trivial⟩, by first | omega | (dsimp only; omega)⟩
  | false =>
   have hq1 := of_decide_eq_false hq38
   refine Cq kQ kQ rfl rfl ?_
   refine HW.pp (.move (.t rfl)) ?_
   refine HW.pp (.move (.t rfl)) ?_
   refine HW.pp (.Al underlying27 sizeOf32 (j := k) (.t rfl) (.t rfl) oQ af) ?_
   refine HW.pp (.fA 1 underlying32 rfl sizeOf3 rfl) ?_
   refine HW.pp (.ld isAgg3 rfl (hcf.nth (j := 1) rfl)) ?_
   refine HW.pp (.move (.t rfl)) ?_
   refine HW.pp (.move (.t rfl)) ?_
   refine HW.pp (.Al underlying27 sizeOf32 (j := k) (.t rfl) (.t rfl) oQ ae) ?_
   refine HW.pp (.fA 1 underlying32 rfl sizeOf3 rfl) ?_
   refine HW.pp (.ld isAgg3 rfl (hce.nth (j := 1) rfl)) ?_
   refine HW.pp (.fa (PEv.lss (.t rfl) (.t rfl)) (decide_eq_false (by have := gk.1; omega))) ?_
   refine HW.pp (.move (.t rfl)) ?_
   refine Ck (.move (.t rfl)) ?_
   refine Ck (.move (.t rfl)) ?_
   refine Ck (.Al underlying27 sizeOf32 (j := k) (.t rfl) (.t rfl) oQ ae) ?_
   refine Ck (.fA 1 underlying32 rfl sizeOf3 rfl) ?_
   refine Ck (.ld isAgg3 rfl (hce.nth (j := 1) rfl)) ?_
   refine Ck (.fa (PEv.eql (.t rfl) (.const _)) (decide_eq_false hq1)) ?_
   refine Ck (.move (.t rfl)) ?_
   refine HW.N ?_
   refine HW.N ?_
   refine HW.N ?_
   refine HW.N ?_
   refine HW.N ?_
   refine HW.N ?_
   refine HW.N ?_
   refine HW.N ?_
   refine HW.N ?_
   refine HW.N ?_
   refine HW.N ?_
   refine HW.N ?_
   refine Ck (.A5 (b := false) (.t rfl) (fun hp => absurd (show false = true from hp) cQ)) ?_
   refine HW.pp (.Cd (.t rfl) (fun hp => (by first | exact .const _ | exact .tmp rfl | exact .cond rfl (by first | assumption | (rw [hp]; rfl) | (rw [hc, hp]; rfl) | simp_all)))) ?_
   refine HW.nil ?_
   intro w35 uw35
   have zw35 := uw35.size
   replace hL3 := hL3.up uw35
   replace hL4 := hL4.up uw35
   replace hW := hW.up uw35
   replace hE32 := hE32.up uw35
   replace hw32 := hw32.up uw35
   replace hE154 := hE154.up uw35
   replace hw154 := hw154.up uw35
   replace hL5 := hL5.up uw35
   refine KW.then ?_
   refine CW.cond_false (.t rfl) ?_
   refine CW.skip (KW.inBlock (KW.then (CW.region (LW.M rfl ?_))))
   refine LW.pp (.inc (.t rfl) oQ) ?_
   refine LW.A rfl (LW.nil (KW.round ?_))
   exact ⟨k + 1, ⟨by omega, hL5⟩, ⟨rfl, rfl, rfl, rfl, trivial⟩, by first | omega | (dsimp only; omega)⟩
 replace h163 := dQ h163
 refine CW.exit (Aa (Aa (Ad (KW.then (CW.S (LW.M rfl (LW.A rfl (LW.T (CW.ret ?_)))))))))
 refine Af rfl rfl ⟨_, rfl, ?_⟩
 exact ⟨rfl, hW⟩
end Go.Proofs.YtmimclgihlhaeaaGreat
end
