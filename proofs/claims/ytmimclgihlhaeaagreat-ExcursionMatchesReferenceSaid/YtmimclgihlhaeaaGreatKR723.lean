import Derived.Test.YtmimclgihlhaeaaGreatKR722
section
namespace Go.Wx
def Lw (f : Fact → Fact) (L : List Fact) (k : Nat) : List Fact := (L.take k).map f ++ L.drop k
theorem oK (f : Fact → Fact) (L : List Fact) {k : Nat} (h : k ≤ L.length) : (Lw f L k).length = L.length := by unfold Lw; rw [List.length_append, List.length_map, List.length_take, List.length_drop]; omega
theorem Vq {f : Fact → Fact} {L : List Fact} {k : Nat} {x : Fact} (h : L[k]? = some x) : (Lw f L k)[k]? = some x := by
 have hk := (List.getElem?_eq_some_iff.1 h).1
 unfold Lw
 rw [List.getElem?_append_right (by rw [List.length_map, List.length_take]; omega), List.length_map, List.length_take, Nat.min_eq_left oQ, Nat.sub_self, List.getElem?_drop, Nat.add_zero, h]
theorem oL {f : Fact → Fact} {L : List Fact} {k : Nat} {x : Fact} (h : L[k]? = some x) : (Lw f L k).set k (f x) = Lw f L (k + 1) := by
 have hk := (List.getElem?_eq_some_iff.1 h).1
 have e : L.drop k = x :: L.drop (k + 1) := by
   rw [List.drop_eq_getElem_cons hk]
   congr 1
   exact (List.getElem?_eq_some_iff.1 h).2
 unfold Lw
 rw [e, Ar h, List.map_append, List.set_append_right _ _ (by rw [List.length_map, List.length_take]; omega), List.length_map, List.length_take, Nat.min_eq_left oQ, Nat.sub_self]
 simp
theorem oM (f : Fact → Fact) (L : List Fact) {k : Nat} (h : L.length ≤ k) : Lw f L k = L.map f := by unfold Lw; rw [List.take_of_length_le h, List.drop_eq_nil_of_le h, List.append_nil]
section
variable {P : Program} {n : Nat} {ds : List Deferred} {ops : Array Oper}
theorem oN {base done : Env} {w0 : World} {o : Oper} {rest : List Oper} {K : Env → Prop} {d : Nat} {ph : Ph} (hp : phUp ph) (hg : o.guard = none)
   (h : ∀ a w, Up w0 w → Ag n ds (Av (o.looksAt ops) done ++ base) a w → ∃ f args, (execOp a.eval o).run P w = .ok (.enter f args) w ∧ Ret P f args w fun v w' => Up w w' ∧ ph.holds v w') (hd : o.dst = some d) (k : HW P n ds ops base w0 ((d, ph) :: done) rest K) : HW P n ds ops base w0 done (o :: rest) K :=
 ⟨ph, d, hd, hp, fun a w hu ha => by
   rw [if_pos (by simp [Region.wanted, hg])]
   obtain ⟨f, args, e, r⟩ := h a w hu ha
   exact .inr ⟨f, args, w, e, r⟩, k⟩
end
def I6 (f : Fact) : Fact := { f with Text := f.Text.extract 0 (if (20 : Int) < f.Text.size then (20 : Int) else f.Text.size).toNat }
def C6 (n : Nat) (l : List Fact) : List Fact := (l.take n).map I6
theorem bX {l : List Fact} {k : Nat} {x : Fact} (h : l[k]? = some x) : (l.take (k + 1)).map I6 = (l.take k).map I6 ++ [I6 x] := by rw [Ar h]; simp
theorem iX {l : List Fact} {k n : Nat} (hk : k ≤ l.length) (h40 : k ≤ n) (h : (decide (k < l.length) && decide (k < n)) = false) : (l.take k).map I6 = C6 n l := by
 unfold C6
 congr 1
 by_cases h1 : k < l.length
 · have : k = n := by simp [h1] at h; omega
   rw [this]
 rw [show k = l.length by omega, List.take_length, List.take_of_length_le (by omega)]
theorem Vr (n : Nat) (l : List Fact) : (C6 n l).length ≤ n := by unfold C6; rw [List.length_map, List.length_take]; omega
def oW (t : Int) : Int := if 1000000 < (if t < 0 then 0 else t) then 1000000 else (if t < 0 then 0 else t)
def AI (f : Fact) : Fact := { f with Time := oW f.Time }
def Vx (f : Fact) : Fact := { f with Time := oW f.Time, Until := oW f.Until }
theorem oO (t : Int) : 0 ≤ oW t ∧ oW t ≤ 1000000 := by unfold oW; repeat' split <;> omega
theorem oP (f : Fact) : Hf (Vx f) := by
 have h1 := oO f.Time
 have h2 := oO f.Until
 show -1000000000 ≤ oW f.Time ∧ oW f.Time ≤ 1000000000 ∧ -1000000000 ≤ oW f.Until ∧ oW f.Until ≤ 1000000000
 omega
theorem sD {L : List Fact} {k : Nat} {x : Fact} (h : L[k]? = some x) : ((Lw Vx L k).set k (AI x)).set k (Vx x) = Lw Vx L (k + 1) := by rw [List.set_set, oL h]
theorem oR {L : List Fact} {k : Nat} {x : Fact} (h : L[k]? = some x) : ((Lw Vx L k).set k (AI x))[k]? = some (AI x) := List.getElem?_set_self (List.getElem?_eq_some_iff.1 (Vq h)).1
theorem vK {xs : List I5} (hx : ∀ x ∈ xs, eY x) (R : List Fact) (d : Int) : ∀ p ∈ (Ri (Lu xs ++ R.map Vx) d).Processes, Hf p := fun p hp => by
 have h := ((dK (l := Lu xs ++ R.map Vx) (d := d) (j := 0) cQ).1 hp).1.1
 rcases List.mem_append.1 h with h | h
 · obtain ⟨k, y, hy, _, rfl⟩ := nO h
   exact vG (hx y hy)
 obtain ⟨g, _, rfl⟩ := List.mem_map.1 h
 exact oP g
def K5 (p : VP) : VP := ⟨⟨p.vd.w, p.vd.t, p.vd.why.take 8⟩, p.ad, p.cp⟩
theorem bY (p : VP) : p.cells.setIfInBounds 2 (.slice p.ad (min p.vd.why.length 8) p.cp) = (K5 p).cells := by
 unfold K5 VP.cells VP.uv
 dsimp only
 rw [List.length_take, Nat.min_comm]
 rfl
theorem iY {L : List VP} {k : Nat} {p : VP} (h : L[k]? = some p) : (L.take (k + 1)).map K5 = (L.take k).map K5 ++ [K5 p] := by rw [Ar h]; simp
structure VS where
 ad : Option Addr
 L : List VP
 cp : Nat
def VS.v (s : VS) : Value := .slice s.ad s.L.length s.cp
def VS.cells (s : VS) : Array Value := #[s.v]
def VSok (w : World) (s : VS) : Prop := Els w s.ad 3 VP.cells s.L ∧ WhyS w s.L ∧ s.L.length ≤ 1000 ∧ ∀ p ∈ s.L, p.vd.why.length ≤ 1000
theorem VSok.up {w w' : World} {s : VS} (h : VSok w s) (u : Up w w') : VSok w' s := ⟨Els.up h.1 u, WhyS.up h.2.1 u, h.2.2⟩
theorem oS {w : World} {L : List VP} (h : ∀ p ∈ L, Sl w p.uv 1 Aq p.vd.why) (k : Nat) : WhyS w ((L.take k).map K5) := fun p hp => by
 obtain ⟨q, hq, rfl⟩ := List.mem_map.1 hp
 have hE := T4 (h q (List.mem_of_mem_take hq))
 exact ⟨q.ad, q.cp, rfl, fun i x hx => hE i x (by
   rw [show (K5 q).vd.why = q.vd.why.take 8 from rfl, List.getElem?_take] at hx
   split at hx
   · exact hx
   cases hx)⟩
theorem sE {w : World} {L : List VP} (h : ∀ p ∈ L, Sl w p.uv 1 Aq p.vd.why) {k : Nat} (hk : k ≤ 10) {ad : Option Addr} {cp : Nat} (hE : Els w ad 3 VP.cells ((L.take k).map K5)) : VSok w ⟨ad, (L.take k).map K5, cp⟩ := ⟨hE, oS h k, by show ((L.take k).map K5).length ≤ 1000; rw [List.length_map, List.length_take]; omega, fun p hp => by
 obtain ⟨q, hq, rfl⟩ := List.mem_map.1 hp
 show (q.vd.why.take 8).length ≤ 1000
 rw [List.length_take]
 omega⟩
def Ud (b : Base) : Prop := b.Processes.length ≤ 100 ∧ b.Gaps.length ≤ 100 ∧ b.Lots.length ≤ 100 ∧ b.Swaps.length ≤ 100
theorem oT {w : World} {b : Base} {x : Exc} {L : List VP} {ad : Option Addr} {cp : Nat} (hm : L.map VP.vd = K1 b x) (hl : Ud b) (hE : Els w ad 3 VP.cells L) (hw : WhyS w L) : VSok w ⟨ad, L, cp⟩ := by
 obtain ⟨h1, h2, h3, h4⟩ := hl
 refine ⟨hE, hw, ?_, fun p hp => ?_⟩
 · show L.length ≤ 1000
   rw [← List.length_map (f := VP.vd), hm]
   unfold K1
   split
   · rw [List.length_map]
     have := K3 b.Lots b.Processes b.Swaps
     omega
   exact Nat.zero_le _
 have := rW (b := b) (x := x) (v := p.vd) (by rw [← hm]; exact List.mem_map.2 ⟨p, hp, rfl⟩)
 omega
def TssE (w : World) (v : Value) (l : List (List Int)) : Prop := ∃ ad cp, ∃ Ts : List TP, v = .slice ad Ts.length cp ∧ Ts.map TP.l = l ∧ Els w ad 1 TP.cells Ts ∧ TsOk w Ts
theorem TssE.up {w w' : World} {v : Value} {l : List (List Int)} (h : TssE w v l) (u : Up w w') : TssE w' v l := let ⟨ad, cp, Ts, e, hm, hE, hw⟩ := h; ⟨ad, cp, Ts, e, hm, Els.up hE u, TsOk.up hw u⟩
def BA : Type := { a : Array Value // a.size = 11 ∧ a.all (·.oneCell') = true }
def BA.cells (a : BA) : Array Value := a.1
theorem Y0 {b : Base} {L : List Vd} (h : L.length ≤ 1000) : ∀ t ∈ Gk b L, t.length ≤ 1000 := fun t ht => by
 have h1 := List.mem_of_mem_take ht
 have hf := List.length_filter_le (fun v : Vd => decide (v.t = 1)) L
 unfold R6 at h1
 rcases List.mem_append.1 h1 with h2 | h2
 · obtain ⟨g, _, rfl⟩ := List.mem_map.1 h2
   exact Nat.le_trans (Rz _ _ _) oQ
 obtain ⟨g, _, rfl⟩ := List.mem_map.1 h2
 exact Nat.le_trans (O4 _ _ _) oQ
def AJ (W : World) (p : VP) : Prop := Els W p.ad 1 Aq p.vd.why ∧ p.vd.why.length ≤ p.cp
end Go.Wx
namespace Go.Proofs.YtmimclgihlhaeaaGreat
open Go.Proofs.Tryz
open Go.Wx Go.RowKit
theorem Vs (w : World) : Ret Tryz.prog 12 #[vi 1, vi 10] w fun r w' => r = .tuple #[vi 0, vi 1000000] ∧ Up w w' := by
 have hW := Up.refl w
 refine cS (n := 38) (m := 9) func12 rfl rfl rfl (CW.S (LW.C (LW.C (LW.S (CW.region (LW.M rfl (LW.pp (.fa (PEv.eql (.t rfl) (.const _)) (rfl)) (LW.A rfl (LW.S (CW.region (LW.C (LW.S (CW.S (LW.M rfl (LW.T (CW.cond_false (.t rfl) (CW.skip (KW.then (CW.seq (CW.S (LW.M rfl (LW.T (CW.block (CW.S (LW.pp (.fa (PEv.eql (.t rfl) (.const _)) (rfl)) (LW.A rfl (LW.T (CW.cond_false (.t rfl) (CW.S (LW.pp (.fa (PEv.eql (.t rfl) (.const _)) (rfl)) (LW.A rfl (LW.T (CW.cond_false (.t rfl) (CW.S (LW.pp (.fa (PEv.eql (.t rfl) (.const _)) (rfl)) (LW.A rfl (LW.T (CW.cond_false (.t rfl) (CW.seq (CW.S (LW.pp (.tr (PEv.eql (.t rfl) (.const _)) (rfl)) (LW.A rfl (LW.T (CW.cond_true (.t rfl) (CW.skip (KW.then (CW.cond_true (.t rfl) (CW.S (LW.C (LW.C (LW.T (CW.ret (An (Af (Ge rfl rfl rfl ⟨_, rfl, ?_⟩)))))))))))))))))))))))))))))))))))))))))))))))))))))))
 exact ⟨rfl, hW⟩
theorem iZ (ad : Option Addr) (cp n : Nat) (l : List Fact) (w : World) (hE : Els w ad 19 Fact.cells l) (hn : n ≤ 1000) : Ret Tryz.prog 11 #[.slice ad l.length cp, vi (n : Int)] w fun r w' => OwnS w' w.heap.size 36 19 Fact.cells r (C6 n l) ∧ Up w w' := by
 have hW := Up.refl w
 obtain ⟨w0, rfl⟩ : ∃ w0, w0 = w := ⟨_, rfl⟩
 refine cS (n := 36) (m := 9) func11 rfl rfl rfl (CW.S (LW.C (LW.S (CW.region (LW.C (LW.S (CW.S (LW.C (LW.T (CW.block (CW.loop (σ := Nat × Value) (fun s w => (s.1 ≤ l.length ∧ s.1 ≤ n) ∧ OwnS w w0.heap.size 36 19 Fact.cells s.2 ((l.take s.1).map I6) ∧ Up w0 w) (fun s => [(0, .eq (.slice ad l.length cp)), (1, .eq (vi (n : Int))), (5, .eq s.2), (6, .eq (vi (s.1 : Int)))]) (fun s => l.length - s.1) (0, .slice none 0 0) ?_ ?_ ?_)))))))))))
 ·exact ⟨⟨Nat.zero_le _, by show 0 ≤ n; omega⟩, OwnS.nil _ _ _ _ _, hW⟩
 ·exact ⟨rfl, rfl, rfl, rfl, trivial⟩
 rintro ⟨k, v⟩ w1 ⟨⟨hk, hk40⟩, hO, hW⟩
 have zW := hW.size
 refine CW.seq (CW.S (LW.M rfl (LW.M rfl (LW.pp (.Ci underlying23 (.t rfl)) (LW.pp (.lss (.t rfl) (.t rfl)) (LW.M rfl (LW.g rfl rfl rfl rfl rfl rfl rfl (fun hc => PEv.move (.t rfl)) (LW.g rfl rfl rfl rfl rfl rfl rfl (fun hc => PEv.move (.t rfl)) (LW.g rfl rfl rfl rfl rfl rfl rfl (fun hc => PEv.lss vQ vQ) (LW.pp (.Ao (.t rfl) (fun hp => (by exact .cond rfl (by simp_all)))) (LW.T (CW.cond (.t rfl) (fun h16 => ?_) (fun h16 => ?_)))))))))))))
 ·have hk1 : k < l.length ∧ k < n := by simp at h16; omega
  refine CW.skip (KW.then (CW.seq (CW.block (CW.seq ?_))))
  obtain ⟨x, hx⟩ := Ac (xs := l) (i := k) oQ
  obtain ⟨B, o, had, hc0⟩ := hE k x hx
  have hcell := hc0.up hW
  have hlen : ((l.take k).map I6).length = k := by rw [List.length_map, List.length_take]; omega
  have hO4 := hO
  have hU4 := Up.refl w1
  refine CW.region (LW.M rfl (LW.M rfl (LW.pp (.Aj underlying23 sizeOf36 (.t rfl) (.t rfl) oQ had) (LW.pp (.la isAgg36 sizeOf36 rfl (hcell)) (Ah (.Az zeroValue36) rfl ?_)))))
  rintro _ w2 ⟨B7, rfl, MB7⟩
  refine LW.E (.Ay sizeOf36 rfl (.t rfl) (.t rfl) eQ MB7.blk rfl) ?_
  intro w3 LB7
  have NB7 := MB7.set LB7
  have eB7 := NB7.at_
  have zB7 := NB7.size
  replace hW := hW.up NB7.up
  replace hU4 := hU4.up NB7.up
  have hB7 := NB7.blk
  refine LW.S (CW.region (LW.pp (.fA 18 underlying36 rfl sizeOf9 rfl) (LW.pp (.ld isAgg9 rfl (hB7.Ai rfl)) (LW.pp (.fA 18 underlying36 rfl sizeOf9 rfl) (LW.pp (.ld isAgg9 rfl (hB7.Ai rfl)) (LW.pp (.Oa underlying9 (.t rfl)) (LW.pp (.min2 (.t rfl) (.const _)) (LW.pp (.vS underlying9 (.t rfl) (.t rfl) (by split <;> omega) (by split <;> omega)) (LW.pp (.fA 18 underlying36 rfl sizeOf9 rfl) (LW.E (.store sizeOf9 (.t rfl) (.t rfl) rfl hB7 (Nat.le_of_ble_eq_true rfl)) ?_))))))))))
  intro w4 Nw4
  have zw4 := Nw4.size
  replace hW := hW.sto Nw4.sto oQ
  replace hU4 := hU4.sto Nw4.sto oQ
  replace hB7 := Nw4.blk
  replace hB7 : Blk w4 B7 (I6 x).cells _ := hB7
  refine LW.T ?_
  have hO := hO4.up hU4
  refine CW.region (LW.M rfl (LW.pp (.la isAgg36 sizeOf36 rfl (hB7.agg)) (Ah (.buildSlice (xs := [I6 x]) (enc := Fact.cells) (mk := fun f : Fact => .agg f.cells) underlying23 sizeOf36 zeroValue36 rfl cQ (fun _ => rfl) (fun _ => rfl) (.cons (.t rfl) .nil) rfl) rfl ?_)))
  rintro _ w5 ⟨B33, cB33, rfl, NB33, yB33, xB33⟩
  have eB33 := NB33.at_
  have zB33 := NB33.size
  replace hW := hW.up NB33.up
  replace hB7 := hB7.up NB33.up
  replace hO := hO.up NB33.up
  have hB33 := NB33.blk
  have hE33 := xB33
  refine Ah (.append (enc := Fact.cells) (base := w0.heap.size) (bytes := 160) (i := Tryz.t36) underlying23 kQ rfl rfl rfl rfl cQ (fun _ => rfl) Fact.one (.t rfl) (.t rfl) hO (Ak hE33) (by simp) (by rw [hlen]; simp [maxLen]; omega) (by rw [hlen]; simp; omega) oQ) rfl ?_
  rintro v34 w6 ⟨Ow6, Gw6⟩
  replace hW := hW.gr Gw6 oQ
  replace hO := Ow6
  refine LW.A rfl (LW.nil (KW.inBlock (KW.then (CW.region (LW.M rfl (LW.pp (.inc (.t rfl) oQ) (LW.A rfl (LW.nil (KW.round ?_)))))))))
  exact ⟨(k + 1, v34), ⟨⟨by omega, by omega⟩, by rw [bX hx]; exact hO, hW⟩, ⟨rfl, rfl, rfl, rfl, trivial⟩, by dsimp only; omega⟩
 have hr : (l.take k).map I6 = C6 n l := iX hk hk40 (by simp at h16 ⊢; intro h; have := h16 h; omega)
 refine CW.exit (Aa (Aa (Ad (KW.then (CW.S (LW.M rfl (LW.A rfl (LW.T (CW.ret (Ae rfl rfl ⟨_, rfl, ?_⟩))))))))))
 exact ⟨hr ▸ hO, hW⟩
theorem bZ (bc : Array Go.Value) (b : Base) (x : Exc) (w : World) (hC : BaseC w bc b) (hT : ∀ p ∈ b.Processes, Hf p) (hl : Ud b) : Ret Tryz.prog 16 #[.agg bc, .agg x.cells] w fun r w' => ∃ s : VS, r = s.v ∧ s.L.map VP.vd = K1 b x ∧ VSok w' s ∧ Up w w' := by
 have hl2 := hl
 obtain ⟨h1, h2, h3, h4⟩ := hl
 refine (Oy bc b x w hC hT oQ oQ oQ oQ).mono ?_
 rintro _ W1 ⟨v, L, rfl, hm, hS2⟩
 obtain ⟨a1, c1, rfl, _⟩ := (hS2.own 0 rfl).sl (fun _ => rfl)
 exact ⟨⟨a1, L, c1⟩, rfl, hm, oT hm hl2 ((hS2.own 0 rfl).els (fun _ => rfl)) (Nv (hS2.get 1 rfl)), hS2.Ce⟩
theorem Y1 (bc : Array Go.Value) (b : Base) (x : Exc) (w : World) (hC : BaseC w bc b) (hT : ∀ p ∈ b.Processes, Hf p) (hl : Ud b) : Ret Tryz.prog 17 #[.agg bc, .agg x.cells] w fun r w' => ∃ s : VS, r = s.v ∧ s.L.map VP.vd = K1 b x ∧ VSok w' s ∧ Up w w' := by
 have hl2 := hl
 obtain ⟨h1, h2, h3, h4⟩ := hl
 refine (bV bc b x w hC hT oQ oQ oQ oQ).mono ?_
 rintro _ W1 ⟨⟨a1, c1, L, rfl, hm, hE, hw⟩, u⟩
 exact ⟨⟨a1, L, c1⟩, rfl, hm, oT hm hl2 hE hw, u⟩
theorem jA (s t : VS) (w : World) (h1 : VSok w s) (h2 : VSok w t) (e : s.L.map VP.vd = t.L.map VP.vd) : Ret Tryz.prog 20 #[s.v, t.v] w fun r w' => r = .bool true ∧ Up w w' :=
 (R9 s.ad s.cp t.ad t.cp s.L t.L w h1.1 h2.1 h1.2.1 h2.2.1 (fun p hp => Nat.le_trans (h1.2.2.2 p hp) cQ) (fun p hp => Nat.le_trans (h2.2.2.2 p hp) cQ) (Nat.le_trans h1.2.2.1 cQ)).mono fun _ _ h => ⟨h.1.trans (by rw [decide_eq_true e]), h.2⟩
theorem cA (bc : Array Go.Value) (b : Base) (s : VS) (w : World) (hC : BaseC w bc b) (hT : ∀ p ∈ b.Processes, Hf p) (hl : Ud b) (h : VSok w s) : Ret Tryz.prog 25 #[.agg bc, s.v] w fun r w' => TssE w' r (Gk b (s.L.map (·.vd))) ∧ Up w w' := by
 obtain ⟨h1, h2, h3, h4⟩ := hl
 obtain ⟨hE, hw, hn, hy⟩ := h
 refine (T6 bc b s.ad s.cp s.L w hC hT hE hw (fun p hp => Nat.le_trans (hy p hp) cQ) oQ oQ oQ).mono ?_
 rintro _ W1 ⟨Ts, hm, ⟨ad, cp, rfl, hE2⟩, hT2, u⟩
 exact ⟨⟨ad, cp, Ts, rfl, hm, hE2, hT2⟩, u⟩
theorem Y2 (bc : Array Go.Value) (b : Base) (s : VS) (w : World) (hC : BaseC w bc b) (hl : Ud b) (h : VSok w s) : Ret Tryz.prog 26 #[.agg bc, s.v] w fun r w' => TssE w' r (Gk b (s.L.map (·.vd))) ∧ Up w w' := by
 obtain ⟨h1, h2, h3, h4⟩ := hl
 obtain ⟨hE, hw, hn, hy⟩ := h
 refine (bW bc b s.ad s.cp s.L w hC hE hw (fun p hp => Nat.le_trans (hy p hp) cQ) oQ oQ oQ).mono ?_
 rintro _ W1 ⟨Ts, hm, ⟨ad, cp, rfl, hE2⟩, hT2, u⟩
 exact ⟨⟨ad, cp, Ts, rfl, hm, hE2, hT2⟩, u⟩
theorem cB (v1 v2 : Go.Value) (l : List (List Int)) (w : World) (h1 : TssE w v1 l) (h2 : TssE w v2 l) (hl : ∀ t ∈ l, t.length ≤ 1000) (hn : l.length ≤ 16) : Ret Tryz.prog 24 #[v1, v2] w fun r w' => r = .bool (decide (l = l)) ∧ Up w w' := by
 obtain ⟨a1, c1, L1, rfl, hm1, hE1, hw1⟩ := h1
 obtain ⟨a2, c2, L2, rfl, hm2, hE2, hw2⟩ := h2
 refine (Po a1 c1 a2 c2 L1 L2 w hE1 hE2 hw1 hw2 (fun p hp => Nat.le_trans (hl p.l (by rw [← hm1]; exact List.mem_map.2 ⟨p, hp, rfl⟩)) cQ) (fun p hp => Nat.le_trans (hl p.l (by rw [← hm2]; exact List.mem_map.2 ⟨p, hp, rfl⟩)) cQ) (by rw [← hm1, List.length_map] at hn; omega)).mono fun _ _ h => ⟨?_, h.2⟩
 rw [h.1, show L1.map (·.l) = l from hm1, show L2.map (·.l) = l from hm2]
theorem sF (v : Go.Value) (l : List Fact) (d : Int) (w : World) (h : Sl w v 19 Fact.cells l) (hl : l.length ≤ 100000) : Ret Tryz.prog 13 #[v, vi d] w fun r w' => ∃ bc, r = .agg bc ∧ BaseC w' bc (Ri l d) ∧ Up w w' := by
 obtain ⟨ad, cp, rfl, hE⟩ := h
 exact lE ad cp l d w hE hl
set_option maxHeartbeats 8000000 in
theorem Sf (ad vM adl : Option Addr) (cp cpr cpl : Nat) (xs : List I5) (raw : List Fact) (e : Exc) (y : I5) (L : List VP) (w : World) (hE0 : Els w ad 5 I5.cells xs) (hxs : ∀ x ∈ xs, eY x) (hER : Els w vM 19 Fact.cells raw) (hEL : Els w adl 3 VP.cells L) (hLw : ∀ p ∈ L, Sl w p.uv 1 Aq p.vd.why) (hLc : ∀ p ∈ L, p.vd.why.length ≤ p.cp) : Ret Tryz.prog 3 #[.slice ad xs.length cp, .slice vM raw.length cpr, .agg e.cells, .agg y.cells, .slice adl L.length cpl] w fun r w' => r = .bool true ∧ Up w w' := by
 obtain ⟨w0, rfl⟩ : ∃ w0, w0 = w := ⟨_, rfl⟩
 have hS := Sep.start no w0
 refine cS (n := 162) (m := 9) func3 rfl rfl rfl (CW.S (Ah (.C7 (.t rfl)) rfl ?_))
 rintro _ w1 ⟨B7, rfl, NB7⟩
 replace hS := hS.Cj NB7
 refine Ah (.C7 (.t rfl)) rfl ?_
 rintro _ w2 ⟨B8, rfl, NB8⟩
 replace hS := hS.Cj NB8
 refine LW.C (LW.S (CW.region (LW.K (eC .nil (AQ)) rfl (bN _) ?_)))
 rintro _ w3 ⟨rfl, uw3⟩
 replace hS := hS.up uw3
 refine LW.A rfl (LW.S (CW.region (LW.M rfl (LW.K (eC (.cons (.t rfl) (.cons (.const _) .nil)) (AR)) rfl (iZ vM cpr 15 raw _ (Els.up hER hS.Ce) cQ) ?_))))
 rintro v29 w4 ⟨hO29, uw4⟩
 replace hS := hS.add uw4 (A' := Al 36 19 Fact.cells (v29) ((C6 15 raw))) (hO29.mono (Nat.zero_le _)) (fun i h => hO29.base i h)
 obtain ⟨ad29, cp29, rfl, _⟩ := (hS.own 2 rfl).sl (fun _ => rfl)
 have hl29 := Vr 15 raw
 refine LW.A rfl (LW.S (CW.region (LW.C (LW.S (CW.seq ?_)))))
 replace hS := hS.J9 (OwnS.nil _ 0 32 3 VP.cells)
 refine CW.region (LW.C (LW.T (CW.block (Am (σ := Nat × Go.Value) (fun s w => (s.1 ≤ L.length) ∧ (s.1 ≤ 10) ∧ (Wx.Sep no w0 w [Ck B7 e.cells 25, Ck B8 y.cells 26, Al 36 19 Fact.cells (.slice ad29 (C6 15 raw).length cp29) ((C6 15 raw)), Al 32 3 VP.cells s.2 ((L.take s.1).map K5)])) (fun s => [(14, .eq (vi (s.1 : Int))), (13, .eq (s.2))]) ([(0, .eq _), (4, .eq _), (7, .eq _), (8, .eq _), (10, .eq _), (11, .eq _), (12, .eq _)]) (fun s => L.length - s.1) (0, .slice none 0 0) ?_ ⟨rfl, rfl, rfl, rfl, rfl, rfl, rfl, rfl, rfl, trivial⟩ ?_))))
 ·exact ⟨Nat.zero_le _, Nat.zero_le _, hS⟩
 rintro ⟨i, v⟩ w5 ⟨hi, hi10, hS⟩
 dsimp only at hi hi10 hS
 change CW _ _ _ _ _ _ _ ([(14, .eq (vi (i : Int))), (13, .eq (v))] ++ _) _
 refine CW.seq (CW.S (LW.M rfl (LW.M rfl (LW.pp (.Ci underlying27 (.t rfl)) (LW.pp (.lss (.t rfl) (.t rfl)) (LW.M rfl (LW.g rfl rfl rfl rfl rfl rfl rfl (fun hc => PEv.move (.t rfl)) (LW.g rfl rfl rfl rfl rfl rfl rfl (fun hc => PEv.lss vQ (.const _)) (LW.pp (.Ao (.t rfl) (fun hp => (by exact .cond rfl (by (rw [hp]; rfl))))) (LW.T (CW.cond (.t rfl) (fun h37 => ?_) (fun h37 => ?_))))))))))))
 ·replace h37 := dQ h37
  have hil : i < L.length ∧ i < 10 := by simp at h37; omega
  refine CW.skip (KW.then (CW.seq (CW.block (CW.seq ?_))))
  obtain ⟨p, hp⟩ := Ac (xs := L) (i := i) oQ
  obtain ⟨Bp, op_, ap, hcp⟩ := (Els.up hEL hS.Ce) i p hp
  have hcap := hLc p (List.mem_of_getElem? hp)
  refine CW.region (LW.M rfl (LW.M rfl (LW.pp (.Aj underlying27 sizeOf32 (j := i) (.t rfl) (.t rfl) oQ ap) (LW.pp (.la isAgg32 sizeOf32 rfl (hcp)) (Ah (.Az zeroValue32) rfl ?_)))))
  rintro _ w6 ⟨B15, rfl, MB15⟩
  refine LW.E (.Ay sizeOf32 rfl (.t rfl) (.t rfl) (VP.one _) MB15.blk rfl) ?_
  intro w7 LB15
  have NB15 := MB15.set LB15
  replace hS := hS.Cj NB15
  refine LW.S (CW.region (LW.pp (.fA 2 underlying32 rfl sizeOf30 rfl) (LW.pp (.ld isAgg30 rfl ((hS.blk 4 rfl).Ai rfl)) (LW.pp (.fA 2 underlying32 rfl sizeOf30 rfl) (LW.pp (.ld isAgg30 rfl ((hS.blk 4 rfl).Ai rfl)) (LW.pp (.Ci underlying30 (.t rfl)) (LW.pp (.jN (i := p.vd.why.length) (j := 8) (.t rfl) (.const _)) (LW.pp (.K9 underlying30 sizeOf3 (ad := p.ad) (.t rfl) (.t rfl) oQ) (LW.pp (.fA 2 underlying32 rfl sizeOf30 rfl) (LW.E (.store sizeOf30 (.t rfl) (.t rfl) rfl (hS.blk 4 rfl) (Nat.le_of_ble_eq_true rfl)) ?_))))))))))
  intro w8 Nw8
  have zw8 := Nw8.size
  replace hS := hS.Gf 4 rfl (by rw [bY] at Nw8; exact Nw8)
  refine LW.T (CW.region (LW.M rfl (LW.pp (.la isAgg32 sizeOf32 rfl ((hS.blk 4 rfl).agg)) (Ah (.buildSlice (xs := [K5 p]) (enc := VP.cells) (mk := fun p : VP => .agg p.cells) underlying27 sizeOf32 zeroValue32 rfl cQ (fun _ => rfl) (fun _ => rfl) (.cons (.t rfl) .nil) rfl) rfl ?_))))
  rintro _ w9 ⟨B54, cB54, rfl, NB54, yB54, xB54⟩
  replace hS := hS.up NB54.up
  have hE54 := xB54
  refine Ah (.A8 (enc := VP.cells) (bytes := 40) (i := Tryz.t32) underlying27 kQ rfl rfl rfl rfl cQ (fun _ => rfl) VP.one (.t rfl) (.t rfl) (hS.own 3 rfl) (Ak hE54) (by simp [maxLen]; omega) (by simp; omega)) rfl ?_
  intro v55 w10 Gw10
  replace hS := hS.Dh 3 rfl Gw10
  refine LW.A rfl (LW.nil (KW.inBlock (KW.then (CW.region (LW.M rfl (LW.pp (.inc (.t rfl) oQ) (LW.A rfl (LW.nil (KW.round ?_)))))))))
  exact ⟨(i + 1, v55), ⟨by show i + 1 ≤ _; omega, by show i + 1 ≤ 10; omega, by rw [iY hp]; exact hS.take 4⟩, ⟨rfl, rfl, rfl, rfl, rfl, rfl, rfl, rfl, rfl, trivial⟩, by show L.length - (i + 1) < L.length - i; omega⟩
 replace h37 := dQ h37
 refine CW.exit (Aa (Aa (Ad (KW.then (CW.seq (CW.seq ?_))))))
 obtain ⟨adV, cpV, rfl, _⟩ := (hS.own 3 rfl).sl (fun _ => rfl)
 refine CW.region (LW.C (LW.T (CW.block (Am (σ := Nat) (fun s w => (s ≤ (C6 15 raw).length) ∧ (Wx.Sep no w0 w [Ck B7 e.cells 25, Ck B8 y.cells 26, Al 36 19 Fact.cells (.slice ad29 (C6 15 raw).length cp29) (Lw Vx (C6 15 raw) s), Al 32 3 VP.cells (.slice adV ((L.take i).map K5).length cpV) ((L.take i).map K5)])) (fun s => [(16, .eq (vi (s : Int)))]) ([(0, .eq _), (7, .eq _), (8, .eq _), (10, .eq _), (11, .eq _), (12, .eq _), (13, .eq _)]) (fun s => (C6 15 raw).length - s) 0 ?_ ⟨rfl, rfl, rfl, rfl, rfl, rfl, rfl, rfl, trivial⟩ ?_))))
 ·exact ⟨Nat.zero_le _, by show Wx.Sep _ _ _ [_, _, Al _ _ _ _ (Lw Vx (C6 15 raw) 0), _]; rw [show Lw Vx (C6 15 raw) 0 = (C6 15 raw) by simp [Lw]]; exact hS⟩
 rintro k w11 ⟨hk, hS⟩
 refine CW.seq (CW.S (LW.M rfl (LW.M rfl (LW.pp (.Ci underlying23 (.t rfl)) (LW.pp (.lss (.t rfl) (.t rfl)) (LW.T (CW.cond (.t rfl) (fun h59 => ?_) (fun h59 => ?_))))))))
 ·replace h59 := dQ h59
  have hk9 : k < (C6 15 raw).length := Int.ofNat_lt.1 h59
  refine CW.skip (KW.then (CW.seq (CW.block (CW.S (LW.K (eC (.cons (.const _) (.cons (.const _) .nil)) (AS)) rfl (Vs _) ?_)))))
  rintro _ w12 ⟨rfl, uw12⟩
  replace hS := hS.up uw12
  refine LW.M rfl (LW.pp (.extract (.t rfl) rfl) (LW.pp (.extract (.t rfl) rfl) (LW.A rfl (LW.A rfl (LW.S ?_)))))
  obtain ⟨x, hx⟩ := Ac (xs := (C6 15 raw)) (i := k) oQ
  obtain ⟨g, rfl⟩ := (hS.own 2 rfl).vM (by rw [oK _ _ (by omega)]; omega)
  obtain ⟨Bx, ox, ax, hcx⟩ := ((hS.own 2 rfl).els (fun _ => rfl)) k x (Vq hx)
  cases ax
  refine CW.region (LW.M rfl (LW.M rfl (LW.M rfl (LW.M rfl (LW.pp (.Aj underlying23 sizeOf36 (j := k) (.t rfl) (.t rfl) oQ rfl) (LW.pp (.fA 5 underlying36 rfl sizeOf3 rfl) (LW.pp (.ld isAgg3 rfl (hcx.nth (j := 5) rfl)) (LW.M rfl (LW.pp (.max2 (.t rfl) (.t rfl)) (LW.M rfl (LW.pp (.min2 (.t rfl) (.t rfl)) (LW.pp (.Aj underlying23 sizeOf36 (j := k) (.t rfl) (.t rfl) oQ rfl) (LW.pp (.fA 5 underlying36 rfl sizeOf3 rfl) (LW.E (.Tv (enc := Fact.cells) (k := 19) (z := AI x) (i := k) (j := 5) sizeOf3 (fun _ => rfl) rfl (.t rfl) (.t rfl) (hS.own 2 rfl) (Vq hx) cQ rfl) ?_))))))))))))))
  intro w13 Gw13
  replace hS := hS.Dh 2 rfl Gw13
  refine LW.T ?_
  obtain ⟨Bz, oz, az, hcz⟩ := ((hS.own 2 rfl).els (fun _ => rfl)) k (AI x) (oR hx)
  cases az
  refine CW.region (LW.M rfl (LW.M rfl (LW.M rfl (LW.M rfl (LW.pp (.Aj underlying23 sizeOf36 (j := k) (.t rfl) (.t rfl) oQ rfl) (LW.pp (.fA 6 underlying36 rfl sizeOf3 rfl) (LW.pp (.ld isAgg3 rfl (hcz.nth (j := 6) rfl)) (LW.M rfl (LW.pp (.max2 (.t rfl) (.t rfl)) (LW.M rfl (LW.pp (.min2 (.t rfl) (.t rfl)) (LW.pp (.Aj underlying23 sizeOf36 (j := k) (.t rfl) (.t rfl) oQ rfl) (LW.pp (.fA 6 underlying36 rfl sizeOf3 rfl) (LW.E (.Tv (enc := Fact.cells) (k := 19) (z := Vx x) (i := k) (j := 6) sizeOf3 (fun _ => rfl) rfl (.t rfl) (.t rfl) (hS.own 2 rfl) (oR hx) cQ rfl) ?_))))))))))))))
  intro w14 Gw14
  rw [sD hx] at Gw14
  replace hS := hS.Dh 2 rfl Gw14
  refine LW.nil (KW.inBlock (KW.then (CW.region (LW.M rfl (LW.pp (.inc (.t rfl) oQ) (LW.A rfl (LW.nil (KW.round ?_))))))))
  exact ⟨k + 1, ⟨by omega, hS⟩, ⟨rfl, rfl, rfl, rfl, rfl, rfl, rfl, rfl, trivial⟩, by omega⟩
 replace h59 := dQ h59
 have hk9 : ¬ k < (C6 15 raw).length := fun h => h59 (Int.ofNat_lt.2 h)
 refine CW.exit (Aa (Aa (Ad (KW.then (CW.seq (CW.seq ?_))))))
 rw [oM _ _ (by omega)] at hS
 refine CW.region (LW.M rfl (LW.K (eC (.o rfl) (AT)) rfl (Yk ad cp xs _ (Els.up hE0 hS.Ce)) ?_))
 rintro v93 w15 ⟨hO93, uw15⟩
 replace hS := hS.add uw15 (A' := Al 36 19 Fact.cells v93 (Lu xs)) (hO93.mono (Nat.zero_le _)) (fun i h => hO93.base i h)
 obtain ⟨ad93, cp93, rfl, _⟩ := (hS.own 4 rfl).sl (fun _ => rfl)
 have hl93 := Ie xs
 refine LW.M rfl (Ah (.A8 (enc := Fact.cells) (bytes := 160) (i := Tryz.t36) underlying23 kQ rfl rfl rfl rfl cQ (fun _ => rfl) Fact.one (.t rfl) (.t rfl) (hS.own 4 rfl) ((hS.own 2 rfl).sl (fun _ => rfl)) (by simp [maxLen]; omega) (by simp; omega)) rfl ?_)
 intro v95 w16 Gw16
 replace hS := hS.Dh 4 rfl Gw16
 refine LW.K (eC (.cons (.t rfl) (.cons (.const _) .nil)) (vV)) rfl (sF v95 (Lu xs ++ ((C6 15 raw).map Vx)) 100000 _ ((hS.own 4 rfl).sl (fun _ => rfl)) (by rw [List.length_append, List.length_map]; omega)) ?_
 rintro _ w17 ⟨bc1, rfl, hC1, uw17⟩
 replace hS := hS.up uw17
 refine LW.M rfl (LW.M rfl (LW.M rfl (LW.M rfl (LW.pp (.build (cs := (#[.slice ad29 (C6 15 raw).length cp29, .slice none 0 0, .slice ad29 (C6 15 raw).length cp29, .slice ad29 (C6 15 raw).length cp29, .slice none 0 0, .slice none 0 0, .slice none 0 0, .slice none 0 0, .slice none 0 0, .slice none 0 0, .slice ad29 (C6 15 raw).length cp29] : Array Go.Value)) underlying38 zeroValue38 Sk (.cons (.t rfl) (.cons (.t rfl) (.cons (.t rfl) (.cons (.t rfl) .nil)))) rfl) ?_))))
 have hslR : Sl w17 (.slice ad29 (C6 15 raw).length cp29) 19 Fact.cells ((C6 15 raw).map Vx) := (hS.own 2 rfl).sl (fun _ => rfl)
 have hC2 : BaseC w17 (#[.slice ad29 (C6 15 raw).length cp29, .slice none 0 0, .slice ad29 (C6 15 raw).length cp29, .slice ad29 (C6 15 raw).length cp29, .slice none 0 0, .slice none 0 0, .slice none 0 0, .slice none 0 0, .slice none 0 0, .slice none 0 0, .slice ad29 (C6 15 raw).length cp29] : Array Go.Value) (⟨((C6 15 raw).map Vx), [], ((C6 15 raw).map Vx), ((C6 15 raw).map Vx), [], [], [], [], [], [], ((C6 15 raw).map Vx)⟩ : Base) := ⟨_, _, _, _, _, _, _, _, _, _, _, rfl, hslR, Sl.nil _ _ _, hslR, hslR, Sl.nil _ _ _, Sl.nil _ _ _, Sl.nil _ _ _, Sl.nil _ _ _, Sl.nil _ _ _, Sl.nil _ _ _, hslR⟩
 have hsz1 := hC1.size
 have hon1 := hC1.one
 have hsz2 := hC2.size
 have hon2 := hC2.one
 obtain ⟨bc2, hbc⟩ : ∃ a, a = (#[.slice ad29 (C6 15 raw).length cp29, .slice none 0 0, .slice ad29 (C6 15 raw).length cp29, .slice ad29 (C6 15 raw).length cp29, .slice none 0 0, .slice none 0 0, .slice none 0 0, .slice none 0 0, .slice none 0 0, .slice none 0 0, .slice ad29 (C6 15 raw).length cp29] : Array Go.Value) := ⟨_, rfl⟩
 rw [← hbc] at hC2 hsz2 hon2 ⊢
 have hVe : VSok w17 ⟨adV, ((L.take i).map K5), cpV⟩ := sE (fun p hp => Sl.up (hLw p hp) hS.Ce) hi10 (Ed (hS.own 3 rfl) (fun _ => rfl))
 have hW := hS.Ce
 have hB7 := hS.blk 0 rfl
 have hB8 := hS.blk 1 rfl
 refine Ah (.buildSlice (xs := ([⟨bc1, hsz1, hon1⟩, ⟨bc2, hsz2, hon2⟩] : List BA)) (enc := BA.cells) (mk := fun a : BA => .agg a.1) underlying41 sizeOf38 zeroValue38 rfl cQ (fun _ => rfl) (fun a => a.2.1) (.cons (.t rfl) (.cons (.t rfl) .nil)) rfl) rfl ?_
 rintro _ w18 ⟨B102, cB102, rfl, NB102, yB102, xB102⟩
 replace hW := hW.up NB102.up
 replace hB7 := hB7.up NB102.up
 replace hB8 := hB8.up NB102.up
 replace hC1 := hC1.up NB102.up
 replace hC2 := hC2.up NB102.up
 replace hVe := hVe.up NB102.up
 have hE102 := xB102
 refine LW.pp (.Ci underlying41 (.t rfl)) (LW.pp (.move (.const _)) (LW.T (CW.block (Am (σ := Nat) (fun s w => (s ≤ 2) ∧ (Up w18 w)) (fun s => [(104, .eq (vi (s : Int)))]) ([(7, .eq _), (8, .eq _), (11, .eq _), (13, .eq _), (102, .eq _), (103, .eq _)]) (fun s => 2 - s) 0 ?_ ⟨rfl, rfl, rfl, rfl, rfl, rfl, rfl, trivial⟩ ?_))))
 ·exact ⟨Nat.zero_le _, Up.refl _⟩
 rintro k w19 ⟨hk, hL3⟩
 replace hW := hW.up hL3
 replace hB7 := hB7.up hL3
 replace hB8 := hB8.up hL3
 replace hC1 := hC1.up hL3
 replace hC2 := hC2.up hL3
 replace hVe := hVe.up hL3
 replace hE102 := hE102.up hL3
 refine CW.S (LW.pp (.lss (.t rfl) (.t rfl)) (LW.S (CW.cond (.t rfl) (fun h105 => ?_) (fun h105 => ?_))))
 ·replace h105 := dQ h105
  have hk2 : k < 2 := Int.ofNat_lt.1 h105
  refine CW.skip (KW.then (CW.seq (CW.block (CW.seq ?_))))
  obtain ⟨a, ha⟩ := Ac (xs := ([⟨bc1, hsz1, hon1⟩, ⟨bc2, hsz2, hon2⟩] : List BA)) (i := k) hk2
  obtain ⟨Ba, oa, aa, hca⟩ := hE102 k a ha
  obtain ⟨b, hCb, hT, hlb⟩ : ∃ b, BaseC w19 a.1 b ∧ (∀ p ∈ b.Processes, Hf p) ∧ Ud b := by
   rcases List.mem_cons.1 (List.mem_of_getElem? ha) with h | h
   · rw [h]; exact ⟨_, hC1, vK hxs (C6 15 raw) 100000, rR (by rw [List.length_append, List.length_map]; omega) 100000⟩
   rw [List.mem_singleton.1 h]; have h15 : ((C6 15 raw).map Vx).length ≤ 100 := (by rw [List.length_map]; omega); exact ⟨_, hC2, fun p hp => by obtain ⟨f, _, rfl⟩ := List.mem_map.1 hp; exact oP f, h15, h15, h15, h15⟩
  have hsz := a.2.1
  have hone := a.2.2
  replace hca : AggAt w19 Ba (oa + k * 11) a.1 := hca
  obtain ⟨bcx, ebc⟩ : ∃ c, c = a.1 := ⟨_, rfl⟩
  rw [← ebc] at hCb hsz hone hca
  refine CW.region (LW.pp (.Aj underlying41 sizeOf38 (j := k) (.t rfl) (.t rfl) oQ aa) (LW.pp (.Ee isAgg38 sizeOf38 (hsz) (.t rfl) (hca)) (Ah (.Az zeroValue38) rfl ?_)))
  rintro _ w20 ⟨B20, rfl, MB20⟩
  refine LW.E (.Ay sizeOf38 hsz (.t rfl) (.t rfl) hone MB20.blk rfl) ?_
  intro w21 LB20
  have NB20 := MB20.set LB20
  replace hW := hW.up NB20.up
  replace hB7 := hB7.up NB20.up
  replace hB8 := hB8.up NB20.up
  replace hC1 := hC1.up NB20.up
  replace hC2 := hC2.up NB20.up
  replace hVe := hVe.up NB20.up
  replace hE102 := hE102.up NB20.up
  replace hL3 := hL3.up NB20.up
  replace hCb := hCb.up NB20.up
  replace hca := hca.up NB20.up
  have hB20 := NB20.blk
  refine LW.S (Fl 6 [.eq (.agg e.cells), .eq (.agg y.cells), .eq (.agg (R8 y).cells), .pred fun v W => Sl W v 5 Exc.cells ([e, R8 y] : List Exc), .eq (vi 2), .eq (vi 0)] [111, 112, 113] kQ rfl kQ kQ kQ kQ kQ kQ kQ ⟨PhU.eq _, PhU.eq _, PhU.eq _, PhU.pred fun _ _ _ h u => Sl.up h u, PhU.eq _, PhU.eq _, trivial⟩ ?_ ?_)
  ·intro W hU0
   have hU := (Up.drew w21).trans hU0
   refine aC ⟨rfl, TU.p (.la isAgg25 sizeOf25 rfl ((hB7.up hU).agg)) rfl⟩ (aC ⟨rfl, TU.p (.la isAgg26 sizeOf26 rfl ((hB8.up hU).agg)) rfl⟩ (aC ⟨rfl, TU.c (eC (.o rfl) (AU)) (bL y W) sQ⟩ (aC ⟨rfl, TU.r (REv.buildSlice (xs := ([e, R8 y] : List Exc)) (enc := Exc.cells) (mk := fun x : Exc => .agg x.cells) underlying43 sizeOf25 zeroValue25 rfl (Nat.le_of_ble_eq_true rfl) (fun _ => rfl) (fun _ => rfl) (.cons (.t rfl) (.cons (.t rfl) .nil)) rfl) (fun v W' h => h.q)⟩ (aC ⟨rfl, TU.open (d := 111) rfl (by intro v hv; obtain ⟨a_, c_, rfl, _⟩ := hv; exact TU.p (.Ci underlying43 (.t rfl)) rfl)⟩ (aC ⟨rfl, TU.p (.move (.const _)) rfl⟩ ?_)))))
   exact allL.nil
  intro w22 g hU0 hg
  have hU := (Up.drew w21).trans hU0
  replace hW := hW.up hU
  replace hB7 := hB7.up hU
  replace hB8 := hB8.up hU
  replace hC1 := hC1.up hU
  replace hC2 := hC2.up hU
  replace hVe := hVe.up hU
  replace hE102 := hE102.up hU
  replace hL3 := hL3.up hU
  replace hCb := hCb.up hU
  replace hB20 := hB20.up hU
  obtain ⟨ad111, cp111, e111, hE111⟩ := hg 3 _ 111 cQ rfl rfl
  replace hE111 : Els w22 ad111 5 Exc.cells ([e, R8 y] : List Exc) := hE111
  have e112 : g 112 = vi 2 := hg 4 _ 112 cQ rfl rfl
  have e113 : g 113 = vi 0 := hg 5 _ 113 cQ rfl rfl
  change LW _ _ _ _ _ _ _ _ ((111, .eq (g 111)) :: (112, .eq (g 112)) :: (113, .eq (g 113)) :: _) _
  rw [e111, e112, e113]
  refine LW.T (CW.block (Am (σ := Nat) (fun s w => (s ≤ 2) ∧ (Up w22 w)) (fun s => [(113, .eq (vi (s : Int)))]) ([(7, .eq _), (8, .eq _), (11, .eq _), (13, .eq _), (20, .eq _), (102, .eq _), (103, .eq _), (104, .eq _), (111, .eq _), (112, .eq _)]) (fun s => 2 - s) 0 ?_ ⟨rfl, rfl, rfl, rfl, rfl, rfl, rfl, rfl, rfl, rfl, rfl, trivial⟩ ?_))
  ·exact ⟨Nat.zero_le _, Up.refl _⟩
  rintro j w23 ⟨hj, hL4⟩
  replace hW := hW.up hL4
  replace hB7 := hB7.up hL4
  replace hB8 := hB8.up hL4
  replace hC1 := hC1.up hL4
  replace hC2 := hC2.up hL4
  replace hVe := hVe.up hL4
  replace hE102 := hE102.up hL4
  replace hL3 := hL3.up hL4
  replace hCb := hCb.up hL4
  replace hB20 := hB20.up hL4
  replace hE111 := hE111.up hL4
  refine CW.S (LW.pp (.lss (.t rfl) (.t rfl)) (LW.S (CW.cond (.t rfl) (fun h114 => ?_) (fun h114 => ?_))))
  ·replace h114 := dQ h114
   have hj2 : j < 2 := Int.ofNat_lt.1 h114
   refine CW.skip (KW.then (CW.seq (CW.block (CW.seq ?_))))
   obtain ⟨z, hz⟩ := Ac (xs := ([e, R8 y] : List Exc)) (i := j) hj2
   obtain ⟨Bz, oz, az, hcz⟩ := hE111 j z hz
   refine CW.region (LW.pp (.Aj underlying43 sizeOf25 (j := j) (.t rfl) (.t rfl) oQ az) (LW.pp (.la isAgg25 sizeOf25 rfl (hcz)) (Ah (.Az zeroValue25) rfl ?_)))
   rintro _ w24 ⟨B22, rfl, MB22⟩
   refine LW.E (.Ay sizeOf25 rfl (.t rfl) (.t rfl) (Exc.one _) MB22.blk rfl) ?_
   intro w25 LB22
   have NB22 := MB22.set LB22
   replace hW := hW.up NB22.up
   replace hB7 := hB7.up NB22.up
   replace hB8 := hB8.up NB22.up
   replace hC1 := hC1.up NB22.up
   replace hC2 := hC2.up NB22.up
   replace hVe := hVe.up NB22.up
   replace hE102 := hE102.up NB22.up
   replace hL3 := hL3.up NB22.up
   replace hCb := hCb.up NB22.up
   replace hB20 := hB20.up NB22.up
   replace hE111 := hE111.up NB22.up
   replace hL4 := hL4.up NB22.up
   replace hcz := hcz.up NB22.up
   have hB22 := NB22.blk
   refine LW.S (CW.region (LW.pp (.Ee isAgg38 sizeOf38 (hsz) (.t rfl) (hB20.agg)) (LW.pp (.la isAgg25 sizeOf25 rfl (hB22.agg)) (LW.K (eC (.u rfl rfl) (sW)) rfl (bZ bcx b z _ hCb hT hlb) ?_))))
   rintro _ w26 ⟨s1, rfl, hm1, hA1, uw26⟩
   replace hW := hW.up uw26
   replace hB7 := hB7.up uw26
   replace hB8 := hB8.up uw26
   replace hC1 := hC1.up uw26
   replace hC2 := hC2.up uw26
   replace hVe := hVe.up uw26
   replace hE102 := hE102.up uw26
   replace hL3 := hL3.up uw26
   replace hCb := hCb.up uw26
   replace hB20 := hB20.up uw26
   replace hE111 := hE111.up uw26
   replace hL4 := hL4.up uw26
   replace hB22 := hB22.up uw26
   refine LW.A rfl (LW.S (CW.region (LW.pp (.Ee isAgg38 sizeOf38 (hsz) (.t rfl) (hB20.agg)) (LW.pp (.la isAgg25 sizeOf25 rfl (hB22.agg)) (LW.K (eC (.u rfl rfl) (AV)) rfl (Y1 bcx b z _ hCb hT hlb) ?_)))))
   rintro _ w27 ⟨s2, rfl, hm2, hA2, uw27⟩
   replace hW := hW.up uw27
   replace hB7 := hB7.up uw27
   replace hB8 := hB8.up uw27
   replace hC1 := hC1.up uw27
   replace hC2 := hC2.up uw27
   replace hVe := hVe.up uw27
   replace hE102 := hE102.up uw27
   replace hL3 := hL3.up uw27
   replace hCb := hCb.up uw27
   replace hB20 := hB20.up uw27
   replace hE111 := hE111.up uw27
   replace hL4 := hL4.up uw27
   replace hB22 := hB22.up uw27
   replace hA1 := hA1.up uw27
   refine LW.A rfl (LW.S (CW.seq (Ch kQ kQ rfl rfl (HW.pp (.la isAgg25 sizeOf25 rfl (hB22.agg)) (HW.c (fun a w _ ha => Aw (.cons (.t rfl) .nil) (oZ) a ha) rfl rfl (fun w hu => J4 z w) (HW.pp (.la isAgg25 sizeOf25 rfl (hB22.agg)) (HW.c (fun a w _ ha => Aw (.cons (.t rfl) .nil) (vW) a ha) rfl rfl (fun w hu => Pt z w) (HW.pp (.fa (jF underlying4 (.t rfl) (.t rfl)) (by simp)) (HW.pp (.move (.t rfl)) (Cr (.move (.t rfl)) (Cr (.move (.t rfl)) (sG rfl rfl rfl rfl rfl (fun a w _ ha => Aw (.cons (.t rfl) (.cons (.t rfl) .nil)) (vX) a ha) rfl (fun w hu => jA s1 s2 w (hA1.up hu) (hA2.up hu) (hm1.trans hm2.symm)) (Cr (.fa (PEv.not (.t rfl)) (rfl)) (HW.pp (.fa (PEv.A7 (.t rfl) (fun hp => (by exact .tmp rfl))) (rfl)) (HW.nil ?_)))))))))))))))
   intro w28 uw28
   replace hW := hW.up uw28
   replace hB7 := hB7.up uw28
   replace hB8 := hB8.up uw28
   replace hC1 := hC1.up uw28
   replace hC2 := hC2.up uw28
   replace hVe := hVe.up uw28
   replace hE102 := hE102.up uw28
   replace hL3 := hL3.up uw28
   replace hCb := hCb.up uw28
   replace hB20 := hB20.up uw28
   replace hE111 := hE111.up uw28
   replace hL4 := hL4.up uw28
   replace hB22 := hB22.up uw28
   replace hA1 := hA1.up uw28
   replace hA2 := hA2.up uw28
   refine KW.then (CW.cond_false (.t rfl) (CW.skip (KW.then (CW.S (LW.M rfl (LW.M rfl (Ah (.buildSlice (xs := ([s1, ⟨adV, ((L.take i).map K5), cpV⟩] : List VS)) (enc := VS.cells) (mk := VS.v) underlying47 sizeOf27 zeroValue27 rfl cQ (fun _ => rfl) (fun _ => rfl) (.cons (.t rfl) (.cons (.t rfl) .nil)) rfl) rfl ?_)))))))
   rintro _ w29 ⟨B136, cB136, rfl, NB136, yB136, xB136⟩
   replace hW := hW.up NB136.up
   replace hB7 := hB7.up NB136.up
   replace hB8 := hB8.up NB136.up
   replace hC1 := hC1.up NB136.up
   replace hC2 := hC2.up NB136.up
   replace hVe := hVe.up NB136.up
   replace hE102 := hE102.up NB136.up
   replace hL3 := hL3.up NB136.up
   replace hCb := hCb.up NB136.up
   replace hB20 := hB20.up NB136.up
   replace hE111 := hE111.up NB136.up
   replace hL4 := hL4.up NB136.up
   replace hB22 := hB22.up NB136.up
   replace hA1 := hA1.up NB136.up
   replace hA2 := hA2.up NB136.up
   have hB136 := NB136.blk
   have hE136 := xB136
   refine LW.pp (.Ci underlying47 (.t rfl)) (LW.pp (.move (.const _)) (LW.T (CW.block (Am (σ := Nat) (fun s w => (s ≤ 2) ∧ (Up w29 w)) (fun s => [(138, .eq (vi (s : Int)))]) ([(7, .eq _), (8, .eq _), (11, .eq _), (13, .eq _), (20, .eq _), (102, .eq _), (103, .eq _), (104, .eq _), (111, .eq _), (112, .eq _), (113, .eq _), (136, .eq _), (137, .eq _)]) (fun s => 2 - s) 0 ?_ ⟨rfl, rfl, rfl, rfl, rfl, rfl, rfl, rfl, rfl, rfl, rfl, rfl, rfl, rfl, trivial⟩ ?_))))
   ·exact ⟨Nat.zero_le _, Up.refl _⟩
   rintro l w30 ⟨hl, hL5⟩
   replace hW := hW.up hL5
   replace hB7 := hB7.up hL5
   replace hB8 := hB8.up hL5
   replace hC1 := hC1.up hL5
   replace hC2 := hC2.up hL5
   replace hVe := hVe.up hL5
   replace hE102 := hE102.up hL5
   replace hL3 := hL3.up hL5
   replace hCb := hCb.up hL5
   replace hB20 := hB20.up hL5
   replace hE111 := hE111.up hL5
   replace hL4 := hL4.up hL5
   replace hB22 := hB22.up hL5
   replace hA1 := hA1.up hL5
   replace hA2 := hA2.up hL5
   replace hB136 := hB136.up hL5
   replace hE136 := hE136.up hL5
   refine CW.S (LW.pp (.lss (.t rfl) (.t rfl)) (LW.S (CW.cond (.t rfl) (fun h139 => ?_) (fun h139 => ?_))))
   ·replace h139 := dQ h139
    have hl2 : l < 2 := Int.ofNat_lt.1 h139
    refine CW.skip (KW.then (CW.seq (CW.block (CW.seq ?_))))
    obtain ⟨m, hm⟩ := Ac (xs := ([s1, ⟨adV, ((L.take i).map K5), cpV⟩] : List VS)) (i := l) hl2
    obtain ⟨Bm, om, am, hcm⟩ := hE136 l m hm
    have hm3 : VSok w30 m := by
     rcases List.mem_cons.1 (List.mem_of_getElem? hm) with h | h
     · rw [h]; exact hA1
     rw [List.mem_singleton.1 h]; exact hVe
    have hol : (Ga m.L).length ≤ 1000 := by have h1 := Uc m.L m.L.length; rw [List.take_length] at h1; exact Nat.le_trans h1 hm3.2.2.1
    have htl : (Gk b (m.L.map VP.vd)).length ≤ 16 := by show (List.take 16 _).length ≤ 16; rw [List.length_take]; omega
    refine CW.region (LW.pp (.Aj underlying47 sizeOf27 (j := l) (.t rfl) (.t rfl) oQ am) (LW.pp (.ld isAgg27 rfl (hcm.nth (j := 0) rfl)) (LW.A rfl (LW.S (Ch kQ kQ rfl rfl (HW.pp (.move (.t rfl)) (oN (ph := .pred fun v w => Sl w v 1 Aq (Ga m.L)) (fun _ _ _ h u => Sl.up h u) rfl (fun a w hu ha => ⟨_, _, Aw (.cons (.t rfl) .nil) (vY) a ha, (X7 m.ad m.cp m.L w (hm3.up hu).1 (Nat.le_trans hm3.2.2.1 cQ)).mono fun v w' h => ⟨h.2, h.1.sl (fun _ => rfl)⟩⟩) rfl (HW.pp (.move (.t rfl)) (oN (ph := .pred fun v w => Sl w v 1 Aq (Ga m.L)) (fun _ _ _ h u => Sl.up h u) rfl (fun a w hu ha => ⟨_, _, Aw (.cons (.t rfl) .nil) (AW) a ha, (iW m.ad m.cp m.L w (hm3.up hu).1 (Nat.le_trans hm3.2.2.1 cQ)).mono fun v w' h => ⟨h.2, h.1.sl (fun _ => rfl)⟩⟩) rfl (oN (ph := .eq (.bool true)) (phUp.eq _) rfl (fun a w hu ha => ⟨_, _, Qe pA a w, (Hw (a.eval (.tmp 143)) (a.eval (.tmp 145)) (Ga m.L) (Ga m.L) w (ha.known (p := fun v w => Sl w v 1 Aq (Ga m.L)) rfl) (ha.known (p := fun v w => Sl w v 1 Aq (Ga m.L)) rfl) (Nat.le_trans hol cQ) (Nat.le_trans hol cQ)).mono fun _ _ h => ⟨h.2, h.1.trans (by rw [decide_eq_true rfl])⟩⟩) rfl (HW.pp (.fa (PEv.not (.t rfl)) (rfl)) (HW.pp (.move (.t rfl)) (Cr (.Ee isAgg38 sizeOf38 (hsz) (.t rfl) (hB20.agg)) (Cr (.move (.t rfl)) (Y8 (ph := .pred fun v w => TssE w v (Gk b (m.L.map VP.vd))) (fun _ _ _ h u => TssE.up h u) rfl rfl rfl rfl rfl (fun a w hu ha => ⟨_, _, Aw (.cons (.t rfl) (.cons (.t rfl) .nil)) (wA) a ha, (cA bcx b m w (hCb.up hu) hT hlb (hm3.up hu)).mono fun v w' h => ⟨h.2, h.1⟩⟩) rfl (Cr (.Ee isAgg38 sizeOf38 (hsz) (.t rfl) (hB20.agg)) (Cr (.move (.t rfl)) (Y8 (ph := .pred fun v w => TssE w v (Gk b (m.L.map VP.vd))) (fun _ _ _ h u => TssE.up h u) rfl rfl rfl rfl rfl (fun a w hu ha => ⟨_, _, Aw (.cons (.t rfl) (.cons (.t rfl) .nil)) (AX) a ha, (Y2 bcx b m w (hCb.up hu) hlb (hm3.up hu)).mono fun v w' h => ⟨h.2, h.1⟩⟩) rfl (Y8 (ph := .eq (.bool true)) (phUp.eq _) rfl rfl rfl rfl rfl (fun a w hu ha => ⟨_, _, Qe vZ a w, (cB (a.eval (.tmp 151)) (a.eval (.tmp 154)) (Gk b (m.L.map VP.vd)) w (ha.known (p := fun v w => TssE w v (Gk b (m.L.map VP.vd))) rfl) (ha.known (p := fun v w => TssE w v (Gk b (m.L.map VP.vd))) rfl) (Y0 (by rw [List.length_map]; exact hm3.2.2.1)) htl).mono fun _ _ h => ⟨h.2, h.1.trans (by rw [decide_eq_true rfl])⟩⟩) rfl (Cr (.fa (PEv.not (.t rfl)) (rfl)) (HW.pp (.fa (PEv.A7 (.t rfl) (fun hp => (by exact .tmp rfl))) (rfl)) (HW.nil ?_))))))))))))))))))))))
    intro w31 uw31
    replace hW := hW.up uw31
    replace hB7 := hB7.up uw31
    replace hB8 := hB8.up uw31
    replace hC1 := hC1.up uw31
    replace hC2 := hC2.up uw31
    replace hVe := hVe.up uw31
    replace hE102 := hE102.up uw31
    replace hL3 := hL3.up uw31
    replace hCb := hCb.up uw31
    replace hB20 := hB20.up uw31
    replace hE111 := hE111.up uw31
    replace hL4 := hL4.up uw31
    replace hB22 := hB22.up uw31
    replace hA1 := hA1.up uw31
    replace hA2 := hA2.up uw31
    replace hB136 := hB136.up uw31
    replace hE136 := hE136.up uw31
    replace hL5 := hL5.up uw31
    replace hm3 := hm3.up uw31
    refine KW.then (CW.cond_false (.t rfl) (CW.skip (KW.inBlock (KW.then (CW.region (LW.pp (.inc (.t rfl) oQ) (LW.M rfl (LW.nil (KW.round ?_)))))))))
    exact ⟨l + 1, ⟨by omega, hL5⟩, ⟨rfl, rfl, rfl, rfl, rfl, rfl, rfl, rfl, rfl, rfl, rfl, rfl, rfl, rfl, trivial⟩, by omega⟩
   replace h139 := dQ h139
   refine CW.exit (Aa (Aa (Ad (KW.inBlock (KW.then (CW.region (LW.pp (.inc (.t rfl) oQ) (LW.M rfl (LW.nil (KW.round ?_))))))))))
   exact ⟨j + 1, ⟨by omega, hL4⟩, ⟨rfl, rfl, rfl, rfl, rfl, rfl, rfl, rfl, rfl, rfl, rfl, trivial⟩, by omega⟩
  replace h114 := dQ h114
  refine CW.exit (Aa (Aa (Ad (KW.inBlock (KW.then (CW.region (LW.pp (.inc (.t rfl) oQ) (LW.M rfl (LW.nil (KW.round ?_))))))))))
  exact ⟨k + 1, ⟨by omega, hL3⟩, ⟨rfl, rfl, rfl, rfl, rfl, rfl, rfl, trivial⟩, by omega⟩
 replace h105 := dQ h105
 refine CW.exit (Aa (Aa (Ad (KW.then (CW.S (LW.M rfl (LW.A rfl (LW.T (CW.ret (Ae rfl rfl ⟨_, rfl, ?_⟩))))))))))
 exact ⟨rfl, hW⟩
end Go.Proofs.YtmimclgihlhaeaaGreat
end
section
namespace Go.Proofs
open Go.Proofs.Tryz
open Go.Wx Go.ChangeShapes Go.WideShapes Go.RowKit
theorem Ue {H : Type} {enc : TypeId × Value → H} {w : World} {b : Nat} {sp : Nat → Bool} {hd : Bool} (n : Nat) (cs : List Value) (x : DataW H × List MemPlace) (hl : cs.length = 5) (h : DataW.trod enc Tryz.prog w b sp hd n 26 cs = some x) : ∃ f : I5, cs = f.cells.toList ∧ eY f := by
 have k_int : Tryz.prog.cellsOf 3 = 1 := by kernel_rfl
 match cs, hl with
 | [c0, c1, c2, c3, c4], _ =>
   obtain ⟨xs, m, _, _, _, hlen, hg⟩ := DataW.trod_array underlying26 h
   have hs : ∀ i, i < 5 → ∃ y, xs[i]? = some y := fun i hi => ⟨_, List.getElem?_eq_getElem oQ⟩
   obtain ⟨y0, z0⟩ := hs 0 cQ
   obtain ⟨n0, e0, _, q0⟩ := DataW.trod_int underlying3 (show DataW.trod enc Tryz.prog w b sp hd m 3 [c0] = some y0 from by rw [← z0]; simpa [k_int] using hg 0 cQ)
   obtain ⟨y1, z1⟩ := hs 1 cQ
   obtain ⟨n1, e1, _, q1⟩ := DataW.trod_int underlying3 (show DataW.trod enc Tryz.prog w b sp hd m 3 [c1] = some y1 from by rw [← z1]; simpa [k_int] using hg 1 cQ)
   obtain ⟨y2, z2⟩ := hs 2 cQ
   obtain ⟨n2, e2, _, q2⟩ := DataW.trod_int underlying3 (show DataW.trod enc Tryz.prog w b sp hd m 3 [c2] = some y2 from by rw [← z2]; simpa [k_int] using hg 2 cQ)
   obtain ⟨y3, z3⟩ := hs 3 cQ
   obtain ⟨n3, e3, _, q3⟩ := DataW.trod_int underlying3 (show DataW.trod enc Tryz.prog w b sp hd m 3 [c3] = some y3 from by rw [← z3]; simpa [k_int] using hg 3 cQ)
   obtain ⟨y4, z4⟩ := hs 4 cQ
   obtain ⟨n4, e4, _, q4⟩ := DataW.trod_int underlying3 (show DataW.trod enc Tryz.prog w b sp hd m 3 [c4] = some y4 from by rw [← z4]; simpa [k_int] using hg 4 cQ)
   cases e0
   cases e1
   cases e2
   cases e3
   cases e4
   exact ⟨⟨n0, n1, n2, n3, n4⟩, rfl, ⟨D9 q0, D9 q1, D9 q2, D9 q3, D9 q4⟩⟩
set_option maxRecDepth 100000 in
theorem cC {H : Type} {enc : TypeId × Value → H} {w : World} {b b0 : Nat} {sp : Nat → Bool} {hd : Bool} {r : Reach} {v : Value} {d : DataW H} {p : List MemPlace} (hv : Value.okWide Tryz.prog w r b0 26 v) (h : DataW.Trod enc Tryz.prog w b sp hd 26 v d p) : ∃ f : I5, v = .agg f.cells ∧ eY f := by
 simp only [Value.okWide, underlying26] at hv
 obtain ⟨cs, rfl, hsz, _⟩ := hv
 obtain ⟨fuel, hf⟩ := h
 have hc : Tryz.prog.cellsOf 26 = 5 := by kernel_rfl
 obtain ⟨f, e, g⟩ := Ue fuel cs.toList _ (by rw [Array.length_toList, hsz, hc]) hf
 exact ⟨f, by rw [Array.toList_inj.1 e], g⟩
theorem Y3 {H : Type} {enc : TypeId × Value → H} {w : World} {b : Nat} {sp : Nat → Bool} {hd : Bool} (n : Nat) (cs : List Value) (x : DataW H × List MemPlace) (hl : cs.length = 19) (h : DataW.trod enc Tryz.prog w b sp hd n 36 cs = some x) : ∃ f : Fact, cs = f.cells.toList ∧ FOk f := by
 have k_bool : Tryz.prog.cellsOf 4 = 1 := by kernel_rfl
 have k_int : Tryz.prog.cellsOf 3 = 1 := by kernel_rfl
 have k_string : Tryz.prog.cellsOf 9 = 1 := by kernel_rfl
 match cs, hl with
 | [c0, c1, c2, c3, c4, c5, c6, c7, c8, c9, c10, c11, c12, c13, c14, c15, c16, c17, c18], _ =>
   obtain ⟨xs, n, _, hx, _, hlen, hg⟩ := DataW.trod_struct underlying36 h
   match xs, hlen with
   | [y0, y1, y2, y3, y4, y5, y6, y7, y8, y9, y10, y11, y12, y13, y14, y15, y16, y17, y18], _ =>
     obtain ⟨n0, e0, _, q0⟩ := DataW.trod_int underlying3 (show DataW.trod enc Tryz.prog w b sp hd n 3 [c0] = some y0 from by simpa [k_int] using hg 0 _ rfl)
     obtain ⟨n1, e1, _, q1⟩ := DataW.trod_int underlying3 (show DataW.trod enc Tryz.prog w b sp hd n 3 [c1] = some y1 from by simpa [k_int] using hg 1 _ rfl)
     obtain ⟨n2, e2, _, q2⟩ := DataW.trod_int underlying3 (show DataW.trod enc Tryz.prog w b sp hd n 3 [c2] = some y2 from by simpa [k_int] using hg 2 _ rfl)
     obtain ⟨n3, e3, _, q3⟩ := DataW.trod_int underlying3 (show DataW.trod enc Tryz.prog w b sp hd n 3 [c3] = some y3 from by simpa [k_int] using hg 3 _ rfl)
     obtain ⟨n4, e4, _⟩ := DataW.trod_bool underlying4 (show DataW.trod enc Tryz.prog w b sp hd n 4 [c4] = some y4 from by simpa [k_bool] using hg 4 _ rfl)
     obtain ⟨n5, e5, _, q5⟩ := DataW.trod_int underlying3 (show DataW.trod enc Tryz.prog w b sp hd n 3 [c5] = some y5 from by simpa [k_int] using hg 5 _ rfl)
     obtain ⟨n6, e6, _, q6⟩ := DataW.trod_int underlying3 (show DataW.trod enc Tryz.prog w b sp hd n 3 [c6] = some y6 from by simpa [k_int] using hg 6 _ rfl)
     obtain ⟨n7, e7, _, q7⟩ := DataW.trod_int underlying3 (show DataW.trod enc Tryz.prog w b sp hd n 3 [c7] = some y7 from by simpa [k_int] using hg 7 _ rfl)
     obtain ⟨n8, e8, _, q8⟩ := DataW.trod_int underlying3 (show DataW.trod enc Tryz.prog w b sp hd n 3 [c8] = some y8 from by simpa [k_int] using hg 8 _ rfl)
     obtain ⟨n9, e9, _, q9⟩ := DataW.trod_int underlying3 (show DataW.trod enc Tryz.prog w b sp hd n 3 [c9] = some y9 from by simpa [k_int] using hg 9 _ rfl)
     obtain ⟨n10, e10, _, q10⟩ := DataW.trod_int underlying3 (show DataW.trod enc Tryz.prog w b sp hd n 3 [c10] = some y10 from by simpa [k_int] using hg 10 _ rfl)
     obtain ⟨n11, e11, _, q11⟩ := DataW.trod_int underlying3 (show DataW.trod enc Tryz.prog w b sp hd n 3 [c11] = some y11 from by simpa [k_int] using hg 11 _ rfl)
     obtain ⟨n12, e12, _, q12⟩ := DataW.trod_int underlying3 (show DataW.trod enc Tryz.prog w b sp hd n 3 [c12] = some y12 from by simpa [k_int] using hg 12 _ rfl)
     obtain ⟨n13, e13, _, q13⟩ := DataW.trod_int underlying3 (show DataW.trod enc Tryz.prog w b sp hd n 3 [c13] = some y13 from by simpa [k_int] using hg 13 _ rfl)
     obtain ⟨n14, e14, _, q14⟩ := DataW.trod_int underlying3 (show DataW.trod enc Tryz.prog w b sp hd n 3 [c14] = some y14 from by simpa [k_int] using hg 14 _ rfl)
     obtain ⟨n15, e15, _, q15⟩ := DataW.trod_int underlying3 (show DataW.trod enc Tryz.prog w b sp hd n 3 [c15] = some y15 from by simpa [k_int] using hg 15 _ rfl)
     obtain ⟨n16, e16, _, q16⟩ := DataW.trod_int underlying3 (show DataW.trod enc Tryz.prog w b sp hd n 3 [c16] = some y16 from by simpa [k_int] using hg 16 _ rfl)
     obtain ⟨n17, e17, _, q17⟩ := DataW.trod_int underlying3 (show DataW.trod enc Tryz.prog w b sp hd n 3 [c17] = some y17 from by simpa [k_int] using hg 17 _ rfl)
     obtain ⟨n18, e18, _, s18⟩ := DataW.trod_string underlying9 (show DataW.trod enc Tryz.prog w b sp hd n 9 [c18] = some y18 from by simpa [k_string] using hg 18 _ rfl)
     cases e0
     cases e1
     cases e2
     cases e3
     cases e4
     cases e5
     cases e6
     cases e7
     cases e8
     cases e9
     cases e10
     cases e11
     cases e12
     cases e13
     cases e14
     cases e15
     cases e16
     cases e17
     cases e18
     exact ⟨⟨n0, n1, n2, n3, n4, n5, n6, n7, n8, n9, n10, n11, n12, n13, n14, n15, n16, n17, n18⟩, rfl, ⟨D9 q0, D9 q1, D9 q2, D9 q3, D9 q5, D9 q6, D9 q7, D9 q8, D9 q9, D9 q10, D9 q11, D9 q12, D9 q13, D9 q14, D9 q15, D9 q16, D9 q17, s18⟩⟩
theorem cD {H : Type} {enc : TypeId × Value → H} {w : World} {b : Nat} {sp : Nat → Bool} {hd : Bool} (n : Nat) (cs : List Value) (x : DataW H × List MemPlace) (hl : cs.length = 5) (h : DataW.trod enc Tryz.prog w b sp hd n 25 cs = some x) : ∃ f : Exc, cs = f.cells.toList ∧ (fun _ => True) f := by
 have k_int : Tryz.prog.cellsOf 3 = 1 := by kernel_rfl
 match cs, hl with
 | [c0, c1, c2, c3, c4], _ =>
   obtain ⟨xs, n, _, hx, _, hlen, hg⟩ := DataW.trod_struct underlying25 h
   match xs, hlen with
   | [y0, y1, y2, y3, y4], _ =>
     obtain ⟨n0, e0, _, q0⟩ := DataW.trod_int underlying3 (show DataW.trod enc Tryz.prog w b sp hd n 3 [c0] = some y0 from by simpa [k_int] using hg 0 _ rfl)
     obtain ⟨n1, e1, _, q1⟩ := DataW.trod_int underlying3 (show DataW.trod enc Tryz.prog w b sp hd n 3 [c1] = some y1 from by simpa [k_int] using hg 1 _ rfl)
     obtain ⟨n2, e2, _, q2⟩ := DataW.trod_int underlying3 (show DataW.trod enc Tryz.prog w b sp hd n 3 [c2] = some y2 from by simpa [k_int] using hg 2 _ rfl)
     obtain ⟨n3, e3, _, q3⟩ := DataW.trod_int underlying3 (show DataW.trod enc Tryz.prog w b sp hd n 3 [c3] = some y3 from by simpa [k_int] using hg 3 _ rfl)
     obtain ⟨n4, e4, _, q4⟩ := DataW.trod_int underlying3 (show DataW.trod enc Tryz.prog w b sp hd n 3 [c4] = some y4 from by simpa [k_int] using hg 4 _ rfl)
     cases e0
     cases e1
     cases e2
     cases e3
     cases e4
     exact ⟨⟨n0, n1, n2, n3, n4⟩, rfl, trivial⟩
set_option maxRecDepth 100000 in
theorem Y4 {H : Type} {enc : TypeId × Value → H} {w : World} {b b0 : Nat} {sp : Nat → Bool} {hd : Bool} {r : Reach} {v : Value} {d : DataW H} {p : List MemPlace} (hv : Value.okWide Tryz.prog w r b0 25 v) (h : DataW.Trod enc Tryz.prog w b sp hd 25 v d p) : ∃ f : Exc, v = .agg f.cells ∧ (fun _ => True) f := by
 obtain ⟨cs, rfl, hsz⟩ := okWide_struct underlying25 hv
 obtain ⟨fuel, hf⟩ := h
 have hc : Tryz.prog.cellsOf 25 = 5 := by kernel_rfl
 obtain ⟨f, e, g⟩ := cD fuel cs.toList _ (by rw [Array.length_toList, hsz, hc]) hf
 exact ⟨f, by rw [Array.toList_inj.1 e], g⟩
theorem jB {H : Type} {enc : TypeId × Value → H} {w : World} {b : Nat} {sp : Nat → Bool} {hd : Bool} (n : Nat) (cs : List Value) (x : DataW H × List MemPlace) (hl : cs.length = 3) (h : DataW.trod enc Tryz.prog w b sp hd n 32 cs = some x) : ∃ f : VP, cs = f.cells.toList ∧ AJ w f := by
 have k_int : Tryz.prog.cellsOf 3 = 1 := by kernel_rfl
 have k_sli : Tryz.prog.cellsOf 30 = 1 := by kernel_rfl
 match cs, hl with
 | [c0, c1, c2], _ =>
   obtain ⟨xs, n, _, hx, _, hlen, hg⟩ := DataW.trod_struct underlying32 h
   match xs, hlen with
   | [y0, y1, y2], _ =>
     obtain ⟨n0, e0, _, q0⟩ := DataW.trod_int underlying3 (show DataW.trod enc Tryz.prog w b sp hd n 3 [c0] = some y0 from by simpa [k_int] using hg 0 _ rfl)
     obtain ⟨n1, e1, _, q1⟩ := DataW.trod_int underlying3 (show DataW.trod enc Tryz.prog w b sp hd n 3 [c1] = some y1 from by simpa [k_int] using hg 1 _ rfl)
     obtain ⟨ad2, cp2, n2, e2, hE2, l2⟩ := jJ underlying30 underlying3 kQ (show DataW.trod enc Tryz.prog w b sp hd n 30 [c2] = some y2 from by simpa [k_sli] using hg 2 _ rfl)
     cases e0
     cases e1
     cases e2
     exact ⟨⟨⟨n0, n1, n2⟩, ad2, cp2⟩, rfl, ⟨hE2, l2⟩⟩
end Go.Proofs
end
