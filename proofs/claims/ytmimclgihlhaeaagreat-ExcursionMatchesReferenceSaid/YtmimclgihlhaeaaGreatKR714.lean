import Derived.Test.YtmimclgihlhaeaaGreatKR713
import Derived.Sort.OwnSortedInts
section
namespace Go.Wx
theorem Nr (ks : List Int) : ks.flatMap (fun x => (Aq x).toList) = ks.map vi := by
 induction ks with
 | nil => rfl
 | cons k ks ih => rw [List.flatMap_cons, ih]; rfl
theorem Gr {a b : List Int} (h : a.Perm b) : (a.mergeSort fun x y => decide (x ≤ y)) = b.mergeSort fun x y => decide (x ≤ y) :=
 List.Perm.eq_of_pairwise (le := fun x y => decide (x ≤ y) = true) (fun x y _ _ h1 h2 => by have h3 := of_decide_eq_true h1; have h4 := of_decide_eq_true h2; omega)
   (List.pairwise_mergeSort (fun a b c h1 h2 => by have h3 := of_decide_eq_true h1; have h4 := of_decide_eq_true h2; exact decide_eq_true oQ) (fun a b => by simp; omega) a)
   (List.pairwise_mergeSort (fun a b c h1 h2 => by have h3 := of_decide_eq_true h1; have h4 := of_decide_eq_true h2; exact decide_eq_true oQ) (fun a b => by simp; omega) b)
   ((List.mergeSort_perm a _).trans (h.trans (List.mergeSort_perm b _).symm))
def Fb (k : Int) : Int × Go.Value := (k, .bool true)
def Dy (ks : List Int) (k : Int) : List Int := if k ∈ ks then ks else ks ++ [k]
def Cc (ks : List Int) : List Int := ks.mergeSort fun x y => decide (x ≤ y)
theorem J1 (ks : List Int) : (ks.map Fb).map (·.1) = ks := by simp [List.map_map, Function.comp_def, Fb]
theorem Ro (ks : List Int) (k : Int) : D5 (ks.map Fb) k (.bool true) = (Dy ks k).map Fb := by
 unfold D5 Dy
 rw [J1]
 by_cases h : k ∈ ks
 · rw [if_pos h, if_pos h, List.map_map]
   refine List.map_congr_left fun x _ => ?_
   show (if x = k then (k, Go.Value.bool true) else Fb x) = Fb x
   by_cases hx : x = k
   · subst hx; rw [if_pos rfl]; rfl
   rw [if_neg hx]
 rw [if_neg h, if_neg h]; simp [Fb]
theorem Xx (ks : List Int) (k : Int) : (Dy ks k).length ≤ ks.length + 1 := by unfold Dy; split <;> simp
theorem Kw {ks : List Int} {k x : Int} : x ∈ Dy ks k ↔ x ∈ ks ∨ x = k := by
 unfold Dy
 split
 · exact ⟨.inl, fun h => h.elim id (fun e => by rw [e]; assumption)⟩
 rw [List.mem_append, List.mem_singleton]
theorem gS {ks : List Int} {k : Int} {u : Go.Value} (h : (k, u) ∈ ks.map Fb) : k ∈ ks ∧ u = .bool true := by
 obtain ⟨x, hx, e⟩ := List.mem_map.1 h
 cases e
 exact ⟨hx, rfl⟩
theorem Ky {α : Type} (g : List Int → α → List Int) (hg : ∀ ks x, (g ks x).length ≤ ks.length + 1) : ∀ (l : List α) (ks : List Int), (l.foldl g ks).length ≤ ks.length + l.length
 | [], _ => Nat.le_refl _
 | x :: l, ks => by
   rw [List.foldl_cons, List.length_cons]
   have h1 := Ky g hg l (g ks x)
   have h2 := hg ks x
   omega
def Kz (l : List Fact) : List Int := l.foldl (fun ks f => Dy ks f.Wafer) []
def Sw (ss : List Fact) (ks : List Int) (l : List Fact) : List Int := l.foldl (fun ks f => Dy ks (Iy ss f.Time f.Wafer)) ks
def Bq (lots ps ss : List Fact) : List Int := Cc ((Sw ss (Kz lots) ps).filter Cu)
theorem Ot {l : List Fact} {k : Nat} {x : Fact} (hx : l[k]? = some x) : Kz (l.take (k + 1)) = Dy (Kz (l.take k)) x.Wafer := by rw [Ar hx]; unfold Kz; rw [List.foldl_append]; rfl
theorem Ou {ss l : List Fact} {ks : List Int} {k : Nat} {x : Fact} (hx : l[k]? = some x) : Sw ss ks (l.take (k + 1)) = Dy (Sw ss ks (l.take k)) (Iy ss x.Time x.Wafer) := by rw [Ar hx]; unfold Sw; rw [List.foldl_append]; rfl
theorem Ns (l : List Fact) : (Kz l).length ≤ l.length := by have := Ky (fun ks (f : Fact) => Dy ks f.Wafer) (fun _ _ => Xx _ _) l []; simpa [Kz] using this
theorem Rp (ss : List Fact) (ks : List Int) (l : List Fact) : (Sw ss ks l).length ≤ ks.length + l.length := Ky (fun ks (f : Fact) => Dy ks (Iy ss f.Time f.Wafer)) (fun _ _ => Xx _ _) l ks
def Pw (ks V : List Int) : List Int := ks.filter fun k => Cu k || !decide (k ∈ V)
theorem lX (ks : List Int) : Pw ks [] = ks := List.filter_eq_self.2 fun k _ => by simp
theorem lY (ks V : List Int) {k : Int} (h : Cu k = true) : Pw ks (V ++ [k]) = Pw ks V := by
 refine List.filter_congr fun x _ => ?_
 by_cases e : x = k
 · rw [e, h]; rfl
 simp [e]
theorem qZ (ks V : List Int) {k : Int} (h : Cu k = false) : (Pw ks (V ++ [k])).map Fb = ((Pw ks V).map Fb).filter fun p => !decide (p.1 = k) := by
 rw [List.filter_map, Pw, Pw, List.filter_filter]
 congr 1
 refine List.filter_congr fun x _ => ?_
 by_cases e : x = k
 · simp [e, h, Fb]
 simp [e, Fb]
theorem Sx (V : List Int) {k : Int} (h : Cu k = true) : (V ++ [k]).filter Cu = V.filter Cu ++ [k] := by rw [List.filter_append]; simp [h]
theorem Va (V : List Int) {k : Int} (h : Cu k = false) : (V ++ [k]).filter Cu = V.filter Cu := by rw [List.filter_append]; simp [h]
theorem aI {ks V : List Int} {k : Int} (h : k ∈ Pw ks V) (hf : k ∉ V.filter Cu) : k ∉ V ∧ k ∈ ks := by
 obtain ⟨h1, h2⟩ := List.mem_filter.1 h
 refine ⟨fun hV => ?_, h1⟩
 cases hi : Cu k with
 | true => exact hf (List.mem_filter.2 ⟨hV, hi⟩)
 | false => rw [hi] at h2; simp [hV] at h2
theorem lZ {ks V : List Int} (h : (V.filter Cu).Perm (((Pw ks V).map Fb).map (·.1))) : Pw ks V = ks.filter Cu := by
 rw [J1] at h
 refine List.filter_congr fun k hk => ?_
 cases hi : Cu k with
 | true => rfl
 | false =>
   cases hc : decide (k ∈ V) with
   | true => rfl
   | false =>
     exfalso
     have h1 : k ∈ Pw ks V := List.mem_filter.2 ⟨hk, by rw [hc]; simp⟩
     have := (List.mem_filter.1 (h.symm.subset h1)).2
     rw [hi] at this; cases this
end Go.Wx
namespace Go.Proofs.YtmimclgihlhaeaaGreat
open Go.Proofs.Tryz
open Go.Wx Go.RowKit
namespace Hs
theorem J2 (b : Nat) (w : World) : Ret Tryz.prog 93 #[.map (some b)] w fun r w' => (∃ B, r = .func (.func 144) #[] #[.pointer (some ⟨B, 0, none⟩)] ∧ Blk w' B #[.map (some b)] 87 ∧ w.heap.size ≤ B) ∧ Up w w' := by
 have hW := Up.refl w
 refine cS (n := 4) (m := 9) func93 rfl rfl rfl (CW.S (Ah (.L5 (.t rfl) rfl) rfl ?_))
 rintro _ w1 ⟨B1, rfl, NB1⟩
 have eB1 := NB1.at_
 replace hW := hW.up NB1.up
 have hB1 := NB1.blk
 refine LW.C (LW.S (CW.region (LW.pp (.makeFunc (.cons (.t rfl) .nil)) (LW.A rfl (LW.T (CW.ret (Ae rfl rfl ⟨_, rfl, ?_⟩)))))))
 exact ⟨⟨_, rfl, hB1, by omega⟩, hW⟩
theorem Iz (X Y : Nat → Prop) (B1 b : Nat) (kv : List (Int × Value)) (w : World) (hYY : ∀ i, Y i → i < w.heap.size) (hQX : ¬ X B1) (hbY : ¬ Y b) (hQ0 : Blk w B1 #[.map (some b)] 87) (hM0 : IMap w b kv) :
   IterS Tryz.prog 144 #[.pointer (some ⟨B1, 0, none⟩)] Aq X Y (fun ys => ys.Perm (kv.map (·.1))) (fun pre => pre.Nodup ∧ ∀ k ∈ pre, k ∈ kv.map (·.1)) kv.length w := by
 refine IterS.of ?_
 intro lp J Jx w0 hUw _ hY hJ
 obtain ⟨Bd, hBd⟩ : ∃ Bd, Bd = w0.heap.size := ⟨_, rfl⟩
 rw [← hBd] at hJ hY
 have zU := hUw.size
 have hQ := hQ0.up hUw
 have hM := hM0.up hUw
 have zQ0 := hQ.lt
 refine cS (n := 14) (m := 9) func144 rfl rfl rfl (CW.S (LW.pp (.ld isAgg87 rfl (hQ.Ai rfl)) (Ah (.range underlying87 (.t rfl) hM) rfl ?_)))
 rintro _ w1 ⟨r5, rfl, hR5, uw1, ew1, zw1⟩
 replace hQ := hQ.up uw1
 replace hM := hM.up uw1
 replace hJ := hJ.up uw1
 refine LW.T (CW.block (CW.loop (σ := List Int) (fun s w => Jw Bd J s w ∧ Blk w B1 #[.map (some b)] 87 ∧ IRng w b r5 kv s) (fun s => [(0, .eq (.func (.yield lp) #[] #[])), (5, .eq (.pointer (some ⟨r5, 0, none⟩)))]) (fun s => kv.length - s.length) [] ?_ ?_ ?_))
 ·exact ⟨hJ, hQ, hR5⟩
 ·exact ⟨rfl, rfl, trivial⟩
 rintro done w2 ⟨hJ, hQ, hR5⟩
 have zQ := hQ.lt
 refine CW.S (Ah (.next (.t rfl) hR5) rfl ?_)
 rintro _ w3 (⟨rfl, rfl, hPm⟩ | ⟨k, u, rfl, hNx⟩)
 ·skip
  refine LW.pp (.extract (.t rfl) rfl) (LW.S (CW.cond_false (.t rfl) (CW.exit (Aa (Aa (Ad (Dl rfl ⟨_, rfl, ?_⟩)))))))
  exact .inl ⟨_, hPm, hJ.j⟩
 skip
 obtain ⟨_, ho, hwk⟩ := hNx.walk
 replace hJ := hJ.walk hNx.grown oQ ho hwk
 replace hQ := hQ.sto hNx.sto oQ
 replace hR5 := hNx.rng
 have zw3 := hNx.size
 refine LW.pp (.extract (.t rfl) rfl) (LW.S (CW.cond_true (.t rfl) (CW.skip (KW.then (CW.block (CW.S (Ah (.entry (.t rfl) hNx.entry) rfl ?_)))))))
 rintro _ _ ⟨rfl, rfl⟩
 refine LW.pp (.extract (.t rfl) rfl) (LW.A rfl (LW.S (CW.region (LW.M rfl (LW.M rfl (LW.y (.t rfl) (.cons (.t rfl) .nil) rfl rfl (hY done k _ hJ (by have := hR5.length; simp at this; omega)) ?_))))))
 rintro _ w4 ⟨y, rfl, hcase⟩
 refine LW.pp (.not (.t rfl)) (LW.T (CW.cond (.t rfl) (fun h13 => ?_) (fun h13 => ?_)))
 ·have hy : y = false := by simpa using h13
  subst hy
  obtain ⟨_, hJx⟩ := hcase.resolve_left (by simp)
  refine CW.ret (An (Af (An (Ij rfl ⟨_, rfl, ?_⟩))))
  exact .inr ⟨_, hR5.sub, hJx⟩
 have hy : y = true := by simpa using h13
 subst hy
 obtain ⟨_, hJ2, hN⟩ := hcase.resolve_right (by simp)
 replace hQ := hQ.kx hN hQX
 replace hR5 := hR5.kx hN hbY (fun h => by have := hYY _ h; omega)
 refine CW.skip (KW.inBlock (KW.round ?_))
 exact ⟨done ++ [k], ⟨hJ2, hQ, hR5⟩, ⟨rfl, rfl, trivial⟩, by have := hR5.length; simp at this ⊢; omega⟩
theorem Sy (g : Nat) (lb : Array Go.Value) (S Sp : List Int → Prop) (N : Nat) (w : World) (en : ∀ args w, (callFunc g args).run Tryz.prog w = .ok (.enter g args) w) (hit : ∀ W (X : Nat → Prop), Up w W → (∀ i, X i → w.heap.size ≤ i) → IterS Tryz.prog g lb Aq X (fun _ => False) S Sp N W) (hN0 : N ≤ 1000000000) : Ret Tryz.prog 160 #[.slice none 0 0, .func (.func g) #[] lb] w fun r w' => ∃ ks, S ks ∧ OwnS w' w.heap.size 3 1 Aq r ks ∧ Up w w' := by
 have hW := Up.refl w
 obtain ⟨w0, rfl⟩ : ∃ w0, w0 = w := ⟨_, rfl⟩
 refine Hm (n := 13) func160 rfl rfl rfl (CW.S (Ah (.L5 (.t rfl) rfl) rfl ?_))
 rintro _ w1 ⟨B2, rfl, NB2⟩
 have eB2 := NB2.at_
 have zB2 := NB2.size
 replace hW := hW.up NB2.up
 have hB2 := NB2.blk
 refine LW.C (LW.S (CW.S (LW.M rfl (LW.T (CW.block ?_)))))
 obtain ⟨bq, hbq⟩ : ∃ bq, bq = w1.heap.size := ⟨_, rfl⟩
 refine CW.rangeFunc (fun i => B2 ≤ i) (fun _ => False) (fun pre W => Sz bq W ∧ ∃ v, Blk W B2 #[v] 30 ∧ OwnS W (B2 + 1) 3 1 Aq v pre ∧ Up w0 W) (fun c pre W => Sz bq W ∧ False) (fun x a' W => Ag 13 [] ([(5, .eq (vi x)), (2, .eq (.pointer (some ⟨B2, 0, none⟩)))]) a' W) (.t rfl) en (hit _ _ hW (fun i (hi : B2 ≤ i) => by omega)) (fun _ => rfl) rfl ?_ ?_ ?_ ?_ ?_ ?_ ?_ ?_
 ·rw [← hbq]
  intro pre W W' row hs hg hr
  obtain ⟨hZ, v, hB2, hO, hW⟩ := hs
  exact ⟨hZ.ko (Ko.grown hg hr), v, hB2.ko (Ko.grown hg hr), hO.ko (Ko.grown hg hr), hW.ko (Ko.grown hg hr) oQ⟩
 ·rw [← hbq]
  intro c pre W W' row hs hg hr
  obtain ⟨hZ, hF⟩ := hs
  exact ⟨hZ.ko (Ko.grown hg hr), hF⟩
 ·intro x a' u W W' row hs hg hr
  exact hs.world rfl _
 ·exact ⟨Nat.le_of_eq hbq, _, hB2, OwnS.nil _ _ _ _ _, hW⟩
 ·rw [← hbq]
  intro lp pre x w2 K hs hk a ha
  obtain ⟨hZ, v, hB2, hO, hW⟩ := hs
  have zq := hZ.le
  have hK := Kf.refl bq w2
  have hN := Kx.refl bq (fun i => B2 ≤ i) (fun _ => False) w2
  revert a
  refine L7 (p := 7) rfl (CW.region (LW.A rfl (LW.nil ?_)))
  exact fun a ha => hk a _ hK hN ⟨hZ, v, hB2, hO, hW⟩ (ha.sub ⟨rfl, rfl, trivial⟩)
 ·rw [← hbq]
  intro lp pre x a' w3 hs hx hlt
  obtain ⟨hZ, v, hB2, hO, hW⟩ := hs
  have ha := hx
  have zq := hZ.le
  have hK := Kf.refl bq w3
  have hN := Kx.refl bq (fun i => B2 ≤ i) (fun _ => False) w3
  refine (show CW (some lp) 8 _ 13 [] _ (ownPostG bq (Kx bq (fun i => B2 ≤ i) (fun _ => False)) _ _ (pre ++ [x]) w3) ([(5, .eq (vi x)), (2, .eq (.pointer (some ⟨B2, 0, none⟩)))]) w3 from ?_) a' ha
  refine CW.block (CW.region (LW.pp (.ld isAgg30 rfl (hB2.Ai rfl)) (LW.M rfl (Ah (.buildSlice (xs := [x]) (enc := Aq) (mk := vi) underlying30 sizeOf3 zeroValue3 rfl cQ (fun _ => rfl) (fun _ => rfl) (.cons (.t rfl) .nil) rfl) rfl ?_))))
  rintro _ w4 ⟨B10, cB10, rfl, NB10, yB10, xB10⟩
  have eB10 := NB10.at_
  have zB10 := NB10.size
  replace hZ := hZ.up NB10.up
  replace hB2 := hB2.up NB10.up
  replace hO := hO.up NB10.up
  replace hW := hW.up NB10.up
  replace hK := hK.up NB10.up
  replace hN := hN.up NB10.up
  have hB10 := NB10.blk
  have hE10 := xB10
  refine Ah (.append (enc := Aq) (base := B2 + 1) (bytes := 8) (i := Tryz.t3) underlying30 kQ rfl rfl rfl rfl cQ (fun _ => rfl) Ev (.t rfl) (.t rfl) hO (Ak hE10) (by simp) (by simp [maxLen]; omega) (by simp; omega) oQ) rfl ?_
  rintro v11 w5 ⟨Ow5, Gw5⟩
  replace hZ := hZ.gr Gw5 rfl
  replace hB2 := hB2.gr Gw5 oQ
  replace hW := hW.gr Gw5 oQ
  replace hK := hK.gr Gw5
  replace hN := hN.gr Gw5 (fun i hi => by exact .inl (by show _ ≤ _; omega))
  replace hO := Ow5
  refine LW.E (.store sizeOf30 (.t rfl) (.t rfl) hO.one hB2 (by simp)) ?_
  intro w6 Nw6
  replace hZ := hZ.sto Nw6.sto oQ
  replace hO := hO.sto Nw6.sto oQ
  replace hW := hW.sto Nw6.sto oQ
  replace hK := hK.sto Nw6.sto (.inr (.inr ⟨_, _, hB2⟩))
  replace hN := hN.AO Nw6.sto (⟨_, _, hB2⟩) (by exact .inl (by show _ ≤ _; omega))
  replace hB2 := Nw6.blk
  replace hB2 : Blk w6 B2 #[v11] _ := hB2
  refine LW.nil (KW.inBlock ?_)
  exact fun a ha => ⟨hK, hN, hZ, _, hB2, hO, hW⟩
 ·intro D ys w7 hDb hS hs hD
  rw [← hbq] at hDb
  obtain ⟨hZ, v, hB2, hO, hW⟩ := hs
  replace hD : Ob w7 D (.deferred (some [])) := hD
  refine KW.inBlock (KW.then (CW.S (LW.pp (.ld isAgg30 rfl (hB2.Ai rfl)) (LW.A rfl (LW.T (CW.ret (Od hD rfl ?_)))))))
  replace hZ := hZ.ko (Ko.putObj (.deferred none) hD rfl hDb)
  replace hB2 := hB2.ko (Ko.putObj (.deferred none) hD rfl hDb)
  replace hO := hO.ko (Ko.putObj (.deferred none) hD rfl hDb)
  replace hW := hW.putObj (D := D) (.deferred none) oQ
  refine Ae rfl rfl ⟨_, rfl, ?_⟩
  exact ⟨ys, hS, hO.mono oQ, hW⟩
 intro D c pre w8 hDb hpre hs hD
 rw [← hbq] at hDb
 obtain ⟨hZ, hF⟩ := hs
 replace hD : Ob w8 D (.deferred (some [])) := hD
 exact hF.elim
theorem mA (base e : Nat) (v : Value) (ks : List Int) (w : World) (h : OwnS w base e 1 Aq v ks) (hlen : ks.length < 4611686018427387904) : Ret Tryz.prog 38 #[v] w fun r w' => r = .tuple #[] ∧ OwnS w' base e 1 Aq v (ks.mergeSort fun x y => decide (x ≤ y)) ∧ Grew base w w' := by
 have h0 := h
 obtain ⟨h1, ⟨rfl, hn⟩ | ⟨g, cap, cur, rfl, hg, hb, h2, h3, h4, h5⟩⟩ := h
 · have hks : ks = [] := List.eq_nil_of_length_eq_zero hn
   subst hks
   refine Calls.mono (Tryz.slices_Sort_int_none none 0 w) ?_
   rintro e' w' ⟨rfl, rfl⟩
   exact ⟨_, rfl, rfl, by simpa using h0, ⟨rfl, rfl, rfl, Nat.le_refl _, fun _ _ _ => rfl, fun _ _ h _ => h⟩⟩
 rw [Nr] at h5
 have hl : g < w.heap.size := lt_of_block hb
 refine Calls.mono (Tryz.slices_Sort_int g 0 cap ks w (holds_of_blockI hb (by simpa using h5)) hl hlen) ?_
 rintro e' w' ⟨rfl, n, os, rfl⟩
 have hg2 := Go.grownBy_sortedI (w := w) (g := g) (n := n) (os := os) (ks.mergeSort fun x y => decide (x ≤ y)).toArray
 have ho := Go.ownsRow_sortedI (w := w) (n := n) (os := os) (ss := ks) (ts := ks.mergeSort fun x y => decide (x ≤ y)) (by simp) hg hb h2 h3 h4
 refine ⟨_, rfl, rfl, ?_, ⟨hg2.os, hg2.tape, hg2.output, hg2.size, fun i hi hi2 => hg2.block i hi (fun e => by cases e; omega), fun i o hi ho => (hg2.block i (lt_of_block hi) (fun e => by cases e; rw [hb] at hi; cases hi; cases ho)).trans hi⟩⟩
 show World.ownsRow _ _ _ _ _ _ _
 rw [Nr, List.length_mergeSort]
 exact ho
theorem Xy (g : Nat) (lb : Array Go.Value) (S Sp : List Int → Prop) (N : Nat) (w : World) (en : ∀ args w, (callFunc g args).run Tryz.prog w = .ok (.enter g args) w) (hit : ∀ W (X : Nat → Prop), Up w W → (∀ i, X i → w.heap.size ≤ i) → IterS Tryz.prog g lb Aq X (fun _ => False) S Sp N W) (hN0 : N ≤ 1000000000) : Ret Tryz.prog 110 #[.func (.func g) #[] lb] w fun r w' => ∃ ks, S ks ∧ OwnS w' w.heap.size 3 1 Aq r ks ∧ Up w w' := by
 have hW := Up.refl w
 refine cS (n := 5) (m := 9) func110 rfl rfl rfl (CW.S (LW.C (LW.S (CW.region (LW.M rfl (LW.K (eC (.cons (.const _) (.cons (.t rfl) .nil)) (yA)) rfl (Sy _ _ _ _ _ _ en hit hN0) ?_))))))
 rintro _ w1 ⟨ks, hS, hO, uw1⟩
 replace hW := hW.up uw1
 refine LW.A rfl (LW.T (CW.ret (Ae rfl rfl ⟨_, rfl, ?_⟩)))
 exact ⟨ks, hS, hO, hW⟩
theorem Jv (g : Nat) (lb : Array Go.Value) (S Sp : List Int → Prop) (N : Nat) (w : World) (en : ∀ args w, (callFunc g args).run Tryz.prog w = .ok (.enter g args) w) (hit : ∀ W (X : Nat → Prop), Up w W → (∀ i, X i → w.heap.size ≤ i) → IterS Tryz.prog g lb Aq X (fun _ => False) S Sp N W) (hN0 : N ≤ 1000000000) (hS0 : ∀ ks, S ks → ks.length ≤ 1000000000) : Ret Tryz.prog 53 #[.func (.func g) #[] lb] w fun r w' => ∃ ks, S ks ∧ OwnS w' w.heap.size 3 1 Aq r (ks.mergeSort fun x y => decide (x ≤ y)) ∧ Up w w' := by
 have hW := Up.refl w
 refine cS (n := 9) (m := 9) func53 rfl rfl rfl (CW.S (LW.C (LW.S (CW.region (LW.M rfl (LW.K (eC (.o rfl) (wW)) rfl (Xy _ _ _ _ _ _ en hit hN0) ?_))))))
 rintro v w1 ⟨ks, hS, hO, uw1⟩
 replace hW := hW.up uw1
 refine LW.A rfl (LW.S (CW.region (LW.M rfl (LW.K (eC (.o rfl) (sZ)) rfl (mA _ _ _ _ _ hO (by have := hS0 ks hS; omega)) ?_))))
 rintro _ w2 ⟨rfl, hO2, uw2⟩
 replace hW := hW.gr uw2 oQ
 replace hO := hO2
 refine LW.S (CW.region (LW.M rfl (LW.A rfl (LW.T (CW.ret (Ae rfl rfl ⟨_, rfl, ?_⟩))))))
 exact ⟨ks, hS, hO, hW⟩
end Hs
theorem aJ (n : Int) (v : Go.Value) (w : World) : Ret Tryz.prog 92 #[vi n, v] w fun r w' => r = .bool (!Cu n) ∧ Up w w' := by
 have hW := Up.refl w
 refine cS (n := 8) (m := 9) func92 rfl rfl rfl (CW.S (LW.C (LW.S (CW.region (LW.M rfl (LW.K (eC (.o rfl) (fB)) rfl (Jh _ _) ?_))))))
 rintro _ w1 ⟨rfl, uw1⟩
 replace hW := hW.up uw1
 refine LW.pp (.not (.t rfl)) (LW.A rfl (LW.T (CW.ret (Ae rfl rfl ⟨_, rfl, ?_⟩))))
 exact ⟨rfl, hW⟩
theorem mB (b : Nat) (ks : List Int) (w : World) (hM : IMap w b (ks.map Fb)) : Ret Tryz.prog 91 #[.map (some b), .func (.func 92) #[] #[]] w fun r w' => r = .tuple #[] ∧ Stp (Cf b (ks.map Fb)) (Cf b ((ks.filter Cu).map Fb)) w w' := by
 obtain ⟨w0, rfl⟩ : ∃ w0, w0 = w := ⟨_, rfl⟩
 have hS : Wx.Sep (Cf b (ks.map Fb)).foot w0 w0 [Cf b (ks.map Fb)] := Sep.cons (A := Cf b (ks.map Fb)) hM (fun _ h => h) (Sep.start _ _) (by simp)
 refine cS (n := 19) (m := 9) func91 rfl rfl rfl (CW.S (LW.M rfl (Ah (.range underlying87 (.t rfl) (hS.get 0 rfl)) rfl ?_)))
 rintro _ w1 ⟨r7, rfl, hR_, uR, eR, zR⟩
 replace hS := hS.Dh 0 rfl (Gq hR_ uR eR)
 refine LW.T (CW.block (Am (σ := List Int) (fun s w => (s.Nodup ∧ ∀ k ∈ s, k ∈ ks) ∧ (Wx.Sep (Cf b (ks.map Fb)).foot w0 w [Fq b r7 ((Pw ks s).map Fb) (s.filter Cu)])) (fun s => []) ([(0, .eq _), (1, .eq _), (7, .eq _)]) (fun s => ks.length - s.length) [] ?_ ⟨rfl, rfl, rfl, trivial⟩ ?_))
 ·exact ⟨⟨List.nodup_nil, fun _ h => by cases h⟩, by rw [lX]; exact hS⟩
 rintro V w2 ⟨hV, hS⟩
 refine CW.S (Ah (.next (.t rfl) (hS.get 0 rfl)) rfl ?_)
 rintro _ w3 (⟨rfl, rfl, hPm⟩ | ⟨k0, u0, rfl, hNx⟩)
 ·skip
  refine LW.pp (.extract (.t rfl) rfl) (LW.S (CW.cond_false (.t rfl) (CW.exit (Aa (Aa (Ad (Dl rfl ⟨_, rfl, ?_⟩)))))))
  rw [lZ hPm] at hS
  have hS2 := hS.Dh 0 rfl (aH (hS.get 0 rfl))
  exact ⟨rfl, hS2.fr, hS2.get 0 rfl, fun _ h => .inl h⟩
 skip
 have zw3 := hNx.size
 replace hS := hS.Dh 0 rfl (H9 hNx)
 obtain ⟨hk0c, hu0⟩ := gS hNx.mem
 subst hu0
 obtain ⟨hk0V, hk0k⟩ := aI hk0c hNx.fresh
 have hV2 : (V ++ [k0]).Nodup ∧ ∀ k ∈ V ++ [k0], k ∈ ks := ⟨List.nodup_append.2 ⟨hV.1, by simp, fun a ha c hc => by simp at hc; subst hc; exact fun e => hk0V (e ▸ ha)⟩, fun k hk => (List.mem_append.1 hk).elim (hV.2 k) (fun h => by cases List.mem_singleton.1 h; exact hk0k)⟩
 have hVl := hV2.1.length_le_of_subset hV2.2
 rw [List.length_append, List.length_singleton] at hVl
 refine LW.pp (.extract (.t rfl) rfl) (LW.S (CW.cond_true (.t rfl) (CW.skip (KW.then (CW.block (CW.S (Ah (.entry (.t rfl) hNx.entry) rfl ?_)))))))
 rintro _ _ ⟨rfl, rfl⟩
 refine LW.pp (.extract (.t rfl) rfl) (LW.pp (.extract (.t rfl) rfl) (LW.A rfl (LW.A rfl (LW.S (CW.region (LW.M rfl (LW.M rfl (LW.M rfl (LW.K (C0 (.t rfl) (.cons (.t rfl) (.cons (.t rfl) .nil)) (CN)) rfl (aJ _ _ _) ?_)))))))))
 rintro _ w4 ⟨rfl, uw4⟩
 replace hS := hS.up uw4
 refine LW.T (CW.cond (.t rfl) (fun h16 => ?_) (fun h16 => ?_))
 ·have hid : Cu k0 = false := by simpa using h16
  refine CW.region (LW.M rfl (LW.M rfl (sJ (Xw underlying87 underlying3 (.t rfl) (.t rfl) (hS.get 0 rfl)) rfl rfl rfl ?_)))
  rintro _ w5 ⟨hR2, Kd, zd⟩
  replace hS := hS.Dh 0 rfl (qY hR2 Kd)
  refine LW.nil (KW.inBlock (KW.round ?_))
  exact ⟨V ++ [k0], ⟨hV2, by (rw [qZ ks V hid, Va V hid]; exact hS)⟩, ⟨rfl, rfl, rfl, trivial⟩, by rw [List.length_append, List.length_singleton]; omega⟩
 have hid : Cu k0 = true := by simpa using h16
 refine CW.skip (KW.inBlock (KW.round ?_))
 exact ⟨V ++ [k0], ⟨hV2, by (rw [lY ks V hid, Sx V hid]; exact hS)⟩, ⟨rfl, rfl, rfl, trivial⟩, by rw [List.length_append, List.length_singleton]; omega⟩
theorem aK (bc : Array Go.Value) (bs : Base) (w : World) (hC : BaseC w bc bs) (hs : bs.Swaps.length ≤ 1000000000) (hsum : bs.Lots.length + bs.Processes.length ≤ 1000000000) : Ret Tryz.prog 37 #[.agg bc] w fun r w' => OwnS w' w.heap.size 3 1 Aq r (Bq bs.Lots bs.Processes bs.Swaps) ∧ Up w w' := by
 obtain ⟨w0, rfl⟩ : ∃ w0, w0 = w := ⟨_, rfl⟩
 have hS := Sep.start no w0
 refine cS (n := 40) (m := 9) func37 rfl rfl rfl (CW.S (Ah (.C7 (.t rfl)) rfl ?_))
 rintro _ w1 ⟨B1, rfl, NB1⟩
 replace hS := hS.Cj NB1
 refine LW.C (LW.S (CW.region (LW.r REv.makeMap rfl rfl rfl rfl ?_)))
 rintro _ w2 ⟨M8, rfl, hMM8, uw2, eM8, zw2⟩
 replace hS := hS.add uw2 (A' := Cf M8 (([] : List Int).map Fb)) hMM8 (fun i (h : i = M8) => by omega)
 refine LW.A rfl (LW.S (CW.seq ?_))
 obtain ⟨v3, h3, ad, cp, rfl, hE0⟩ := hC.vU
 refine CW.region (LW.pp (.fA 3 underlying38 rfl sizeOf23 rfl) (LW.pp (.ld isAgg23 rfl ((hS.blk 0 rfl).cell h3)) (LW.pp (.Ci underlying23 (.t rfl)) (LW.pp (.move (.const _)) (LW.T (CW.block (Am (σ := Nat) (fun s w => (s ≤ bs.Lots.length) ∧ (Wx.Sep no w0 w [Ck B1 bc 38, Cf M8 ((Kz (bs.Lots.take s)).map Fb)])) (fun s => [(12, .eq (vi (s : Int)))]) ([(1, .eq _), (2, .eq _), (3, .eq _), (10, .eq _), (11, .eq _)]) (fun s => bs.Lots.length - s) 0 ?_ ⟨rfl, rfl, rfl, rfl, rfl, rfl, trivial⟩ ?_)))))))
 ·exact ⟨Nat.zero_le _, hS⟩
 rintro k w3 ⟨hk, hS⟩
 refine CW.S (LW.pp (.lss (.t rfl) (.t rfl)) (LW.S (CW.cond (.t rfl) (fun h13 => ?_) (fun h13 => ?_))))
 ·replace h13 := dQ h13
  refine CW.skip (KW.then (CW.seq (CW.block (CW.seq ?_))))
  have hE := Els.up hE0 hS.Ce
  refine CW.region ?_
  obtain ⟨x, hx⟩ := Ac (xs := bs.Lots) (i := k) oQ
  obtain ⟨Bx, ox, ax, hcx⟩ := hE _ x hx
  refine LW.pp (.Aj underlying23 sizeOf36 (.t rfl) (.t rfl) oQ ax) (LW.pp (.la isAgg36 sizeOf36 rfl (hcx)) (Ah (.Az zeroValue36) rfl ?_))
  rintro _ w4 ⟨B5, rfl, MB5⟩
  refine LW.E (.Ay sizeOf36 rfl (.t rfl) (.t rfl) (Fact.one _) MB5.blk rfl) ?_
  intro w5 LB5
  have NB5 := MB5.set LB5
  replace hcx := hcx.up NB5.up
  replace hS := hS.Cj NB5
  refine LW.T (CW.region (LW.M rfl (LW.pp (.fA 7 underlying36 rfl sizeOf3 rfl) (LW.pp (.ld isAgg3 rfl ((hS.blk 2 rfl).Ai rfl)) (LW.E (.mapUpdate underlying87 underlying3 (.t rfl) (.t rfl) (.const _) (hS.get 1 rfl)) ?_)))))
  rintro w6 ⟨Mu, Ku, zu⟩
  rw [Ro] at Mu
  replace hS := hS.Dh 1 rfl (Jy Mu Ku)
  refine LW.nil (KW.inBlock (KW.then (CW.region (LW.pp (.inc (.t rfl) oQ) (LW.M rfl (LW.nil (KW.round ?_)))))))
  exact ⟨k + 1, ⟨by omega, by rw [Ot hx]; exact hS.take 2⟩, ⟨rfl, rfl, rfl, rfl, rfl, rfl, trivial⟩, by omega⟩
 replace h13 := dQ h13
 refine CW.exit (Aa (Aa (Ad (KW.then (CW.seq (CW.seq ?_))))))
 obtain ⟨v0, h0, ad', cp', rfl, hE1⟩ := hC.DE
 have hkl : k = bs.Lots.length := by omega
 rw [hkl, List.take_length] at hS
 refine CW.region (LW.pp (.fA 0 underlying38 rfl sizeOf23 rfl) (LW.pp (.ld isAgg23 rfl ((hS.blk 0 rfl).cell h0)) (LW.pp (.Ci underlying23 (.t rfl)) (LW.pp (.move (.const _)) (LW.T (CW.block (Am (σ := Nat) (fun s w => (s ≤ bs.Processes.length) ∧ (Wx.Sep no w0 w [Ck B1 bc 38, Cf M8 ((Sw bs.Swaps (Kz bs.Lots) (bs.Processes.take s)).map Fb)])) (fun s => [(23, .eq (vi (s : Int)))]) ([(1, .eq _), (2, .eq _), (3, .eq _), (21, .eq _), (22, .eq _)]) (fun s => bs.Processes.length - s) 0 ?_ ⟨rfl, rfl, rfl, rfl, rfl, rfl, trivial⟩ ?_)))))))
 ·exact ⟨Nat.zero_le _, hS⟩
 rintro j w7 ⟨hj, hS⟩
 refine CW.S (LW.pp (.lss (.t rfl) (.t rfl)) (LW.S (CW.cond (.t rfl) (fun h24 => ?_) (fun h24 => ?_))))
 ·replace h24 := dQ h24
  refine CW.skip (KW.then (CW.seq (CW.block (CW.seq ?_))))
  have hE := Els.up hE1 hS.Ce
  refine CW.region ?_
  obtain ⟨x, hx⟩ := Ac (xs := bs.Processes) (i := j) oQ
  obtain ⟨Bx, ox, ax, hcx⟩ := hE _ x hx
  refine LW.pp (.Aj underlying23 sizeOf36 (.t rfl) (.t rfl) oQ ax) (LW.pp (.la isAgg36 sizeOf36 rfl (hcx)) (Ah (.Az zeroValue36) rfl ?_))
  rintro _ w8 ⟨B7, rfl, MB7⟩
  refine LW.E (.Ay sizeOf36 rfl (.t rfl) (.t rfl) (Fact.one _) MB7.blk rfl) ?_
  intro w9 LB7
  have NB7 := MB7.set LB7
  replace hcx := hcx.up NB7.up
  replace hS := hS.Cj NB7
  refine LW.T (CW.region (LW.M rfl (LW.pp (.Ee isAgg38 sizeOf38 (hC.size) (.t rfl) ((hS.blk 0 rfl).agg)) (LW.pp (.fA 7 underlying36 rfl sizeOf3 rfl) (LW.pp (.ld isAgg3 rfl ((hS.blk 2 rfl).Ai rfl)) (LW.pp (.fA 5 underlying36 rfl sizeOf3 rfl) (LW.pp (.ld isAgg3 rfl ((hS.blk 2 rfl).Ai rfl)) (LW.K (eC (.cons (.t rfl) (.cons (.t rfl) (.cons (.t rfl) .nil))) (wB)) rfl (dJ bc bs _ _ _ (hC.up hS.Ce) hs) ?_))))))))
  rintro _ w10 ⟨rfl, uw10⟩
  replace hS := hS.up uw10
  refine LW.E (.mapUpdate underlying87 underlying3 (.t rfl) (.t rfl) (.const _) (hS.get 1 rfl)) ?_
  rintro w11 ⟨Mu, Ku, zu⟩
  rw [Ro] at Mu
  replace hS := hS.Dh 1 rfl (Jy Mu Ku)
  refine LW.nil (KW.inBlock (KW.then (CW.region (LW.pp (.inc (.t rfl) oQ) (LW.M rfl (LW.nil (KW.round ?_)))))))
  exact ⟨j + 1, ⟨by omega, by rw [Ou hx]; exact hS.take 2⟩, ⟨rfl, rfl, rfl, rfl, rfl, rfl, trivial⟩, by omega⟩
 replace h24 := dQ h24
 refine CW.exit (Aa (Aa (Ad (KW.then (CW.seq ?_)))))
 have hjl : j = bs.Processes.length := by omega
 rw [hjl, List.take_length] at hS
 have hml := Nat.le_trans (List.length_filter_le Cu _) (Nat.le_trans (Rp bs.Swaps (Kz bs.Lots) bs.Processes) (Nat.add_le_add_right (Ns bs.Lots) _))
 refine CW.region (LW.M rfl (LW.K (eC (.cons (.t rfl) (.cons (.func _) .nil)) (CM)) rfl (mB M8 _ _ (hS.get 1 rfl)) ?_))
 rintro _ w12 ⟨rfl, uw12⟩
 replace hS := hS.Dh 1 rfl uw12
 refine LW.S (CW.region (LW.M rfl (LW.K (eC (.o rfl) (CO)) rfl (Hs.J2 _ _) ?_)))
 rintro _ w13 ⟨⟨BK, rfl, hBK, zK⟩, uw13⟩
 replace hS := hS.up uw13
 have zBK := hBK.lt
 have zz := hS.Ce.size
 refine LW.K (eC (.o rfl) (wE)) rfl (Hs.Jv _ _ _ _ _ _ xW (fun W X u hX => Hs.Iz X _ BK M8 _ W (fun i h => h.elim) (fun h => by have := hX _ h; omega) (fun h => h.elim) (hBK.up u) (((hS.get 1 rfl : IMap _ _ _)).up u)) (by rw [List.length_map]; omega) (fun ks h => by have := h.length_eq; rw [J1] at this; omega)) ?_
 rintro v w14 ⟨ks, hP, hO, uw14⟩
 have zw14 := uw14.size
 replace hS := hS.up uw14
 replace hBK := hBK.up uw14
 rw [J1] at hP
 rw [Gr hP] at hO
 replace hO := hO.mono (show w0.heap.size ≤ _ by omega)
 refine LW.A rfl (LW.T (CW.ret (Ae rfl rfl ⟨_, rfl, ?_⟩)))
 exact ⟨hO, hS.Ce⟩
end Go.Proofs.YtmimclgihlhaeaaGreat
end
section
namespace Go.Wx
theorem dK {l : List Fact} {d : Int} {j : Nat} (hj : j < 11) {x : Fact} : x ∈ Xm (Ri l d) j ↔ vO l d x ∧ x.Gone = false ∧ x.Kind = ((j + 1 : Nat) : Int) := by
 rw [dC l d hj]
 unfold Dw
 rw [if_pos (List.mem_singleton.2 rfl), (E8 _).same.mem, List.mem_filter, lR]
 simp
theorem gT (l : List Fact) (d : Int) {j : Nat} (hj : j < 11) : (Xm (Ri l d) j).Nodup := by
 rw [dC l d hj]
 unfold Dw
 rw [if_pos (List.mem_singleton.2 rfl)]
 exact ((E8 _).same.perm.nodup_iff).2 ((U6 l d).filter _)
theorem gU {α : Type} {key : α → K2} {A B : List α} (hA : Ii key A) (hB : Ii key B) (hp : A.Perm B) (hd : ∀ x ∈ A, ∀ y ∈ A, key x = key y → x = y) : A = B := by
 rw [(StS.refl hA).eq, (StS.refl hB).eq]
 exact Rf hp hd
end Go.Wx
namespace Go.Proofs.YtmimclgihlhaeaaGreat
open Go.Proofs.Tryz
open Go.Wx Go.RowKit
end Go.Proofs.YtmimclgihlhaeaaGreat
end
section
namespace Go.Wx
def CondOk (P : Program) (w : World) (v : Value) (p : Fact → Bool) : Prop := ∃ cf lb, v = .func (.func cf) #[] lb ∧ (∀ args w, (callFunc cf args).run P w = .ok (.enter cf args) w) ∧ ∀ W, Up w W → ∀ x : Fact, Ret P cf (#[.agg x.cells] ++ lb) W fun r W' => r = .bool (p x) ∧ Up W W'
theorem CondOk.up {P : Program} {w w' : World} {v : Value} {p : Fact → Bool} (h : CondOk P w v p) (u : Up w w') : CondOk P w' v p :=
 let ⟨cf, lb, e, he, hp⟩ := h
 ⟨cf, lb, e, he, fun W k => hp W (u.trans k)⟩
structure Cnd where
 cf : Nat
 lb : Array Value
 p : Fact → Bool
def Cnd.v (q : Cnd) : Value := .func (.func q.cf) #[] q.lb
def Cnd.cells (q : Cnd) : Array Value := #[q.v]
def mC (P : Program) (w : World) (qs : List Cnd) : Prop := ∀ q ∈ qs, CondOk P w q.v q.p
theorem gV {qs : List Cnd} {k : Nat} {q : Cnd} {g : Cnd → Bool} (h : qs[k]? = some q) (hk : ∀ y ∈ qs.take k, g y = false) (hx : g q = false) : ∀ y ∈ qs.take (k + 1), g y = false := fun y hy => by
 rw [List.take_add_one, h] at hy
 rcases List.mem_append.1 hy with hy | hy
 · exact hk y hy
 cases List.mem_singleton.1 hy; exact hx
theorem uN {qs : List Cnd} {k : Nat} {q : Cnd} {g : Cnd → Bool} (h : qs[k]? = some q) (hx : g q = true) : qs.any g = true := List.any_eq_true.2 ⟨q, List.mem_of_getElem? h, hx⟩
theorem any_none {qs : List Cnd} {g : Cnd → Bool} (h : ∀ y ∈ qs, g y = false) : qs.any g = false := List.any_eq_false.2 fun y hy => by rw [h y hy]; exact Bool.false_ne_true
structure Exc where
 tool : Int
 chamber : Int
 frm : Int
 to : Int
 err : Int
def Exc.cells (x : Exc) : Array Value := #[vi x.tool, vi x.chamber, vi x.frm, vi x.to, vi x.err]
theorem Exc.one (x : Exc) : x.cells.all (·.oneCell') = true := by simp [Exc.cells, show ∀ i : Int, (vi i).oneCell' = true from fun _ => rfl]
def uO (n high : Int) : Bool := decide (0 ≤ n) && decide (n ≤ high)
def Hi (x : Exc) : Bool := uO x.tool 59 && uO x.chamber 3 && uO x.frm x.to && decide (x.to ≤ 1000000) && uO x.err 10000
theorem Ll (x : Exc) : Hi x = true ↔ (0 ≤ x.tool ∧ x.tool ≤ 59) ∧ (0 ≤ x.chamber ∧ x.chamber ≤ 3) ∧ (0 ≤ x.frm ∧ x.frm ≤ x.to) ∧ x.to ≤ 1000000 ∧ 0 ≤ x.err ∧ x.err ≤ 10000 := by
 unfold Hi uO
 simp only [Bool.and_eq_true, decide_eq_true_eq]
 constructor
 · rintro ⟨⟨⟨⟨h1, h2⟩, h3⟩, h4⟩, h5⟩
   exact ⟨h1, h2, h3, h4, h5⟩
 rintro ⟨h1, h2, h3, h4, h5⟩
 exact ⟨⟨⟨⟨h1, h2⟩, h3⟩, h4⟩, h5⟩
def Vu (f t l : Int) (p : Fact) : Bool := decide (p.Time - l ≤ t) && decide (f ≤ p.Until + l)
def jC (f t l : Int) (p : Fact) : Bool := decide (IntKind.i64.wrap (p.Time - l) ≤ t) && decide (f ≤ IntKind.i64.wrap (p.Until + l))
def Hf (p : Fact) : Prop := -1000000000 ≤ p.Time ∧ p.Time ≤ 1000000000 ∧ -1000000000 ≤ p.Until ∧ p.Until ≤ 1000000000
theorem Xz {f t l : Int} {p : Fact} (hp : Hf p) (hl : -10000 ≤ l ∧ l ≤ 10000) : jC f t l p = Vu f t l p := by
 unfold Hf at hp
 unfold jC Vu
 rw [Dt oQ oQ, Dt oQ (by omega)]
def Dj (x : Exc) (p : Fact) : Bool := decide (x.tool = p.Tool) && decide (x.chamber = p.Chamber)
def Dk (x : Exc) (p : Fact) : Bool := Vu x.frm x.to (-x.err) p
def Ir (l : List Fact) (x : Exc) : List Fact := l.filter (Dj x)
def Ov (gs : List Fact) (x : Exc) (p : Fact) : Bool := Dk x p || (Vu x.frm x.to x.err p || (Ir gs x).any fun g => Vu g.Time g.Until x.err p)
def Gt (L : List (Int × Bool)) (id : Int) (s : Bool) : List (Int × Bool) := if id ∈ L.map (·.1) then L.map (fun q => if q.1 = id then (id, q.2 || s) else q) else L ++ [(id, s)]
theorem gW (L : List (Int × Bool)) (id : Int) (s : Bool) (v : Int) : v ∈ (Gt L id s).map (·.1) ↔ v ∈ L.map (·.1) ∨ v = id := by
 unfold Gt
 split
 · rename_i h
   have e : (L.map fun q => if q.1 = id then (id, q.2 || s) else q).map (·.1) = L.map (·.1) := by
     rw [List.map_map]
     refine List.map_congr_left fun q _ => ?_
     show (if q.1 = id then (id, q.2 || s) else q).1 = q.1
     split
     · rename_i e; exact e.symm
     rfl
   rw [e]
   exact ⟨.inl, fun e => e.elim _root_.id fun e => e ▸ h⟩
 rw [List.map_append, List.mem_append]; simp
theorem Mt {L : List (Int × Bool)} (h : (L.map (·.1)).Nodup) (id : Int) (s : Bool) : ((Gt L id s).map (·.1)).Nodup := by
 unfold Gt
 split
 · have e : (L.map fun q => if q.1 = id then (id, q.2 || s) else q).map (·.1) = L.map (·.1) := by
     rw [List.map_map]
     refine List.map_congr_left fun q _ => ?_
     show (if q.1 = id then (id, q.2 || s) else q).1 = q.1
     split
     · rename_i e; exact e.symm
     rfl
   rw [e]; exact h
 rename_i hn
 rw [List.map_append]
 exact List.nodup_append.2 ⟨h, by simp, fun a ha c hc => by simp at hc; subst hc; exact fun e => hn (e ▸ ha)⟩
def K0 (L : List (Int × Bool)) (id : Int) : Bool := L.any fun q => decide (q.1 = id) && q.2
structure Vd where
 w : Int
 t : Int
 why : List Int
def Cn (V : List (Int × Bool)) : Int × List Int := if V.any (·.2) then (2, (V.filter (·.2)).map (·.1)) else if V = [] then (0, []) else (1, V.map (·.1))
theorem aL {V : List (Int × Bool)} {id : Int} (h : (Cn V).1 ≠ 2) : Cn (V ++ [(id, true)]) = (2, [id]) := by
 have hn : V.any (·.2) = false := by
   cases e : V.any (·.2) with
   | false => rfl
   | true => unfold Cn at h; rw [if_pos e] at h; exact absurd rfl h
 have hf : V.filter (·.2) = [] := List.filter_eq_nil_iff.2 fun q hq e => by rw [List.any_eq_false] at hn; exact hn q hq e
 unfold Cn
 rw [List.any_append, if_pos (by simp), List.filter_append, hf]
 rfl
theorem aM {V : List (Int × Bool)} {id : Int} (h : (Cn V).1 = 2) : Cn (V ++ [(id, true)]) = (2, (Cn V).2 ++ [id]) := by
 have hn : V.any (·.2) = true := by
   cases e : V.any (·.2) with
   | true => rfl
   | false =>
     unfold Cn at h; rw [if_neg (by rw [e]; exact Bool.false_ne_true)] at h
     split at h <;> cases h
 unfold Cn
 rw [List.any_append, if_pos (by simp), if_pos hn, List.filter_append, List.map_append]
 rfl
theorem aN {V : List (Int × Bool)} {id : Int} (h : (Cn V).1 = 2) : Cn (V ++ [(id, false)]) = Cn V := by
 have hn : V.any (·.2) = true := by
   cases e : V.any (·.2) with
   | true => rfl
   | false =>
     unfold Cn at h; rw [if_neg (by rw [e]; exact Bool.false_ne_true)] at h
     split at h <;> cases h
 unfold Cn
 rw [List.any_append, if_pos (by rw [hn]; rfl), if_pos hn, List.filter_append]
 simp
theorem aO {V : List (Int × Bool)} {id : Int} (h : (Cn V).1 ≠ 2) : Cn (V ++ [(id, false)]) = (1, (Cn V).2 ++ [id]) := by
 have hn : V.any (·.2) = false := by
   cases e : V.any (·.2) with
   | false => rfl
   | true => unfold Cn at h; rw [if_pos e] at h; exact absurd rfl h
 unfold Cn
 rw [List.any_append, if_neg (by rw [hn]; exact Bool.false_ne_true), if_neg (by simp), if_neg (by rw [hn]; exact Bool.false_ne_true), List.map_append]
 split
 · rename_i e; rw [e]; rfl
 rfl
theorem Tw {V L : List (Int × Bool)} (h : V.Perm L) : (Cn V).1 = (Cn L).1 ∧ (Cn V).2.Perm (Cn L).2 := by
 have e1 : V.any (·.2) = L.any (·.2) := by
   rw [Bool.eq_iff_iff, List.any_eq_true, List.any_eq_true]
   exact ⟨fun ⟨q, hq, e⟩ => ⟨q, h.subset hq, e⟩, fun ⟨q, hq, e⟩ => ⟨q, h.symm.subset hq, e⟩⟩
 unfold Cn
 rw [e1]
 split
 · exact ⟨rfl, (h.filter _).map _⟩
 by_cases e : L = []
 · subst e; rw [h.eq_nil]; exact ⟨rfl, .refl _⟩
 rw [if_neg e, if_neg fun e2 => e (by subst e2; exact h.symm.eq_nil)]
 exact ⟨rfl, h.map _⟩
end Go.Wx
namespace Go.Proofs.YtmimclgihlhaeaaGreat
open Go.Proofs.Tryz
open Go.Wx Go.RowKit
theorem J3 (a h : Int) (w : World) : Ret Tryz.prog 44 #[vi a, vi h] w fun r w' => r = .bool (uO a h) ∧ Up w w' := by
 have hW := Up.refl w
 refine cS (n := 12) (m := 9) func44 rfl rfl rfl (CW.S (LW.C (LW.S (CW.region (LW.M rfl (LW.pp (.geq (.t rfl) (.const _)) (LW.M rfl (LW.g rfl rfl rfl rfl rfl rfl rfl (fun hc => PEv.move (.t rfl)) (LW.g rfl rfl rfl rfl rfl rfl rfl (fun hc => PEv.move (.t rfl)) (LW.g rfl rfl rfl rfl rfl rfl rfl (fun hc => PEv.leq vQ vQ) (LW.pp (.Ao (.t rfl) (fun hp => (by exact .cond rfl (by (rw [hp]; rfl))))) (LW.A rfl (LW.T (CW.ret (Ae rfl rfl ⟨_, rfl, ?_⟩)))))))))))))))
 exact ⟨by unfold uO; simp, hW⟩
theorem J4 (x : Exc) (w : World) : Ret Tryz.prog 18 #[.agg x.cells] w fun r w' => r = .bool (Hi x) ∧ Up w w' := by
 obtain ⟨w0, rfl⟩ : ∃ w0, w0 = w := ⟨_, rfl⟩
 have hS := Sep.start no w0
 refine cS (n := 33) (m := 9) func18 rfl rfl rfl (CW.S (Ah (.C7 (.t rfl)) rfl ?_))
 rintro _ w1 ⟨B1, rfl, NB1⟩
 replace hS := hS.Cj NB1
 refine LW.C (LW.S (CW.region (LW.pp (.assign (.func _)) (LW.S (CW.region (LW.M rfl (LW.pp (.fA 0 underlying25 rfl sizeOf3 rfl) (LW.pp (.ld isAgg3 rfl ((hS.blk 0 rfl).Ai rfl)) (LW.K (C0 (.t rfl) (.cons (.t rfl) (.cons (.const _) .nil)) (pC)) rfl (J3 x.tool 59 _) ?_)))))))))
 rintro _ w2 ⟨rfl, uw2⟩
 replace hS := hS.up uw2
 refine LW.M rfl (LW.g rfl rfl rfl rfl rfl rfl rfl (fun hc => PEv.move (.t rfl)) (LW.g rfl rfl rfl rfl rfl rfl rfl (fun hc => PEv.fA 1 underlying25 rfl sizeOf3 rfl) (LW.g rfl rfl rfl rfl rfl rfl rfl (fun hc => PEv.load isAgg3 vQ ((hS.blk 0 rfl).Ai rfl)) (LW.gc rfl rfl rfl rfl rfl rfl rfl rfl (fun hc => C0 vQ (.cons vQ (.cons (.const _) .nil)) (pC)) (fun hc => J3 x.chamber 3 _) ?_))))
 intro w3 uw3
 replace hS := hS.up uw3
 refine LW.pp (.Ao (.t rfl) (fun hp => (by exact .cond rfl (by (rw [hp]; rfl))))) (LW.M rfl (LW.g rfl rfl rfl rfl rfl rfl rfl (fun hc => PEv.move (.t rfl)) (LW.g rfl rfl rfl rfl rfl rfl rfl (fun hc => PEv.fA 2 underlying25 rfl sizeOf3 rfl) (LW.g rfl rfl rfl rfl rfl rfl rfl (fun hc => PEv.load isAgg3 vQ ((hS.blk 0 rfl).Ai rfl)) (LW.g rfl rfl rfl rfl rfl rfl rfl (fun hc => PEv.fA 3 underlying25 rfl sizeOf3 rfl) (LW.g rfl rfl rfl rfl rfl rfl rfl (fun hc => PEv.load isAgg3 vQ ((hS.blk 0 rfl).Ai rfl)) (LW.gc rfl rfl rfl rfl rfl rfl rfl rfl (fun hc => C0 vQ (.cons vQ (.cons vQ .nil)) (pC)) (fun hc => J3 x.frm x.to _) ?_)))))))
 intro w4 uw4
 replace hS := hS.up uw4
 refine LW.pp (.Ao (.t rfl) (fun hp => (by exact .cond rfl (by (rw [hp]; rfl))))) (LW.M rfl (LW.g rfl rfl rfl rfl rfl rfl rfl (fun hc => PEv.fA 3 underlying25 rfl sizeOf3 rfl) (LW.g rfl rfl rfl rfl rfl rfl rfl (fun hc => PEv.load isAgg3 vQ ((hS.blk 0 rfl).Ai rfl)) (LW.g rfl rfl rfl rfl rfl rfl rfl (fun hc => PEv.leq vQ (.const _)) (LW.pp (.Ao (.t rfl) (fun hp => (by exact .cond rfl (by (rw [hp]; rfl))))) (LW.M rfl (LW.g rfl rfl rfl rfl rfl rfl rfl (fun hc => PEv.move (.t rfl)) (LW.g rfl rfl rfl rfl rfl rfl rfl (fun hc => PEv.fA 4 underlying25 rfl sizeOf3 rfl) (LW.g rfl rfl rfl rfl rfl rfl rfl (fun hc => PEv.load isAgg3 vQ ((hS.blk 0 rfl).Ai rfl)) (LW.gc rfl rfl rfl rfl rfl rfl rfl rfl (fun hc => C0 vQ (.cons vQ (.cons (.const _) .nil)) (pC)) (fun hc => J3 x.err 10000 _) ?_))))))))))
 intro w5 uw5
 replace hS := hS.up uw5
 refine LW.pp (.Ao (.t rfl) (fun hp => (by exact .cond rfl (by (rw [hp]; rfl))))) (LW.A rfl (LW.T (CW.ret (Ae rfl rfl ⟨_, rfl, ?_⟩))))
 exact ⟨by unfold Hi; simp, hS.Ce⟩
theorem Mv (p : Fact) (f t l : Int) (Bl Bt Bf : Nat) (w : World) (hl : Blk w Bl #[vi l] 3) (ht : Blk w Bt #[vi t] 3) (hf : Blk w Bf #[vi f] 3) : Ret Tryz.prog 87 #[.agg p.cells, .pointer (some ⟨Bl, 0, none⟩), .pointer (some ⟨Bt, 0, none⟩), .pointer (some ⟨Bf, 0, none⟩)] w fun r0 w' => r0 = .bool (jC f t l p) ∧ Up w w' := by
 obtain ⟨w0, rfl⟩ : ∃ w0, w0 = w := ⟨_, rfl⟩
 have hS := Sep.start no w0
 refine cS (n := 20) (m := 9) func87 rfl rfl rfl (CW.S (Ah (.C7 (.t rfl)) rfl ?_))
 rintro _ w1 ⟨B4, rfl, NB4⟩
 replace hS := hS.Cj NB4
 refine LW.C (LW.S (CW.region (LW.pp (.fA 5 underlying36 rfl sizeOf3 rfl) (LW.pp (.ld isAgg3 rfl ((hS.blk 0 rfl).Ai rfl)) (LW.pp (.ld isAgg3 rfl ((hl.up hS.Ce).Ai rfl)) (LW.pp (.vR (.t rfl) (.t rfl)) (LW.pp (.ld isAgg3 rfl ((ht.up hS.Ce).Ai rfl)) (LW.pp (.leq (.t rfl) (.t rfl)) (LW.M rfl (LW.g rfl rfl rfl rfl rfl rfl rfl (fun hc => PEv.fA 6 underlying36 rfl sizeOf3 rfl) (LW.g rfl rfl rfl rfl rfl rfl rfl (fun hc => PEv.load isAgg3 vQ ((hS.blk 0 rfl).Ai rfl)) (LW.g rfl rfl rfl rfl rfl rfl rfl (fun hc => PEv.ld isAgg3 rfl ((hl.up hS.Ce).Ai rfl)) (LW.g rfl rfl rfl rfl rfl rfl rfl (fun hc => PEv.H2 vQ vQ) (LW.g rfl rfl rfl rfl rfl rfl rfl (fun hc => PEv.ld isAgg3 rfl ((hf.up hS.Ce).Ai rfl)) (LW.g rfl rfl rfl rfl rfl rfl rfl (fun hc => PEv.geq vQ vQ) (LW.pp (.Ao (.t rfl) (fun hp => (by exact .cond rfl (by (rw [hp]; rfl))))) (LW.A rfl (LW.T (CW.ret (Ae rfl rfl ⟨_, rfl, ?_⟩))))))))))))))))))))
 exact ⟨by unfold jC; simp, hS.Ce⟩
theorem gX (v : Go.Value) (p : Fact → Bool) (x : Fact) (B : Nat) (w : World) (hc : CondOk Tryz.prog w v p) (hB : Blk w B x.cells 36) : Ret Tryz.prog 90 #[v, .pointer (some ⟨B, 0, none⟩)] w fun r w' => r = .bool (p x) ∧ Up w w' := by
 have hW := Up.refl w
 obtain ⟨cf, lb, rfl, hen, hp⟩ := hc
 refine cS (n := 7) (m := 9) func90 rfl rfl rfl (CW.S (LW.C (LW.S (CW.region (LW.M rfl (LW.pp (.la isAgg36 sizeOf36 rfl (hB.agg)) (LW.K (Cq (.t rfl) (.cons (.t rfl) .nil) (hen)) rfl (hp _ hW x) ?_)))))))
 rintro _ w1 ⟨rfl, uw1⟩
 replace hB := hB.up uw1
 replace hW := hW.up uw1
 refine LW.A rfl (LW.T (CW.ret (Ae rfl rfl ⟨_, rfl, ?_⟩)))
 exact ⟨rfl, hW⟩
theorem aP (cf : Nat) (lb : Array Go.Value) (g : Cnd → Bool) (hen : ∀ args w, (callFunc cf args).run Tryz.prog w = .ok (.enter cf args) w) (ad : Option Addr) (cp : Nat) (l : List Cnd) (w : World) (hE0 : Els w ad 1 Cnd.cells l) (hl : l.length ≤ 100000) (hp : ∀ W, Up w W → ∀ q ∈ l, Ret Tryz.prog cf (#[q.v] ++ lb) W fun r W' => r = .bool (g q) ∧ Up W W') : Ret Tryz.prog 143 #[.slice ad l.length cp, .func (.func cf) #[] lb] w fun r w' => ∃ i, r = vi i ∧ decide (0 ≤ i) = l.any g ∧ Up w w' := by
 have hW := Up.refl w
 obtain ⟨w0, rfl⟩ : ∃ w0, w0 = w := ⟨_, rfl⟩
 refine cS (n := 19) (m := 9) func143 rfl rfl rfl (CW.S (LW.C (LW.S (CW.S (LW.M rfl (LW.pp (.Ci underlying84 (.t rfl)) (LW.pp (.move (.const _)) (LW.T (CW.block (Am (σ := Nat) (fun s w => (s ≤ l.length) ∧ (∀ y ∈ l.take s, g y = false) ∧ (Up w0 w)) (fun s => [(8, .eq (vi (s : Int)))]) ([(0, .eq _), (1, .eq _), (7, .eq _)]) (fun s => l.length - s) 0 ?_ ⟨rfl, rfl, rfl, rfl, trivial⟩ ?_))))))))))
 ·exact ⟨Nat.zero_le _, by simp, hW⟩
 rintro k w1 ⟨hk, hn, hW⟩
 refine CW.S (LW.pp (.lss (.t rfl) (.t rfl)) (LW.S (CW.cond (.t rfl) (fun h9 => ?_) (fun h9 => ?_))))
 ·replace h9 := dQ h9
  refine CW.skip (KW.then (CW.seq (CW.block (CW.S (LW.M rfl (LW.A rfl (LW.S ?_)))))))
  have hE := Els.up hE0 hW
  refine CW.region (LW.M rfl (LW.M rfl (LW.M rfl ?_)))
  obtain ⟨x, hx⟩ := Ac (xs := l) (i := k) oQ
  obtain ⟨Bx, ox, ax, hcx⟩ := hE _ x hx
  refine LW.pp (.Aj underlying84 sizeOf82 (.t rfl) (.t rfl) oQ ax) (LW.pp (.ld isAgg82 rfl ((hcx 0 _ rfl))) (LW.K (Cq (.t rfl) (.cons (.t rfl) .nil) (hen)) rfl (hp _ hW x (List.mem_of_getElem? hx)) ?_))
  rintro _ w2 ⟨rfl, uw2⟩
  replace hW := hW.up uw2
  replace hcx := hcx.up uw2
  refine LW.T (CW.cond (.t rfl) (fun h16 => ?_) (fun h16 => ?_))
  ·replace h16 := dQ h16
   refine CW.S (LW.M rfl (LW.A rfl (LW.T (CW.ret (An (Af (Af (An (Af (Ae rfl rfl ⟨_, rfl, ?_⟩))))))))))
   exact ⟨_, rfl, by rw [uN hx (by simpa using h16)]; exact decide_eq_true oQ, hW⟩
  replace h16 := dQ h16
  refine CW.skip (KW.inBlock (KW.then (CW.region (LW.pp (.inc (.t rfl) oQ) (LW.M rfl (LW.nil (KW.round ?_)))))))
  exact ⟨k + 1, ⟨by omega, gV hx hn (by simpa using h16), hW⟩, ⟨rfl, rfl, rfl, rfl, trivial⟩, by omega⟩
 replace h9 := dQ h9
 refine CW.exit (Aa (Aa (Ad (KW.then (CW.S (LW.C (LW.T (CW.ret (Ae rfl rfl ⟨_, rfl, ?_⟩)))))))))
 exact ⟨-1, rfl, by rw [any_none (by rw [show k = l.length by omega, List.take_length] at hn; exact hn)]; rfl, hW⟩
theorem S1 (cf : Nat) (lb : Array Go.Value) (g : Cnd → Bool) (hen : ∀ args w, (callFunc cf args).run Tryz.prog w = .ok (.enter cf args) w) (ad : Option Addr) (cp : Nat) (l : List Cnd) (w : World) (hE0 : Els w ad 1 Cnd.cells l) (hl : l.length ≤ 100000) (hp : ∀ W, Up w W → ∀ q ∈ l, Ret Tryz.prog cf (#[q.v] ++ lb) W fun r W' => r = .bool (g q) ∧ Up W W') : Ret Tryz.prog 89 #[.slice ad l.length cp, .func (.func cf) #[] lb] w fun r w' => r = .bool (l.any g) ∧ Up w w' := by
 have hW := Up.refl w
 obtain ⟨w0, rfl⟩ : ∃ w0, w0 = w := ⟨_, rfl⟩
 refine cS (n := 9) (m := 9) func89 rfl rfl rfl (CW.S (LW.C (LW.S (CW.region (LW.M rfl (LW.M rfl (LW.K (eC (.u rfl rfl) (xV)) rfl (aP cf lb g hen ad cp l _ (Els.up hE0 hW) hl (fun W u q hq => hp W (hW.trans u) q hq)) ?_)))))))
 rintro _ w1 ⟨i, rfl, hi, uw1⟩
 replace hW := hW.up uw1
 refine LW.pp (.geq (.t rfl) (.const _)) (LW.A rfl (LW.T (CW.ret (Ae rfl rfl ⟨_, rfl, ?_⟩))))
 exact ⟨by rw [hi], hW⟩
theorem X0 (x : Fact) (B : Nat) (ad : Option Addr) (cp : Nat) (qs : List Cnd) (w : World) (hB : Blk w B #[.slice ad qs.length cp] 84) (hE0 : Els w ad 1 Cnd.cells qs) (hl : qs.length ≤ 100000) (hq : mC Tryz.prog w qs) : Ret Tryz.prog 88 #[.agg x.cells, .pointer (some ⟨B, 0, none⟩)] w fun r w' => r = .bool (qs.any fun q => q.p x) ∧ Up w w' := by
 obtain ⟨w0, rfl⟩ : ∃ w0, w0 = w := ⟨_, rfl⟩
 have hS := Sep.start no w0
 refine cS (n := 7) (m := 9) func88 rfl rfl rfl (CW.S (Ah (.C7 (.t rfl)) rfl ?_))
 rintro _ w1 ⟨B2, rfl, NB2⟩
 replace hS := hS.Cj NB2
 refine LW.C (LW.S (CW.region (LW.pp (.ld isAgg84 rfl ((hB.up hS.Ce).Ai rfl)) (LW.pp (.makeFunc (.cons (.t rfl) .nil)) (LW.K (eC (.u rfl rfl) (CK)) rfl (S1 90 #[.pointer (some ⟨B2, 0, none⟩)] (fun q => q.p x) CL ad cp qs _ (Els.up hE0 hS.Ce) hl (fun W u q hm => gX q.v q.p x B2 W ((hq q hm).up (hS.Ce.trans u)) ((hS.blk 0 rfl).up u))) ?_)))))
 rintro _ w2 ⟨rfl, uw2⟩
 replace hS := hS.up uw2
 refine LW.A rfl (LW.T (CW.ret (Ae rfl rfl ⟨_, rfl, ?_⟩)))
 exact ⟨rfl, hS.Ce⟩
end Go.Proofs.YtmimclgihlhaeaaGreat
end
