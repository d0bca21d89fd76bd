import Derived.Test.YtmimclgihlhaeaaGreatKR613
import Derived.Sort.OwnSortedInts
section
namespace Go.Wx
theorem N3 (ks : List Int) : ks.flatMap (fun x => (A8 x).toList) = ks.map vi := by
 induction ks with
 | nil => rfl
 | cons k ks ih => rw [List.flatMap_cons, ih]; rfl
theorem Jq {a b : List Int} (h : a.Perm b) : (a.mergeSort fun x y => decide (x ≤ y)) = b.mergeSort fun x y => decide (x ≤ y) :=
 List.Perm.eq_of_pairwise (le := fun x y => decide (x ≤ y) = true) (fun x y _ _ h1 h2 => by have h3 := of_decide_eq_true h1; have h4 := of_decide_eq_true h2; omega)
   (List.pairwise_mergeSort (fun a b c h1 h2 => by have h3 := of_decide_eq_true h1; have h4 := of_decide_eq_true h2; exact decide_eq_true oQ) (fun a b => by simp; omega) a)
   (List.pairwise_mergeSort (fun a b c h1 h2 => by have h3 := of_decide_eq_true h1; have h4 := of_decide_eq_true h2; exact decide_eq_true oQ) (fun a b => by simp; omega) b)
   ((List.mergeSort_perm a _).trans (h.trans (List.mergeSort_perm b _).symm))
def Fb (k : Int) : Int × Go.Value := (k, .bool true)
def Lk (ks : List Int) (k : Int) : List Int := if k ∈ ks then ks else ks ++ [k]
def F9 (ks : List Int) : List Int := ks.mergeSort fun x y => decide (x ≤ y)
theorem Kg (ks : List Int) : (ks.map Fb).map (·.1) = ks := by simp [List.map_map, Function.comp_def, Fb]
theorem Rz (ks : List Int) (k : Int) : D7 (ks.map Fb) k (.bool true) = (Lk ks k).map Fb := by
 unfold D7 Lk
 rw [Kg]
 by_cases h : k ∈ ks
 · rw [if_pos h, if_pos h, List.map_map]
   refine List.map_congr_left fun x _ => ?_
   show (if x = k then (k, Go.Value.bool true) else Fb x) = Fb x
   by_cases hx : x = k
   · subst hx; rw [if_pos rfl]; rfl
   rw [if_neg hx]
 rw [if_neg h, if_neg h]; simp [Fb]
theorem Xh (ks : List Int) (k : Int) : (Lk ks k).length ≤ ks.length + 1 := by unfold Lk; split <;> simp
theorem jG {ks : List Int} {k x : Int} : x ∈ Lk ks k ↔ x ∈ ks ∨ x = k := by
 unfold Lk
 split
 · exact ⟨.inl, fun h => h.elim id (fun e => by rw [e]; assumption)⟩
 rw [List.mem_append, List.mem_singleton]
theorem eV {ks : List Int} {k : Int} {u : Go.Value} (h : (k, u) ∈ ks.map Fb) : k ∈ ks ∧ u = .bool true := by
 obtain ⟨x, hx, e⟩ := List.mem_map.1 h
 cases e
 exact ⟨hx, rfl⟩
theorem Ll {α : Type} (g : List Int → α → List Int) (hg : ∀ ks x, (g ks x).length ≤ ks.length + 1) : ∀ (l : List α) (ks : List Int), (l.foldl g ks).length ≤ ks.length + l.length
 | [], _ => Nat.le_refl _
 | x :: l, ks => by
   rw [List.foldl_cons, List.length_cons]
   have h1 := Ll g hg l (g ks x)
   have h2 := hg ks x
   omega
def P5 (l : List Fact) : List Int := l.foldl (fun ks f => Lk ks f.Wafer) []
def Xi (ss : List Fact) (ks : List Int) (l : List Fact) : List Int := l.foldl (fun ks f => Lk ks (Jc ss f.Time f.Wafer)) ks
def Ce (lots ps ss : List Fact) : List Int := F9 ((Xi ss (P5 lots) ps).filter Dv)
theorem eW {l : List Fact} {k : Nat} {x : Fact} (hx : l[k]? = some x) : P5 (l.take (k + 1)) = Lk (P5 (l.take k)) x.Wafer := by rw [A4 hx]; unfold P5; rw [List.foldl_append]; rfl
theorem eX {ss l : List Fact} {ks : List Int} {k : Nat} {x : Fact} (hx : l[k]? = some x) : Xi ss ks (l.take (k + 1)) = Lk (Xi ss ks (l.take k)) (Jc ss x.Time x.Wafer) := by rw [A4 hx]; unfold Xi; rw [List.foldl_append]; rfl
theorem Xj (l : List Fact) : (P5 l).length ≤ l.length := by have := Ll (fun ks (f : Fact) => Lk ks f.Wafer) (fun _ _ => Xh _ _) l []; simpa [P5] using this
theorem Xk (ss : List Fact) (ks : List Int) (l : List Fact) : (Xi ss ks l).length ≤ ks.length + l.length := Ll (fun ks (f : Fact) => Lk ks (Jc ss f.Time f.Wafer)) (fun _ _ => Xh _ _) l ks
def P6 (ks V : List Int) : List Int := ks.filter fun k => Dv k || !decide (k ∈ V)
theorem jH (ks : List Int) : P6 ks [] = ks := List.filter_eq_self.2 fun k _ => by simp
theorem Xl (ks V : List Int) {k : Int} (h : Dv k = true) : P6 ks (V ++ [k]) = P6 ks V := by
 refine List.filter_congr fun x _ => ?_
 by_cases e : x = k
 · rw [e, h]; rfl
 simp [e]
theorem bX (ks V : List Int) {k : Int} (h : Dv k = false) : (P6 ks (V ++ [k])).map Fb = ((P6 ks V).map Fb).filter fun p => !decide (p.1 = k) := by
 rw [List.filter_map, P6, P6, List.filter_filter]
 congr 1
 refine List.filter_congr fun x _ => ?_
 by_cases e : x = k
 · simp [e, h, Fb]
 simp [e, Fb]
theorem Mf (V : List Int) {k : Int} (h : Dv k = true) : (V ++ [k]).filter Dv = V.filter Dv ++ [k] := by rw [List.filter_append]; simp [h]
theorem N4 (V : List Int) {k : Int} (h : Dv k = false) : (V ++ [k]).filter Dv = V.filter Dv := by rw [List.filter_append]; simp [h]
theorem Zt {ks V : List Int} {k : Int} (h : k ∈ P6 ks V) (hf : k ∉ V.filter Dv) : k ∉ V ∧ k ∈ ks := by
 obtain ⟨h1, h2⟩ := List.mem_filter.1 h
 refine ⟨fun hV => ?_, h1⟩
 cases hi : Dv k with
 | true => exact hf (List.mem_filter.2 ⟨hV, hi⟩)
 | false => rw [hi] at h2; simp [hV] at h2
theorem jI {ks V : List Int} (h : (V.filter Dv).Perm (((P6 ks V).map Fb).map (·.1))) : P6 ks V = ks.filter Dv := by
 rw [Kg] at h
 refine List.filter_congr fun k hk => ?_
 cases hi : Dv k with
 | true => rfl
 | false =>
   cases hc : decide (k ∈ V) with
   | true => rfl
   | false =>
     exfalso
     have h1 : k ∈ P6 ks V := List.mem_filter.2 ⟨hk, by rw [hc]; simp⟩
     have := (List.mem_filter.1 (h.symm.subset h1)).2
     rw [hi] at this; cases this
end Go.Wx
namespace Go.Proofs.YtmimclgihlhaeaaGreat
open Go.Proofs.Tryz
open Go.Wx Go.RowKit
namespace Hs
theorem Kh (b : Nat) (w : World) : Ret Tryz.prog 93 #[.map (some b)] w fun r w' => (∃ B, r = .func (.func 144) #[] #[.pointer (some ⟨B, 0, none⟩)] ∧ Blk w' B #[.map (some b)] 87 ∧ w.heap.size ≤ B) ∧ Up w w' := by
 have hW := Up.refl w
 refine cS (n := 4) (m := 9) func93 rfl rfl rfl ?_
 refine CW.S ?_
 refine Ah (.Mi (.t rfl) rfl) rfl ?_
 rintro _ w1 ⟨B1, rfl, NB1⟩
 have eB1 := NB1.at_
 have zB1 := NB1.size
 replace hW := hW.up NB1.up
 have hB1 := NB1.blk
 refine LW.C (LW.S (CW.region ?_))
 refine LW.pp (.makeFunc (.cons (.t rfl) .nil)) ?_
 refine LW.A rfl (LW.T (CW.ret ?_))
 refine Af rfl rfl ⟨_, rfl, ?_⟩
 exact ⟨⟨_, rfl, hB1, by omega⟩, hW⟩
theorem Jd (X Y : Nat → Prop) (B1 b : Nat) (kv : List (Int × Value)) (w : World) (hYY : ∀ i, Y i → i < w.heap.size) (hQX : ¬ X B1) (hbY : ¬ Y b) (hQ0 : Blk w B1 #[.map (some b)] 87) (hM0 : IMap w b kv) :
   IterS Tryz.prog 144 #[.pointer (some ⟨B1, 0, none⟩)] A8 X Y (fun ys => ys.Perm (kv.map (·.1))) (fun pre => pre.Nodup ∧ ∀ k ∈ pre, k ∈ kv.map (·.1)) kv.length w := by
 refine IterS.of ?_
 intro lp J Jx w0 hUw _ hY hJ
 obtain ⟨Bd, hBd⟩ : ∃ Bd, Bd = w0.heap.size := ⟨_, rfl⟩
 rw [← hBd] at hJ hY
 have zU := hUw.size
 have hQ := hQ0.up hUw
 have hM := hM0.up hUw
 have zQ0 := hQ.lt
 refine cS (n := 14) (m := 9) func144 rfl rfl rfl ?_
 refine CW.S ?_
 refine LW.pp (.ld isAgg87 rfl (hQ.Ak rfl)) ?_
 refine Ah (.range underlying87 (.t rfl) hM) rfl ?_
 rintro _ w1 ⟨r5, rfl, hR5, uw1, ew1, zw1⟩
 replace hQ := hQ.up uw1
 replace hM := hM.up uw1
 replace hJ := hJ.up uw1
 refine LW.T (CW.block ?_)
 refine CW.loop (σ := List Int) (fun s w => Jw Bd J s w ∧ Blk w B1 #[.map (some b)] 87 ∧ IRng w b r5 kv s) (fun s => [(0, .eq (.func (.yield lp) #[] #[])), (5, .eq (.pointer (some ⟨r5, 0, none⟩)))]) (fun s => kv.length - s.length) [] ?_ ?_ ?_
 ·exact ⟨hJ, hQ, hR5⟩
 ·exact ⟨rfl, rfl, trivial⟩
 rintro done w2 ⟨hJ, hQ, hR5⟩
 have zQ := hQ.lt
 refine CW.S ?_
 refine Ah (.next (.t rfl) hR5) rfl ?_
 rintro _ w3 (⟨rfl, rfl, hPm⟩ | ⟨k, u, rfl, hNx⟩)
 ·skip
  refine LW.pp (.extract (.t rfl) rfl) (LW.S ?_)
  refine CW.cond_false (.t rfl) ?_
  refine CW.exit (Aa (Aa (Ad ?_)))
  refine Ci rfl ⟨_, rfl, ?_⟩
  first | exact .inl ⟨_, hPm, hJ.j⟩ | exact .inr ⟨_, hR5.sub, hJx⟩
 skip
 obtain ⟨_, ho, hwk⟩ := hNx.walk
 replace hJ := hJ.walk hNx.grown oQ ho hwk
 replace hQ := hQ.sto hNx.sto oQ
 replace hR5 := hNx.rng
 have zw3 := hNx.size
 refine LW.pp (.extract (.t rfl) rfl) (LW.S ?_)
 refine CW.cond_true (.t rfl) ?_
 refine CW.skip (KW.then (CW.block (CW.S ?_)))
 refine Ah (.entry (.t rfl) hNx.entry) rfl ?_
 rintro _ _ ⟨rfl, rfl⟩
 refine LW.pp (.extract (.t rfl) rfl) (LW.A rfl (LW.S (CW.region (LW.M rfl (LW.M rfl ?_)))))
 refine LW.y (.t rfl) (.cons (.t rfl) .nil) rfl rfl (hY done k _ hJ (by have := hR5.length; simp at this; omega)) ?_
 rintro _ w4 ⟨y, rfl, hcase⟩
 refine LW.pp (.not (.t rfl)) ?_
 refine LW.T ?_
 refine CW.cond (.t rfl) (fun h13 => ?_) (fun h13 => ?_)
 ·replace h13 := dQ h13
  have hy : y = false := by simpa using h13
  subst hy
  obtain ⟨_, hJx⟩ := hcase.resolve_left (by simp)
  refine CW.ret (Ao (Ae (Ao ?_)))
  refine G1 rfl ⟨_, rfl, ?_⟩
  first | exact .inl ⟨_, hPm, hJ.j⟩ | exact .inr ⟨_, hR5.sub, hJx⟩
 replace h13 := dQ h13
 have hy : y = true := by simpa using h13
 subst hy
 obtain ⟨_, hJ2, hN⟩ := hcase.resolve_right (by simp)
 replace hQ := hQ.kx hN hQX
 replace hR5 := hR5.kx hN hbY (fun h => by have := hYY _ h; omega)
 refine CW.skip (KW.inBlock (KW.round ?_))
 exact ⟨done ++ [k], ⟨hJ2, hQ, hR5⟩, ⟨rfl, rfl, trivial⟩, by have := hR5.length; simp at this ⊢; omega⟩
theorem S1 (g : Nat) (lb : Array Go.Value) (S Sp : List Int → Prop) (N : Nat) (w : World) (en : ∀ args w, (callFunc g args).run Tryz.prog w = .ok (.enter g args) w) (hit : ∀ W (X : Nat → Prop), Up w W → (∀ i, X i → w.heap.size ≤ i) → IterS Tryz.prog g lb A8 X (fun _ => False) S Sp N W) (hN0 : N ≤ 1000000000) : Ret Tryz.prog 160 #[.slice none 0 0, .func (.func g) #[] lb] w fun r w' => ∃ ks, S ks ∧ OwnS w' w.heap.size 3 1 A8 r ks ∧ Up w w' := by
 have hW := Up.refl w
 obtain ⟨w0, rfl⟩ : ∃ w0, w0 = w := ⟨_, rfl⟩
 refine Hj (n := 13) func160 rfl rfl rfl ?_
 refine CW.S ?_
 refine Ah (.Mi (.t rfl) rfl) rfl ?_
 rintro _ w1 ⟨B2, rfl, NB2⟩
 have eB2 := NB2.at_
 have zB2 := NB2.size
 replace hW := hW.up NB2.up
 have hB2 := NB2.blk
 refine LW.C (LW.S (CW.S (LW.M rfl (LW.T (CW.block ?_)))))
 obtain ⟨bq, hbq⟩ : ∃ bq, bq = w1.heap.size := ⟨_, rfl⟩
 refine CW.rangeFunc (fun i => B2 ≤ i) (fun _ => False) (fun pre W => Sz bq W ∧ ∃ v, Blk W B2 #[v] 30 ∧ OwnS W (B2 + 1) 3 1 A8 v pre ∧ Up w0 W) (fun c pre W => Sz bq W ∧ False) (fun x a' W => Ag 13 [] ([(5, .eq (vi x)), (2, .eq (.pointer (some ⟨B2, 0, none⟩)))]) a' W) (.t rfl) en (hit _ _ hW (fun i (hi : B2 ≤ i) => by omega)) (fun _ => rfl) rfl ?_ ?_ ?_ ?_ ?_ ?_ ?_ ?_
 ·rw [← hbq]
  intro pre W W' row hs hg hr
  obtain ⟨hZ, v, hB2, hO, hW⟩ := hs
  exact ⟨hZ.ko (Ko.grown hg hr), v, hB2.ko (Ko.grown hg hr), hO.ko (Ko.grown hg hr), hW.ko (Ko.grown hg hr) oQ⟩
 ·rw [← hbq]
  intro c pre W W' row hs hg hr
  obtain ⟨hZ, hF⟩ := hs
  exact ⟨hZ.ko (Ko.grown hg hr), hF⟩
 ·intro x a' u W W' row hs hg hr
  exact hs.world rfl _
 ·exact ⟨Nat.le_of_eq hbq, _, hB2, OwnS.nil _ _ _ _ _, hW⟩
 ·rw [← hbq]
  intro lp pre x w2 K hs hk a ha
  obtain ⟨hZ, v, hB2, hO, hW⟩ := hs
  have zq := hZ.le
  have hK := Kf.refl bq w2
  have hN := Kx.refl bq (fun i => B2 ≤ i) (fun _ => False) w2
  revert a
  refine Mm (p := 7) rfl ?_
  refine CW.region (LW.A rfl (LW.nil ?_))
  exact fun a ha => hk a _ hK hN ⟨hZ, v, hB2, hO, hW⟩ (ha.sub ⟨rfl, rfl, trivial⟩)
 ·rw [← hbq]
  intro lp pre x a' w3 hs hx hlt
  obtain ⟨hZ, v, hB2, hO, hW⟩ := hs
  have ha := hx
  have zq := hZ.le
  have hK := Kf.refl bq w3
  have hN := Kx.refl bq (fun i => B2 ≤ i) (fun _ => False) w3
  refine (show CW (some lp) 8 _ 13 [] _ (ownPostG bq (Kx bq (fun i => B2 ≤ i) (fun _ => False)) _ _ (pre ++ [x]) w3) ([(5, .eq (vi x)), (2, .eq (.pointer (some ⟨B2, 0, none⟩)))]) w3 from ?_) a' ha
  refine CW.block (CW.region ?_)
  refine LW.pp (.ld isAgg30 rfl (hB2.Ak rfl)) ?_
  refine LW.M rfl ?_
  refine Ah (.buildSlice (xs := [x]) (enc := A8) (mk := vi) underlying30 sizeOf3 zeroValue3 rfl cQ (fun _ => rfl) (fun _ => rfl) (.cons (.t rfl) .nil) rfl) rfl ?_
  rintro _ w4 ⟨B10, cB10, rfl, NB10, yB10, xB10⟩
  have eB10 := NB10.at_
  have zB10 := NB10.size
  replace hZ := hZ.up NB10.up
  replace hB2 := hB2.up NB10.up
  replace hO := hO.up NB10.up
  replace hW := hW.up NB10.up
  replace hK := hK.up NB10.up
  replace hN := hN.up NB10.up
  have hB10 := NB10.blk
  have hE10 := xB10
  refine Ah (.append (enc := A8) (base := B2 + 1) (bytes := 8) (i := Tryz.t3) underlying30 kQ rfl rfl rfl rfl cQ (fun _ => rfl) H7 (.t rfl) (.t rfl) hO (Aj hE10) (by simp) (by simp [maxLen]; omega) (by simp; omega) oQ) rfl ?_
  rintro v11 w5 ⟨Ow5, Gw5⟩
  have zw5 := Gw5.size
  replace hZ := hZ.gr Gw5 rfl
  replace hB2 := hB2.gr Gw5 oQ
  replace hW := hW.gr Gw5 oQ
  replace hK := hK.gr Gw5
  replace hN := hN.gr Gw5 (fun i hi => by first | exact .inr oQ | exact .inl (by show _ ≤ _; omega))
  replace hO := Ow5
  refine LW.E (.store sizeOf30 (.t rfl) (.t rfl) hO.one hB2 (by simp)) ?_
  intro w6 Nw6
  have zw6 := Nw6.size
  replace hZ := hZ.sto Nw6.sto oQ
  replace hO := hO.sto Nw6.sto oQ
  replace hW := hW.sto Nw6.sto oQ
  replace hK := hK.sto Nw6.sto (.inr (.inr ⟨_, _, hB2⟩))
  replace hN := hN.uN Nw6.sto (⟨_, _, hB2⟩) (by first | exact .inr oQ | exact .inl rfl | exact .inl (by show _ ≤ _; omega))
  replace hB2 := Nw6.blk
  replace hB2 : Blk w6 B2 #[v11] _ := hB2
  refine LW.nil (KW.inBlock ?_)
  exact fun a ha => ⟨hK, hN, hZ, _, hB2, hO, hW⟩
 ·intro D ys w7 hDb hS hs hD
  rw [← hbq] at hDb
  obtain ⟨hZ, v, hB2, hO, hW⟩ := hs
  replace hD : Ob w7 D (.deferred (some [])) := hD
  have zD := hD.lt
  have zq := hZ.le
  refine KW.inBlock (KW.then (CW.S ?_))
  refine LW.pp (.ld isAgg30 rfl (hB2.Ak rfl)) ?_
  refine LW.A rfl (LW.T (CW.ret ?_))
  refine Oj hD rfl ?_
  replace hZ := hZ.ko (Ko.putObj (.deferred none) hD rfl hDb)
  replace hB2 := hB2.ko (Ko.putObj (.deferred none) hD rfl hDb)
  replace hO := hO.ko (Ko.putObj (.deferred none) hD rfl hDb)
  replace hW := hW.putObj (D := D) (.deferred none) oQ
  refine Af rfl rfl ⟨_, rfl, ?_⟩
  exact ⟨ys, hS, hO.mono oQ, hW⟩
 intro D c pre w8 hDb hpre hs hD
 rw [← hbq] at hDb
 obtain ⟨hZ, hF⟩ := hs
 replace hD : Ob w8 D (.deferred (some [])) := hD
 have zD := hD.lt
 have zq := hZ.le
 exact hF.elim
theorem jJ (base e : Nat) (v : Value) (ks : List Int) (w : World) (h : OwnS w base e 1 A8 v ks) (hlen : ks.length < 4611686018427387904) : Ret Tryz.prog 38 #[v] w fun r w' => r = .tuple #[] ∧ OwnS w' base e 1 A8 v (ks.mergeSort fun x y => decide (x ≤ y)) ∧ Grew base w w' := by
 have h0 := h
 obtain ⟨h1, ⟨rfl, hn⟩ | ⟨g, cap, cur, rfl, hg, hb, h2, h3, h4, h5⟩⟩ := h
 · have hks : ks = [] := List.eq_nil_of_length_eq_zero hn
   subst hks
   refine Calls.mono (Tryz.slices_Sort_int_none none 0 w) ?_
   rintro e' w' ⟨rfl, rfl⟩
   exact ⟨_, rfl, rfl, by simpa using h0, ⟨rfl, rfl, rfl, Nat.le_refl _, fun _ _ _ => rfl, fun _ _ h _ => h⟩⟩
 rw [N3] at h5
 have hl : g < w.heap.size := lt_of_block hb
 refine Calls.mono (Tryz.slices_Sort_int g 0 cap ks w (holds_of_blockI hb (by simpa using h5)) hl hlen) ?_
 rintro e' w' ⟨rfl, n, os, rfl⟩
 have hg2 := Go.grownBy_sortedI (w := w) (g := g) (n := n) (os := os) (ks.mergeSort fun x y => decide (x ≤ y)).toArray
 have ho := Go.ownsRow_sortedI (w := w) (n := n) (os := os) (ss := ks) (ts := ks.mergeSort fun x y => decide (x ≤ y)) (by simp) hg hb h2 h3 h4
 refine ⟨_, rfl, rfl, ?_, ⟨hg2.os, hg2.tape, hg2.output, hg2.size, fun i hi hi2 => hg2.block i hi (fun e => by cases e; omega), fun i o hi ho => (hg2.block i (lt_of_block hi) (fun e => by cases e; rw [hb] at hi; cases hi; cases ho)).trans hi⟩⟩
 show World.ownsRow _ _ _ _ _ _ _
 rw [N3, List.length_mergeSort]
 exact ho
theorem Xm (g : Nat) (lb : Array Go.Value) (S Sp : List Int → Prop) (N : Nat) (w : World) (en : ∀ args w, (callFunc g args).run Tryz.prog w = .ok (.enter g args) w) (hit : ∀ W (X : Nat → Prop), Up w W → (∀ i, X i → w.heap.size ≤ i) → IterS Tryz.prog g lb A8 X (fun _ => False) S Sp N W) (hN0 : N ≤ 1000000000) : Ret Tryz.prog 110 #[.func (.func g) #[] lb] w fun r w' => ∃ ks, S ks ∧ OwnS w' w.heap.size 3 1 A8 r ks ∧ Up w w' := by
 have hW := Up.refl w
 refine cS (n := 5) (m := 9) func110 rfl rfl rfl ?_
 refine CW.S (LW.C (LW.S (CW.region (LW.M rfl ?_))))
 refine LW.K (eC (.cons (.const _) (.cons (.t rfl) .nil)) (sV)) rfl (S1 _ _ _ _ _ _ en hit hN0) ?_
 rintro _ w1 ⟨ks, hS, hO, uw1⟩
 have zw1 := uw1.size
 replace hW := hW.up uw1
 refine LW.A rfl (LW.T (CW.ret ?_))
 refine Af rfl rfl ⟨_, rfl, ?_⟩
 exact ⟨ks, hS, hO, hW⟩
theorem Ka (g : Nat) (lb : Array Go.Value) (S Sp : List Int → Prop) (N : Nat) (w : World) (en : ∀ args w, (callFunc g args).run Tryz.prog w = .ok (.enter g args) w) (hit : ∀ W (X : Nat → Prop), Up w W → (∀ i, X i → w.heap.size ≤ i) → IterS Tryz.prog g lb A8 X (fun _ => False) S Sp N W) (hN0 : N ≤ 1000000000) (hS0 : ∀ ks, S ks → ks.length ≤ 1000000000) : Ret Tryz.prog 53 #[.func (.func g) #[] lb] w fun r w' => ∃ ks, S ks ∧ OwnS w' w.heap.size 3 1 A8 r (ks.mergeSort fun x y => decide (x ≤ y)) ∧ Up w w' := by
 have hW := Up.refl w
 refine cS (n := 9) (m := 9) func53 rfl rfl rfl ?_
 refine CW.S (LW.C (LW.S (CW.region (LW.M rfl ?_))))
 refine LW.K (eC (.o rfl) (rS)) rfl (Xm _ _ _ _ _ _ en hit hN0) ?_
 rintro v w1 ⟨ks, hS, hO, uw1⟩
 have zw1 := uw1.size
 replace hW := hW.up uw1
 refine LW.A rfl (LW.S (CW.region (LW.M rfl ?_)))
 refine LW.K (eC (.o rfl) (oZ)) rfl (jJ _ _ _ _ _ hO (by have := hS0 ks hS; omega)) ?_
 rintro _ w2 ⟨rfl, hO2, uw2⟩
 have zw2 := uw2.size
 replace hW := hW.gr uw2 oQ
 replace hO := hO2
 refine LW.S (CW.region (LW.M rfl (LW.A rfl (LW.T (CW.ret ?_)))))
 refine Af rfl rfl ⟨_, rfl, ?_⟩
 exact ⟨ks, hS, hO, hW⟩
end Hs
theorem Zu (n : Int) (v : Go.Value) (w : World) : Ret Tryz.prog 92 #[vi n, v] w fun r w' => r = .bool (!Dv n) ∧ Up w w' := by
 have hW := Up.refl w
 refine cS (n := 8) (m := 9) func92 rfl rfl rfl ?_
 refine CW.S (LW.C (LW.S (CW.region (LW.M rfl ?_))))
 refine LW.K (eC (.o rfl) (dC)) rfl (Jp _ _) ?_
 rintro _ w1 ⟨rfl, uw1⟩
 have zw1 := uw1.size
 replace hW := hW.up uw1
 refine LW.pp (.not (.t rfl)) ?_
 refine LW.A rfl (LW.T (CW.ret ?_))
 refine Af rfl rfl ⟨_, rfl, ?_⟩
 exact ⟨rfl, hW⟩
theorem jK (b : Nat) (ks : List Int) (w : World) (hM : IMap w b (ks.map Fb)) : Ret Tryz.prog 91 #[.map (some b), .func (.func 92) #[] #[]] w fun r w' => r = .tuple #[] ∧ Stp (Cc b (ks.map Fb)) (Cc b ((ks.filter Dv).map Fb)) w w' := by
 obtain ⟨w0, rfl⟩ : ∃ w0, w0 = w := ⟨_, rfl⟩
 have hS : Wx.Sep (Cc b (ks.map Fb)).foot w0 w0 [Cc b (ks.map Fb)] := Sep.cons (A := Cc b (ks.map Fb)) hM (fun _ h => h) (Sep.start _ _) (by simp)
 refine cS (n := 19) (m := 9) func91 rfl rfl rfl ?_
 refine CW.S (LW.M rfl ?_)
 refine Ah (.range underlying87 (.t rfl) (hS.get 0 rfl)) rfl ?_
 rintro _ w1 ⟨r7, rfl, hR_, uR, eR, zR⟩
 replace hS := hS.Dj 0 rfl (Gz hR_ uR eR)
 change Wx.Sep _ _ _ [_] at hS
 clear hR_
 refine LW.T (CW.block ?_)
 refine Am (σ := List Int) (fun s w => (s.Nodup ∧ ∀ k ∈ s, k ∈ ks) ∧ (Wx.Sep (Cc b (ks.map Fb)).foot w0 w [Fp b r7 ((P6 ks s).map Fb) (s.filter Dv)])) (fun s => []) ([(0, .eq _), (1, .eq _), (7, .eq _)]) (fun s => ks.length - s.length) [] ?_ ⟨rfl, rfl, rfl, trivial⟩ ?_
 ·exact ⟨⟨List.nodup_nil, fun _ h => by cases h⟩, by rw [jH]; exact hS⟩
 rintro V w2 ⟨hV, hS⟩
 refine CW.S ?_
 refine Ah (.next (.t rfl) (hS.get 0 rfl)) rfl ?_
 rintro _ w3 (⟨rfl, rfl, hPm⟩ | ⟨k0, u0, rfl, hNx⟩)
 ·skip
  refine LW.pp (.extract (.t rfl) rfl) (LW.S ?_)
  refine CW.cond_false (.t rfl) ?_
  refine CW.exit (Aa (Aa (Ad ?_)))
  refine Ci rfl ⟨_, rfl, ?_⟩
  rw [jI hPm] at hS
  have hS2 := hS.Dj 0 rfl (Zr (hS.get 0 rfl))
  exact ⟨rfl, hS2.fr, hS2.get 0 rfl, fun _ h => .inl h⟩
 skip
 have zw3 := hNx.size
 replace hS := hS.Dj 0 rfl (Ih hNx)
 change Wx.Sep _ _ _ [_] at hS
 obtain ⟨hk0c, hu0⟩ := eV hNx.mem
 subst hu0
 obtain ⟨hk0V, hk0k⟩ := Zt hk0c hNx.fresh
 have hV2 : (V ++ [k0]).Nodup ∧ ∀ k ∈ V ++ [k0], k ∈ ks := ⟨List.nodup_append.2 ⟨hV.1, by simp, fun a ha c hc => by simp at hc; subst hc; exact fun e => hk0V (e ▸ ha)⟩, fun k hk => (List.mem_append.1 hk).elim (hV.2 k) (fun h => by cases List.mem_singleton.1 h; exact hk0k)⟩
 have hVl := hV2.1.length_le_of_subset hV2.2
 rw [List.length_append, List.length_singleton] at hVl
 refine LW.pp (.extract (.t rfl) rfl) (LW.S ?_)
 refine CW.cond_true (.t rfl) ?_
 refine CW.skip (KW.then (CW.block (CW.S ?_)))
 refine Ah (.entry (.t rfl) hNx.entry) rfl ?_
 rintro _ _ ⟨rfl, rfl⟩
 refine LW.pp (.extract (.t rfl) rfl) (LW.pp (.extract (.t rfl) rfl) (LW.A rfl (LW.A rfl (LW.S (CW.region (LW.M rfl (LW.M rfl (LW.M rfl ?_))))))))
 refine LW.K (Cz (.t rfl) (.cons (.t rfl) (.cons (.t rfl) .nil)) (wF)) rfl (Zu _ _ _) ?_
 rintro _ w4 ⟨rfl, uw4⟩
 have zw4 := uw4.size
 replace hS := hS.up uw4
 refine LW.T ?_
 refine CW.cond (.t rfl) (fun h16 => ?_) (fun h16 => ?_)
 ·replace h16 := dQ h16
  have hid : Dv k0 = false := by simpa using h16
  refine CW.region (LW.M rfl (LW.M rfl ?_))
  refine oH (Xg underlying87 underlying3 (.t rfl) (.t rfl) (hS.get 0 rfl)) rfl rfl rfl ?_
  rintro _ w5 ⟨hR2, Kd, zd⟩
  replace hS := hS.Dj 0 rfl (nE hR2 Kd)
  change Wx.Sep _ _ _ [_] at hS
  clear hR2 Kd
  refine LW.nil (KW.inBlock (KW.round ?_))
  exact ⟨V ++ [k0], ⟨hV2, by first | (rw [Xl ks V hid, Mf V hid]; exact hS) | (rw [bX ks V hid, N4 V hid]; exact hS)⟩, ⟨rfl, rfl, rfl, trivial⟩, by rw [List.length_append, List.length_singleton]; omega⟩
 replace h16 := dQ h16
 have hid : Dv k0 = true := by simpa using h16
 refine CW.skip (KW.inBlock (KW.round ?_))
 exact ⟨V ++ [k0], ⟨hV2, by first | (rw [Xl ks V hid, Mf V hid]; exact hS) | (rw [bX ks V hid, N4 V hid]; exact hS)⟩, ⟨rfl, rfl, rfl, trivial⟩, by rw [List.length_append, List.length_singleton]; omega⟩
theorem Zv (bc : Array Go.Value) (bs : Base) (w : World) (hC : BaseC w bc bs) (hs : bs.Swaps.length ≤ 1000000000) (hsum : bs.Lots.length + bs.Processes.length ≤ 1000000000) : Ret Tryz.prog 37 #[.agg bc] w fun r w' => OwnS w' w.heap.size 3 1 A8 r (Ce bs.Lots bs.Processes bs.Swaps) ∧ Up w w' := by
 obtain ⟨w0, rfl⟩ : ∃ w0, w0 = w := ⟨_, rfl⟩
 have hS := Sep.start no w0
 refine cS (n := 40) (m := 9) func37 rfl rfl rfl ?_
 refine CW.S ?_
 refine Ah (.Eu (.t rfl)) rfl ?_
 rintro _ w1 ⟨B1, rfl, NB1⟩
 have eB1 := NB1.at_
 have zB1 := NB1.size
 replace hS := hS.C7 NB1
 change Wx.Sep _ _ _ [_] at hS
 refine LW.C (LW.S (CW.region ?_))
 refine LW.r REv.makeMap rfl rfl rfl rfl ?_
 rintro _ w2 ⟨M8, rfl, hMM8, uw2, eM8, zw2⟩
 replace hS := hS.add uw2 (A' := Cc M8 (([] : List Int).map Fb)) hMM8 (fun i (h : i = M8) => by omega)
 change Wx.Sep _ _ _ [_, _] at hS
 refine LW.A rfl (LW.S (CW.seq ?_))
 obtain ⟨v3, h3, ad, cp, rfl, hE0⟩ := hC.wS
 refine CW.region ?_
 refine LW.pp (.fA 3 underlying38 rfl sizeOf23 rfl) ?_
 refine LW.pp (.ld isAgg23 rfl ((hS.blk 0 rfl).cell h3)) ?_
 refine LW.pp (.Dq underlying23 (.t rfl)) ?_
 refine LW.pp (.move (.const _)) ?_
 refine LW.T (CW.block ?_)
 refine Am (σ := Nat) (fun s w => (s ≤ bs.Lots.length) ∧ (Wx.Sep no w0 w [Cq B1 bc 38, Cc M8 ((P5 (bs.Lots.take s)).map Fb)])) (fun s => [(12, .eq (vi (s : Int)))]) ([(1, .eq _), (2, .eq _), (3, .eq _), (10, .eq _), (11, .eq _)]) (fun s => bs.Lots.length - s) 0 ?_ ⟨rfl, rfl, rfl, rfl, rfl, rfl, trivial⟩ ?_
 ·exact ⟨Nat.zero_le _, hS⟩
 rintro k w3 ⟨hk, hS⟩
 refine CW.S ?_
 refine LW.pp (.lss (.t rfl) (.t rfl)) ?_
 refine LW.S ?_
 refine CW.cond (.t rfl) (fun h13 => ?_) (fun h13 => ?_)
 ·replace h13 := dQ h13
  refine CW.skip (KW.then (CW.seq (CW.block (CW.seq ?_))))
  have hE := Els.up hE0 hS.Cu
  refine CW.region ?_
  obtain ⟨x, hx⟩ := Ac (xs := bs.Lots) (i := k) oQ
  obtain ⟨Bx, ox, ax, hcx⟩ := hE _ x hx
  refine LW.pp (.An underlying23 sizeOf36 (.t rfl) (.t rfl) oQ ax) ?_
  refine LW.pp (.la isAgg36 sizeOf36 rfl (hcx)) ?_
  refine Ah (.A7 zeroValue36) rfl ?_
  rintro _ w4 ⟨B5, rfl, MB5⟩
  refine LW.E (.A3 sizeOf36 rfl (.t rfl) (.t rfl) (Fact.one _) MB5.blk rfl) ?_
  intro w5 LB5
  have NB5 := MB5.set LB5
  clear LB5 MB5
  have eB5 := NB5.at_
  have zB5 := NB5.size
  replace hcx := hcx.up NB5.up
  replace hS := hS.C7 NB5
  change Wx.Sep _ _ _ [_, _, _] at hS
  refine LW.T (CW.region (LW.M rfl ?_))
  refine LW.pp (.fA 7 underlying36 rfl sizeOf3 rfl) ?_
  refine LW.pp (.ld isAgg3 rfl ((hS.blk 2 rfl).Ak rfl)) ?_
  refine LW.E (.mapUpdate underlying87 underlying3 (.t rfl) (.t rfl) (.const _) (hS.get 1 rfl)) ?_
  rintro w6 ⟨Mu, Ku, zu⟩
  rw [Rz] at Mu
  replace hS := hS.Dj 1 rfl (Kb Mu Ku)
  change Wx.Sep _ _ _ [_, _, _] at hS
  clear Mu Ku
  refine LW.nil (KW.inBlock (KW.then (CW.region ?_)))
  refine LW.pp (.inc (.t rfl) oQ) ?_
  refine LW.M rfl (LW.nil (KW.round ?_))
  exact ⟨k + 1, ⟨by omega, by rw [eW hx]; exact hS.take 2⟩, ⟨rfl, rfl, rfl, rfl, rfl, rfl, trivial⟩, by first | omega | (dsimp only; omega)⟩
 replace h13 := dQ h13
 refine CW.exit (Aa (Aa (Ad (KW.then (CW.seq (CW.seq ?_))))))
 obtain ⟨v0, h0, ad', cp', rfl, hE1⟩ := hC.wY
 have hkl : k = bs.Lots.length := by omega
 rw [hkl, List.take_length] at hS
 refine CW.region ?_
 refine LW.pp (.fA 0 underlying38 rfl sizeOf23 rfl) ?_
 refine LW.pp (.ld isAgg23 rfl ((hS.blk 0 rfl).cell h0)) ?_
 refine LW.pp (.Dq underlying23 (.t rfl)) ?_
 refine LW.pp (.move (.const _)) ?_
 refine LW.T (CW.block ?_)
 refine Am (σ := Nat) (fun s w => (s ≤ bs.Processes.length) ∧ (Wx.Sep no w0 w [Cq B1 bc 38, Cc M8 ((Xi bs.Swaps (P5 bs.Lots) (bs.Processes.take s)).map Fb)])) (fun s => [(23, .eq (vi (s : Int)))]) ([(1, .eq _), (2, .eq _), (3, .eq _), (21, .eq _), (22, .eq _)]) (fun s => bs.Processes.length - s) 0 ?_ ⟨rfl, rfl, rfl, rfl, rfl, rfl, trivial⟩ ?_
 ·exact ⟨Nat.zero_le _, hS⟩
 rintro j w7 ⟨hj, hS⟩
 refine CW.S ?_
 refine LW.pp (.lss (.t rfl) (.t rfl)) ?_
 refine LW.S ?_
 refine CW.cond (.t rfl) (fun h24 => ?_) (fun h24 => ?_)
 ·replace h24 := dQ h24
  refine CW.skip (KW.then (CW.seq (CW.block (CW.seq ?_))))
  have hE := Els.up hE1 hS.Cu
  refine CW.region ?_
  obtain ⟨x, hx⟩ := Ac (xs := bs.Processes) (i := j) oQ
  obtain ⟨Bx, ox, ax, hcx⟩ := hE _ x hx
  refine LW.pp (.An underlying23 sizeOf36 (.t rfl) (.t rfl) oQ ax) ?_
  refine LW.pp (.la isAgg36 sizeOf36 rfl (hcx)) ?_
  refine Ah (.A7 zeroValue36) rfl ?_
  rintro _ w8 ⟨B7, rfl, MB7⟩
  refine LW.E (.A3 sizeOf36 rfl (.t rfl) (.t rfl) (Fact.one _) MB7.blk rfl) ?_
  intro w9 LB7
  have NB7 := MB7.set LB7
  clear LB7 MB7
  have eB7 := NB7.at_
  have zB7 := NB7.size
  replace hcx := hcx.up NB7.up
  replace hS := hS.C7 NB7
  change Wx.Sep _ _ _ [_, _, _] at hS
  refine LW.T (CW.region (LW.M rfl ?_))
  refine LW.pp (.Ky isAgg38 sizeOf38 (hC.size) (.t rfl) ((hS.blk 0 rfl).agg)) ?_
  refine LW.pp (.fA 7 underlying36 rfl sizeOf3 rfl) ?_
  refine LW.pp (.ld isAgg3 rfl ((hS.blk 2 rfl).Ak rfl)) ?_
  refine LW.pp (.fA 5 underlying36 rfl sizeOf3 rfl) ?_
  refine LW.pp (.ld isAgg3 rfl ((hS.blk 2 rfl).Ak rfl)) ?_
  refine LW.K (eC (.cons (.t rfl) (.cons (.t rfl) (.cons (.t rfl) .nil))) (rC)) rfl (bW bc bs _ _ _ (hC.up hS.Cu) hs) ?_
  rintro _ w10 ⟨rfl, uw10⟩
  have zw10 := uw10.size
  replace hS := hS.up uw10
  refine LW.E (.mapUpdate underlying87 underlying3 (.t rfl) (.t rfl) (.const _) (hS.get 1 rfl)) ?_
  rintro w11 ⟨Mu, Ku, zu⟩
  rw [Rz] at Mu
  replace hS := hS.Dj 1 rfl (Kb Mu Ku)
  change Wx.Sep _ _ _ [_, _, _] at hS
  clear Mu Ku
  refine LW.nil (KW.inBlock (KW.then (CW.region ?_)))
  refine LW.pp (.inc (.t rfl) oQ) ?_
  refine LW.M rfl (LW.nil (KW.round ?_))
  exact ⟨j + 1, ⟨by omega, by rw [eX hx]; exact hS.take 2⟩, ⟨rfl, rfl, rfl, rfl, rfl, rfl, trivial⟩, by first | omega | (dsimp only; omega)⟩
 replace h24 := dQ h24
 refine CW.exit (Aa (Aa (Ad (KW.then (CW.seq ?_)))))
 have hjl : j = bs.Processes.length := by omega
 rw [hjl, List.take_length] at hS
 have hml := Nat.le_trans (List.length_filter_le Dv _) (Nat.le_trans (Xk bs.Swaps (P5 bs.Lots) bs.Processes) (Nat.add_le_add_right (Xj bs.Lots) _))
 refine CW.region (LW.M rfl ?_)
 refine LW.K (eC (.cons (.t rfl) (.cons (.func _) .nil)) (wE)) rfl (jK M8 _ _ (hS.get 1 rfl)) ?_
 rintro _ w12 ⟨rfl, uw12⟩
 have zw12 := uw12.fr.size
 replace hS := hS.Dj 1 rfl uw12
 change Wx.Sep _ _ _ [_, _] at hS
 refine LW.S (CW.region (LW.M rfl ?_))
 refine LW.K (eC (.o rfl) (wG)) rfl (Hs.Kh _ _) ?_
 rintro _ w13 ⟨⟨BK, rfl, hBK, zK⟩, uw13⟩
 have zw13 := uw13.size
 replace hS := hS.up uw13
 have zBK := hBK.lt
 have zz := hS.Cu.size
 refine LW.K (eC (.o rfl) (rE)) rfl (Hs.Ka _ _ _ _ _ _ sS (fun W X u hX => Hs.Jd X _ BK M8 _ W (fun i h => h.elim) (fun h => by have := hX _ h; omega) (fun h => h.elim) (hBK.up u) (((hS.get 1 rfl : IMap _ _ _)).up u)) (by rw [List.length_map]; omega) (fun ks h => by have := h.length_eq; rw [Kg] at this; omega)) ?_
 rintro v w14 ⟨ks, hP, hO, uw14⟩
 have zw14 := uw14.size
 replace hS := hS.up uw14
 replace hBK := hBK.up uw14
 rw [Kg] at hP
 rw [Jq hP] at hO
 replace hO := hO.mono (show w0.heap.size ≤ _ by omega)
 refine LW.A rfl (LW.T (CW.ret ?_))
 refine Af rfl rfl ⟨_, rfl, ?_⟩
 exact ⟨hO, hS.Cu⟩
end Go.Proofs.YtmimclgihlhaeaaGreat
end
section
namespace Go.Wx
theorem Gl {l : List Fact} {d : Int} {j : Nat} (hj : j < 11) {x : Fact} : x ∈ Iz (F8 l d) j ↔ Vu l d x ∧ x.Gone = false ∧ x.Kind = ((j + 1 : Nat) : Int) := by
 rw [U5 l d hj]
 unfold Dp
 rw [if_pos (List.mem_singleton.2 rfl), (Fo _).same.mem, List.mem_filter, Rx]
 simp
theorem Jr {l : List Fact} {d : Int} {x : Fact} (h : Vu l d x) : A5 x = true := Ff h.2.1
theorem bY {l : List Fact} {d : Int} {x y : Fact} (hx : Vu l d x) (hy : Vu l d y) (e : A6 x = A6 y) : x = y := M1 (Jr hx) (Jr hy) e (hy.2.2.2 x hx.1 hx.2.2.1) (hx.2.2.2 y hy.1 hy.2.2.1)
theorem O4 (l : List Fact) (d : Int) {j : Nat} (hj : j < 11) : (Iz (F8 l d) j).Nodup := by
 rw [U5 l d hj]
 unfold Dp
 rw [if_pos (List.mem_singleton.2 rfl)]
 exact ((Fo _).same.perm.nodup_iff).2 ((Ke l d).filter _)
theorem eY {α : Type} {key : α → K2} {A B : List α} (hA : Hx key A) (hB : Hx key B) (hp : A.Perm B) (hd : ∀ x ∈ A, ∀ y ∈ A, key x = key y → x = y) : A = B := by
 rw [(StS.refl hA).eq, (StS.refl hB).eq]
 exact Rq hp hd
theorem bZ (l : List Fact) (d : Int) {j : Nat} (hj : j < 11) : Hx (Kt ((j + 1 : Nat) : Int)) (Iz (F8 l d) j) := by
 rw [U5 l d hj]; unfold Dp; rw [if_pos (List.mem_singleton.2 rfl)]; exact (Fo _).ord
theorem jL {l m : List Fact} {d : Int} {j : Nat} (hj : j < 11) (h : ∀ x, Vu l d x ∧ x.Kind = ((j + 1 : Nat) : Int) ↔ Vu m d x ∧ x.Kind = ((j + 1 : Nat) : Int)) : Iz (F8 l d) j = Iz (F8 m d) j := by
 refine eY (bZ _ d hj) (bZ _ d hj) (G9 (O4 _ d hj) (O4 _ d hj) fun x => ?_) fun x hx y hy e => ?_
 · rw [Gl hj, Gl hj]
   have := h x
   exact ⟨fun ⟨a, b, c⟩ => ⟨(this.1 ⟨a, c⟩).1, b, c⟩, fun ⟨a, b, c⟩ => ⟨(this.2 ⟨a, c⟩).1, b, c⟩⟩
 have hx := (Gl hj).1 hx
 have hy := (Gl hj).1 hy
 exact bY hx.1 hy.1 (Rr (Jr hx.1) (Jr hy.1) hx.2.2 hy.2.2 e)
theorem jM {l m : List Fact} {d : Int} {j : Nat} (hj : j < 11) (h : ∀ x, x.Kind = ((j + 1 : Nat) : Int) → (x ∈ l ↔ x ∈ m)) : Iz (F8 l d) j = Iz (F8 m d) j := by
 have key : ∀ {l m : List Fact}, (∀ x, x.Kind = ((j + 1 : Nat) : Int) → (x ∈ l ↔ x ∈ m)) → ∀ x, Vu l d x ∧ x.Kind = ((j + 1 : Nat) : Int) → Vu m d x ∧ x.Kind = ((j + 1 : Nat) : Int) := fun {l m} h x ⟨⟨h1, h2, h3, h4⟩, hk⟩ => by
   refine ⟨⟨(h x hk).1 h1, h2, h3, fun g hg hd => ?_⟩, hk⟩
   cases hp : D9 g x with
   | false => rfl
   | true =>
     have hp2 := hp
     unfold D9 at hp2
     simp only [Bool.and_eq_true] at hp2
     obtain ⟨⟨⟨v1, v2⟩, v3⟩, _⟩ := hp2
     have := h4 g ((h g ((W9 v1 v2 (by simpa using v3)).trans hk)).2 hg) hd
     rw [this] at hp; cases hp
 exact jL hj fun x => ⟨key h x, key (fun x hx => (h x hx).symm) x⟩
end Go.Wx
namespace Go.Proofs.YtmimclgihlhaeaaGreat
open Go.Proofs.Tryz
open Go.Wx Go.RowKit
end Go.Proofs.YtmimclgihlhaeaaGreat
end
section
namespace Go.Wx
def CondOk (P : Program) (w : World) (v : Value) (p : Fact → Bool) : Prop := ∃ cf lb, v = .func (.func cf) #[] lb ∧ (∀ args w, (callFunc cf args).run P w = .ok (.enter cf args) w) ∧ ∀ W, Up w W → ∀ x : Fact, Ret P cf (#[.agg x.cells] ++ lb) W fun r W' => r = .bool (p x) ∧ Up W W'
theorem CondOk.up {P : Program} {w w' : World} {v : Value} {p : Fact → Bool} (h : CondOk P w v p) (u : Up w w') : CondOk P w' v p :=
 let ⟨cf, lb, e, he, hp⟩ := h
 ⟨cf, lb, e, he, fun W k => hp W (u.trans k)⟩
structure Cnd where
 cf : Nat
 lb : Array Value
 p : Fact → Bool
def Cnd.v (q : Cnd) : Value := .func (.func q.cf) #[] q.lb
def Cnd.cells (q : Cnd) : Array Value := #[q.v]
def jN (P : Program) (w : World) (qs : List Cnd) : Prop := ∀ q ∈ qs, CondOk P w q.v q.p
theorem eZ {qs : List Cnd} {k : Nat} {q : Cnd} {g : Cnd → Bool} (h : qs[k]? = some q) (hk : ∀ y ∈ qs.take k, g y = false) (hx : g q = false) : ∀ y ∈ qs.take (k + 1), g y = false := fun y hy => by
 rw [List.take_add_one, h] at hy
 rcases List.mem_append.1 hy with hy | hy
 · exact hk y hy
 cases List.mem_singleton.1 hy; exact hx
theorem jO {qs : List Cnd} {k : Nat} {q : Cnd} {g : Cnd → Bool} (h : qs[k]? = some q) (hx : g q = true) : qs.any g = true := List.any_eq_true.2 ⟨q, List.mem_of_getElem? h, hx⟩
theorem any_none {qs : List Cnd} {g : Cnd → Bool} (h : ∀ y ∈ qs, g y = false) : qs.any g = false := List.any_eq_false.2 fun y hy => by rw [h y hy]; exact Bool.false_ne_true
structure Exc where
 tool : Int
 chamber : Int
 frm : Int
 to : Int
 err : Int
def Exc.cells (x : Exc) : Array Value := #[vi x.tool, vi x.chamber, vi x.frm, vi x.to, vi x.err]
theorem Exc.one (x : Exc) : x.cells.all (·.oneCell') = true := by simp [Exc.cells, show ∀ i : Int, (vi i).oneCell' = true from fun _ => rfl]
def qE (n high : Int) : Bool := decide (0 ≤ n) && decide (n ≤ high)
def Ik (x : Exc) : Bool := qE x.tool 59 && qE x.chamber 3 && qE x.frm x.to && decide (x.to ≤ 1000000) && qE x.err 10000
theorem Ty (x : Exc) : Ik x = true ↔ (0 ≤ x.tool ∧ x.tool ≤ 59) ∧ (0 ≤ x.chamber ∧ x.chamber ≤ 3) ∧ (0 ≤ x.frm ∧ x.frm ≤ x.to) ∧ x.to ≤ 1000000 ∧ 0 ≤ x.err ∧ x.err ≤ 10000 := by
 unfold Ik qE
 simp only [Bool.and_eq_true, decide_eq_true_eq]
 constructor
 · rintro ⟨⟨⟨⟨h1, h2⟩, h3⟩, h4⟩, h5⟩
   exact ⟨h1, h2, h3, h4, h5⟩
 rintro ⟨h1, h2, h3, h4, h5⟩
 exact ⟨⟨⟨⟨h1, h2⟩, h3⟩, h4⟩, h5⟩
def qY (f t l : Int) (p : Fact) : Bool := decide (p.Time - l ≤ t) && decide (f ≤ p.Until + l)
def gA (f t l : Int) (p : Fact) : Bool := decide (IntKind.i64.wrap (p.Time - l) ≤ t) && decide (f ≤ IntKind.i64.wrap (p.Until + l))
def Js (p : Fact) : Prop := -1000000000 ≤ p.Time ∧ p.Time ≤ 1000000000 ∧ -1000000000 ≤ p.Until ∧ p.Until ≤ 1000000000
theorem Xn {f t l : Int} {p : Fact} (hp : Js p) (hl : -10000 ≤ l ∧ l ≤ 10000) : gA f t l p = qY f t l p := by
 unfold Js at hp
 unfold gA qY
 rw [Da oQ oQ, Da oQ (by omega)]
def Ha (x : Exc) (p : Fact) : Bool := decide (x.tool = p.Tool) && decide (x.chamber = p.Chamber)
def Fi (x : Exc) (p : Fact) : Bool := qY x.frm x.to (-x.err) p
def Lm (l : List Fact) (x : Exc) : List Fact := l.filter (Ha x)
def R0 (gs : List Fact) (x : Exc) (p : Fact) : Bool := Fi x p || (qY x.frm x.to x.err p || (Lm gs x).any fun g => qY g.Time g.Until x.err p)
def Gp (L : List (Int × Bool)) (id : Int) (s : Bool) : List (Int × Bool) := if id ∈ L.map (·.1) then L.map (fun q => if q.1 = id then (id, q.2 || s) else q) else L ++ [(id, s)]
theorem fB (L : List (Int × Bool)) (id : Int) (s : Bool) (v : Int) : v ∈ (Gp L id s).map (·.1) ↔ v ∈ L.map (·.1) ∨ v = id := by
 unfold Gp
 split
 · rename_i h
   have e : (L.map fun q => if q.1 = id then (id, q.2 || s) else q).map (·.1) = L.map (·.1) := by
     rw [List.map_map]
     refine List.map_congr_left fun q _ => ?_
     show (if q.1 = id then (id, q.2 || s) else q).1 = q.1
     split
     · rename_i e; exact e.symm
     rfl
   rw [e]
   exact ⟨.inl, fun e => e.elim _root_.id fun e => e ▸ h⟩
 rw [List.map_append, List.mem_append]; simp
theorem Ki {L : List (Int × Bool)} (h : (L.map (·.1)).Nodup) (id : Int) (s : Bool) : ((Gp L id s).map (·.1)).Nodup := by
 unfold Gp
 split
 · have e : (L.map fun q => if q.1 = id then (id, q.2 || s) else q).map (·.1) = L.map (·.1) := by
     rw [List.map_map]
     refine List.map_congr_left fun q _ => ?_
     show (if q.1 = id then (id, q.2 || s) else q).1 = q.1
     split
     · rename_i e; exact e.symm
     rfl
   rw [e]; exact h
 rename_i hn
 rw [List.map_append]
 exact List.nodup_append.2 ⟨h, by simp, fun a ha c hc => by simp at hc; subst hc; exact fun e => hn (e ▸ ha)⟩
def Ln (L : List (Int × Bool)) (id : Int) : Bool := L.any fun q => decide (q.1 = id) && q.2
structure Vd where
 w : Int
 t : Int
 why : List Int
def Ck (V : List (Int × Bool)) : Int × List Int := if V.any (·.2) then (2, (V.filter (·.2)).map (·.1)) else if V = [] then (0, []) else (1, V.map (·.1))
theorem Dx {V : List (Int × Bool)} {id : Int} (h : (Ck V).1 ≠ 2) : Ck (V ++ [(id, true)]) = (2, [id]) := by
 have hn : V.any (·.2) = false := by
   cases e : V.any (·.2) with
   | false => rfl
   | true => unfold Ck at h; rw [if_pos e] at h; exact absurd rfl h
 have hf : V.filter (·.2) = [] := List.filter_eq_nil_iff.2 fun q hq e => by rw [List.any_eq_false] at hn; exact hn q hq e
 unfold Ck
 rw [List.any_append, if_pos (by simp), List.filter_append, hf]
 rfl
theorem Dy {V : List (Int × Bool)} {id : Int} (h : (Ck V).1 = 2) : Ck (V ++ [(id, true)]) = (2, (Ck V).2 ++ [id]) := by
 have hn : V.any (·.2) = true := by
   cases e : V.any (·.2) with
   | true => rfl
   | false =>
     unfold Ck at h; rw [if_neg (by rw [e]; exact Bool.false_ne_true)] at h
     split at h <;> cases h
 unfold Ck
 rw [List.any_append, if_pos (by simp), if_pos hn, List.filter_append, List.map_append]
 rfl
theorem Dz {V : List (Int × Bool)} {id : Int} (h : (Ck V).1 = 2) : Ck (V ++ [(id, false)]) = Ck V := by
 have hn : V.any (·.2) = true := by
   cases e : V.any (·.2) with
   | true => rfl
   | false =>
     unfold Ck at h; rw [if_neg (by rw [e]; exact Bool.false_ne_true)] at h
     split at h <;> cases h
 unfold Ck
 rw [List.any_append, if_pos (by rw [hn]; rfl), if_pos hn, List.filter_append]
 simp
theorem D0 {V : List (Int × Bool)} {id : Int} (h : (Ck V).1 ≠ 2) : Ck (V ++ [(id, false)]) = (1, (Ck V).2 ++ [id]) := by
 have hn : V.any (·.2) = false := by
   cases e : V.any (·.2) with
   | false => rfl
   | true => unfold Ck at h; rw [if_pos e] at h; exact absurd rfl h
 unfold Ck
 rw [List.any_append, if_neg (by rw [hn]; exact Bool.false_ne_true), if_neg (by simp), if_neg (by rw [hn]; exact Bool.false_ne_true), List.map_append]
 split
 · rename_i e; rw [e]; rfl
 rfl
theorem Tz {V L : List (Int × Bool)} (h : V.Perm L) : (Ck V).1 = (Ck L).1 ∧ (Ck V).2.Perm (Ck L).2 := by
 have e1 : V.any (·.2) = L.any (·.2) := by
   rw [Bool.eq_iff_iff, List.any_eq_true, List.any_eq_true]
   exact ⟨fun ⟨q, hq, e⟩ => ⟨q, h.subset hq, e⟩, fun ⟨q, hq, e⟩ => ⟨q, h.symm.subset hq, e⟩⟩
 unfold Ck
 rw [e1]
 split
 · exact ⟨rfl, (h.filter _).map _⟩
 by_cases e : L = []
 · subst e; rw [h.eq_nil]; exact ⟨rfl, .refl _⟩
 rw [if_neg e, if_neg fun e2 => e (by subst e2; exact h.symm.eq_nil)]
 exact ⟨rfl, h.map _⟩
end Go.Wx
namespace Go.Proofs.YtmimclgihlhaeaaGreat
open Go.Proofs.Tryz
open Go.Wx Go.RowKit
theorem Kj (a h : Int) (w : World) : Ret Tryz.prog 44 #[vi a, vi h] w fun r w' => r = .bool (qE a h) ∧ Up w w' := by
 have hW := Up.refl w
 refine cS (n := 12) (m := 9) func44 rfl rfl rfl ?_
 refine CW.S (LW.C (LW.S (CW.region (LW.M rfl ?_))))
 refine LW.pp (.geq (.t rfl) (.const _)) ?_
 refine LW.M rfl ?_
 refine LW.g rfl rfl rfl rfl rfl rfl rfl (fun hc => PEv.move (.t rfl)) ?_
 refine LW.g rfl rfl rfl rfl rfl rfl rfl (fun hc => PEv.move (.t rfl)) ?_
 refine LW.g rfl rfl rfl rfl rfl rfl rfl (fun hc => PEv.leq vQ vQ) ?_
 refine LW.pp (.Az (.t rfl) (fun hp => (by first | exact .const _ | exact .tmp rfl | exact .cond rfl (by first | assumption | (rw [hp]; rfl) | (rw [hc, hp]; rfl) | simp_all)))) ?_
 refine LW.A rfl (LW.T (CW.ret ?_))
 refine Af rfl rfl ⟨_, rfl, ?_⟩
 exact ⟨by unfold qE; simp, hW⟩
theorem M3 (x : Exc) (w : World) : Ret Tryz.prog 18 #[.agg x.cells] w fun r w' => r = .bool (Ik x) ∧ Up w w' := by
 obtain ⟨w0, rfl⟩ : ∃ w0, w0 = w := ⟨_, rfl⟩
 have hS := Sep.start no w0
 refine cS (n := 33) (m := 9) func18 rfl rfl rfl ?_
 refine CW.S ?_
 refine Ah (.Eu (.t rfl)) rfl ?_
 rintro _ w1 ⟨B1, rfl, NB1⟩
 have eB1 := NB1.at_
 have zB1 := NB1.size
 replace hS := hS.C7 NB1
 change Wx.Sep _ _ _ [_] at hS
 refine LW.C (LW.S (CW.region ?_))
 refine LW.pp (.assign (.func _)) ?_
 refine LW.S (CW.region (LW.M rfl ?_))
 refine LW.pp (.fA 0 underlying25 rfl sizeOf3 rfl) ?_
 refine LW.pp (.ld isAgg3 rfl ((hS.blk 0 rfl).Ak rfl)) ?_
 refine LW.K (Cz (.t rfl) (.cons (.t rfl) (.cons (.const _) .nil)) (lL)) rfl (Kj x.tool 59 _) ?_
 rintro _ w2 ⟨rfl, uw2⟩
 have zw2 := uw2.size
 replace hS := hS.up uw2
 refine LW.M rfl ?_
 refine LW.g rfl rfl rfl rfl rfl rfl rfl (fun hc => PEv.move (.t rfl)) ?_
 refine LW.g rfl rfl rfl rfl rfl rfl rfl (fun hc => PEv.fA 1 underlying25 rfl sizeOf3 rfl) ?_
 refine LW.g rfl rfl rfl rfl rfl rfl rfl (fun hc => PEv.load isAgg3 vQ ((hS.blk 0 rfl).Ak rfl)) ?_
 refine LW.gc rfl rfl rfl rfl rfl rfl rfl rfl (fun hc => Cz vQ (.cons vQ (.cons (.const _) .nil)) (lL)) (fun hc => Kj x.chamber 3 _) ?_
 intro w3 uw3
 have zw3 := uw3.size
 replace hS := hS.up uw3
 refine LW.pp (.Az (.t rfl) (fun hp => (by first | exact .const _ | exact .tmp rfl | exact .cond rfl (by first | assumption | (rw [hp]; rfl) | (rw [hc, hp]; rfl) | simp_all)))) ?_
 refine LW.M rfl ?_
 refine LW.g rfl rfl rfl rfl rfl rfl rfl (fun hc => PEv.move (.t rfl)) ?_
 refine LW.g rfl rfl rfl rfl rfl rfl rfl (fun hc => PEv.fA 2 underlying25 rfl sizeOf3 rfl) ?_
 refine LW.g rfl rfl rfl rfl rfl rfl rfl (fun hc => PEv.load isAgg3 vQ ((hS.blk 0 rfl).Ak rfl)) ?_
 refine LW.g rfl rfl rfl rfl rfl rfl rfl (fun hc => PEv.fA 3 underlying25 rfl sizeOf3 rfl) ?_
 refine LW.g rfl rfl rfl rfl rfl rfl rfl (fun hc => PEv.load isAgg3 vQ ((hS.blk 0 rfl).Ak rfl)) ?_
 refine LW.gc rfl rfl rfl rfl rfl rfl rfl rfl (fun hc => Cz vQ (.cons vQ (.cons vQ .nil)) (lL)) (fun hc => Kj x.frm x.to _) ?_
 intro w4 uw4
 have zw4 := uw4.size
 replace hS := hS.up uw4
 refine LW.pp (.Az (.t rfl) (fun hp => (by first | exact .const _ | exact .tmp rfl | exact .cond rfl (by first | assumption | (rw [hp]; rfl) | (rw [hc, hp]; rfl) | simp_all)))) ?_
 refine LW.M rfl ?_
 refine LW.g rfl rfl rfl rfl rfl rfl rfl (fun hc => PEv.fA 3 underlying25 rfl sizeOf3 rfl) ?_
 refine LW.g rfl rfl rfl rfl rfl rfl rfl (fun hc => PEv.load isAgg3 vQ ((hS.blk 0 rfl).Ak rfl)) ?_
 refine LW.g rfl rfl rfl rfl rfl rfl rfl (fun hc => PEv.leq vQ (.const _)) ?_
 refine LW.pp (.Az (.t rfl) (fun hp => (by first | exact .const _ | exact .tmp rfl | exact .cond rfl (by first | assumption | (rw [hp]; rfl) | (rw [hc, hp]; rfl) | simp_all)))) ?_
 refine LW.M rfl ?_
 refine LW.g rfl rfl rfl rfl rfl rfl rfl (fun hc => PEv.move (.t rfl)) ?_
 refine LW.g rfl rfl rfl rfl rfl rfl rfl (fun hc => PEv.fA 4 underlying25 rfl sizeOf3 rfl) ?_
 refine LW.g rfl rfl rfl rfl rfl rfl rfl (fun hc => PEv.load isAgg3 vQ ((hS.blk 0 rfl).Ak rfl)) ?_
 refine LW.gc rfl rfl rfl rfl rfl rfl rfl rfl (fun hc => Cz vQ (.cons vQ (.cons (.const _) .nil)) (lL)) (fun hc => Kj x.err 10000 _) ?_
 intro w5 uw5
 have zw5 := uw5.size
 replace hS := hS.up uw5
 refine LW.pp (.Az (.t rfl) (fun hp => (by first | exact .const _ | exact .tmp rfl | exact .cond rfl (by first | assumption | (rw [hp]; rfl) | (rw [hc, hp]; rfl) | simp_all)))) ?_
 refine LW.A rfl (LW.T (CW.ret ?_))
 refine Af rfl rfl ⟨_, rfl, ?_⟩
 exact ⟨by unfold Ik; simp, hS.Cu⟩
theorem M4 (p : Fact) (f t l : Int) (Bl Bt Bf : Nat) (w : World) (hl : Blk w Bl #[vi l] 3) (ht : Blk w Bt #[vi t] 3) (hf : Blk w Bf #[vi f] 3) : Ret Tryz.prog 87 #[.agg p.cells, .pointer (some ⟨Bl, 0, none⟩), .pointer (some ⟨Bt, 0, none⟩), .pointer (some ⟨Bf, 0, none⟩)] w fun r0 w' => r0 = .bool (gA f t l p) ∧ Up w w' := by
 obtain ⟨w0, rfl⟩ : ∃ w0, w0 = w := ⟨_, rfl⟩
 have hS := Sep.start no w0
 refine cS (n := 20) (m := 9) func87 rfl rfl rfl ?_
 refine CW.S ?_
 refine Ah (.Eu (.t rfl)) rfl ?_
 rintro _ w1 ⟨B4, rfl, NB4⟩
 have eB4 := NB4.at_
 have zB4 := NB4.size
 replace hS := hS.C7 NB4
 change Wx.Sep _ _ _ [_] at hS
 refine LW.C (LW.S (CW.region ?_))
 refine LW.pp (.fA 5 underlying36 rfl sizeOf3 rfl) ?_
 refine LW.pp (.ld isAgg3 rfl ((hS.blk 0 rfl).Ak rfl)) ?_
 refine LW.pp (.ld isAgg3 rfl ((hl.up hS.Cu).Ak rfl)) ?_
 refine LW.pp (.rA (.t rfl) (.t rfl)) ?_
 refine LW.pp (.ld isAgg3 rfl ((ht.up hS.Cu).Ak rfl)) ?_
 refine LW.pp (.leq (.t rfl) (.t rfl)) ?_
 refine LW.M rfl ?_
 refine LW.g rfl rfl rfl rfl rfl rfl rfl (fun hc => PEv.fA 6 underlying36 rfl sizeOf3 rfl) ?_
 refine LW.g rfl rfl rfl rfl rfl rfl rfl (fun hc => PEv.load isAgg3 vQ ((hS.blk 0 rfl).Ak rfl)) ?_
 refine LW.g rfl rfl rfl rfl rfl rfl rfl (fun hc => PEv.ld isAgg3 rfl ((hl.up hS.Cu).Ak rfl)) ?_
 refine LW.g rfl rfl rfl rfl rfl rfl rfl (fun hc => PEv.H3 vQ vQ) ?_
 refine LW.g rfl rfl rfl rfl rfl rfl rfl (fun hc => PEv.ld isAgg3 rfl ((hf.up hS.Cu).Ak rfl)) ?_
 refine LW.g rfl rfl rfl rfl rfl rfl rfl (fun hc => PEv.geq vQ vQ) ?_
 refine LW.pp (.Az (.t rfl) (fun hp => (by first | exact .const _ | exact .tmp rfl | exact .cond rfl (by first | assumption | (rw [hp]; rfl) | (rw [hc, hp]; rfl) | simp_all)))) ?_
 refine LW.A rfl (LW.T (CW.ret ?_))
 refine Af rfl rfl ⟨_, rfl, ?_⟩
 exact ⟨by unfold gA; simp, hS.Cu⟩
theorem fC (v : Go.Value) (p : Fact → Bool) (x : Fact) (B : Nat) (w : World) (hc : CondOk Tryz.prog w v p) (hB : Blk w B x.cells 36) : Ret Tryz.prog 90 #[v, .pointer (some ⟨B, 0, none⟩)] w fun r w' => r = .bool (p x) ∧ Up w w' := by
 have hW := Up.refl w
 obtain ⟨cf, lb, rfl, hen, hp⟩ := hc
 refine cS (n := 7) (m := 9) func90 rfl rfl rfl ?_
 refine CW.S (LW.C (LW.S (CW.region (LW.M rfl ?_))))
 refine LW.pp (.la isAgg36 sizeOf36 rfl (hB.agg)) ?_
 refine LW.K (Cf (.t rfl) (.cons (.t rfl) .nil) (hen)) rfl (hp _ hW x) ?_
 rintro _ w1 ⟨rfl, uw1⟩
 have zw1 := uw1.size
 replace hB := hB.up uw1
 replace hW := hW.up uw1
 refine LW.A rfl (LW.T (CW.ret ?_))
 refine Af rfl rfl ⟨_, rfl, ?_⟩
 exact ⟨rfl, hW⟩
theorem Zw (cf : Nat) (lb : Array Go.Value) (g : Cnd → Bool) (hen : ∀ args w, (callFunc cf args).run Tryz.prog w = .ok (.enter cf args) w) (ad : Option Addr) (cp : Nat) (l : List Cnd) (w : World) (hE0 : Els w ad 1 Cnd.cells l) (hl : l.length ≤ 100000) (hp : ∀ W, Up w W → ∀ q ∈ l, Ret Tryz.prog cf (#[q.v] ++ lb) W fun r W' => r = .bool (g q) ∧ Up W W') : Ret Tryz.prog 143 #[.slice ad l.length cp, .func (.func cf) #[] lb] w fun r w' => ∃ i, r = vi i ∧ decide (0 ≤ i) = l.any g ∧ Up w w' := by
 have hW := Up.refl w
 obtain ⟨w0, rfl⟩ : ∃ w0, w0 = w := ⟨_, rfl⟩
 refine cS (n := 19) (m := 9) func143 rfl rfl rfl ?_
 refine CW.S (LW.C (LW.S (CW.S (LW.M rfl ?_))))
 refine LW.pp (.Dq underlying84 (.t rfl)) ?_
 refine LW.pp (.move (.const _)) ?_
 refine LW.T (CW.block ?_)
 refine Am (σ := Nat) (fun s w => (s ≤ l.length) ∧ (∀ y ∈ l.take s, g y = false) ∧ (Up w0 w)) (fun s => [(8, .eq (vi (s : Int)))]) ([(0, .eq _), (1, .eq _), (7, .eq _)]) (fun s => l.length - s) 0 ?_ ⟨rfl, rfl, rfl, rfl, trivial⟩ ?_
 ·exact ⟨Nat.zero_le _, by simp, hW⟩
 rintro k w1 ⟨hk, hn, hW⟩
 refine CW.S ?_
 refine LW.pp (.lss (.t rfl) (.t rfl)) ?_
 refine LW.S ?_
 refine CW.cond (.t rfl) (fun h9 => ?_) (fun h9 => ?_)
 ·replace h9 := dQ h9
  refine CW.skip (KW.then (CW.seq (CW.block (CW.S (LW.M rfl (LW.A rfl (LW.S ?_)))))))
  have hE := Els.up hE0 hW
  refine CW.region (LW.M rfl (LW.M rfl (LW.M rfl ?_)))
  obtain ⟨x, hx⟩ := Ac (xs := l) (i := k) oQ
  obtain ⟨Bx, ox, ax, hcx⟩ := hE _ x hx
  refine LW.pp (.An underlying84 sizeOf82 (.t rfl) (.t rfl) oQ ax) ?_
  refine LW.pp (.ld isAgg82 rfl ((hcx 0 _ rfl))) ?_
  refine LW.K (Cf (.t rfl) (.cons (.t rfl) .nil) (hen)) rfl (hp _ hW x (List.mem_of_getElem? hx)) ?_
  rintro _ w2 ⟨rfl, uw2⟩
  have zw2 := uw2.size
  replace hW := hW.up uw2
  replace hcx := hcx.up uw2
  refine LW.T ?_
  refine CW.cond (.t rfl) (fun h16 => ?_) (fun h16 => ?_)
  ·replace h16 := dQ h16
   refine CW.S (LW.M rfl (LW.A rfl (LW.T (CW.ret (Ao (Ae (Ae (Ao (Ae ?_)))))))))
   refine Af rfl rfl ⟨_, rfl, ?_⟩
   first | exact ⟨_, rfl, by rw [jO hx (by simpa using h16)]; exact decide_eq_true oQ, hW⟩ | exact ⟨-1, rfl, by rw [any_none (by rw [show k = l.length by omega, List.take_length] at hn; exact hn)]; rfl, hW⟩
  replace h16 := dQ h16
  refine CW.skip (KW.inBlock (KW.then (CW.region ?_)))
  refine LW.pp (.inc (.t rfl) oQ) ?_
  refine LW.M rfl (LW.nil (KW.round ?_))
  exact ⟨k + 1, ⟨by omega, eZ hx hn (by simpa using h16), hW⟩, ⟨rfl, rfl, rfl, rfl, trivial⟩, by first | omega | (dsimp only; omega)⟩
 replace h9 := dQ h9
 refine CW.exit (Aa (Aa (Ad (KW.then (CW.S (LW.C (LW.T (CW.ret ?_))))))))
 refine Af rfl rfl ⟨_, rfl, ?_⟩
 first | exact ⟨_, rfl, by rw [jO hx (by simpa using h16)]; exact decide_eq_true oQ, hW⟩ | exact ⟨-1, rfl, by rw [any_none (by rw [show k = l.length by omega, List.take_length] at hn; exact hn)]; rfl, hW⟩
theorem S2 (cf : Nat) (lb : Array Go.Value) (g : Cnd → Bool) (hen : ∀ args w, (callFunc cf args).run Tryz.prog w = .ok (.enter cf args) w) (ad : Option Addr) (cp : Nat) (l : List Cnd) (w : World) (hE0 : Els w ad 1 Cnd.cells l) (hl : l.length ≤ 100000) (hp : ∀ W, Up w W → ∀ q ∈ l, Ret Tryz.prog cf (#[q.v] ++ lb) W fun r W' => r = .bool (g q) ∧ Up W W') : Ret Tryz.prog 89 #[.slice ad l.length cp, .func (.func cf) #[] lb] w fun r w' => r = .bool (l.any g) ∧ Up w w' := by
 have hW := Up.refl w
 obtain ⟨w0, rfl⟩ : ∃ w0, w0 = w := ⟨_, rfl⟩
 refine cS (n := 9) (m := 9) func89 rfl rfl rfl ?_
 refine CW.S (LW.C (LW.S (CW.region (LW.M rfl (LW.M rfl ?_)))))
 refine LW.K (eC (.u rfl rfl) (sR)) rfl (Zw cf lb g hen ad cp l _ (Els.up hE0 hW) hl (fun W u q hq => hp W (hW.trans u) q hq)) ?_
 rintro _ w1 ⟨i, rfl, hi, uw1⟩
 have zw1 := uw1.size
 replace hW := hW.up uw1
 refine LW.pp (.geq (.t rfl) (.const _)) ?_
 refine LW.A rfl (LW.T (CW.ret ?_))
 refine Af rfl rfl ⟨_, rfl, ?_⟩
 exact ⟨by rw [hi], hW⟩
theorem Xo (x : Fact) (B : Nat) (ad : Option Addr) (cp : Nat) (qs : List Cnd) (w : World) (hB : Blk w B #[.slice ad qs.length cp] 84) (hE0 : Els w ad 1 Cnd.cells qs) (hl : qs.length ≤ 100000) (hq : jN Tryz.prog w qs) : Ret Tryz.prog 88 #[.agg x.cells, .pointer (some ⟨B, 0, none⟩)] w fun r w' => r = .bool (qs.any fun q => q.p x) ∧ Up w w' := by
 obtain ⟨w0, rfl⟩ : ∃ w0, w0 = w := ⟨_, rfl⟩
 have hS := Sep.start no w0
 refine cS (n := 7) (m := 9) func88 rfl rfl rfl ?_
 refine CW.S ?_
 refine Ah (.Eu (.t rfl)) rfl ?_
 rintro _ w1 ⟨B2, rfl, NB2⟩
 have eB2 := NB2.at_
 have zB2 := NB2.size
 replace hS := hS.C7 NB2
 change Wx.Sep _ _ _ [_] at hS
 refine LW.C (LW.S (CW.region ?_))
 refine LW.pp (.ld isAgg84 rfl ((hB.up hS.Cu).Ak rfl)) ?_
 refine LW.pp (.makeFunc (.cons (.t rfl) .nil)) ?_
 refine LW.K (eC (.u rfl rfl) (wC)) rfl (S2 90 #[.pointer (some ⟨B2, 0, none⟩)] (fun q => q.p x) wD ad cp qs _ (Els.up hE0 hS.Cu) hl (fun W u q hm => fC q.v q.p x B2 W ((hq q hm).up (hS.Cu.trans u)) ((hS.blk 0 rfl).up u))) ?_
 rintro _ w2 ⟨rfl, uw2⟩
 have zw2 := uw2.size
 replace hS := hS.up uw2
 refine LW.A rfl (LW.T (CW.ret ?_))
 refine Af rfl rfl ⟨_, rfl, ?_⟩
 exact ⟨rfl, hS.Cu⟩
end Go.Proofs.YtmimclgihlhaeaaGreat
end
