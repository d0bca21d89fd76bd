import Derived.Test.YtolkipbpklkcnaaGreatKR413
import Derived.Sort.OwnSortedInts
section
namespace Go.Wx
theorem flat_int (ks : List Int) : ks.flatMap (fun x => (eInt x).toList) = ks.map vi := by
  induction ks with
  | nil => rfl
  | cons k ks ih => rw [List.flatMap_cons, ih]; rfl
theorem sort_perm {a b : List Int} (h : a.Perm b) : (a.mergeSort fun x y => decide (x ≤ y)) = b.mergeSort fun x y => decide (x ≤ y) :=
  List.Perm.eq_of_pairwise (le := fun x y => decide (x ≤ y) = true) (fun x y _ _ h1 h2 => by have h3 := of_decide_eq_true h1; have h4 := of_decide_eq_true h2; omega)
    (List.pairwise_mergeSort (fun a b c h1 h2 => by have h3 := of_decide_eq_true h1; have h4 := of_decide_eq_true h2; exact decide_eq_true (by omega)) (fun a b => by simp; omega) a)
    (List.pairwise_mergeSort (fun a b c h1 h2 => by have h3 := of_decide_eq_true h1; have h4 := of_decide_eq_true h2; exact decide_eq_true (by omega)) (fun a b => by simp; omega) b)
    ((List.mergeSort_perm a _).trans (h.trans (List.mergeSort_perm b _).symm))
end Go.Wx
namespace Go.Proofs.YtolkipbpklkcnaaGreat
open Go.Wx Go.RowKit
namespace Hs
theorem appendSeq_any (g : Nat) (lb : Array Go.Value) (S Sp : List Int → Prop) (N : Nat) (w : World) (en : ∀ args w, (callFunc g args).run Tryz.prog w = .ok (.enter g args) w) (hit : ∀ W (X : Nat → Prop), Up w W → (∀ i, X i → w.heap.size ≤ i) → IterS Tryz.prog g lb eInt X (fun _ => False) S Sp N W) (hN0 : N ≤ 1000000000) : Ret Tryz.prog 126 #[.slice none 0 0, .func (.func g) #[] lb] w fun r w' => ∃ ks, S ks ∧ OwnS w' w.heap.size 3 1 eInt r ks ∧ Up w w' := by
  have hW := Up.refl w
  obtain ⟨w0, rfl⟩ : ∃ w0, w0 = w := ⟨_, rfl⟩
  refine Calls_startM (n := 13) Tryz.func126 rfl rfl rfl ?_
  refine CW.seq (CW.region ?_)
  refine LW.r (REv.box1 (.tmp rfl) rfl) rfl rfl rfl rfl ?_
  rintro _ w1 ⟨B2, rfl, NB2⟩
  have eB2 := NB2.at_
  have zB2 := NB2.size
  replace hW := hW.up NB2.up
  have hB2 := NB2.blk
  refine LW.p (PEv.assign (.const _)) rfl rfl rfl (LW.nil (KW.then (CW.seq (CW.seq (CW.region (LW.p (PEv.move (.tmp rfl)) rfl rfl rfl (LW.nil (KW.then (CW.block ?_)))))))))
  obtain ⟨bq, hbq⟩ : ∃ bq, bq = w1.heap.size := ⟨_, rfl⟩
  refine CW.rangeFunc (fun i => B2 ≤ i) (fun _ => False) (fun pre W => Sz bq W ∧ ∃ v, Blk W B2 #[v] 30 ∧ OwnS W (B2 + 1) 3 1 eInt v pre ∧ Up w0 W) (fun c pre W => Sz bq W ∧ False) (fun x a' W => Ag 13 [] ([(5, .eq (vi x)), (2, .eq (.pointer (some ⟨B2, 0, none⟩)))]) a' W) (.tmp rfl) en (hit _ _ hW (fun i (hi : B2 ≤ i) => by omega)) (fun _ => rfl) rfl ?_ ?_ ?_ ?_ ?_ ?_ ?_ ?_
  ·rw [← hbq]
   intro pre W W' row hs hg hr
   obtain ⟨hZ, v, hB2, hO, hW⟩ := hs
   exact ⟨hZ.ko (Ko.grown hg hr), v, hB2.ko (Ko.grown hg hr), hO.ko (Ko.grown hg hr), hW.ko (Ko.grown hg hr) (by omega)⟩
  ·rw [← hbq]
   intro c pre W W' row hs hg hr
   obtain ⟨hZ, hF⟩ := hs
   exact ⟨hZ.ko (Ko.grown hg hr), hF⟩
  ·intro x a' u W W' row hs hg hr
   exact hs.world rfl _
  ·exact ⟨Nat.le_of_eq hbq, _, hB2, OwnS.nil _ _ _ _ _, hW⟩
  ·rw [← hbq]
   intro lp pre x w2 K hs hk a ha
   obtain ⟨hZ, v, hB2, hO, hW⟩ := hs
   have zq := hZ.le
   have hK := Kf.refl bq w2
   have hN := Kx.refl bq (fun i => B2 ≤ i) (fun _ => False) w2
   revert a
   refine CW.assign1 (p := 7) rfl ?_
   refine CW.region (LW.p (PEv.assign (.tmp rfl)) rfl rfl rfl (LW.nil ?_))
   exact fun a ha => hk a _ hK hN ⟨hZ, v, hB2, hO, hW⟩ (ha.sub ⟨rfl, rfl, trivial⟩)
  ·rw [← hbq]
   intro lp pre x a' w3 hs hx hlt
   obtain ⟨hZ, v, hB2, hO, hW⟩ := hs
   have ha := hx
   have zq := hZ.le
   have hK := Kf.refl bq w3
   have hN := Kx.refl bq (fun i => B2 ≤ i) (fun _ => False) w3
   refine (show CW (some lp) 8 _ 13 [] _ (ownPostG bq (Kx bq (fun i => B2 ≤ i) (fun _ => False)) _ _ (pre ++ [x]) w3) ([(5, .eq (vi x)), (2, .eq (.pointer (some ⟨B2, 0, none⟩)))]) w3 from ?_) a' ha
   refine CW.block (CW.region ?_)
   refine LW.p (PEv.load Tryz.isAgg30 (.tmp rfl) (hB2.celln rfl)) rfl rfl rfl ?_
   refine LW.p (PEv.move (.tmp rfl)) rfl rfl rfl ?_
   refine LW.r (REv.buildSlice (xs := [x]) (enc := eInt) (mk := vi) Tryz.underlying30 Tryz.sizeOf3 Tryz.zeroValue3 rfl (by decide) (fun _ => rfl) (fun _ => rfl) (.cons (.tmp rfl) .nil) rfl) rfl rfl rfl rfl ?_
   rintro _ w4 ⟨B10, cB10, rfl, NB10, yB10, xB10⟩
   have eB10 := NB10.at_
   have zB10 := NB10.size
   replace hZ := hZ.up NB10.up
   replace hB2 := hB2.up NB10.up
   replace hO := hO.up NB10.up
   replace hW := hW.up NB10.up
   replace hK := hK.up NB10.up
   replace hN := hN.up NB10.up
   have hB10 := NB10.blk
   have hE10 := xB10
   refine LW.r (REv.append (enc := eInt) (base := B2 + 1) (bytes := 8) (i := Tryz.t3) Tryz.underlying30 (by kernel_rfl) rfl rfl rfl rfl (by decide) (fun _ => rfl) eInt_one (.tmp rfl) (.tmp rfl) hO (Sl.of_els hE10) (by simp) (by simp [maxLen]; omega) (by simp; omega) (by omega)) rfl rfl rfl rfl ?_
   rintro v11 w5 ⟨Ow5, Gw5⟩
   have zw5 := Gw5.size
   replace hZ := hZ.gr Gw5 rfl
   replace hB2 := hB2.gr Gw5 (by omega)
   replace hW := hW.gr Gw5 (by omega)
   replace hK := hK.gr Gw5
   replace hN := hN.gr Gw5 (fun i hi => by first | exact .inr (by omega) | exact .inl (by show _ ≤ _; omega))
   replace hO := Ow5
   refine LW.s (SEv.store Tryz.sizeOf30 (.tmp rfl) (.tmp rfl) hO.one hB2 (by simp)) rfl rfl rfl ?_
   intro w6 Nw6
   have zw6 := Nw6.size
   replace hZ := hZ.sto Nw6.sto (by omega)
   replace hO := hO.sto Nw6.sto (by omega)
   replace hW := hW.sto Nw6.sto (by omega)
   replace hK := hK.sto Nw6.sto (.inr (.inr ⟨_, _, hB2⟩))
   replace hN := hN.stoC Nw6.sto (⟨_, _, hB2⟩) (by first | exact .inr (by omega) | exact .inl rfl | exact .inl (by show _ ≤ _; omega))
   replace hB2 := Nw6.blk
   replace hB2 : Blk w6 B2 #[v11] _ := hB2
   refine LW.nil (KW.inBlock ?_)
   exact fun a ha => ⟨hK, hN, hZ, _, hB2, hO, hW⟩
  ·intro D ys w7 hDb hS hs hD
   rw [← hbq] at hDb
   obtain ⟨hZ, v, hB2, hO, hW⟩ := hs
   replace hD : Ob w7 D (.deferred (some [])) := hD
   have zD := hD.lt
   have zq := hZ.le
   refine KW.inBlock (KW.then (CW.seq (CW.region ?_)))
   refine LW.p (PEv.load Tryz.isAgg30 (.tmp rfl) (hB2.celln rfl)) rfl rfl rfl ?_
   refine LW.p (PEv.assign (.tmp rfl)) rfl rfl rfl (LW.nil (KW.then (CW.ret ?_)))
   refine KW.unmark hD rfl ?_
   replace hZ := hZ.ko (Ko.putObj (.deferred none) hD rfl hDb)
   replace hB2 := hB2.ko (Ko.putObj (.deferred none) hD rfl hDb)
   replace hO := hO.ko (Ko.putObj (.deferred none) hD rfl hDb)
   replace hW := hW.putObj (D := D) (.deferred none) (by omega)
   refine KW.ret1 rfl rfl ⟨_, rfl, ?_⟩
   exact ⟨ys, hS, hO.mono (by omega), hW⟩
  ·intro D c pre w8 hDb hpre hs hD
   rw [← hbq] at hDb
   obtain ⟨hZ, hF⟩ := hs
   replace hD : Ob w8 D (.deferred (some [])) := hD
   have zD := hD.lt
   have zq := hZ.le
   exact hF.elim
theorem sort_any (base e : Nat) (v : Value) (ks : List Int) (w : World) (h : OwnS w base e 1 eInt v ks) (hlen : ks.length < 4611686018427387904) : Ret Tryz.prog 84 #[v] w fun r w' => r = .tuple #[] ∧ OwnS w' base e 1 eInt v (ks.mergeSort fun x y => decide (x ≤ y)) ∧ Grew base w w' := by
  have h0 := h
  obtain ⟨h1, ⟨rfl, hn⟩ | ⟨g, cap, cur, rfl, hg, hb, h2, h3, h4, h5⟩⟩ := h
  · have hks : ks = [] := List.eq_nil_of_length_eq_zero hn
    subst hks
    refine Calls.mono (Tryz.slices_Sort_int_none none 0 w) ?_
    rintro e' w' ⟨rfl, rfl⟩
    exact ⟨_, rfl, rfl, by simpa using h0, ⟨rfl, rfl, rfl, Nat.le_refl _, fun _ _ _ => rfl, fun _ _ h _ => h⟩⟩
  · rw [flat_int] at h5
    have hl : g < w.heap.size := lt_of_block hb
    refine Calls.mono (Tryz.slices_Sort_int g 0 cap ks w (holds_of_blockI hb (by simpa using h5)) hl hlen) ?_
    rintro e' w' ⟨rfl, n, os, rfl⟩
    have hg2 := Go.grownBy_sortedI (w := w) (g := g) (n := n) (os := os) (ks.mergeSort fun x y => decide (x ≤ y)).toArray
    have ho := Go.ownsRow_sortedI (w := w) (n := n) (os := os) (ss := ks) (ts := ks.mergeSort fun x y => decide (x ≤ y)) (by simp) hg hb h2 h3 h4
    refine ⟨_, rfl, rfl, ?_, ⟨hg2.os, hg2.tape, hg2.output, hg2.size, fun i hi hi2 => hg2.block i hi (fun e => by cases e; omega), fun i o hi ho => (hg2.block i (lt_of_block hi) (fun e => by cases e; rw [hb] at hi; cases hi; cases ho)).trans hi⟩⟩
    show World.ownsRow _ _ _ _ _ _ _
    rw [flat_int, List.length_mergeSort]
    exact ho
theorem collect_any (g : Nat) (lb : Array Go.Value) (S Sp : List Int → Prop) (N : Nat) (w : World) (en : ∀ args w, (callFunc g args).run Tryz.prog w = .ok (.enter g args) w) (hit : ∀ W (X : Nat → Prop), Up w W → (∀ i, X i → w.heap.size ≤ i) → IterS Tryz.prog g lb eInt X (fun _ => False) S Sp N W) (hN0 : N ≤ 1000000000) : Ret Tryz.prog 83 #[.func (.func g) #[] lb] w fun r w' => ∃ ks, S ks ∧ OwnS w' w.heap.size 3 1 eInt r ks ∧ Up w w' := by
  have hW := Up.refl w
  refine Calls_start (n := 5) (m := 9) Tryz.func83 rfl rfl rfl ?_
  refine CW.seq (CW.region (LW.p (PEv.assign (.const _)) rfl rfl rfl (LW.nil (KW.then (CW.seq (CW.region (LW.p (PEv.move (.tmp rfl)) rfl rfl rfl ?_)))))))
  refine LW.c (enter_call0 (.cons (.const _) (.cons (.tmp rfl) .nil)) (Tryz.en126)) rfl rfl rfl rfl (appendSeq_any _ _ _ _ _ _ en hit hN0) ?_
  rintro _ w1 ⟨ks, hS, hO, uw1⟩
  have zw1 := uw1.size
  replace hW := hW.up uw1
  refine LW.p (PEv.assign (.tmp rfl)) rfl rfl rfl (LW.nil (KW.then (CW.ret ?_)))
  refine KW.ret1 rfl rfl ⟨_, rfl, ?_⟩
  exact ⟨ks, hS, hO, hW⟩
theorem sorted_any (g : Nat) (lb : Array Go.Value) (S Sp : List Int → Prop) (N : Nat) (w : World) (en : ∀ args w, (callFunc g args).run Tryz.prog w = .ok (.enter g args) w) (hit : ∀ W (X : Nat → Prop), Up w W → (∀ i, X i → w.heap.size ≤ i) → IterS Tryz.prog g lb eInt X (fun _ => False) S Sp N W) (hN0 : N ≤ 1000000000) (hS0 : ∀ ks, S ks → ks.length ≤ 1000000000) : Ret Tryz.prog 34 #[.func (.func g) #[] lb] w fun r w' => ∃ ks, S ks ∧ OwnS w' w.heap.size 3 1 eInt r (ks.mergeSort fun x y => decide (x ≤ y)) ∧ Up w w' := by
  have hW := Up.refl w
  refine Calls_start (n := 9) (m := 9) Tryz.func34 rfl rfl rfl ?_
  refine CW.seq (CW.region (LW.p (PEv.assign (.const _)) rfl rfl rfl (LW.nil (KW.then (CW.seq (CW.region (LW.p (PEv.move (.tmp rfl)) rfl rfl rfl ?_)))))))
  refine LW.c (enter_call0 (.cons (.tmp rfl) .nil) (Tryz.en83)) rfl rfl rfl rfl (collect_any _ _ _ _ _ _ en hit hN0) ?_
  rintro v w1 ⟨ks, hS, hO, uw1⟩
  have zw1 := uw1.size
  replace hW := hW.up uw1
  refine LW.p (PEv.assign (.tmp rfl)) rfl rfl rfl (LW.nil (KW.then (CW.seq (CW.region (LW.p (PEv.move (.tmp rfl)) rfl rfl rfl ?_)))))
  refine LW.c (enter_call0 (.cons (.tmp rfl) .nil) (Tryz.en84)) rfl rfl rfl rfl (sort_any _ _ _ _ _ hO (by have := hS0 ks hS; omega)) ?_
  rintro _ w2 ⟨rfl, hO2, uw2⟩
  have zw2 := uw2.size
  replace hW := hW.gr uw2 (by omega)
  replace hO := hO2
  refine LW.nil (KW.then (CW.seq (CW.region (LW.p (PEv.move (.tmp rfl)) rfl rfl rfl (LW.p (PEv.assign (.tmp rfl)) rfl rfl rfl (LW.nil (KW.then (CW.ret ?_))))))))
  refine KW.ret1 rfl rfl ⟨_, rfl, ?_⟩
  exact ⟨ks, hS, hO, hW⟩
end Hs
end Go.Proofs.YtolkipbpklkcnaaGreat
end
section
namespace Go.Wx
def unit1 (k : Int) : Int × Value := (k, .agg #[])
def setAdd (ks : List Int) (k : Int) : List Int := if k ∈ ks then ks else ks ++ [k]
theorem mset_unit (ks : List Int) (k : Int) : mset (ks.map unit1) k (.agg #[]) = (setAdd ks k).map unit1 := by
  have e : (ks.map unit1).map (·.1) = ks := by simp [List.map_map, Function.comp_def, unit1]
  unfold mset setAdd
  rw [e]
  by_cases h : k ∈ ks
  · rw [if_pos h, if_pos h, List.map_map]
    refine List.map_congr_left fun x _ => ?_
    show (if x = k then (k, Value.agg #[]) else unit1 x) = unit1 x
    by_cases hx : x = k
    · subst hx; rw [if_pos rfl]; rfl
    · rw [if_neg hx]
  · rw [if_neg h, if_neg h]; simp [unit1]
end Go.Wx
namespace Go.Proofs.YtolkipbpklkcnaaGreat
open Go.Wx Go.RowKit
theorem mapsKeys_any (b : Nat) (w : World) : Ret Tryz.prog 35 #[.map (some b)] w fun r w' => (∃ B, r = .func (.func 85) #[] #[.pointer (some ⟨B, 0, none⟩)] ∧ Blk w' B #[.map (some b)] 69 ∧ w.heap.size ≤ B) ∧ Up w w' := by
  have hW := Up.refl w
  refine Calls_start (n := 4) (m := 9) Tryz.func35 rfl rfl rfl ?_
  refine CW.seq (CW.region ?_)
  refine LW.r (REv.box1 (.tmp rfl) rfl) rfl rfl rfl rfl ?_
  rintro _ w1 ⟨B1, rfl, NB1⟩
  have eB1 := NB1.at_
  have zB1 := NB1.size
  replace hW := hW.up NB1.up
  have hB1 := NB1.blk
  refine LW.p (PEv.assign (.const _)) rfl rfl rfl (LW.nil (KW.then (CW.seq (CW.region ?_))))
  refine LW.p (PEv.makeFunc (.cons (.tmp rfl) .nil)) rfl rfl rfl ?_
  refine LW.p (PEv.assign (.tmp rfl)) rfl rfl rfl (LW.nil (KW.then (CW.ret ?_)))
  refine KW.ret1 rfl rfl ⟨_, rfl, ?_⟩
  exact ⟨⟨_, rfl, hB1, by omega⟩, hW⟩
theorem mapsKeys_iter (X Y : Nat → Prop) (B1 b : Nat) (kv : List (Int × Value)) (w : World) (hYY : ∀ i, Y i → i < w.heap.size) (hQX : ¬ X B1) (hbY : ¬ Y b) (hQ0 : Blk w B1 #[.map (some b)] 69) (hM0 : IMap w b kv) :
    IterS Tryz.prog 85 #[.pointer (some ⟨B1, 0, none⟩)] eInt X Y (fun ys => ys.Perm (kv.map (·.1))) (fun pre => pre.Nodup ∧ ∀ k ∈ pre, k ∈ kv.map (·.1)) kv.length w := by
  refine IterS.of ?_
  intro lp J Jx w0 hUw _ hY hJ
  obtain ⟨Bd, hBd⟩ : ∃ Bd, Bd = w0.heap.size := ⟨_, rfl⟩
  rw [← hBd] at hJ hY
  have zU := hUw.size
  have hQ := hQ0.up hUw
  have hM := hM0.up hUw
  have zQ0 := hQ.lt
  refine Calls_start (n := 14) (m := 9) Tryz.func85 rfl rfl rfl ?_
  refine CW.seq (CW.region ?_)
  refine LW.p (PEv.load Tryz.isAgg69 (.tmp rfl) (hQ.celln rfl)) rfl rfl rfl ?_
  refine LW.r (REv.range Tryz.underlying69 (.tmp rfl) hM) rfl rfl rfl rfl ?_
  rintro _ w1 ⟨r5, rfl, hR5, uw1, ew1, zw1⟩
  replace hQ := hQ.up uw1
  replace hM := hM.up uw1
  replace hJ := hJ.up uw1
  refine LW.nil (KW.then (CW.block ?_))
  refine CW.loop (σ := List Int) (fun s w => Jw Bd J s w ∧ Blk w B1 #[.map (some b)] 69 ∧ IRng w b r5 kv s) (fun s => [(0, .eq (.func (.yield lp) #[] #[])), (5, .eq (.pointer (some ⟨r5, 0, none⟩)))]) (fun s => kv.length - s.length) [] ?_ ?_ ?_
  ·exact ⟨hJ, hQ, hR5⟩
  ·exact ⟨rfl, rfl, trivial⟩
  ·rintro done w2 ⟨hJ, hQ, hR5⟩
   have zQ := hQ.lt
   refine CW.seq (CW.region ?_)
   refine LW.r (REv.next (.tmp rfl) hR5) rfl rfl rfl rfl ?_
   rintro _ w3 (⟨rfl, rfl, hPm⟩ | ⟨k, u, rfl, hNx⟩)
   ·skip
    refine LW.p (PEv.extract (.tmp rfl) rfl) rfl rfl rfl (LW.nil (KW.then (CW.seq ?_)))
    refine CW.cond_false (.tmp rfl) ?_
    refine CW.exit (KW.then_exit (KW.then_exit (KW.block_hit ?_)))
    refine KW.end0 rfl ⟨_, rfl, ?_⟩
    first | exact .inl ⟨_, hPm, hJ.j⟩ | exact .inr ⟨_, hR5.sub, hJx⟩
   ·skip
    obtain ⟨_, ho, hwk⟩ := hNx.walk
    replace hJ := hJ.walk hNx.grown (by omega) ho hwk
    replace hQ := hQ.sto hNx.sto (by omega)
    replace hR5 := hNx.rng
    have zw3 := hNx.size
    refine LW.p (PEv.extract (.tmp rfl) rfl) rfl rfl rfl (LW.nil (KW.then (CW.seq ?_)))
    refine CW.cond_true (.tmp rfl) ?_
    refine CW.skip (KW.then (CW.block (CW.seq (CW.region ?_))))
    refine LW.r (REv.entry (.tmp rfl) hNx.entry) rfl rfl rfl rfl ?_
    rintro _ _ ⟨rfl, rfl⟩
    refine LW.p (PEv.extract (.tmp rfl) rfl) rfl rfl rfl (LW.p (PEv.assign (.tmp rfl)) rfl rfl rfl (LW.nil (KW.then (CW.seq (CW.region (LW.p (PEv.move (.tmp rfl)) rfl rfl rfl (LW.p (PEv.move (.tmp rfl)) rfl rfl rfl ?_)))))))
    refine LW.y (.tmp rfl) (.cons (.tmp rfl) .nil) rfl rfl (hY done k _ hJ (by have := hR5.length; simp at this; omega)) ?_
    rintro _ w4 ⟨y, rfl, hcase⟩
    refine LW.p (PEv.not (.tmp rfl)) rfl rfl rfl ?_
    refine LW.nil (KW.then ?_)
    refine CW.cond (.tmp rfl) (fun h13 => ?_) (fun h13 => ?_)
    ·first | replace h13 := of_decide_eq_true h13 | replace h13 := of_decide_eq_false h13 | skip
     have hy : y = false := by simpa using h13
     subst hy
     obtain ⟨_, hJx⟩ := hcase.resolve_left (by simp)
     refine CW.ret (KW.block_ret (KW.then_ret (KW.block_ret ?_)))
     refine KW.ret0 rfl ⟨_, rfl, ?_⟩
     first | exact .inl ⟨_, hPm, hJ.j⟩ | exact .inr ⟨_, hR5.sub, hJx⟩
    ·first | replace h13 := of_decide_eq_true h13 | replace h13 := of_decide_eq_false h13 | skip
     have hy : y = true := by simpa using h13
     subst hy
     obtain ⟨_, hJ2, hN⟩ := hcase.resolve_right (by simp)
     replace hQ := hQ.kx hN hQX
     replace hR5 := hR5.kx hN hbY (fun h => by have := hYY _ h; omega)
     refine CW.skip (KW.inBlock (KW.round ?_))
     exact ⟨done ++ [k], ⟨hJ2, hQ, hR5⟩, ⟨rfl, rfl, trivial⟩, by have := hR5.length; simp at this ⊢; omega⟩
end Go.Proofs.YtolkipbpklkcnaaGreat
end
section
namespace Go.Wx
def stopB (b : Base) (a : GAct) (f : Fact) : Bool := namesB f b.Lots a && !overB f b.Releases a.Time
def stopStep (b : Base) (a : GAct) (ks : List Int) (f : Fact) : List Int := if stopB b a f = true then setAdd ks f.ID else ks
def stopKs (b : Base) (a : GAct) (l : List Fact) : List Int := l.foldl (stopStep b a) []
def stopsOf (b : Base) (a : GAct) : List Int := (stopKs b a (b.Holds.filter isHoldB)).mergeSort fun x y => decide (x ≤ y)
theorem stopKs_snoc (b : Base) (a : GAct) (l : List Fact) (f : Fact) : stopKs b a (l ++ [f]) = stopStep b a (stopKs b a l) f := by simp [stopKs]
theorem setAdd_length (ks : List Int) (k : Int) : (setAdd ks k).length ≤ ks.length + 1 := by unfold setAdd; split <;> simp
theorem foldl_length (b : Base) (a : GAct) : ∀ (l : List Fact) (ks : List Int), (l.foldl (stopStep b a) ks).length ≤ ks.length + l.length
  | [], _ => Nat.le_refl _
  | f :: l, ks => by
    rw [List.foldl_cons, List.length_cons]
    have h1 := foldl_length b a l (stopStep b a ks f)
    have h2 : (stopStep b a ks f).length ≤ ks.length + 1 := by unfold stopStep; split; exact setAdd_length _ _; omega
    omega
theorem stopKs_length (b : Base) (a : GAct) (l : List Fact) : (stopKs b a l).length ≤ l.length := by have := foldl_length b a l []; simpa [stopKs] using this
theorem unit1_keys (ks : List Int) : (ks.map unit1).map (·.1) = ks := by simp [List.map_map, Function.comp_def, unit1]
end Go.Wx
namespace Go.Proofs.YtolkipbpklkcnaaGreat
open Go.Wx Go.RowKit
theorem Stops_any (bc : Array Go.Value) (b : Base) (a : GAct) (w : World) (hC : BaseC w bc b) (hH : b.Holds.length ≤ 1000000000) (hR : b.Releases.length < 9223372036854775807) (hL : b.Lots.length < 9223372036854775807) : Ret Tryz.prog 12 #[.agg bc, .agg a.cells] w fun r w' => OwnS w' w.heap.size 3 1 eInt r (stopsOf b a) ∧ Up w w' := by
  have hW := Up.refl w
  obtain ⟨w0, rfl⟩ : ∃ w0, w0 = w := ⟨_, rfl⟩
  refine Calls_startM (n := 28) Tryz.func12 rfl rfl rfl ?_
  refine CW.seq (CW.region ?_)
  refine LW.r (REv.boxA (.tmp rfl)) rfl rfl rfl rfl ?_
  rintro _ w1 ⟨B2, rfl, NB2⟩
  have eB2 := NB2.at_
  have zB2 := NB2.size
  replace hC := hC.up NB2.up
  replace hW := hW.up NB2.up
  have hB2 := NB2.blk
  refine LW.r (REv.boxA (.tmp rfl)) rfl rfl rfl rfl ?_
  rintro _ w2 ⟨B3, rfl, NB3⟩
  have eB3 := NB3.at_
  have zB3 := NB3.size
  replace hC := hC.up NB3.up
  replace hW := hW.up NB3.up
  replace hB2 := hB2.up NB3.up
  have hB3 := NB3.blk
  refine LW.p (PEv.assign (.const _)) rfl rfl rfl (LW.nil (KW.then (CW.seq ?_)))
  have hU1 := Up.refl w2
  have hBs := hB2
  have hCs := hC
  refine CW.region ?_
  refine LW.r REv.makeMap rfl rfl rfl rfl ?_
  rintro _ w3 ⟨B7, rfl, MB7, uB7, eB7, zB7⟩
  replace hW := hW.up uB7
  replace hB3 := hB3.up uB7
  replace hU1 := hU1.up uB7
  have hM7 := MB7
  refine LW.r (REv.alloc1 Tryz.zeroValue69 rfl) rfl rfl rfl rfl ?_
  rintro _ w4 ⟨B5, rfl, MB5⟩
  refine LW.s (SEv.store Tryz.sizeOf69 (.tmp rfl) (.tmp rfl) rfl MB5.blk (by decide)) rfl rfl rfl ?_
  intro w5 LB5
  have NB5 := MB5.set LB5
  clear LB5 MB5
  have eB5 := NB5.at_
  have zB5 := NB5.size
  replace hW := hW.up NB5.up
  replace hB3 := hB3.up NB5.up
  replace hU1 := hU1.up NB5.up
  replace hM7 := hM7.up NB5.up
  have hB5 := NB5.blk
  refine LW.nil (KW.then (CW.seq (CW.seq (CW.region ?_))))
  refine LW.c (enter_call0 (.cons (.tmp rfl) .nil) (Tryz.en31)) rfl rfl rfl rfl (all_any _ _) ?_
  rintro _ w6 ⟨⟨BA, rfl, hA, zA⟩, uw6⟩
  have zw6 := uw6.size
  replace hW := hW.up uw6
  replace hB3 := hB3.up uw6
  replace hU1 := hU1.up uw6
  replace hM7 := hM7.up uw6
  replace hB5 := hB5.up uw6
  refine LW.nil (KW.then (CW.block ?_))
  obtain ⟨bq, hbq⟩ : ∃ bq, bq = w6.heap.size := ⟨_, rfl⟩
  refine CW.rangeFunc (fun _ => False) (fun i => i = B7) (fun pre W => Sz bq W ∧ Blk W B3 a.cells 24 ∧ Blk W B5 #[.map (some B7)] 69 ∧ IMap W B7 ((stopKs b a pre).map unit1) ∧ Up w2 W ∧ Up w0 W) (fun c pre W => Sz bq W ∧ False) (fun x a' W => ∃ BX, Ag 28 [] ([(6, .eq (.pointer (some ⟨BX, 0, none⟩))), (3, .eq (.pointer (some ⟨B3, 0, none⟩))), (5, .eq (.pointer (some ⟨B5, 0, none⟩))), (2, .eq (.pointer (some ⟨B2, 0, none⟩)))]) a' W ∧ bq ≤ BX ∧ Blk W BX (holdCells x ⟨B2, 0, none⟩) 74) (.tmp rfl) (fun args w => Tryz.en81 args w) (all_iter _ _ _ _ _ _ _ _ hU1 (fun _ h => h.elim) (fun i h => by omega) (fun h => h.elim) hA hBs hCs (by omega)) (fun _ => rfl) rfl ?_ ?_ ?_ ?_ ?_ ?_ ?_ ?_
  ·rw [← hbq]
   intro pre W W' row hs hg hr
   obtain ⟨hZ, hB3, hB5, hM7, hU1, hW⟩ := hs
   exact ⟨hZ.ko (Ko.grown hg hr), hB3.ko (Ko.grown hg hr), hB5.ko (Ko.grown hg hr), hM7.ko (Ko.grown hg hr) (by omega), hU1.ko (Ko.grown hg hr) (by omega), hW.ko (Ko.grown hg hr) (by omega)⟩
  ·rw [← hbq]
   intro c pre W W' row hs hg hr
   obtain ⟨hZ, hF⟩ := hs
   exact ⟨hZ.ko (Ko.grown hg hr), hF⟩
  ·rw [← hbq]
   intro x a' u W W' row hs hg hr
   obtain ⟨BX, ha, hBX, hBX6⟩ := hs
   exact ⟨BX, ha.world rfl _, hBX, hBX6.ko (Ko.grown hg hr)⟩
  ·exact ⟨Nat.le_of_eq hbq, hB3, hB5, hM7, hU1, hW⟩
  ·rw [← hbq]
   intro lp pre x w7 K hs hk a ha
   obtain ⟨hZ, hB3, hB5, hM7, hU1, hW⟩ := hs
   have zq := hZ.le
   have hK := Kf.refl bq w7
   have hN := Kx.refl bq (fun _ => False) (fun i => i = B7) w7
   revert a
   refine CW.assign1 (p := 9) rfl ?_
   refine CW.region ?_
   refine LW.r (REv.allocA Tryz.zeroValue74) rfl rfl rfl rfl ?_
   rintro _ w8 ⟨B6, rfl, MB6⟩
   refine LW.s (SEv.storeA Tryz.sizeOf74 rfl (.tmp rfl) (.tmp rfl) (by first | rfl | exact Fact.one _ | exact GAct.one _ | exact holdCells_one _ _ | exact hold0_one | (simp [Value.oneCell'])) MB6.blk rfl) rfl rfl rfl ?_
   intro w9 LB6
   have NB6 := MB6.set LB6
   clear LB6 MB6
   have eB6 := NB6.at_
   have zB6 := NB6.size
   replace hZ := hZ.up NB6.up
   replace hB3 := hB3.up NB6.up
   replace hB5 := hB5.up NB6.up
   replace hM7 := hM7.up NB6.up
   replace hU1 := hU1.up NB6.up
   replace hW := hW.up NB6.up
   replace hK := hK.up NB6.up
   replace hN := hN.up NB6.up
   have hB6 := NB6.blk
   refine LW.nil ?_
   exact fun a ha => hk a _ hK hN ⟨hZ, hB3, hB5, hM7, hU1, hW⟩ ⟨_, ha.sub ⟨rfl, rfl, rfl, rfl, trivial⟩, by omega, hB6⟩
  ·rw [← hbq]
   intro lp pre x a' w10 hs hx hlt
   obtain ⟨hZ, hB3, hB5, hM7, hU1, hW⟩ := hs
   obtain ⟨BX, ha, hBX, hBX6⟩ := hx
   have zq := hZ.le
   have hK := Kf.refl bq w10
   have hN := Kx.refl bq (fun _ => False) (fun i => i = B7) w10
   refine (show CW (some lp) 8 _ 28 [] _ (ownPostG bq (Kx bq (fun _ => False) (fun i => i = B7)) _ _ (pre ++ [x]) w10) ([(6, .eq (.pointer (some ⟨BX, 0, none⟩))), (3, .eq (.pointer (some ⟨B3, 0, none⟩))), (5, .eq (.pointer (some ⟨B5, 0, none⟩))), (2, .eq (.pointer (some ⟨B2, 0, none⟩)))]) w10 from ?_) a' ha
   refine CW.block (CW.seq ?_)
   cases hq4 : namesB x b.Lots a with
   | false =>
    refine CW.region ?_
    refine LW.p (PEv.loadA Tryz.isAgg74 Tryz.sizeOf74 rfl (.tmp rfl) (hBX6.agg)) rfl rfl rfl ?_
    refine LW.p (PEv.loadA Tryz.isAgg24 Tryz.sizeOf24 rfl (.tmp rfl) (hB3.agg)) rfl rfl rfl ?_
    refine LW.c (enter_call0 (.cons (.tmp rfl) (.cons (.tmp rfl) .nil)) (Tryz.en32)) rfl rfl rfl rfl (names_any _ _ _ _ _ _ (hBs.up hU1) (hCs.up hU1) hL) ?_
    rintro _ w11 ⟨rfl, uw11⟩
    have zw11 := uw11.size
    replace hZ := hZ.up uw11
    replace hB3 := hB3.up uw11
    replace hB5 := hB5.up uw11
    replace hM7 := hM7.up uw11
    replace hU1 := hU1.up uw11
    replace hW := hW.up uw11
    replace hBX6 := hBX6.up uw11
    replace hK := hK.up uw11
    replace hN := hN.up uw11
    rw [hq4]
    refine LW.p (PEv.move (.tmp rfl)) rfl rfl rfl ?_
    refine LW.no rfl rfl rfl rfl rfl rfl rfl rfl ?_
    refine LW.no rfl rfl rfl rfl rfl rfl rfl rfl ?_
    refine LW.no rfl rfl rfl rfl rfl rfl rfl rfl ?_
    refine LW.no rfl rfl rfl rfl rfl rfl rfl rfl ?_
    refine LW.no rfl rfl rfl rfl rfl rfl rfl rfl ?_
    refine LW.p (PEv.pick_and (b := false) (.tmp rfl) (fun hp => absurd (show false = true from hp) (by decide))) rfl rfl rfl ?_
    refine LW.nil (KW.then ?_)
    refine CW.cond (.tmp rfl) (fun h19 => ?_) (fun h19 => ?_)
    ·first | replace h19 := of_decide_eq_true h19 | replace h19 := of_decide_eq_false h19 | skip
     cases h19
    ·first | replace h19 := of_decide_eq_true h19 | replace h19 := of_decide_eq_false h19 | skip
     have hk : stopKs b a (pre ++ [x]) = stopKs b a pre := by rw [stopKs_snoc]; exact if_neg (by simp [stopB, hq4])
     refine CW.skip (KW.inBlock ?_)
     exact fun a ha => ⟨hK, hN, hZ, hB3, hB5, by rw [hk]; exact hM7, hU1, hW⟩
   | true =>
    refine CW.region ?_
    refine LW.p (PEv.loadA Tryz.isAgg74 Tryz.sizeOf74 rfl (.tmp rfl) (hBX6.agg)) rfl rfl rfl ?_
    refine LW.p (PEv.loadA Tryz.isAgg24 Tryz.sizeOf24 rfl (.tmp rfl) (hB3.agg)) rfl rfl rfl ?_
    refine LW.c (enter_call0 (.cons (.tmp rfl) (.cons (.tmp rfl) .nil)) (Tryz.en32)) rfl rfl rfl rfl (names_any _ _ _ _ _ _ (hBs.up hU1) (hCs.up hU1) hL) ?_
    rintro _ w12 ⟨rfl, uw12⟩
    have zw12 := uw12.size
    replace hZ := hZ.up uw12
    replace hB3 := hB3.up uw12
    replace hB5 := hB5.up uw12
    replace hM7 := hM7.up uw12
    replace hU1 := hU1.up uw12
    replace hW := hW.up uw12
    replace hBX6 := hBX6.up uw12
    replace hK := hK.up uw12
    replace hN := hN.up uw12
    rw [hq4]
    refine LW.p (PEv.move (.tmp rfl)) rfl rfl rfl ?_
    refine LW.yes rfl rfl rfl rfl rfl rfl ?_
    refine LW.p (PEv.loadA Tryz.isAgg74 Tryz.sizeOf74 rfl (.tmp rfl) (hBX6.agg)) rfl rfl rfl ?_
    refine LW.yes rfl rfl rfl rfl rfl rfl ?_
    refine LW.p (PEv.fieldAddr (off := 6) Tryz.underlying24 rfl rfl Tryz.sizeOf3 rfl (.tmp rfl)) rfl rfl rfl ?_
    refine LW.yes rfl rfl rfl rfl rfl rfl ?_
    refine LW.p (PEv.load Tryz.isAgg3 (.tmp rfl) (hB3.celln rfl)) rfl rfl rfl ?_
    refine LW.yes rfl rfl rfl rfl rfl rfl ?_
    refine LW.c (enter_call0 (.cons (.tmp rfl) (.cons (.tmp rfl) .nil)) (Tryz.en33)) rfl rfl rfl rfl (isOver_any _ _ _ _ _ _ (hBs.up hU1) (hCs.up hU1) hR) ?_
    rintro _ w13 ⟨rfl, uw13⟩
    have zw13 := uw13.size
    replace hZ := hZ.up uw13
    replace hB3 := hB3.up uw13
    replace hB5 := hB5.up uw13
    replace hM7 := hM7.up uw13
    replace hU1 := hU1.up uw13
    replace hW := hW.up uw13
    replace hBX6 := hBX6.up uw13
    replace hK := hK.up uw13
    replace hN := hN.up uw13
    refine LW.yes rfl rfl rfl rfl rfl rfl ?_
    refine LW.p (PEv.not (.tmp rfl)) rfl rfl rfl ?_
    refine LW.p (PEv.pick_and (.tmp rfl) (fun hp => (by first | exact .const _ | exact .tmp rfl | exact .cond rfl (by first | assumption | simp_all)))) rfl rfl rfl ?_
    refine LW.nil (KW.then ?_)
    refine CW.cond (.tmp rfl) (fun h19 => ?_) (fun h19 => ?_)
    ·first | replace h19 := of_decide_eq_true h19 | replace h19 := of_decide_eq_false h19 | skip
     have hk : stopKs b a (pre ++ [x]) = setAdd (stopKs b a pre) x.ID := by rw [stopKs_snoc]; exact if_pos (by simpa [stopB, hq4] using h19)
     refine CW.region ?_
     refine LW.p (PEv.load Tryz.isAgg69 (.tmp rfl) (hB5.celln rfl)) rfl rfl rfl ?_
     refine LW.p (PEv.fieldAddr (off := 0) Tryz.underlying74 rfl rfl Tryz.sizeOf35 rfl (.tmp rfl)) rfl rfl rfl ?_
     refine LW.p (PEv.fieldAddr (off := 1) Tryz.underlying35 rfl rfl Tryz.sizeOf3 rfl (.tmp rfl)) rfl rfl rfl ?_
     refine LW.p (PEv.load Tryz.isAgg3 (.tmp rfl) (hBX6.celln rfl)) rfl rfl rfl ?_
     refine LW.p (PEv.build (cs := #[]) Tryz.underlying77 Tryz.zeroValue77 Tryz.places77 .nil rfl) rfl rfl rfl ?_
     refine LW.s (SEv.mapUpdate Tryz.underlying69 Tryz.underlying3 (.tmp rfl) (.tmp rfl) (.tmp rfl) hM7) rfl rfl rfl ?_
     rintro w14 ⟨Mw14, Kw14, zw14⟩
     replace hZ := hZ.sto Kw14 (by omega)
     replace hB3 := hB3.sto Kw14 (by omega)
     replace hB5 := hB5.sto Kw14 (by omega)
     replace hU1 := hU1.sto Kw14 (by omega)
     replace hW := hW.sto Kw14 (by omega)
     replace hBX6 := hBX6.sto Kw14 (by omega)
     replace hK := hK.sto Kw14 (.inl (by omega))
     replace hN := hN.stoM Kw14 (hM7.obj) (by first | exact .inr (by omega) | exact .inl rfl | exact .inl (by show _ ≤ _; omega))
     replace hM7 := Mw14
     refine LW.nil ?_
     rw [mset_unit] at hM7
     refine KW.inBlock ?_
     exact fun a ha => ⟨hK, hN, hZ, hB3, hB5, by rw [hk]; exact hM7, hU1, hW⟩
    ·first | replace h19 := of_decide_eq_true h19 | replace h19 := of_decide_eq_false h19 | skip
     have hk : stopKs b a (pre ++ [x]) = stopKs b a pre := by rw [stopKs_snoc]; exact if_neg (by simpa [stopB, hq4] using h19)
     refine CW.skip (KW.inBlock ?_)
     exact fun a ha => ⟨hK, hN, hZ, hB3, hB5, by rw [hk]; exact hM7, hU1, hW⟩
  ·intro D ys w15 hDb hS hs hD
   rw [← hbq] at hDb
   obtain ⟨hZ, hB3, hB5, hM7, hU1, hW⟩ := hs
   replace hD : Ob w15 D (.deferred (some [])) := hD
   have zD := hD.lt
   have zq := hZ.le
   subst hS
   refine KW.inBlock (KW.then (CW.seq ?_))
   have hKl := stopKs_length b a (b.Holds.filter isHoldB)
   have hFl := List.length_filter_le isHoldB b.Holds
   have zBA := hB5.lt
   refine CW.region ?_
   refine LW.p (PEv.load Tryz.isAgg69 (.tmp rfl) (hB5.celln rfl)) rfl rfl rfl ?_
   refine LW.c (enter_call0 (.cons (.tmp rfl) .nil) (Tryz.en35)) rfl rfl rfl rfl (mapsKeys_any _ _) ?_
   rintro _ w16 ⟨⟨BK, rfl, hBK, zK⟩, uw16⟩
   have zw16 := uw16.size
   replace hZ := hZ.up uw16
   replace hB3 := hB3.up uw16
   replace hB5 := hB5.up uw16
   replace hM7 := hM7.up uw16
   replace hU1 := hU1.up uw16
   replace hW := hW.up uw16
   replace hD := hD.up uw16
   have zBK := hBK.lt
   refine LW.c (enter_call0 (.cons (.tmp rfl) .nil) (Tryz.en34)) rfl rfl rfl rfl (Hs.sorted_any _ _ _ _ _ _ Tryz.en85 (fun W X u hX => mapsKeys_iter X _ BK B7 _ W (fun i h => h.elim) (fun h => by have := hX _ h; omega) (fun h => h.elim) (hBK.up u) (hM7.up u)) (by rw [List.length_map]; omega) (fun ks h => by have := h.length_eq; rw [unit1_keys] at this; omega)) ?_
   rintro v w17 ⟨ks, hS, hO, uw17⟩
   have zw17 := uw17.size
   replace hZ := hZ.up uw17
   replace hB3 := hB3.up uw17
   replace hB5 := hB5.up uw17
   replace hM7 := hM7.up uw17
   replace hU1 := hU1.up uw17
   replace hW := hW.up uw17
   replace hD := hD.up uw17
   replace hBK := hBK.up uw17
   refine LW.p (PEv.assign (.tmp rfl)) rfl rfl rfl (LW.nil (KW.then (CW.ret ?_)))
   refine KW.unmark hD rfl ?_
   replace hZ := hZ.ko (Ko.putObj (.deferred none) hD rfl hDb)
   replace hB3 := hB3.ko (Ko.putObj (.deferred none) hD rfl hDb)
   replace hB5 := hB5.ko (Ko.putObj (.deferred none) hD rfl hDb)
   replace hM7 := hM7.ko (Ko.putObj (.deferred none) hD rfl hDb) (by omega)
   replace hU1 := hU1.ko (Ko.putObj (.deferred none) hD rfl hDb) (by omega)
   replace hW := hW.putObj (D := D) (.deferred none) (by omega)
   replace hBK := hBK.ko (Ko.putObj (.deferred none) hD rfl hDb)
   replace hO := hO.ko (Ko.putObj (.deferred none) hD rfl hDb)
   refine KW.ret1 rfl rfl ⟨_, rfl, ?_⟩
   have hp : ks.Perm (stopKs b a (b.Holds.filter isHoldB)) := by rw [unit1_keys] at hS; exact hS
   rw [sort_perm hp] at hO
   exact ⟨hO.mono (by omega), hW⟩
  ·intro D c pre w18 hDb hpre hs hD
   rw [← hbq] at hDb
   obtain ⟨hZ, hF⟩ := hs
   replace hD : Ob w18 D (.deferred (some [])) := hD
   have zD := hD.lt
   have zq := hZ.le
   exact hF.elim
end Go.Proofs.YtolkipbpklkcnaaGreat
end
section
namespace Go.Wx
theorem lst_mem {l : List Fact} {d : Int} {j : Nat} (hj : j < 11) {x : Fact} : x ∈ lstOf (ofB l d) j ↔ eff l d x ∧ x.Gone = false ∧ x.Kind = ((j + 1 : Nat) : Int) := by
  rw [lst_ofB l d hj]
  unfold lstAt
  rw [if_pos (List.mem_singleton.2 rfl), (sortK_sts _).same.mem, List.mem_filter, best_eff]
  simp
theorem eff_valid {l : List Fact} {d : Int} {x : Fact} (h : eff l d x) : validB x = true := keyB_valid h.2.1
theorem eff_key {l : List Fact} {d : Int} {x y : Fact} (hx : eff l d x) (hy : eff l d y) (e : keyB x = keyB y) : x = y := prev_total (eff_valid hx) (eff_valid hy) e (hy.2.2.2 x hx.1 hx.2.2.1) (hx.2.2.2 y hy.1 hy.2.2.1)
theorem lst_nodup (l : List Fact) (d : Int) {j : Nat} (hj : j < 11) : (lstOf (ofB l d) j).Nodup := by
  rw [lst_ofB l d hj]
  unfold lstAt
  rw [if_pos (List.mem_singleton.2 rfl)]
  exact ((sortK_sts _).same.perm.nodup_iff).2 ((factsM_nodup l d).filter _)
theorem sorted_eq {α : Type} {key : α → K2} {A B : List α} (hA : srt key A) (hB : srt key B) (hp : A.Perm B) (hd : ∀ x ∈ A, ∀ y ∈ A, key x = key y → x = y) : A = B := by
  rw [(StS.refl hA).eq, (StS.refl hB).eq]
  exact sortK_perm hp hd
theorem lst_srt (l : List Fact) (d : Int) {j : Nat} (hj : j < 11) : srt (ordK ((j + 1 : Nat) : Int)) (lstOf (ofB l d) j) := by
  rw [lst_ofB l d hj]; unfold lstAt; rw [if_pos (List.mem_singleton.2 rfl)]; exact (sortK_sts _).ord
theorem lst_same {l m : List Fact} {d : Int} {j : Nat} (hj : j < 11) (h : ∀ x, eff l d x ∧ x.Kind = ((j + 1 : Nat) : Int) ↔ eff m d x ∧ x.Kind = ((j + 1 : Nat) : Int)) : lstOf (ofB l d) j = lstOf (ofB m d) j := by
  refine sorted_eq (lst_srt _ d hj) (lst_srt _ d hj) (perm_of_mem (lst_nodup _ d hj) (lst_nodup _ d hj) fun x => ?_) fun x hx y hy e => ?_
  · rw [lst_mem hj, lst_mem hj]
    have := h x
    exact ⟨fun ⟨a, b, c⟩ => ⟨(this.1 ⟨a, c⟩).1, b, c⟩, fun ⟨a, b, c⟩ => ⟨(this.2 ⟨a, c⟩).1, b, c⟩⟩
  · have hx := (lst_mem hj).1 hx
    have hy := (lst_mem hj).1 hy
    exact eff_key hx.1 hy.1 (key_of_ord (eff_valid hx.1) (eff_valid hy.1) hx.2.2 hy.2.2 e)
theorem lst_kind {l m : List Fact} {d : Int} {j : Nat} (hj : j < 11) (h : ∀ x, x.Kind = ((j + 1 : Nat) : Int) → (x ∈ l ↔ x ∈ m)) : lstOf (ofB l d) j = lstOf (ofB m d) j := by
  have key : ∀ {l m : List Fact}, (∀ x, x.Kind = ((j + 1 : Nat) : Int) → (x ∈ l ↔ x ∈ m)) → ∀ x, eff l d x ∧ x.Kind = ((j + 1 : Nat) : Int) → eff m d x ∧ x.Kind = ((j + 1 : Nat) : Int) := fun {l m} h x ⟨⟨h1, h2, h3, h4⟩, hk⟩ => by
    refine ⟨⟨(h x hk).1 h1, h2, h3, fun g hg hd => ?_⟩, hk⟩
    cases hp : prevB g x with
    | false => rfl
    | true =>
      have hp2 := hp
      unfold prevB at hp2
      simp only [Bool.and_eq_true] at hp2
      obtain ⟨⟨⟨v1, v2⟩, v3⟩, _⟩ := hp2
      have := h4 g ((h g ((key_kind v1 v2 (by simpa using v3)).trans hk)).2 hg) hd
      rw [this] at hp; cases hp
  exact lst_same hj fun x => ⟨key h x, key (fun x hx => (h x hx).symm) x⟩
theorem eq_one {α : Type} {l : List α} {x : α} (hn : l.Nodup) (h : ∀ y, y ∈ l ↔ y = x) : l = [x] := by
  match l, hn, h with
  | [], _, h => exact absurd ((h x).2 rfl) (by simp)
  | [y], _, h => rw [(h y).1 List.mem_cons_self]
  | y :: z :: r, hn, h =>
    have e1 := (h y).1 List.mem_cons_self
    have e2 := (h z).1 (List.mem_cons_of_mem _ List.mem_cons_self)
    rw [List.nodup_cons] at hn
    exact absurd (by rw [e1, ← e2]; exact List.mem_cons_self) hn.1
theorem one_lst {x : Fact} {d : Int} {j : Nat} (hj : j < 11) (hv : validB x = true) (hd : x.Day ≤ d) (hg : x.Gone = false) (hk : x.Kind = ((j + 1 : Nat) : Int)) : lstOf (ofB [x] d) j = [x] := by
  refine eq_one (lst_nodup _ d hj) fun y => ?_
  rw [lst_mem hj]
  constructor
  · exact fun h => List.mem_singleton.1 h.1.1
  · rintro rfl
    refine ⟨⟨List.mem_singleton.2 rfl, ?_, hd, fun g hg2 _ => ?_⟩, hg, hk⟩
    · unfold keyB; rw [if_pos hv]; exact keyB_ne hv
    · rw [List.mem_singleton.1 hg2]; exact prev_irrefl _
theorem keyF_sub {k : Int} (h : 1 ≤ k ∧ k ≤ 11) : ∀ x ∈ keyFOf k, x ∈ fieldsOf k := by
  have hc : k = 1 ∨ k = 2 ∨ k = 3 ∨ k = 4 ∨ k = 5 ∨ k = 6 ∨ k = 7 ∨ k = 8 ∨ k = 9 ∨ k = 10 ∨ k = 11 := by omega
  rcases hc with rfl | rfl | rfl | rfl | rfl | rfl | rfl | rfl | rfl | rfl | rfl <;>
    simp [keyFOf, fieldsOf, shapeK, shapeF, fIds, fWhen, fWho]
theorem keyL_in {f : Fact} (hf : validB f = true) : ∀ x ∈ keyL f, inW x := fun x hx => by
  have hk := valid_kind hf
  unfold keyL at hx
  rcases List.mem_cons.1 hx with rfl | hx
  · exact ⟨by omega, by omega⟩
  · obtain ⟨y, hy, rfl⟩ := List.mem_map.1 hx
    exact (valid_parts hf).2.1 y (keyF_sub hk y hy)
theorem key_vals {f g : Fact} (hf : validB f = true) (hg : validB g = true) (h : keyB f = keyB g) : f.Kind = g.Kind ∧ valsOf (keyFOf f.Kind) f = valsOf (keyFOf f.Kind) g := by
  have hk := key_kind hf hg h
  unfold keyB at h
  rw [if_pos hf, if_pos hg] at h
  have e := (encIs_cut (r := []) (s := []) (keyL_in hf) (keyL_in hg) (by unfold keyL; simp [valsOf, hk]) (by rw [h])).1
  unfold keyL at e
  rw [← hk] at e
  exact ⟨hk, (List.cons.inj e).2⟩
theorem key8 {f g : Fact} (hf : validB f = true) (hg : validB g = true) (hk : f.Kind = 8) (h : keyB f = keyB g) : f.Other = g.Other ∧ f.Parties = g.Parties := by
  have e := (key_vals hf hg h).2
  rw [hk] at e
  replace e : [f.Other, f.Parties] = [g.Other, g.Parties] := e
  simpa using e
theorem prevk {a b : Fact} (h : prevB a b = true) : validB a = true ∧ validB b = true ∧ keyB a = keyB b := by
  unfold prevB at h
  simp only [Bool.and_eq_true] at h
  exact ⟨h.1.1.1, h.1.1.2, by simpa using h.1.2⟩
theorem keyB_nil {f : Fact} (h : validB f = true) : keyB f ≠ [] := by unfold keyB; rw [if_pos h]; exact keyB_ne h
def hdF (v d i l u p : Int) (g : Bool) : Fact := { zeroF with Kind := 7, Version := v, Day := d, Gone := g, ID := i, Lot := l, Until := u, Parties := p }
def rlF (o p t : Int) : Fact := { zeroF with Kind := 8, Version := 1, Other := o, Parties := p, Time := t }
theorem hdF_valid {v d i l u p : Int} {g : Bool} (hv : 1 ≤ v ∧ v ≤ 2) (hd : 0 ≤ d ∧ d ≤ 100) (hi : 1 ≤ i ∧ i ≤ 10) (hl : 0 ≤ l ∧ l ≤ 10) (hu : 0 ≤ u ∧ u ≤ 1000000) (hp : 1 ≤ p ∧ p ≤ 255) : validB (hdF v d i l u p g) = true := by
  have hr : restB (restOf (hdF v d i l u p g).Kind) (hdF v d i l u p g) = true := decide_eq_true (show (0 : Int) ≤ u from hu.1)
  have hq : preB (hdF v d i l u p g) = false := by
    show (decide (v < 1) || decide (1000000 < v) || decide (d < 0) || decide (100000 < d) || _) = false
    rw [decide_eq_false (show ¬ v < 1 by omega), decide_eq_false (show ¬ (1000000 : Int) < v by omega), decide_eq_false (show ¬ d < 0 by omega), decide_eq_false (show ¬ (100000 : Int) < d by omega)]; rfl
  have hn : runF (fieldsOf 7) (hdF v d i l u p g) = some (fact0 7 v d g) := by
    rw [show fieldsOf 7 = [num1 1, ⟨7, 0, 1000000⟩, ⟨9, 0, 1000000⟩, ⟨11, 0, 60⟩, ⟨12, 0, 4⟩, ⟨13, 0, 40⟩, ⟨14, 0, 1000000⟩, ⟨15, 0, 1000000⟩, ⟨5, 0, 1000000⟩, ⟨6, 0, 1000000⟩, ⟨17, 1, 255⟩] from rfl]
    refine (if_neg (show ¬ (i < 1 ∨ (1000000 : Int) < i) by omega)).trans ?_
    refine (if_neg (show ¬ ((0 : Int) < 0 ∨ (1000000 : Int) < 0) by decide)).trans ?_
    refine (if_neg (show ¬ (l < 0 ∨ (1000000 : Int) < l) by omega)).trans ?_
    refine (if_neg (show ¬ ((0 : Int) < 0 ∨ (60 : Int) < 0) by decide)).trans ?_
    refine (if_neg (show ¬ ((0 : Int) < 0 ∨ (4 : Int) < 0) by decide)).trans ?_
    refine (if_neg (show ¬ ((0 : Int) < 0 ∨ (40 : Int) < 0) by decide)).trans ?_
    refine (if_neg (show ¬ ((0 : Int) < 0 ∨ (1000000 : Int) < 0) by decide)).trans ?_
    refine (if_neg (show ¬ ((0 : Int) < 0 ∨ (1000000 : Int) < 0) by decide)).trans ?_
    refine (if_neg (show ¬ ((0 : Int) < 0 ∨ (1000000 : Int) < 0) by decide)).trans ?_
    refine (if_neg (show ¬ (u < 0 ∨ (1000000 : Int) < u) by omega)).trans ?_
    refine (if_neg (show ¬ (p < 1 ∨ (255 : Int) < p) by omega)).trans ?_
    rfl
  unfold validB
  rw [hr, hq, show (hdF v d i l u p g).Kind = 7 from rfl, hn]
  show (true && (!(false || !true) && Fact.eqb (fact0 7 v d g) (fact0 7 v d g))) = true
  rw [eqb_refl]; rfl
theorem rlF_valid {o p t : Int} (ho : 1 ≤ o ∧ o ≤ 100) (hp : 1 ≤ p ∧ p ≤ 255) (ht : 0 ≤ t ∧ t ≤ 1000) : validB (rlF o p t) = true := by
  have hn : runF (fieldsOf 8) (rlF o p t) = some (fact0 8 1 0 false) := by
    rw [show fieldsOf 8 = [num1 8, ⟨17, 1, 255⟩, fWhen] from rfl]
    refine (if_neg (show ¬ (o < 1 ∨ (1000000 : Int) < o) by omega)).trans ?_
    refine (if_neg (show ¬ (p < 1 ∨ (255 : Int) < p) by omega)).trans ?_
    refine (if_neg (show ¬ (t < 0 ∨ (1000000 : Int) < t) by omega)).trans ?_
    rfl
  unfold validB
  rw [show (rlF o p t).Kind = 8 from rfl, hn]
  show (true && (!(false || !true) && Fact.eqb (fact0 8 1 0 false) (fact0 8 1 0 false))) = true
  rw [eqb_refl]; rfl
theorem stops_one {b : Base} {a : GAct} {f : Fact} (h : b.Holds = [f]) (hk : f.Kind = 7) : stopsOf b a = if stopB b a f = true then [f.ID] else [] := by
  unfold stopsOf
  rw [h, show [f].filter isHoldB = [f] by simp [isHoldB, hk]]
  unfold stopKs
  rw [List.foldl_cons, List.foldl_nil]
  unfold stopStep
  split
  · simp [setAdd]
  · simp
theorem met_no (s x : Int) : (Cond.mk 0 s x).met = true := by simp [Cond.met]
theorem met0 {l x : Int} (hl : 0 ≤ l ∧ l ≤ 1000000) : (Cond.mk l 0 x).met = (decide (l = 0) || decide (l = x)) := by
  unfold Cond.met
  rw [show IntKind.i64.wrap (l - 0) = l from by rw [Int.sub_zero]; exact wrap_i64_in (by omega) (by omega)]
  by_cases h : l = x
  · rw [decide_eq_true h, decide_eq_true (show x ≤ l by omega)]; rfl
  · rw [decide_eq_false h, Bool.and_false]
theorem names_hd {lots : List Fact} {a : GAct} {v d i l u p : Int} {g : Bool} (h0 : 0 ≤ a.Time) (hu : a.Time ≤ u) (hl : 0 ≤ l ∧ l ≤ 1000000) : namesB (hdF v d i l u p g) lots a = (decide (l = 0) || decide (l = (lotOf lots a.Wafer a.Time).1)) := by
  show ((true && decide ((0 : Int) ≤ a.Time) && decide (a.Time ≤ u)) && [Cond.mk 0 0 a.Wafer, Cond.mk l 0 (lotOf lots a.Wafer a.Time).1].all Cond.met && [Cond.mk 0 1 a.Tool, Cond.mk 0 1 a.Chamber, Cond.mk 0 1 a.Step, Cond.mk 0 0 a.Recipe, Cond.mk 0 0 a.Revision].all Cond.met) = _
  rw [decide_eq_true h0, decide_eq_true hu]
  simp only [List.all_cons, List.all_nil, met_no, met0 hl, Bool.true_and, Bool.and_true]
end Go.Wx
namespace Go.Proofs.YtolkipbpklkcnaaGreat
open Go.Wx Go.RowKit
end Go.Proofs.YtolkipbpklkcnaaGreat
end
section
namespace Go.Wx
structure I8 where
  a : Int
  b : Int
  c : Int
  d : Int
  e : Int
  f : Int
  g : Int
  h : Int
def I8.cells (x : I8) : Array Go.Value := #[vi x.a, vi x.b, vi x.c, vi x.d, vi x.e, vi x.f, vi x.g, vi x.h]
def I8Ok (x : I8) : Prop := inI x.a ∧ inI x.b ∧ inI x.c ∧ inI x.d ∧ inI x.e ∧ inI x.f ∧ inI x.g ∧ inI x.h
def I8.at (x : I8) (k : Nat) : Int := [x.a, x.b, x.c, x.d, x.e, x.f, x.g, x.h].getD k 0
theorem I8.cell (x : I8) {k : Nat} (h : k < 8) : x.cells[k]? = some (vi (x.at k)) := by
  have e : k = 0 ∨ k = 1 ∨ k = 2 ∨ k = 3 ∨ k = 4 ∨ k = 5 ∨ k = 6 ∨ k = 7 := by omega
  rcases e with rfl | rfl | rfl | rfl | rfl | rfl | rfl | rfl <;> rfl
theorem I8.in_ {x : I8} (hx : I8Ok x) (k : Nat) : inI (x.at k) := by
  obtain ⟨h0, h1, h2, h3, h4, h5, h6, h7⟩ := hx
  by_cases h : k < 8
  · have e : k = 0 ∨ k = 1 ∨ k = 2 ∨ k = 3 ∨ k = 4 ∨ k = 5 ∨ k = 6 ∨ k = 7 := by omega
    rcases e with rfl | rfl | rfl | rfl | rfl | rfl | rfl | rfl <;> assumption
  · have : x.at k = 0 := by
      unfold I8.at
      rw [List.getD_eq_getElem?_getD, List.getElem?_eq_none (by show 8 ≤ k; omega)]; rfl
    rw [this]; exact ⟨by decide, by decide⟩
theorem NewSl.own1 {α : Type} {enc : α → Array Go.Value} {base k : Nat} {e : TypeId} {w w' : World} {v : Go.Value} {x : α} (h : NewSl w e k enc [x] v w') (hk : (enc x).size = k) (hb : base ≤ w.heap.size) : Up w w' ∧ ∃ B, v = .slice (some ⟨B, 0, none⟩) 1 1 ∧ OwnS w' base e k enc (.slice (some ⟨B, 0, none⟩) 1 1) [x] := by
  obtain ⟨B, cs, rfl, N, hc, hE⟩ := h
  rw [List.length_singleton, Nat.one_mul] at hc
  have hcs : cs = enc x := by
    refine Array.ext (by rw [hc, hk]) fun i h1 h2 => ?_
    obtain ⟨B', o, e', hcell⟩ := hE 0 x rfl
    cases e'
    have h3 := hcell i (enc x)[i] (Array.getElem?_eq_getElem h2)
    rw [show (0 : Nat) + 0 * k + i = i by omega, N.blk.cell (Array.getElem?_eq_getElem h1)] at h3
    exact Option.some.inj h3
  subst hcs
  refine ⟨N.up, B, rfl, by simp [hk], .inr ⟨B, 1, enc x, rfl, by rw [N.at_]; exact hb, N.blk, Nat.le_refl _, by decide, by simp [hk], ?_⟩⟩
  simp only [List.flatMap_cons, List.flatMap_nil, List.append_nil]
  exact List.take_of_length_le (by rw [Array.length_toList, hk]; simp)
end Go.Wx
namespace Go.Proofs.YtolkipbpklkcnaaGreat
open Go.Wx Go.RowKit
end Go.Proofs.YtolkipbpklkcnaaGreat
end
section
namespace Go.Proofs
open Go.Wx Go.ChangeShapes Go.WideShapes Go.RowKit
theorem Tryz.elI8 {H : Type} {enc : TypeId × Value → H} {w : World} {b : Nat} {sp : Nat → Bool} {hd : Bool} (n : Nat) (cs : List Value) (x : DataW H × List MemPlace) (hl : cs.length = 8) (h : DataW.trod enc Tryz.prog w b sp hd n 40 cs = some x) : ∃ f : I8, cs = f.cells.toList ∧ I8Ok f := by
  have k_int : Tryz.prog.cellsOf 3 = 1 := by kernel_rfl
  match cs, hl with
  | [c0, c1, c2, c3, c4, c5, c6, c7], _ =>
    obtain ⟨xs, m, _, _, _, hlen, hg⟩ := DataW.trod_array Tryz.underlying40 h
    have hs : ∀ i, i < 8 → ∃ y, xs[i]? = some y := fun i hi => ⟨_, List.getElem?_eq_getElem (by omega)⟩
    obtain ⟨y0, z0⟩ := hs 0 (by decide)
    obtain ⟨n0, e0, _, q0⟩ := DataW.trod_int Tryz.underlying3 (show DataW.trod enc Tryz.prog w b sp hd m 3 [c0] = some y0 from by rw [← z0]; simpa [k_int] using hg 0 (by decide))
    obtain ⟨y1, z1⟩ := hs 1 (by decide)
    obtain ⟨n1, e1, _, q1⟩ := DataW.trod_int Tryz.underlying3 (show DataW.trod enc Tryz.prog w b sp hd m 3 [c1] = some y1 from by rw [← z1]; simpa [k_int] using hg 1 (by decide))
    obtain ⟨y2, z2⟩ := hs 2 (by decide)
    obtain ⟨n2, e2, _, q2⟩ := DataW.trod_int Tryz.underlying3 (show DataW.trod enc Tryz.prog w b sp hd m 3 [c2] = some y2 from by rw [← z2]; simpa [k_int] using hg 2 (by decide))
    obtain ⟨y3, z3⟩ := hs 3 (by decide)
    obtain ⟨n3, e3, _, q3⟩ := DataW.trod_int Tryz.underlying3 (show DataW.trod enc Tryz.prog w b sp hd m 3 [c3] = some y3 from by rw [← z3]; simpa [k_int] using hg 3 (by decide))
    obtain ⟨y4, z4⟩ := hs 4 (by decide)
    obtain ⟨n4, e4, _, q4⟩ := DataW.trod_int Tryz.underlying3 (show DataW.trod enc Tryz.prog w b sp hd m 3 [c4] = some y4 from by rw [← z4]; simpa [k_int] using hg 4 (by decide))
    obtain ⟨y5, z5⟩ := hs 5 (by decide)
    obtain ⟨n5, e5, _, q5⟩ := DataW.trod_int Tryz.underlying3 (show DataW.trod enc Tryz.prog w b sp hd m 3 [c5] = some y5 from by rw [← z5]; simpa [k_int] using hg 5 (by decide))
    obtain ⟨y6, z6⟩ := hs 6 (by decide)
    obtain ⟨n6, e6, _, q6⟩ := DataW.trod_int Tryz.underlying3 (show DataW.trod enc Tryz.prog w b sp hd m 3 [c6] = some y6 from by rw [← z6]; simpa [k_int] using hg 6 (by decide))
    obtain ⟨y7, z7⟩ := hs 7 (by decide)
    obtain ⟨n7, e7, _, q7⟩ := DataW.trod_int Tryz.underlying3 (show DataW.trod enc Tryz.prog w b sp hd m 3 [c7] = some y7 from by rw [← z7]; simpa [k_int] using hg 7 (by decide))
    cases e0
    cases e1
    cases e2
    cases e3
    cases e4
    cases e5
    cases e6
    cases e7
    exact ⟨⟨n0, n1, n2, n3, n4, n5, n6, n7⟩, rfl, ⟨wf_inI q0, wf_inI q1, wf_inI q2, wf_inI q3, wf_inI q4, wf_inI q5, wf_inI q6, wf_inI q7⟩⟩
set_option maxRecDepth 100000 in
theorem Tryz.argI8 {H : Type} {enc : TypeId × Value → H} {w : World} {b b0 : Nat} {sp : Nat → Bool} {hd : Bool} {r : Reach} {v : Value} {d : DataW H} {p : List MemPlace} (hv : Value.okWide Tryz.prog w r b0 40 v) (h : DataW.Trod enc Tryz.prog w b sp hd 40 v d p) : ∃ f : I8, v = .agg f.cells ∧ I8Ok f := by
  simp only [Value.okWide, Tryz.underlying40] at hv
  obtain ⟨cs, rfl, hsz, _⟩ := hv
  obtain ⟨fuel, hf⟩ := h
  have hc : Tryz.prog.cellsOf 40 = 8 := by kernel_rfl
  obtain ⟨f, e, g⟩ := Tryz.elI8 fuel cs.toList _ (by rw [Array.length_toList, hsz, hc]) hf
  exact ⟨f, by rw [Array.toList_inj.1 e], g⟩
end Go.Proofs
end
section
namespace Go.Wx
def heldH : Fact := ⟨7, 4, 1, 0, false, 0, 100, 0, 0, 0, 0, 3, 0, 0, 0, 0, 0, 5, ByteArray.empty⟩
def heldR1 : Fact := ⟨8, 0, 1, 0, false, 20, 0, 0, 4, 0, 0, 0, 0, 0, 0, 0, 0, 1, ByteArray.empty⟩
def heldR2 : Fact := ⟨8, 0, 1, 0, false, 50, 0, 0, 4, 0, 0, 0, 0, 0, 0, 0, 0, 4, ByteArray.empty⟩
def heldB : Base := ⟨[], [], [], [], [], [], [heldH], [heldR1, heldR2], [], [], []⟩
def actA : GAct := ⟨1, 0, 2, 1, 1, 1, 30⟩
def actO : GAct := ⟨1, 0, 3, 1, 1, 1, 30⟩
def actL : GAct := ⟨1, 0, 2, 1, 1, 1, 50⟩
theorem sane_p10 : partiesOf heldB.Releases 4 10 = 0 := by decide
theorem sane_p20 : partiesOf heldB.Releases 4 20 = 1 := by decide
theorem sane_p50 : partiesOf heldB.Releases 4 50 = 5 := by decide
theorem sane_r10 : releasedB heldB 4 10 = false := by decide
theorem sane_r20 : releasedB heldB 4 20 = false := by decide
theorem sane_r50 : releasedB heldB 4 50 = true := by decide
theorem sane_nA : namesB heldH heldB.Lots actA = true := by decide
theorem sane_nO : namesB heldH heldB.Lots actO = false := by decide
theorem sane_kA : stopKs heldB actA (heldB.Holds.filter isHoldB) = [4] := by decide
theorem sane_kO : stopKs heldB actO (heldB.Holds.filter isHoldB) = [] := by decide
theorem sane_kL : stopKs heldB actL (heldB.Holds.filter isHoldB) = [] := by decide
theorem sane_sA : stopsOf heldB actA = [4] := by unfold stopsOf; rw [sane_kA]; simp
theorem sane_sO : stopsOf heldB actO = [] := by unfold stopsOf; rw [sane_kO]; simp
theorem sane_sL : stopsOf heldB actL = [] := by unfold stopsOf; rw [sane_kL]; simp
end Go.Wx
namespace Go.Proofs.YtolkipbpklkcnaaGreat
open Go.Wx Go.RowKit
theorem pick_any (c n : Int) (w : World) (hn : n ≠ 0) : Ret Tryz.prog 16 #[vi c, vi n] w fun r w' => r = vi (pickI c n) ∧ Up w w' := by
  have hW := Up.refl w
  refine Calls_start (n := 13) (m := 9) Tryz.func16 rfl rfl rfl ?_
  refine CW.seq (CW.region (LW.p (PEv.assign (.const _)) rfl rfl rfl (LW.nil (KW.then (CW.seq (CW.seq (CW.region (LW.p (PEv.move (.tmp rfl)) rfl rfl rfl ?_))))))))
  refine LW.p (PEv.lss (.tmp rfl) (.const _)) rfl rfl rfl ?_
  refine LW.nil (KW.then ?_)
  refine CW.cond (.tmp rfl) (fun h6 => ?_) (fun h6 => ?_)
  ·first | replace h6 := of_decide_eq_true h6 | replace h6 := of_decide_eq_false h6 | skip
   refine CW.region (LW.p (PEv.move (.tmp rfl)) rfl rfl rfl ?_)
   refine LW.p (PEv.add_w (.tmp rfl) (.const _)) rfl rfl rfl ?_
   refine LW.p (PEv.neg Tryz.underlying3 (.tmp rfl)) rfl rfl rfl ?_
   refine LW.p (PEv.assign (.tmp rfl)) rfl rfl rfl (LW.nil (KW.then (CW.seq (CW.region (LW.p (PEv.move (.tmp rfl)) rfl rfl rfl (LW.p (PEv.move (.tmp rfl)) rfl rfl rfl ?_))))))
   refine LW.p (PEv.rem (.tmp rfl) (.tmp rfl) (by omega)) rfl rfl rfl ?_
   refine LW.p (PEv.assign (.tmp rfl)) rfl rfl rfl (LW.nil (KW.then (CW.ret ?_)))
   refine KW.ret1 rfl rfl ⟨_, rfl, ?_⟩
   exact ⟨by first | (rw [pickI, if_pos h6]) | (rw [pickI, if_neg (by omega)]), hW⟩
  ·first | replace h6 := of_decide_eq_true h6 | replace h6 := of_decide_eq_false h6 | skip
   refine CW.skip (KW.then (CW.seq (CW.region (LW.p (PEv.move (.tmp rfl)) rfl rfl rfl (LW.p (PEv.move (.tmp rfl)) rfl rfl rfl ?_)))))
   refine LW.p (PEv.rem (.tmp rfl) (.tmp rfl) (by omega)) rfl rfl rfl ?_
   refine LW.p (PEv.assign (.tmp rfl)) rfl rfl rfl (LW.nil (KW.then (CW.ret ?_)))
   refine KW.ret1 rfl rfl ⟨_, rfl, ?_⟩
   exact ⟨by first | (rw [pickI, if_pos h6]) | (rw [pickI, if_neg (by omega)]), hW⟩
theorem held_any (w : World) : Ret Tryz.prog 26 #[] w fun r w' => (∃ bc, r = .agg bc ∧ BaseC w' bc heldB) ∧ Up w w' := by
  have hW := Up.refl w
  refine Calls_start (n := 7) (m := 9) Tryz.func26 rfl rfl rfl ?_
  refine CW.seq (CW.region ?_)
  refine LW.r (REv.allocA Tryz.zeroValue27) rfl rfl rfl rfl ?_
  rintro _ w1 ⟨B0, rfl, NB0⟩
  have eB0 := NB0.at_
  have zB0 := NB0.size
  replace hW := hW.up NB0.up
  have hB0 := NB0.blk
  refine LW.nil (KW.then (CW.seq (CW.region ?_)))
  refine LW.p (PEv.build (cs := heldH.cells) Tryz.underlying35 Tryz.zeroValue35 Tryz.places35 (.cons (.const _) (.cons (.const _) (.cons (.const _) (.cons (.const _) (.cons (.const _) (.cons (.const _) .nil)))))) rfl) rfl rfl rfl ?_
  refine LW.r (REv.buildSlice (xs := [heldH]) (enc := Fact.cells) (mk := fun f => .agg f.cells) Tryz.underlying22 Tryz.sizeOf35 Tryz.zeroValue35 rfl (by decide) (fun _ => rfl) (fun _ => rfl) (.cons (.tmp rfl) .nil) rfl) rfl rfl rfl rfl ?_
  rintro _ w2 ⟨B2, cB2, rfl, NB2, yB2, xB2⟩
  have eB2 := NB2.at_
  have zB2 := NB2.size
  replace hW := hW.up NB2.up
  replace hB0 := hB0.up NB2.up
  have hB2 := NB2.blk
  have hE2 := xB2
  refine LW.p (PEv.build (cs := heldR1.cells) Tryz.underlying35 Tryz.zeroValue35 Tryz.places35 (.cons (.const _) (.cons (.const _) (.cons (.const _) (.cons (.const _) (.cons (.const _) .nil))))) rfl) rfl rfl rfl ?_
  refine LW.p (PEv.build (cs := heldR2.cells) Tryz.underlying35 Tryz.zeroValue35 Tryz.places35 (.cons (.const _) (.cons (.const _) (.cons (.const _) (.cons (.const _) (.cons (.const _) .nil))))) rfl) rfl rfl rfl ?_
  refine LW.r (REv.buildSlice (xs := [heldR1, heldR2]) (enc := Fact.cells) (mk := fun f => .agg f.cells) Tryz.underlying22 Tryz.sizeOf35 Tryz.zeroValue35 rfl (by decide) (fun _ => rfl) (fun _ => rfl) (.cons (.tmp rfl) (.cons (.tmp rfl) .nil)) rfl) rfl rfl rfl rfl ?_
  rintro _ w3 ⟨B5, cB5, rfl, NB5, yB5, xB5⟩
  have eB5 := NB5.at_
  have zB5 := NB5.size
  replace hW := hW.up NB5.up
  replace hB0 := hB0.up NB5.up
  replace hB2 := hB2.up NB5.up
  replace hE2 := hE2.up NB5.up
  have hB5 := NB5.blk
  have hE5 := xB5
  refine LW.p (PEv.build (cs := #[.slice none 0 0, .slice none 0 0, .slice none 0 0, .slice none 0 0, .slice none 0 0, .slice none 0 0, .slice (some ⟨B2, 0, none⟩) 1 1, .slice (some ⟨B5, 0, none⟩) 2 2, .slice none 0 0, .slice none 0 0, .slice none 0 0]) Tryz.underlying27 Tryz.zeroValue27 Tryz.places27 (.cons (.tmp rfl) (.cons (.tmp rfl) .nil)) rfl) rfl rfl rfl ?_
  refine LW.s (SEv.storeA Tryz.sizeOf27 rfl (.tmp rfl) (.tmp rfl) (by first | rfl | exact Fact.one _ | exact GAct.one _ | exact holdCells_one _ _ | exact hold0_one | (simp [Value.oneCell'])) hB0 rfl) rfl rfl rfl ?_
  intro w4 Nw4
  have zw4 := Nw4.size
  replace hW := hW.sto Nw4.sto (by omega)
  replace hB2 := hB2.sto Nw4.sto (by omega)
  replace hE2 := hE2.sto Nw4.sto (by omega)
  replace hB5 := hB5.sto Nw4.sto (by omega)
  replace hE5 := hE5.sto Nw4.sto (by omega)
  replace hB0 := Nw4.blk
  refine LW.nil (KW.then (CW.ret ?_))
  refine KW.retA rfl rfl Tryz.isAgg27 Tryz.sizeOf27 rfl (hB0.agg) ⟨_, rfl, ?_⟩
  exact ⟨⟨_, rfl, _, _, _, _, _, _, _, _, _, _, _, rfl, Sl.nil _ _ _, Sl.nil _ _ _, Sl.nil _ _ _, Sl.nil _ _ _, Sl.nil _ _ _, Sl.nil _ _ _, Sl.of_els hE2, Sl.of_els hE5, Sl.nil _ _ _, Sl.nil _ _ _, Sl.nil _ _ _⟩, hW⟩
end Go.Proofs.YtolkipbpklkcnaaGreat
end
section
namespace Go.Proofs.YtolkipbpklkcnaaGreat
open Go.Wx Go.RowKit
theorem sameInts_any (v1 v2 : Value) (xs ys : List Int) (w : World) (h1 : Sl w v1 1 eInt xs) (h2 : Sl w v2 1 eInt ys) (hx0 : xs.length ≤ 1000000000) (hy0 : ys.length ≤ 1000000000) : Ret Tryz.prog 20 #[v1, v2] w fun r w' => r = .bool (decide (xs = ys)) ∧ Up w w' := by
  have hW := Up.refl w
  obtain ⟨w0, rfl⟩ : ∃ w0, w0 = w := ⟨_, rfl⟩
  obtain ⟨ad, cp, rfl, hE1⟩ := h1
  obtain ⟨ad', cp', rfl, hE2⟩ := h2
  refine Calls_start (n := 26) (m := 9) Tryz.func20 rfl rfl rfl ?_
  refine CW.seq (CW.region (LW.p (PEv.assign (.const _)) rfl rfl rfl (LW.nil (KW.then (CW.seq (CW.seq (CW.region (LW.p (PEv.move (.tmp rfl)) rfl rfl rfl ?_))))))))
  refine LW.p (PEv.lenS Tryz.underlying30 (.tmp rfl)) rfl rfl rfl ?_
  refine LW.p (PEv.move (.tmp rfl)) rfl rfl rfl ?_
  refine LW.p (PEv.lenS Tryz.underlying30 (.tmp rfl)) rfl rfl rfl ?_
  refine LW.p (PEv.neq (.tmp rfl) (.tmp rfl)) rfl rfl rfl ?_
  refine LW.nil (KW.then ?_)
  refine CW.cond (.tmp rfl) (fun h10 => ?_) (fun h10 => ?_)
  ·first | replace h10 := of_decide_eq_true h10 | replace h10 := of_decide_eq_false h10 | skip
   have hr : decide (xs = ys) = false := decide_eq_false (fun h => by subst h; simp at h10)
   refine CW.seq (CW.region (LW.p (PEv.assign (.const _)) rfl rfl rfl (LW.nil (KW.then (CW.ret (KW.then_ret ?_))))))
   refine KW.ret1 rfl rfl ⟨_, rfl, ?_⟩
   exact ⟨by rw [hr], hW⟩
  ·first | replace h10 := of_decide_eq_true h10 | replace h10 := of_decide_eq_false h10 | skip
   have hlen : xs.length = ys.length := Int.ofNat.inj (show Int.ofNat _ = Int.ofNat _ from (by simpa using h10 : (xs.length : Int) = ys.length))
   refine CW.skip (KW.then (CW.seq (CW.seq (CW.region (LW.p (PEv.assign (.const _)) rfl rfl rfl (LW.nil (KW.then (CW.block ?_))))))))
   refine CW.loop (σ := Nat) (fun s w => (s ≤ xs.length ∧ xs.take s = ys.take s) ∧ Els w ad 1 eInt xs ∧ Els w ad' 1 eInt ys ∧ Up w0 w) (fun s => [(0, .eq (.slice ad xs.length cp)), (1, .eq (.slice ad' ys.length cp')), (5, .eq (vi (s : Int)))]) (fun s => xs.length - s) 0 ?_ ?_ ?_
   ·exact ⟨⟨Nat.zero_le _, rfl⟩, hE1, hE2, hW⟩
   ·exact ⟨rfl, rfl, rfl, trivial⟩
   ·rintro k w1 ⟨⟨hk, hT⟩, hE1, hE2, hW⟩
    refine CW.seq (CW.seq (CW.region (LW.p (PEv.move (.tmp rfl)) rfl rfl rfl (LW.p (PEv.move (.tmp rfl)) rfl rfl rfl ?_))))
    refine LW.p (PEv.lenS Tryz.underlying30 (.tmp rfl)) rfl rfl rfl ?_
    refine LW.p (PEv.lss (.tmp rfl) (.tmp rfl)) rfl rfl rfl ?_
    refine LW.nil (KW.then ?_)
    refine CW.cond (.tmp rfl) (fun h14 => ?_) (fun h14 => ?_)
    ·first | replace h14 := of_decide_eq_true h14 | replace h14 := of_decide_eq_false h14 | skip
     refine CW.skip (KW.then (CW.seq (CW.block (CW.seq ?_))))
     obtain ⟨x, hx⟩ := getElem?_of_lt (xs := xs) (i := k) (by omega)
     obtain ⟨y, hy⟩ := getElem?_of_lt (xs := ys) (i := k) (by omega)
     obtain ⟨B, o, had, hcell⟩ := hE1 k x hx
     obtain ⟨B', o', had', hcell'⟩ := hE2 k y hy
     refine CW.draws (by kernel_rfl) (by kernel_rfl) rfl rfl ?_
     refine HW.p (PEv.move (.tmp rfl)) rfl rfl ?_
     refine HW.p (PEv.move (.tmp rfl)) rfl rfl ?_
     refine HW.p (PEv.indexAddr' Tryz.underlying30 Tryz.sizeOf3 (.tmp rfl) (.tmp rfl) (by omega) had) rfl rfl ?_
     refine HW.p (PEv.load Tryz.isAgg3 (.tmp rfl) (hcell.nth (j := 0) rfl)) rfl rfl ?_
     refine HW.p (PEv.move (.tmp rfl)) rfl rfl ?_
     refine HW.p (PEv.move (.tmp rfl)) rfl rfl ?_
     refine HW.p (PEv.indexAddr' Tryz.underlying30 Tryz.sizeOf3 (.tmp rfl) (.tmp rfl) (by omega) had') rfl rfl ?_
     refine HW.p (PEv.load Tryz.isAgg3 (.tmp rfl) (hcell'.nth (j := 0) rfl)) rfl rfl ?_
     refine HW.p (PEv.neq (.tmp rfl) (.tmp rfl)) rfl rfl ?_
     refine HW.nil ?_
     intro w2 uw2
     have zw2 := uw2.size
     replace hE1 := hE1.up uw2
     replace hE2 := hE2.up uw2
     replace hW := hW.up uw2
     refine KW.then ?_
     refine CW.cond (.tmp rfl) (fun h25 => ?_) (fun h25 => ?_)
     ·first | replace h25 := of_decide_eq_true h25 | replace h25 := of_decide_eq_false h25 | skip
      have hr : decide (xs = ys) = false := decide_eq_false (ne_of_at hx hy (by simpa using h25))
      refine CW.seq (CW.region (LW.p (PEv.assign (.const _)) rfl rfl rfl (LW.nil (KW.then (CW.ret (KW.block_ret (KW.then_ret (KW.then_ret (KW.block_ret (KW.then_ret ?_))))))))))
      refine KW.ret1 rfl rfl ⟨_, rfl, ?_⟩
      exact ⟨by rw [hr], hW⟩
     ·first | replace h25 := of_decide_eq_true h25 | replace h25 := of_decide_eq_false h25 | skip
      refine CW.skip (KW.inBlock (KW.then (CW.region (LW.p (PEv.move (.tmp rfl)) rfl rfl rfl ?_))))
      refine LW.p (PEv.inc (.tmp rfl) (by omega)) rfl rfl rfl ?_
      refine LW.p (PEv.assign (.tmp rfl)) rfl rfl rfl (LW.nil (KW.round ?_))
      exact ⟨k + 1, ⟨⟨by omega, take_eq_step hT hx hy (by simpa using h25)⟩, hE1, hE2, hW⟩, ⟨rfl, rfl, rfl, trivial⟩, by omega⟩
    ·first | replace h14 := of_decide_eq_true h14 | replace h14 := of_decide_eq_false h14 | skip
     have hr : decide (xs = ys) = true := decide_eq_true (by have := hT; rw [show k = xs.length by omega, List.take_length, hlen, List.take_length] at this; exact this)
     refine CW.exit (KW.then_exit (KW.then_exit (KW.block_hit (KW.then (CW.seq (CW.region (LW.p (PEv.assign (.const _)) rfl rfl rfl (LW.nil (KW.then (CW.ret ?_))))))))))
     refine KW.ret1 rfl rfl ⟨_, rfl, ?_⟩
     exact ⟨by rw [hr], hW⟩
end Go.Proofs.YtolkipbpklkcnaaGreat
end
section
namespace Go.Wx
theorem same44 : Value.bool (decide (([4] : List Int) = [4])) = .bool true := by simp
end Go.Wx
namespace Go.Proofs.YtolkipbpklkcnaaGreat
open Go.Wx Go.RowKit
set_option maxHeartbeats 4000000 in
theorem sane_any (w : World) : Ret Tryz.prog 9 #[] w fun r w' => r = .bool true ∧ Up w w' := by
  have hW := Up.refl w
  refine Calls_start (n := 93) (m := 9) Tryz.func9 rfl rfl rfl ?_
  refine CW.seq (CW.region (LW.p (PEv.assign (.const _)) rfl rfl rfl (LW.nil (KW.then (CW.seq (CW.region ?_))))))
  refine LW.c (enter_call0 .nil (Tryz.en26)) rfl rfl rfl rfl (held_any _) ?_
  rintro _ w1 ⟨⟨bc, rfl, hC⟩, uw1⟩
  have zw1 := uw1.size
  replace hW := hW.up uw1
  refine LW.r (REv.allocA Tryz.zeroValue27) rfl rfl rfl rfl ?_
  rintro _ w2 ⟨B1, rfl, MB1⟩
  refine LW.s (SEv.storeA Tryz.sizeOf27 hC.size (.tmp rfl) (.tmp rfl) hC.one MB1.blk rfl) rfl rfl rfl ?_
  intro w3 LB1
  have NB1 := MB1.set LB1
  clear LB1 MB1
  have eB1 := NB1.at_
  have zB1 := NB1.size
  replace hW := hW.up NB1.up
  replace hC := hC.up NB1.up
  have hB1 := NB1.blk
  refine LW.nil (KW.then (CW.seq ?_))
  have hU1 := Up.refl w3
  have hCs := hC
  refine CW.region ?_
  refine LW.p (PEv.build (cs := actA.cells) Tryz.underlying24 Tryz.zeroValue24 Tryz.places24 (.cons (.const _) (.cons (.const _) (.cons (.const _) (.cons (.const _) (.cons (.const _) (.cons (.const _) .nil)))))) rfl) rfl rfl rfl ?_
  refine LW.r (REv.allocA Tryz.zeroValue24) rfl rfl rfl rfl ?_
  rintro _ w4 ⟨B2, rfl, MB2⟩
  refine LW.s (SEv.storeA Tryz.sizeOf24 rfl (.tmp rfl) (.tmp rfl) (by first | rfl | exact Fact.one _ | exact GAct.one _ | exact holdCells_one _ _ | exact hold0_one | (simp [Value.oneCell'])) MB2.blk rfl) rfl rfl rfl ?_
  intro w5 LB2
  have NB2 := MB2.set LB2
  clear LB2 MB2
  have eB2 := NB2.at_
  have zB2 := NB2.size
  replace hW := hW.up NB2.up
  replace hB1 := hB1.up NB2.up
  replace hU1 := hU1.up NB2.up
  have hB2 := NB2.blk
  refine LW.nil (KW.then (CW.seq (CW.region ?_)))
  refine LW.p (PEv.loadA Tryz.isAgg24 Tryz.sizeOf24 rfl (.tmp rfl) (hB2.agg)) rfl rfl rfl ?_
  refine LW.r (REv.allocA Tryz.zeroValue24) rfl rfl rfl rfl ?_
  rintro _ w6 ⟨B3, rfl, MB3⟩
  refine LW.s (SEv.storeA Tryz.sizeOf24 rfl (.tmp rfl) (.tmp rfl) (by first | rfl | exact Fact.one _ | exact GAct.one _ | exact holdCells_one _ _ | exact hold0_one | (simp [Value.oneCell'])) MB3.blk rfl) rfl rfl rfl ?_
  intro w7 LB3
  have NB3 := MB3.set LB3
  clear LB3 MB3
  have eB3 := NB3.at_
  have zB3 := NB3.size
  replace hW := hW.up NB3.up
  replace hB1 := hB1.up NB3.up
  replace hU1 := hU1.up NB3.up
  replace hB2 := hB2.up NB3.up
  have hB3 := NB3.blk
  refine LW.nil (KW.then (CW.seq (CW.region ?_)))
  refine LW.p (PEv.fieldAddr (off := 2) Tryz.underlying24 rfl rfl Tryz.sizeOf3 rfl (.tmp rfl)) rfl rfl rfl ?_
  refine LW.s (SEv.store Tryz.sizeOf3 (.tmp rfl) (.const _) rfl hB3 (Nat.le_of_ble_eq_true rfl)) rfl rfl rfl ?_
  intro w8 Nw8
  have zw8 := Nw8.size
  replace hW := hW.sto Nw8.sto (by omega)
  replace hB1 := hB1.sto Nw8.sto (by omega)
  replace hU1 := hU1.sto Nw8.sto (by omega)
  replace hB2 := hB2.sto Nw8.sto (by omega)
  replace hB3 := Nw8.blk
  replace hB3 : Blk w8 B3 actO.cells _ := hB3
  refine LW.nil (KW.then (CW.seq (CW.region ?_)))
  refine LW.p (PEv.loadA Tryz.isAgg24 Tryz.sizeOf24 rfl (.tmp rfl) (hB2.agg)) rfl rfl rfl ?_
  refine LW.r (REv.allocA Tryz.zeroValue24) rfl rfl rfl rfl ?_
  rintro _ w9 ⟨B4, rfl, MB4⟩
  refine LW.s (SEv.storeA Tryz.sizeOf24 rfl (.tmp rfl) (.tmp rfl) (by first | rfl | exact Fact.one _ | exact GAct.one _ | exact holdCells_one _ _ | exact hold0_one | (simp [Value.oneCell'])) MB4.blk rfl) rfl rfl rfl ?_
  intro w10 LB4
  have NB4 := MB4.set LB4
  clear LB4 MB4
  have eB4 := NB4.at_
  have zB4 := NB4.size
  replace hW := hW.up NB4.up
  replace hB1 := hB1.up NB4.up
  replace hU1 := hU1.up NB4.up
  replace hB2 := hB2.up NB4.up
  replace hB3 := hB3.up NB4.up
  have hB4 := NB4.blk
  refine LW.nil (KW.then (CW.seq (CW.region ?_)))
  refine LW.p (PEv.fieldAddr (off := 6) Tryz.underlying24 rfl rfl Tryz.sizeOf3 rfl (.tmp rfl)) rfl rfl rfl ?_
  refine LW.s (SEv.store Tryz.sizeOf3 (.tmp rfl) (.const _) rfl hB4 (Nat.le_of_ble_eq_true rfl)) rfl rfl rfl ?_
  intro w11 Nw11
  have zw11 := Nw11.size
  replace hW := hW.sto Nw11.sto (by omega)
  replace hB1 := hB1.sto Nw11.sto (by omega)
  replace hU1 := hU1.sto Nw11.sto (by omega)
  replace hB2 := hB2.sto Nw11.sto (by omega)
  replace hB3 := hB3.sto Nw11.sto (by omega)
  replace hB4 := Nw11.blk
  replace hB4 : Blk w11 B4 actL.cells _ := hB4
  refine LW.nil (KW.then (CW.seq (CW.region ?_)))
  refine LW.p (PEv.loadA Tryz.isAgg27 Tryz.sizeOf27 (hCs.size) (.tmp rfl) (hB1.agg)) rfl rfl rfl ?_
  refine LW.c (enter_call0 (.cons (.tmp rfl) (.cons (.const _) (.cons (.const _) .nil))) (Tryz.en14)) rfl rfl rfl rfl (Released_any _ _ 4 10 _ (hCs.up hU1) (by decide) (by decide)) ?_
  rintro _ w12 ⟨rfl, uw12⟩
  have zw12 := uw12.size
  replace hW := hW.up uw12
  replace hB1 := hB1.up uw12
  replace hU1 := hU1.up uw12
  replace hB2 := hB2.up uw12
  replace hB3 := hB3.up uw12
  replace hB4 := hB4.up uw12
  rw [sane_p10, sane_r10]
  refine LW.p (PEv.move (.tmp rfl)) rfl rfl rfl (LW.p (PEv.extract (.tmp rfl) rfl) rfl rfl rfl (LW.p (PEv.extract (.tmp rfl) rfl) rfl rfl rfl (LW.p (PEv.assign (.tmp rfl)) rfl rfl rfl (LW.p (PEv.assign (.tmp rfl)) rfl rfl rfl (LW.nil (KW.then (CW.seq (CW.region ?_))))))))
  refine LW.p (PEv.loadA Tryz.isAgg27 Tryz.sizeOf27 (hCs.size) (.tmp rfl) (hB1.agg)) rfl rfl rfl ?_
  refine LW.c (enter_call0 (.cons (.tmp rfl) (.cons (.const _) (.cons (.const _) .nil))) (Tryz.en14)) rfl rfl rfl rfl (Released_any _ _ 4 20 _ (hCs.up hU1) (by decide) (by decide)) ?_
  rintro _ w13 ⟨rfl, uw13⟩
  have zw13 := uw13.size
  replace hW := hW.up uw13
  replace hB1 := hB1.up uw13
  replace hU1 := hU1.up uw13
  replace hB2 := hB2.up uw13
  replace hB3 := hB3.up uw13
  replace hB4 := hB4.up uw13
  rw [sane_p20, sane_r20]
  refine LW.p (PEv.move (.tmp rfl)) rfl rfl rfl (LW.p (PEv.extract (.tmp rfl) rfl) rfl rfl rfl (LW.p (PEv.extract (.tmp rfl) rfl) rfl rfl rfl (LW.p (PEv.assign (.tmp rfl)) rfl rfl rfl (LW.p (PEv.assign (.tmp rfl)) rfl rfl rfl (LW.nil (KW.then (CW.seq (CW.region ?_))))))))
  refine LW.p (PEv.loadA Tryz.isAgg27 Tryz.sizeOf27 (hCs.size) (.tmp rfl) (hB1.agg)) rfl rfl rfl ?_
  refine LW.c (enter_call0 (.cons (.tmp rfl) (.cons (.const _) (.cons (.const _) .nil))) (Tryz.en14)) rfl rfl rfl rfl (Released_any _ _ 4 50 _ (hCs.up hU1) (by decide) (by decide)) ?_
  rintro _ w14 ⟨rfl, uw14⟩
  have zw14 := uw14.size
  replace hW := hW.up uw14
  replace hB1 := hB1.up uw14
  replace hU1 := hU1.up uw14
  replace hB2 := hB2.up uw14
  replace hB3 := hB3.up uw14
  replace hB4 := hB4.up uw14
  rw [sane_p50, sane_r50]
  refine LW.p (PEv.move (.tmp rfl)) rfl rfl rfl (LW.p (PEv.extract (.tmp rfl) rfl) rfl rfl rfl (LW.p (PEv.extract (.tmp rfl) rfl) rfl rfl rfl (LW.p (PEv.assign (.tmp rfl)) rfl rfl rfl (LW.p (PEv.assign (.tmp rfl)) rfl rfl rfl (LW.nil (KW.then (CW.seq ?_)))))))
  obtain ⟨v6, h6, hr⟩ := hCs.at6
  obtain ⟨ad, cp, rfl, hE⟩ := hr
  obtain ⟨BH, oH, rfl, hcH⟩ := hE 0 heldH rfl
  refine CW.draws (by kernel_rfl) (by kernel_rfl) rfl rfl ?_
  refine HW.p (PEv.loadA Tryz.isAgg27 Tryz.sizeOf27 (hCs.size) (.tmp rfl) (hB1.agg)) rfl rfl ?_
  refine HW.p (PEv.fieldAddr (off := 6) Tryz.underlying27 rfl rfl Tryz.sizeOf22 rfl (.tmp rfl)) rfl rfl ?_
  refine HW.p (PEv.load Tryz.isAgg22 (.tmp rfl) (hB1.cell h6)) rfl rfl ?_
  refine HW.p (PEv.indexAddr (j := 0) Tryz.underlying22 Tryz.sizeOf35 (.tmp rfl) (.const _) (by decide)) rfl rfl ?_
  refine HW.p (PEv.loadA Tryz.isAgg35 Tryz.sizeOf35 rfl (.tmp rfl) (hcH.up hU1)) rfl rfl ?_
  refine HW.p (PEv.loadA Tryz.isAgg24 Tryz.sizeOf24 rfl (.tmp rfl) (hB2.agg)) rfl rfl ?_
  refine HW.c (fun a w _ ha => enter_call0 (.cons (.tmp rfl) (.cons (.tmp rfl) (.cons (.tmp rfl) .nil))) (Tryz.en15) a ha) rfl rfl (fun w hu => (Names_any _ _ heldH actA _ ((hCs.up hU1).up hu) (by decide)).mono fun _ _ h => ⟨h.1.trans (congrArg Go.Value.bool sane_nA), h.2⟩) ?_
  refine HW.p (PEv.move (.tmp rfl)) rfl rfl ?_
  refine HW.yp rfl rfl rfl rfl rfl (PEv.loadA Tryz.isAgg27 Tryz.sizeOf27 (hCs.size) (.tmp rfl) (hB1.agg)) rfl ?_
  refine HW.yp rfl rfl rfl rfl rfl (PEv.fieldAddr (off := 6) Tryz.underlying27 rfl rfl Tryz.sizeOf22 rfl (.tmp rfl)) rfl ?_
  refine HW.yp rfl rfl rfl rfl rfl (PEv.load Tryz.isAgg22 (.tmp rfl) (hB1.cell h6)) rfl ?_
  refine HW.yp rfl rfl rfl rfl rfl (PEv.indexAddr (j := 0) Tryz.underlying22 Tryz.sizeOf35 (.tmp rfl) (.const _) (by decide)) rfl ?_
  refine HW.yp rfl rfl rfl rfl rfl (PEv.loadA Tryz.isAgg35 Tryz.sizeOf35 rfl (.tmp rfl) (hcH.up hU1)) rfl ?_
  refine HW.yp rfl rfl rfl rfl rfl (PEv.loadA Tryz.isAgg24 Tryz.sizeOf24 rfl (.tmp rfl) (hB3.agg)) rfl ?_
  refine HW.yc rfl rfl rfl rfl rfl (fun a w _ ha => enter_call0 (.cons (.tmp rfl) (.cons (.tmp rfl) (.cons (.tmp rfl) .nil))) (Tryz.en15) a ha) rfl (fun w hu => (Names_any _ _ heldH actO _ ((hCs.up hU1).up hu) (by decide)).mono fun _ _ h => ⟨h.1.trans (congrArg Go.Value.bool sane_nO), h.2⟩) ?_
  refine HW.yp rfl rfl rfl rfl rfl (PEv.not (.tmp rfl)) rfl ?_
  refine HW.p (PEv.pick_and (.tmp rfl) (fun hp => (by first | exact .const _ | exact .tmp rfl | exact .cond rfl (by first | assumption | simp_all)))) rfl rfl ?_
  refine HW.p (PEv.move (.tmp rfl)) rfl rfl ?_
  refine HW.yp rfl rfl rfl rfl rfl (PEv.move (.tmp rfl)) rfl ?_
  refine HW.yp rfl rfl rfl rfl rfl (PEv.eql (.tmp rfl) (.const _)) rfl ?_
  refine HW.p (PEv.pick_and (.tmp rfl) (fun hp => (by first | exact .const _ | exact .tmp rfl | exact .cond rfl (by first | assumption | simp_all)))) rfl rfl ?_
  refine HW.p (PEv.move (.tmp rfl)) rfl rfl ?_
  refine HW.yp rfl rfl rfl rfl rfl (PEv.move (.tmp rfl)) rfl ?_
  refine HW.yp rfl rfl rfl rfl rfl (PEv.not (.tmp rfl)) rfl ?_
  refine HW.p (PEv.pick_and (.tmp rfl) (fun hp => (by first | exact .const _ | exact .tmp rfl | exact .cond rfl (by first | assumption | simp_all)))) rfl rfl ?_
  refine HW.p (PEv.move (.tmp rfl)) rfl rfl ?_
  refine HW.yp rfl rfl rfl rfl rfl (PEv.move (.tmp rfl)) rfl ?_
  refine HW.yp rfl rfl rfl rfl rfl (PEv.eql (.tmp rfl) (.const _)) rfl ?_
  refine HW.p (PEv.pick_and (.tmp rfl) (fun hp => (by first | exact .const _ | exact .tmp rfl | exact .cond rfl (by first | assumption | simp_all)))) rfl rfl ?_
  refine HW.p (PEv.move (.tmp rfl)) rfl rfl ?_
  refine HW.yp rfl rfl rfl rfl rfl (PEv.move (.tmp rfl)) rfl ?_
  refine HW.yp rfl rfl rfl rfl rfl (PEv.not (.tmp rfl)) rfl ?_
  refine HW.p (PEv.pick_and (.tmp rfl) (fun hp => (by first | exact .const _ | exact .tmp rfl | exact .cond rfl (by first | assumption | simp_all)))) rfl rfl ?_
  refine HW.p (PEv.move (.tmp rfl)) rfl rfl ?_
  refine HW.yp rfl rfl rfl rfl rfl (PEv.move (.tmp rfl)) rfl ?_
  refine HW.yp rfl rfl rfl rfl rfl (PEv.eql (.tmp rfl) (.const _)) rfl ?_
  refine HW.p (PEv.pick_and (.tmp rfl) (fun hp => (by first | exact .const _ | exact .tmp rfl | exact .cond rfl (by first | assumption | simp_all)))) rfl rfl ?_
  refine HW.p (PEv.move (.tmp rfl)) rfl rfl ?_
  refine HW.yp rfl rfl rfl rfl rfl (PEv.move (.tmp rfl)) rfl ?_
  refine HW.p (PEv.pick_and (.tmp rfl) (fun hp => (by first | exact .const _ | exact .tmp rfl | exact .cond rfl (by first | assumption | simp_all)))) rfl rfl ?_
  refine HW.p (PEv.move (.tmp rfl)) rfl rfl ?_
  refine HW.yp rfl rfl rfl rfl rfl (PEv.loadA Tryz.isAgg27 Tryz.sizeOf27 (hCs.size) (.tmp rfl) (hB1.agg)) rfl ?_
  refine HW.yp rfl rfl rfl rfl rfl (PEv.loadA Tryz.isAgg24 Tryz.sizeOf24 rfl (.tmp rfl) (hB2.agg)) rfl ?_
  refine HW.yqc (ph := .pred fun v w => Sl w v 1 eInt [4]) (fun _ _ _ h u => Sl.up h u) rfl rfl rfl rfl rfl (fun a w hu ha => ⟨_, _, enter_call0 (.cons (.tmp rfl) (.cons (.tmp rfl) .nil)) (Tryz.en12) a ha, (Stops_any _ _ actA _ ((hCs.up hU1).up hu) (by decide) (by decide) (by decide)).mono fun v w' h => ⟨h.2, sane_sA ▸ h.1.sl (fun _ => rfl)⟩⟩) rfl ?_
  refine HW.yqr (p := fun v w => Sl w v 1 eInt [4]) (fun _ _ _ h u => Sl.up h u) rfl rfl rfl rfl rfl (fun w hu a ha => let ⟨v, w', h1, h2⟩ := REv.buildSlice (xs := [4]) (enc := eInt) (mk := vi) Tryz.underlying30 Tryz.sizeOf3 Tryz.zeroValue3 rfl (by decide) (fun _ => rfl) (fun _ => rfl) (.cons (.const _) .nil) rfl a ha; ⟨v, w', h1, h2.q⟩) rfl ?_
  refine HW.yqc (ph := .eq (.bool true)) (phUp.eq _) rfl rfl rfl rfl rfl (fun a w hu ha => ⟨_, _, enter_any2 Tryz.en20 a w, (sameInts_any (a.eval (.tmp 75)) (a.eval (.tmp 76)) [4] [4] w (ha.known (p := fun v w => Sl w v 1 eInt [4]) rfl) (ha.known (p := fun v w => Sl w v 1 eInt [4]) rfl) (by decide) (by decide)).mono fun _ _ h => ⟨h.2, h.1.trans same44⟩⟩) rfl ?_
  refine HW.p (PEv.pick_and (.tmp rfl) (fun hp => (by first | exact .const _ | exact .tmp rfl | exact .cond rfl (by first | assumption | simp_all)))) rfl rfl ?_
  refine HW.p (PEv.move (.tmp rfl)) rfl rfl ?_
  refine HW.yp rfl rfl rfl rfl rfl (PEv.loadA Tryz.isAgg27 Tryz.sizeOf27 (hCs.size) (.tmp rfl) (hB1.agg)) rfl ?_
  refine HW.yp rfl rfl rfl rfl rfl (PEv.loadA Tryz.isAgg24 Tryz.sizeOf24 rfl (.tmp rfl) (hB4.agg)) rfl ?_
  refine HW.yqc (ph := .pred fun v w => Sl w v 1 eInt []) (fun _ _ _ h u => Sl.up h u) rfl rfl rfl rfl rfl (fun a w hu ha => ⟨_, _, enter_call0 (.cons (.tmp rfl) (.cons (.tmp rfl) .nil)) (Tryz.en12) a ha, (Stops_any _ _ actL _ ((hCs.up hU1).up hu) (by decide) (by decide) (by decide)).mono fun v w' h => ⟨h.2, sane_sL ▸ h.1.sl (fun _ => rfl)⟩⟩) rfl ?_
  refine HW.yp rfl rfl rfl rfl rfl (PEv.lenQ Tryz.underlying30 rfl (fun v w h => let ⟨ad, c, e, _⟩ := h; ⟨ad, c, e⟩)) rfl ?_
  refine HW.yp rfl rfl rfl rfl rfl (PEv.eql (.tmp rfl) (.const _)) rfl ?_
  refine HW.p (PEv.pick_and (.tmp rfl) (fun hp => (by first | exact .const _ | exact .tmp rfl | exact .cond rfl (by first | assumption | simp_all)))) rfl rfl ?_
  refine HW.p (PEv.move (.tmp rfl)) rfl rfl ?_
  refine HW.yp rfl rfl rfl rfl rfl (PEv.loadA Tryz.isAgg27 Tryz.sizeOf27 (hCs.size) (.tmp rfl) (hB1.agg)) rfl ?_
  refine HW.yp rfl rfl rfl rfl rfl (PEv.loadA Tryz.isAgg24 Tryz.sizeOf24 rfl (.tmp rfl) (hB3.agg)) rfl ?_
  refine HW.yqc (ph := .pred fun v w => Sl w v 1 eInt []) (fun _ _ _ h u => Sl.up h u) rfl rfl rfl rfl rfl (fun a w hu ha => ⟨_, _, enter_call0 (.cons (.tmp rfl) (.cons (.tmp rfl) .nil)) (Tryz.en12) a ha, (Stops_any _ _ actO _ ((hCs.up hU1).up hu) (by decide) (by decide) (by decide)).mono fun v w' h => ⟨h.2, sane_sO ▸ h.1.sl (fun _ => rfl)⟩⟩) rfl ?_
  refine HW.yp rfl rfl rfl rfl rfl (PEv.lenQ Tryz.underlying30 rfl (fun v w h => let ⟨ad, c, e, _⟩ := h; ⟨ad, c, e⟩)) rfl ?_
  refine HW.yp rfl rfl rfl rfl rfl (PEv.eql (.tmp rfl) (.const _)) rfl ?_
  refine HW.p (PEv.pick_and (.tmp rfl) (fun hp => (by first | exact .const _ | exact .tmp rfl | exact .cond rfl (by first | assumption | simp_all)))) rfl rfl ?_
  refine HW.p (PEv.assign (.tmp rfl)) rfl rfl ?_
  refine HW.nil ?_
  intro w15 uw15
  have zw15 := uw15.size
  replace hW := hW.up uw15
  replace hB1 := hB1.up uw15
  replace hU1 := hU1.up uw15
  replace hB2 := hB2.up uw15
  replace hB3 := hB3.up uw15
  replace hB4 := hB4.up uw15
  refine KW.then (CW.ret ?_)
  refine KW.ret1 rfl rfl ⟨_, rfl, ?_⟩
  exact ⟨rfl, hW⟩
end Go.Proofs.YtolkipbpklkcnaaGreat
end
section
namespace Go.Wx
def relS (pt : Nat → Int) (k : Nat) : List Fact := ((List.range k).filter fun i => decide (pt i < 70)).map fun (i : Nat) => rlF 9 (2 ^ i) (pt i)
def relL (p : Int) (pt : Nat → Int) (k : Nat) : List Fact := hdF 1 0 9 0 100 p false :: relS pt k
theorem relS_yes {pt : Nat → Int} {k : Nat} (h : pt k < 70) : relS pt (k + 1) = relS pt k ++ [rlF 9 (2 ^ k) (pt k)] := by
  unfold relS; rw [List.range_succ, List.filter_append, List.filter_cons_of_pos (by simpa using h)]; simp
theorem relS_no {pt : Nat → Int} {k : Nat} (h : ¬ pt k < 70) : relS pt (k + 1) = relS pt k := by
  unfold relS; rw [List.range_succ, List.filter_append, List.filter_cons_of_neg (by simpa using h)]; simp
theorem relL_yes {p : Int} {pt : Nat → Int} {k : Nat} (h : pt k < 70) : relL p pt (k + 1) = relL p pt k ++ [rlF 9 (2 ^ k) (pt k)] := by unfold relL; rw [relS_yes h]; rfl
theorem relL_no {p : Int} {pt : Nat → Int} {k : Nat} (h : ¬ pt k < 70) : relL p pt (k + 1) = relL p pt k := by unfold relL; rw [relS_no h]
theorem relL_len (p : Int) (pt : Nat → Int) (k : Nat) : (relL p pt k).length ≤ k + 1 := by
  unfold relL relS
  have := List.length_filter_le (fun i => decide (pt i < 70)) (List.range k)
  rw [List.length_range] at this
  simp only [List.length_cons, List.length_map]; omega
theorem relS_mem {pt : Nat → Int} {k : Nat} {f : Fact} : f ∈ relS pt k ↔ ∃ i, i < k ∧ pt i < 70 ∧ f = rlF 9 (2 ^ i) (pt i) := by
  unfold relS
  simp only [List.mem_map, List.mem_filter, List.mem_range, decide_eq_true_eq]
  exact ⟨fun ⟨i, ⟨a, b⟩, c⟩ => ⟨i, a, b, c.symm⟩, fun ⟨i, a, b, c⟩ => ⟨i, ⟨a, b⟩, c.symm⟩⟩
theorem pow8 {i : Nat} (h : i < 8) : (1 : Int) ≤ 2 ^ i ∧ (2 : Int) ^ i ≤ 128 := by
  have e : i = 0 ∨ i = 1 ∨ i = 2 ∨ i = 3 ∨ i = 4 ∨ i = 5 ∨ i = 6 ∨ i = 7 := by omega
  rcases e with rfl | rfl | rfl | rfl | rfl | rfl | rfl | rfl <;> decide
theorem pow_lt {i j : Nat} (h : i < j) : (2 : Int) ^ i < 2 ^ j := by
  have := Nat.pow_lt_pow_right (a := 2) (by decide) h
  exact_mod_cast this
theorem pow_inj {i j : Nat} (h : (2 : Int) ^ i = 2 ^ j) : i = j := by
  rcases Nat.lt_trichotomy i j with h1 | h1 | h1
  · have := pow_lt h1; omega
  · exact h1
  · have := pow_lt h1; omega
def okT (pt : Nat → Int) : Prop := ∀ i, 0 ≤ pt i ∧ pt i < 80
theorem relS_valid {pt : Nat → Int} (h : okT pt) {i : Nat} (hi : i < 8) : validB (rlF 9 (2 ^ i) (pt i)) = true := by
  have h1 := pow8 hi
  have h2 := h i
  exact rlF_valid (by decide) (by omega) (by omega)
theorem relS_srt (pt : Nat → Int) (k : Nat) : (relS pt k).Pairwise fun x y => x.Parties < y.Parties := by
  unfold relS
  rw [List.pairwise_map]
  refine List.Pairwise.sublist List.filter_sublist ?_
  exact List.pairwise_lt_range.imp fun {i j} h => pow_lt h
theorem rel_list {p : Int} {pt : Nat → Int} (h : okT pt) : (ofB (relL p pt 8) 0).Releases = relS pt 8 := by
  show lstOf (ofB (relL p pt 8) 0) 7 = relS pt 8
  have hl : ∀ f ∈ relL p pt 8, f = hdF 1 0 9 0 100 p false ∨ f ∈ relS pt 8 := fun f hf => List.mem_cons.1 hf
  have hmem : ∀ x, x ∈ lstOf (ofB (relL p pt 8) 0) 7 ↔ x ∈ relS pt 8 := fun x => by
    rw [lst_mem (by decide)]
    constructor
    · rintro ⟨he, _, hk⟩
      rcases hl x he.1 with rfl | hx
      · exact absurd hk (show ¬ ((7 : Int) = _) by decide)
      · exact hx
    · intro hx
      obtain ⟨i, hi, ht, rfl⟩ := relS_mem.1 hx
      have hv := relS_valid h hi
      refine ⟨⟨List.mem_cons_of_mem _ hx, keyB_nil hv, Int.le_refl _, fun g hg _ => ?_⟩, rfl, rfl⟩
      cases e : prevB g (rlF 9 (2 ^ i) (pt i)) with
      | false => rfl
      | true =>
        rcases hl g hg with rfl | hg
        · exact absurd (key_kind (prevk e).1 (prevk e).2.1 (prevk e).2.2) (show ¬ ((7 : Int) = 8) by decide)
        · obtain ⟨j, hj, _, rfl⟩ := relS_mem.1 hg
          have := (key8 (prevk e).1 (prevk e).2.1 rfl (prevk e).2.2).2
          have := pow_inj this
          subst this
          rw [prev_irrefl] at e; cases e
  have hs := relS_srt pt 8
  have hnd : (relS pt 8).Nodup := hs.imp fun {x y} h e => by subst e; omega
  refine sorted_eq (key := ordK 8) (lst_srt _ _ (by decide)) ?_ (perm_of_mem (lst_nodup _ _ (by decide)) hnd hmem) fun x hx y hy e => ?_
  · refine List.Pairwise.imp_of_mem (fun {x y} hx hy hlt => ?_) hs
    obtain ⟨i, _, _, rfl⟩ := relS_mem.1 hx
    obtain ⟨j, _, _, rfl⟩ := relS_mem.1 hy
    show (decide ((9 : Int) < 9) || (decide ((9 : Int) = 9) && decide ((2 : Int) ^ j < 2 ^ i))) = false
    have : ¬ (2 : Int) ^ j < 2 ^ i := by have h1 : (2 : Int) ^ i < 2 ^ j := hlt; omega
    rw [decide_eq_false this]; rfl
  · obtain ⟨i, _, _, rfl⟩ := relS_mem.1 ((hmem x).1 hx)
    obtain ⟨j, _, _, rfl⟩ := relS_mem.1 ((hmem y).1 hy)
    have := pow_inj (show (2 : Int) ^ i = 2 ^ j from (Prod.mk.inj e).2)
    rw [this]
def goneR (pt : Nat → Int) (t : Int) (i : Nat) : Bool := decide (pt i < 70) && decide (pt i ≤ t)
def bitR (p : Int) (i : Nat) : Int := (p.fdiv (2 ^ (min i 64))).tmod 2
def allR (p : Int) (pt : Nat → Int) (t : Int) (k : Nat) : Bool := (List.range k).all fun i => goneR pt t i || decide (bitR p i = 0)
theorem allR_snoc (p : Int) (pt : Nat → Int) (t : Int) (k : Nat) : allR p pt t (k + 1) = (allR p pt t k && (goneR pt t k || decide (bitR p k = 0))) := by
  unfold allR; rw [List.range_succ, List.all_append]; simp
theorem bits_yes {pt : Nat → Int} {t : Int} {k : Nat} (h : goneR pt t k = true) : partiesOf (relS pt (k + 1)) 9 t = orH (partiesOf (relS pt k) 9 t) (2 ^ k) := by
  unfold goneR at h
  rw [Bool.and_eq_true, decide_eq_true_eq, decide_eq_true_eq] at h
  rw [relS_yes h.1, partiesOf_snoc]
  exact if_pos (show (decide ((9 : Int) = 9) && decide (pt k ≤ t)) = true by simpa using h.2)
theorem bits_no {pt : Nat → Int} {t : Int} {k : Nat} (h : goneR pt t k = false) : partiesOf (relS pt (k + 1)) 9 t = partiesOf (relS pt k) 9 t := by
  by_cases h1 : pt k < 70
  · rw [relS_yes h1, partiesOf_snoc]
    unfold goneR at h
    rw [decide_eq_true h1, Bool.true_and] at h
    refine if_neg ?_
    show ¬ (decide ((9 : Int) = 9) && decide (pt k ≤ t)) = true
    rw [h]; simp
  · rw [relS_no h1]
theorem wrap_natR {b : BitVec 64} : IntKind.i64.wrap (b.toNat : Int) = b.toInt := by
  rw [IntKind.wrap_i64]
  have := b.isLt
  rw [BitVec.toInt_eq_toNat_cond]
  split <;> omega
theorem ofInt_orH (x y : Int) : BitVec.ofInt 64 (orH x y) = BitVec.ofInt 64 x ||| BitVec.ofInt 64 y := by
  unfold orH
  rw [wrap_natR, BitVec.ofInt_toInt]
theorem andNot0 {x y : Int} : andNotI x y = 0 ↔ BitVec.ofInt 64 x &&& ~~~BitVec.ofInt 64 y = 0#64 := by
  unfold andNotI
  rw [wrap_natR]
  constructor
  · intro h
    exact BitVec.eq_of_toInt_eq (by rw [h]; simp)
  · intro h
    rw [h]; simp
theorem pow_bit (i j : Nat) (hj : j < 64) : (BitVec.ofInt 64 ((2 : Int) ^ i)).getLsbD j = decide (i = j) := by
  rw [show ((2 : Int) ^ i) = ((2 ^ i : Nat) : Int) by simp, BitVec.ofInt_natCast, BitVec.getLsbD_ofNat, Nat.testBit_two_pow]
  simp [hj]
theorem bits_at (pt : Nat → Int) (t : Int) (j : Nat) (hj : j < 64) : ∀ k, (BitVec.ofInt 64 (partiesOf (relS pt k) 9 t)).getLsbD j = (decide (j < k) && goneR pt t j)
  | 0 => by show (BitVec.ofInt 64 0).getLsbD j = _; simp
  | k + 1 => by
    cases h : goneR pt t k with
    | true =>
      rw [bits_yes h, ofInt_orH, BitVec.getLsbD_or, bits_at pt t j hj k, pow_bit _ _ hj]
      by_cases e : k = j
      · subst e; simp [h]
      · rw [decide_eq_false e, Bool.or_false]
        congr 1
        exact decide_eq_decide.2 ⟨fun h => by omega, fun h => by omega⟩
    | false =>
      rw [bits_no h, bits_at pt t j hj k]
      by_cases e : k = j
      · subst e; simp [h]
      · congr 1
        exact decide_eq_decide.2 ⟨fun h => by omega, fun h => by omega⟩
theorem par_bit {p : Int} (hp : 0 ≤ p) (j : Nat) (hj : j < 64) : (BitVec.ofInt 64 p).getLsbD j = !decide (bitR p j = 0) := by
  obtain ⟨n, rfl⟩ := Int.eq_ofNat_of_zero_le hp
  unfold bitR
  rw [BitVec.ofInt_natCast, BitVec.getLsbD_ofNat, show min j 64 = j by omega]
  have e1 : ((n : Int).fdiv (2 ^ j)).tmod 2 = ((n / 2 ^ j % 2 : Nat) : Int) := by
    rw [show ((2 : Int) ^ j) = ((2 ^ j : Nat) : Int) by simp, Int.fdiv_eq_ediv_of_nonneg _ (Int.natCast_nonneg _), ← Int.natCast_ediv]
    rfl
  rw [e1, Nat.testBit_eq_decide_div_mod_eq]
  have h2 : n / 2 ^ j % 2 < 2 := Nat.mod_lt _ (by decide)
  by_cases e : n / 2 ^ j % 2 = 1
  · rw [e]; simp [hj]
  · rw [show n / 2 ^ j % 2 = 0 by omega]; simp
theorem par_high {p : Int} (hp : 1 ≤ p ∧ p ≤ 255) (j : Nat) (h8 : 8 ≤ j) : (BitVec.ofInt 64 p).getLsbD j = false := by
  obtain ⟨n, rfl⟩ := Int.eq_ofNat_of_zero_le (show 0 ≤ p by omega)
  rw [BitVec.ofInt_natCast, BitVec.getLsbD_ofNat, Nat.testBit_lt_two_pow (Nat.lt_of_lt_of_le (show n < 2 ^ 8 by omega) (Nat.pow_le_pow_right (by decide) h8))]
  simp
theorem rel_over {p : Int} (hp : 1 ≤ p ∧ p ≤ 255) (pt : Nat → Int) (t : Int) : overB (hdF 1 0 9 0 100 p false) (relS pt 8) t = allR p pt t 8 := by
  have h : (andNotI p (partiesOf (relS pt 8) 9 t) = 0) ↔ allR p pt t 8 = true := by
    rw [andNot0]
    unfold allR
    rw [List.all_eq_true]
    constructor
    · intro h i hi
      rw [List.mem_range] at hi
      have h1 := congrArg (fun b => b.getLsbD i) h
      simp only [BitVec.getLsbD_and, BitVec.getLsbD_not, BitVec.getLsbD_zero, bits_at pt t i (by omega) 8, par_bit (p := p) (by omega) i (by omega), decide_eq_true hi, decide_eq_true (show i < 64 by omega)] at h1
      cases hg : goneR pt t i <;> simp_all
    · intro h
      refine BitVec.eq_of_getLsbD_eq fun i hi => ?_
      simp only [BitVec.getLsbD_and, BitVec.getLsbD_not, BitVec.getLsbD_zero, bits_at pt t i hi 8]
      by_cases h8 : i < 8
      · have h1 := h i (List.mem_range.2 h8)
        rw [par_bit (p := p) (by omega) i hi]
        cases hg : goneR pt t i <;> simp_all
      · rw [par_high hp i (by omega)]; rfl
  show decide (andNotI p (partiesOf (relS pt 8) 9 t) = 0) = _
  cases e : allR p pt t 8 with
  | true => exact decide_eq_true (h.2 e)
  | false => exact decide_eq_false fun h2 => by rw [h.1 h2] at e; cases e
theorem rel_mono {p : Int} {pt : Nat → Int} {t t' : Int} (h : allR p pt t 8 = true) (ht : t ≤ t') : allR p pt t' 8 = true := by
  unfold allR at h ⊢
  rw [List.all_eq_true] at h ⊢
  intro i hi
  have := h i hi
  unfold goneR at this ⊢
  simp only [Bool.or_eq_true, Bool.and_eq_true, decide_eq_true_eq] at this ⊢
  exact this.imp (fun h => ⟨h.1, by omega⟩) id
theorem rel_holds {p : Int} (hp : 1 ≤ p ∧ p ≤ 255) (pt : Nat → Int) : (ofB (relL p pt 8) 0).Holds = [hdF 1 0 9 0 100 p false] := by
  have hv : validB (hdF 1 0 9 0 100 p false) = true := hdF_valid (by omega) (by omega) (by omega) (by omega) (by omega) hp
  show lstOf (ofB (relL p pt 8) 0) 6 = _
  rw [lst_kind (m := [hdF 1 0 9 0 100 p false]) (by decide) fun x hx => ?_]
  · exact one_lst (by decide) hv (Int.le_refl _) rfl rfl
  · constructor
    · intro hm
      rcases List.mem_cons.1 hm with rfl | hm
      · simp
      · obtain ⟨i, _, _, rfl⟩ := relS_mem.1 hm
        exact absurd hx (show ¬ ((8 : Int) = _) by decide)
    · intro hm; rw [List.mem_singleton.1 hm]; exact List.mem_cons_self
theorem rel_stops {p : Int} (hp : 1 ≤ p ∧ p ≤ 255) {pt : Nat → Int} (h : okT pt) {a : GAct} (ha : 0 ≤ a.Time ∧ a.Time ≤ 100) : stopsOf (ofB (relL p pt 8) 0) a = if allR p pt a.Time 8 = true then [] else [9] := by
  rw [stops_one (rel_holds hp pt) rfl]
  have e : stopB (ofB (relL p pt 8) 0) a (hdF 1 0 9 0 100 p false) = !allR p pt a.Time 8 := by
    unfold stopB
    rw [rel_list h, names_hd ha.1 ha.2 (by decide), rel_over hp]
    simp
  rw [e]
  cases allR p pt a.Time 8 <;> rfl
theorem rel_released {p : Int} (hp : 1 ≤ p ∧ p ≤ 255) {pt : Nat → Int} (h : okT pt) (t : Int) : releasedB (ofB (relL p pt 8) 0) 9 t = allR p pt t 8 := by
  unfold releasedB findB
  rw [rel_holds hp pt, rel_list h]
  exact rel_over hp pt t
end Go.Wx
namespace Go.Proofs.YtolkipbpklkcnaaGreat
open Go.Wx Go.RowKit
end Go.Proofs.YtolkipbpklkcnaaGreat
end
section
namespace Go.Proofs.YtolkipbpklkcnaaGreat
open Go.Wx Go.RowKit
set_option maxHeartbeats 4000000 in
theorem HoldReleases_any (parties : Int) (ts : I8) (time : Int) (w : World) (hpar : inI parties) (hts : I8Ok ts) (htime : inI time) : Ret Tryz.prog 4 #[vi parties, .agg ts.cells, vi time] w fun r w' => r = .bool true ∧ Up w w' := by
  obtain ⟨w0, rfl⟩ : ∃ w0, w0 = w := ⟨_, rfl⟩
  have hS := Sep.start no w0
  refine Calls_start (n := 116) (m := 9) Tryz.func4 rfl rfl rfl ?_
  refine CW.seq (CW.region ?_)
  refine LW.r (REv.boxA (.tmp rfl)) rfl rfl rfl rfl ?_
  rintro _ w1 ⟨B4, rfl, NB4⟩
  have eB4 := NB4.at_
  have zB4 := NB4.size
  replace hS := hS.addB NB4
  change Wx.Sep _ _ _ [_] at hS
  refine LW.p (PEv.assign (.const _)) rfl rfl rfl (LW.nil (KW.then (CW.seq (CW.region ?_))))
  refine LW.c (enter_call0 .nil (Tryz.en9)) rfl rfl rfl rfl (sane_any _) ?_
  rintro _ w2 ⟨rfl, uw2⟩
  have zw2 := uw2.size
  replace hS := hS.up uw2
  refine LW.p (PEv.assign (.tmp rfl)) rfl rfl rfl (LW.nil (KW.then (CW.seq (CW.region (LW.p (PEv.move (.tmp rfl)) rfl rfl rfl ?_)))))
  refine LW.c (enter_call0 (.cons (.tmp rfl) (.cons (.const _) .nil)) (Tryz.en16)) rfl rfl rfl rfl (pick_any _ _ _ (by decide)) ?_
  rintro _ w3 ⟨rfl, uw3⟩
  have zw3 := uw3.size
  replace hS := hS.up uw3
  have hpp := pick_range (c := parties) (n := 255) hpar (by decide)
  obtain ⟨pp, epp⟩ : ∃ pp, pp = pickI parties 255 := ⟨_, rfl⟩
  rw [← epp] at hpp ⊢
  refine LW.p (PEv.add_w (.const _) (.tmp rfl)) rfl rfl rfl ?_
  refine LW.p (PEv.assign (.tmp rfl)) rfl rfl rfl (LW.nil (KW.then (CW.seq (CW.region (LW.p (PEv.move (.tmp rfl)) rfl rfl rfl ?_)))))
  refine LW.c (enter_call0 (.cons (.tmp rfl) (.cons (.const _) .nil)) (Tryz.en16)) rfl rfl rfl rfl (pick_any _ _ _ (by decide)) ?_
  rintro _ w4 ⟨rfl, uw4⟩
  have zw4 := uw4.size
  replace hS := hS.up uw4
  have htm := pick_range (c := time) (n := 60) htime (by decide)
  obtain ⟨tm, etm⟩ : ∃ tm, tm = pickI time 60 := ⟨_, rfl⟩
  rw [← etm] at htm ⊢
  refine LW.p (PEv.assign (.tmp rfl)) rfl rfl rfl (LW.nil (KW.then (CW.seq ?_)))
  obtain ⟨p, ep⟩ : ∃ o, o = IntKind.i64.wrap (1 + pp) := ⟨_, rfl⟩
  rw [← ep]
  have hp : 1 ≤ p ∧ p ≤ 255 := by rw [ep, show IntKind.i64.wrap (1 + pp) = 1 + pp from wrap_i64_in (by omega) (by omega)]; omega
  obtain ⟨pt, ept⟩ : ∃ f : Nat → Int, f = fun i => pickI (ts.at i) 80 := ⟨_, rfl⟩
  have hpt : okT pt := fun i => by rw [ept]; exact pick_range (c := ts.at i) (n := 80) (I8.in_ hts i) (by decide)
  refine CW.region (LW.p (PEv.move (.tmp rfl)) rfl rfl rfl ?_)
  refine LW.p (PEv.build (cs := (hdF 1 0 9 0 100 p false).cells) Tryz.underlying35 Tryz.zeroValue35 Tryz.places35 (.cons (.const _) (.cons (.const _) (.cons (.const _) (.cons (.const _) (.cons (.tmp rfl) .nil))))) rfl) rfl rfl rfl ?_
  refine LW.r (REv.buildSlice (xs := [hdF 1 0 9 0 100 p false]) (enc := Fact.cells) (mk := fun f => .agg f.cells) Tryz.underlying22 Tryz.sizeOf35 Tryz.zeroValue35 rfl (by decide) (fun _ => rfl) (fun _ => rfl) (.cons (.tmp rfl) .nil) rfl) rfl rfl rfl rfl ?_
  intro v27 w5 hN27
  obtain ⟨uw5, B27, rfl, hO27⟩ := NewSl.own1 (base := w4.heap.size) hN27 rfl (Nat.le_refl _)
  have zw5 := uw5.size
  replace hS := hS.add uw5 (A' := aOwn 35 19 Fact.cells (.slice (some ⟨B27, 0, none⟩) 1 1) ([hdF 1 0 9 0 100 p false])) (hO27.mono (Nat.zero_le _)) (fun i h => hO27.base i h)
  clear hN27 hO27
  change Wx.Sep _ _ _ [_, _] at hS
  refine LW.p (PEv.assign (.tmp rfl)) rfl rfl rfl (LW.nil (KW.then (CW.seq (CW.region (LW.p (PEv.assign (.const _)) rfl rfl rfl (LW.nil (KW.then (CW.seq (CW.region (LW.p (PEv.assign (.const _)) rfl rfl rfl (LW.nil (KW.then (CW.seq ?_)))))))))))))
  refine CW.seq (CW.region (LW.p (PEv.assign (.const _)) rfl rfl rfl (LW.nil (KW.then (CW.block ?_)))))
  refine CW.loopB (σ := Nat × Go.Value) (fun s w => (s.1 ≤ 8) ∧ (Wx.Sep no w0 w [aBlk B4 ts.cells 40, aOwn 35 19 Fact.cells s.2 (relL p pt s.1)])) (fun s => [(11, .eq (vi (s.1 : Int))), (8, .eq (s.2)), (9, .eq (.bool (allR p pt tm s.1))), (10, .eq (vi (partiesOf (relS pt s.1) 9 tm)))]) ([(0, .eq _), (2, .eq _), (4, .eq _), (6, .eq _), (7, .eq _)]) (fun s => 8 - s.1) (0, .slice (some ⟨B27, 0, none⟩) 1 1) ?_ ⟨rfl, rfl, rfl, rfl, rfl, rfl, rfl, rfl, rfl, trivial⟩ ?_
  ·exact ⟨Nat.zero_le _, hS⟩
  ·rintro ⟨k, v⟩ w6 ⟨hk, hS⟩
   dsimp only at hk hS
   change CW _ _ _ _ _ _ _ ([(11, .eq (vi (k : Int))), (8, .eq (v)), (9, .eq (.bool (allR p pt tm k))), (10, .eq (vi (partiesOf (relS pt k) 9 tm)))] ++ _) _
   refine CW.seq (CW.seq (CW.region (LW.p (PEv.move (.tmp rfl)) rfl rfl rfl ?_)))
   refine LW.p (PEv.lss (.tmp rfl) (.const _)) rfl rfl rfl ?_
   refine LW.nil (KW.then ?_)
   refine CW.cond (.tmp rfl) (fun h29 => ?_) (fun h29 => ?_)
   ·first | replace h29 := of_decide_eq_true h29 | replace h29 := of_decide_eq_false h29 | skip
    have hk8 : k < 8 := by omega
    refine CW.skip (KW.then (CW.seq (CW.block (CW.seq (CW.region (LW.p (PEv.move (.tmp rfl)) rfl rfl rfl ?_))))))
    refine LW.p (PEv.indexArr (j := k) Tryz.underlying40 Tryz.sizeOf3 (.tmp rfl) (.tmp rfl) (by omega)) rfl rfl rfl ?_
    refine LW.p (PEv.load Tryz.isAgg3 (.tmp rfl) (by have h := (hS.blk 0 rfl).cell (I8.cell ts hk8); simpa using h)) rfl rfl rfl ?_
    refine LW.c (enter_call0 (.cons (.tmp rfl) (.cons (.const _) .nil)) (Tryz.en16)) rfl rfl rfl rfl (pick_any _ _ _ (by decide)) ?_
    rintro _ w7 ⟨rfl, uw7⟩
    have zw7 := uw7.size
    replace hS := hS.up uw7
    refine LW.p (PEv.assign (.tmp rfl)) rfl rfl rfl (LW.nil (KW.then (CW.seq (CW.seq ?_))))
    rw [show pickI (ts.at k) 80 = pt k by rw [ept]]
    have hpw : IntKind.i64.wrap (1 * 2 ^ (min k IntKind.i64.bits)) = 2 ^ k := by
     rw [show (1 : Int) * 2 ^ (min k IntKind.i64.bits) = 2 ^ k by rw [Int.one_mul, show min k IntKind.i64.bits = k from Nat.min_eq_left (by show k ≤ 64; omega)]]
     have := pow8 hk8
     exact wrap_i64_in (by omega) (by omega)
    have hfl := relL_len p pt k
    refine CW.region (LW.p (PEv.move (.tmp rfl)) rfl rfl rfl ?_)
    refine LW.p (PEv.lss (.tmp rfl) (.const _)) rfl rfl rfl ?_
    refine LW.nil (KW.then ?_)
    refine CW.cond (.tmp rfl) (fun h37 => ?_) (fun h37 => ?_)
    ·first | replace h37 := of_decide_eq_true h37 | replace h37 := of_decide_eq_false h37 | skip
     have hrT := relL_yes (p := p) (pt := pt) (k := k) h37
     refine CW.region (LW.p (PEv.move (.tmp rfl)) rfl rfl rfl (LW.p (PEv.move (.tmp rfl)) rfl rfl rfl ?_))
     refine LW.p (PEv.shl_w (j := k) (.const _) (.tmp rfl)) rfl rfl rfl ?_
     refine LW.p (PEv.move (.tmp rfl)) rfl rfl rfl ?_
     rw [hpw]
     refine LW.p (PEv.build (cs := (rlF 9 (2 ^ k) (pt k)).cells) Tryz.underlying35 Tryz.zeroValue35 Tryz.places35 (.cons (.const _) (.cons (.const _) (.cons (.const _) (.cons (.tmp rfl) (.cons (.tmp rfl) .nil))))) rfl) rfl rfl rfl ?_
     refine LW.r (REv.buildSlice (xs := [rlF 9 (2 ^ k) (pt k)]) (enc := Fact.cells) (mk := fun f => .agg f.cells) Tryz.underlying22 Tryz.sizeOf35 Tryz.zeroValue35 rfl (by decide) (fun _ => rfl) (fun _ => rfl) (.cons (.tmp rfl) .nil) rfl) rfl rfl rfl rfl ?_
     rintro _ w8 ⟨B43, cB43, rfl, NB43, yB43, xB43⟩
     have eB43 := NB43.at_
     have zB43 := NB43.size
     replace hS := hS.up NB43.up
     have hE43 := xB43
     refine LW.r (REv.appendF (enc := Fact.cells) (bytes := 160) (i := Tryz.t35) Tryz.underlying22 (by kernel_rfl) rfl rfl rfl rfl (by decide) (fun _ => rfl) Fact.one (.tmp rfl) (.tmp rfl) (hS.own 1 rfl) (Sl.of_els hE43) (by have := hfl; simp [maxLen]; omega) (by have := hfl; simp; omega)) rfl rfl rfl rfl ?_
     intro v44 w9 Gw9
     have zw9 := Gw9.fr.size
     replace hS := hS.stp 1 rfl Gw9
     change Wx.Sep _ _ _ [_, _] at hS
     refine LW.p (PEv.assign (.tmp rfl)) rfl rfl rfl (LW.nil (KW.then (CW.seq (CW.region (LW.p (PEv.move (.tmp rfl)) rfl rfl rfl ?_)))))
     refine LW.p (PEv.lss (.tmp rfl) (.const _)) rfl rfl rfl ?_
     refine LW.p (PEv.move (.tmp rfl)) rfl rfl rfl ?_
     refine LW.g rfl rfl rfl rfl rfl rfl rfl (fun hc => PEv.move (.tmp rfl)) ?_
     refine LW.g rfl rfl rfl rfl rfl rfl rfl (fun hc => PEv.move (.tmp rfl)) ?_
     refine LW.g rfl rfl rfl rfl rfl rfl rfl (fun hc => PEv.leq (by first | exact .tmp rfl | exact .cond rfl (by first | assumption | simp_all)) (by first | exact .tmp rfl | exact .cond rfl (by first | assumption | simp_all))) ?_
     refine LW.p (PEv.pick_and (.tmp rfl) (fun hp => (by first | exact .const _ | exact .tmp rfl | exact .cond rfl (by first | assumption | (rw [hp]; rfl) | (rw [hc, hp]; rfl) | simp_all)))) rfl rfl rfl ?_
     refine LW.p (PEv.assign (.tmp rfl)) rfl rfl rfl (LW.nil (KW.then (CW.seq (CW.seq (CW.region (LW.p (PEv.move (.tmp rfl)) rfl rfl rfl (LW.nil (KW.then ?_))))))))
     refine CW.cond (.tmp rfl) (fun h52 => ?_) (fun h52 => ?_)
     ·first | replace h52 := of_decide_eq_true h52 | replace h52 := of_decide_eq_false h52 | skip
      have hbT := bits_yes (pt := pt) (t := tm) (k := k) h52
      refine CW.region (LW.p (PEv.move (.tmp rfl)) rfl rfl rfl (LW.p (PEv.move (.tmp rfl)) rfl rfl rfl ?_))
      refine LW.p (PEv.shl_w (j := k) (.const _) (.tmp rfl)) rfl rfl rfl ?_
      rw [hpw]
      refine LW.p (PEv.or_w (.tmp rfl) (.tmp rfl)) rfl rfl rfl ?_
      refine LW.p (PEv.assign (.tmp rfl)) rfl rfl rfl (LW.nil (KW.then (CW.region (LW.p (PEv.move (.tmp rfl)) rfl rfl rfl (LW.p (PEv.move (.tmp rfl)) rfl rfl rfl ?_)))))
      refine LW.g rfl rfl rfl rfl rfl rfl rfl (fun hc => PEv.move (.tmp rfl)) ?_
      refine LW.g rfl rfl rfl rfl rfl rfl rfl (fun hc => PEv.move (by first | exact .tmp rfl | exact .cond rfl (by first | assumption | simp_all))) ?_
      refine LW.gg rfl rfl rfl rfl rfl rfl rfl (fun hc => PEv.move (.tmp rfl)) ?_
      refine LW.gg rfl rfl rfl rfl rfl rfl rfl (fun hc => PEv.move (.tmp rfl)) ?_
      refine LW.gg rfl rfl rfl rfl rfl rfl rfl (fun hc => PEv.shr_w (j := k) (by first | exact .tmp rfl | exact .cond rfl (by first | assumption | simp_all)) (by first | exact .tmp rfl | exact .cond rfl (by first | assumption | simp_all))) ?_
      refine LW.gg rfl rfl rfl rfl rfl rfl rfl (fun hc => PEv.rem (by first | exact .tmp rfl | exact .cond rfl (by first | assumption | simp_all)) (.const _) (by decide)) ?_
      refine LW.gg rfl rfl rfl rfl rfl rfl rfl (fun hc => PEv.eql (by first | exact .tmp rfl | exact .cond rfl (by first | assumption | simp_all)) (.const _)) ?_
      refine LW.g rfl rfl rfl rfl rfl rfl rfl (fun hc => PEv.pick_or (by first | exact .tmp rfl | exact .cond rfl (by first | assumption | simp_all)) (fun hp => (by first | exact .const _ | exact .tmp rfl | exact .cond rfl (by first | assumption | (rw [hp]; rfl) | (rw [hc, hp]; rfl) | simp_all)))) ?_
      refine LW.p (PEv.pick_and (.tmp rfl) (fun hp => (by first | exact .const _ | exact .tmp rfl | exact .cond rfl (by first | assumption | (rw [hp]; rfl) | (rw [hc, hp]; rfl) | simp_all)))) rfl rfl rfl ?_
      refine LW.p (PEv.assign (.tmp rfl)) rfl rfl rfl (LW.nil (KW.inBlock (KW.then (CW.region (LW.p (PEv.move (.tmp rfl)) rfl rfl rfl ?_)))))
      refine LW.p (PEv.inc (.tmp rfl) (by omega)) rfl rfl rfl ?_
      refine LW.p (PEv.assign (.tmp rfl)) rfl rfl rfl (LW.nil (KW.round ?_))
      first | exact ⟨(k + 1, v44), ⟨by show k + 1 ≤ _; omega, by rw [hrT]; exact hS.take 2⟩, ⟨rfl, rfl, (congrArg (fun b : Bool => some (Ph.eq (Go.Value.bool b))) (allR_snoc p pt tm k)).symm, (congrArg (fun n : Int => some (Ph.eq (vi n))) hbT).symm, rfl, rfl, rfl, rfl, rfl, trivial⟩, by show 8 - (k + 1) < 8 - k; omega⟩ | exact ⟨(k + 1, v), ⟨by show k + 1 ≤ _; omega, by rw [hrT]; exact hS.take 2⟩, ⟨rfl, rfl, (congrArg (fun b : Bool => some (Ph.eq (Go.Value.bool b))) (allR_snoc p pt tm k)).symm, (congrArg (fun n : Int => some (Ph.eq (vi n))) hbT).symm, rfl, rfl, rfl, rfl, rfl, trivial⟩, by show 8 - (k + 1) < 8 - k; omega⟩
     ·first | replace h52 := of_decide_eq_true h52 | replace h52 := of_decide_eq_false h52 | skip
      have hbT := bits_no (pt := pt) (t := tm) (k := k) h52
      refine CW.skip (KW.then (CW.region (LW.p (PEv.move (.tmp rfl)) rfl rfl rfl (LW.p (PEv.move (.tmp rfl)) rfl rfl rfl ?_))))
      refine LW.g rfl rfl rfl rfl rfl rfl rfl (fun hc => PEv.move (.tmp rfl)) ?_
      refine LW.g rfl rfl rfl rfl rfl rfl rfl (fun hc => PEv.move (by first | exact .tmp rfl | exact .cond rfl (by first | assumption | simp_all))) ?_
      refine LW.gg rfl rfl rfl rfl rfl rfl rfl (fun hc => PEv.move (.tmp rfl)) ?_
      refine LW.gg rfl rfl rfl rfl rfl rfl rfl (fun hc => PEv.move (.tmp rfl)) ?_
      refine LW.gg rfl rfl rfl rfl rfl rfl rfl (fun hc => PEv.shr_w (j := k) (by first | exact .tmp rfl | exact .cond rfl (by first | assumption | simp_all)) (by first | exact .tmp rfl | exact .cond rfl (by first | assumption | simp_all))) ?_
      refine LW.gg rfl rfl rfl rfl rfl rfl rfl (fun hc => PEv.rem (by first | exact .tmp rfl | exact .cond rfl (by first | assumption | simp_all)) (.const _) (by decide)) ?_
      refine LW.gg rfl rfl rfl rfl rfl rfl rfl (fun hc => PEv.eql (by first | exact .tmp rfl | exact .cond rfl (by first | assumption | simp_all)) (.const _)) ?_
      refine LW.g rfl rfl rfl rfl rfl rfl rfl (fun hc => PEv.pick_or (by first | exact .tmp rfl | exact .cond rfl (by first | assumption | simp_all)) (fun hp => (by first | exact .const _ | exact .tmp rfl | exact .cond rfl (by first | assumption | (rw [hp]; rfl) | (rw [hc, hp]; rfl) | simp_all)))) ?_
      refine LW.p (PEv.pick_and (.tmp rfl) (fun hp => (by first | exact .const _ | exact .tmp rfl | exact .cond rfl (by first | assumption | (rw [hp]; rfl) | (rw [hc, hp]; rfl) | simp_all)))) rfl rfl rfl ?_
      refine LW.p (PEv.assign (.tmp rfl)) rfl rfl rfl (LW.nil (KW.inBlock (KW.then (CW.region (LW.p (PEv.move (.tmp rfl)) rfl rfl rfl ?_)))))
      refine LW.p (PEv.inc (.tmp rfl) (by omega)) rfl rfl rfl ?_
      refine LW.p (PEv.assign (.tmp rfl)) rfl rfl rfl (LW.nil (KW.round ?_))
      first | exact ⟨(k + 1, v44), ⟨by show k + 1 ≤ _; omega, by rw [hrT]; exact hS.take 2⟩, ⟨rfl, rfl, (congrArg (fun b : Bool => some (Ph.eq (Go.Value.bool b))) (allR_snoc p pt tm k)).symm, (congrArg (fun n : Int => some (Ph.eq (vi n))) hbT).symm, rfl, rfl, rfl, rfl, rfl, trivial⟩, by show 8 - (k + 1) < 8 - k; omega⟩ | exact ⟨(k + 1, v), ⟨by show k + 1 ≤ _; omega, by rw [hrT]; exact hS.take 2⟩, ⟨rfl, rfl, (congrArg (fun b : Bool => some (Ph.eq (Go.Value.bool b))) (allR_snoc p pt tm k)).symm, (congrArg (fun n : Int => some (Ph.eq (vi n))) hbT).symm, rfl, rfl, rfl, rfl, rfl, trivial⟩, by show 8 - (k + 1) < 8 - k; omega⟩
    ·first | replace h37 := of_decide_eq_true h37 | replace h37 := of_decide_eq_false h37 | skip
     have hrT := relL_no (p := p) (pt := pt) (k := k) h37
     refine CW.skip (KW.then (CW.seq (CW.region (LW.p (PEv.move (.tmp rfl)) rfl rfl rfl ?_))))
     refine LW.p (PEv.lss (.tmp rfl) (.const _)) rfl rfl rfl ?_
     refine LW.p (PEv.move (.tmp rfl)) rfl rfl rfl ?_
     refine LW.g rfl rfl rfl rfl rfl rfl rfl (fun hc => PEv.move (.tmp rfl)) ?_
     refine LW.g rfl rfl rfl rfl rfl rfl rfl (fun hc => PEv.move (.tmp rfl)) ?_
     refine LW.g rfl rfl rfl rfl rfl rfl rfl (fun hc => PEv.leq (by first | exact .tmp rfl | exact .cond rfl (by first | assumption | simp_all)) (by first | exact .tmp rfl | exact .cond rfl (by first | assumption | simp_all))) ?_
     refine LW.p (PEv.pick_and (.tmp rfl) (fun hp => (by first | exact .const _ | exact .tmp rfl | exact .cond rfl (by first | assumption | (rw [hp]; rfl) | (rw [hc, hp]; rfl) | simp_all)))) rfl rfl rfl ?_
     refine LW.p (PEv.assign (.tmp rfl)) rfl rfl rfl (LW.nil (KW.then (CW.seq (CW.seq (CW.region (LW.p (PEv.move (.tmp rfl)) rfl rfl rfl (LW.nil (KW.then ?_))))))))
     refine CW.cond (.tmp rfl) (fun h52 => ?_) (fun h52 => ?_)
     ·first | replace h52 := of_decide_eq_true h52 | replace h52 := of_decide_eq_false h52 | skip
      have hbT := bits_yes (pt := pt) (t := tm) (k := k) h52
      refine CW.region (LW.p (PEv.move (.tmp rfl)) rfl rfl rfl (LW.p (PEv.move (.tmp rfl)) rfl rfl rfl ?_))
      refine LW.p (PEv.shl_w (j := k) (.const _) (.tmp rfl)) rfl rfl rfl ?_
      rw [hpw]
      refine LW.p (PEv.or_w (.tmp rfl) (.tmp rfl)) rfl rfl rfl ?_
      refine LW.p (PEv.assign (.tmp rfl)) rfl rfl rfl (LW.nil (KW.then (CW.region (LW.p (PEv.move (.tmp rfl)) rfl rfl rfl (LW.p (PEv.move (.tmp rfl)) rfl rfl rfl ?_)))))
      refine LW.g rfl rfl rfl rfl rfl rfl rfl (fun hc => PEv.move (.tmp rfl)) ?_
      refine LW.g rfl rfl rfl rfl rfl rfl rfl (fun hc => PEv.move (by first | exact .tmp rfl | exact .cond rfl (by first | assumption | simp_all))) ?_
      refine LW.gg rfl rfl rfl rfl rfl rfl rfl (fun hc => PEv.move (.tmp rfl)) ?_
      refine LW.gg rfl rfl rfl rfl rfl rfl rfl (fun hc => PEv.move (.tmp rfl)) ?_
      refine LW.gg rfl rfl rfl rfl rfl rfl rfl (fun hc => PEv.shr_w (j := k) (by first | exact .tmp rfl | exact .cond rfl (by first | assumption | simp_all)) (by first | exact .tmp rfl | exact .cond rfl (by first | assumption | simp_all))) ?_
      refine LW.gg rfl rfl rfl rfl rfl rfl rfl (fun hc => PEv.rem (by first | exact .tmp rfl | exact .cond rfl (by first | assumption | simp_all)) (.const _) (by decide)) ?_
      refine LW.gg rfl rfl rfl rfl rfl rfl rfl (fun hc => PEv.eql (by first | exact .tmp rfl | exact .cond rfl (by first | assumption | simp_all)) (.const _)) ?_
      refine LW.g rfl rfl rfl rfl rfl rfl rfl (fun hc => PEv.pick_or (by first | exact .tmp rfl | exact .cond rfl (by first | assumption | simp_all)) (fun hp => (by first | exact .const _ | exact .tmp rfl | exact .cond rfl (by first | assumption | (rw [hp]; rfl) | (rw [hc, hp]; rfl) | simp_all)))) ?_
      refine LW.p (PEv.pick_and (.tmp rfl) (fun hp => (by first | exact .const _ | exact .tmp rfl | exact .cond rfl (by first | assumption | (rw [hp]; rfl) | (rw [hc, hp]; rfl) | simp_all)))) rfl rfl rfl ?_
      refine LW.p (PEv.assign (.tmp rfl)) rfl rfl rfl (LW.nil (KW.inBlock (KW.then (CW.region (LW.p (PEv.move (.tmp rfl)) rfl rfl rfl ?_)))))
      refine LW.p (PEv.inc (.tmp rfl) (by omega)) rfl rfl rfl ?_
      refine LW.p (PEv.assign (.tmp rfl)) rfl rfl rfl (LW.nil (KW.round ?_))
      first | exact ⟨(k + 1, v44), ⟨by show k + 1 ≤ _; omega, by rw [hrT]; exact hS.take 2⟩, ⟨rfl, rfl, (congrArg (fun b : Bool => some (Ph.eq (Go.Value.bool b))) (allR_snoc p pt tm k)).symm, (congrArg (fun n : Int => some (Ph.eq (vi n))) hbT).symm, rfl, rfl, rfl, rfl, rfl, trivial⟩, by show 8 - (k + 1) < 8 - k; omega⟩ | exact ⟨(k + 1, v), ⟨by show k + 1 ≤ _; omega, by rw [hrT]; exact hS.take 2⟩, ⟨rfl, rfl, (congrArg (fun b : Bool => some (Ph.eq (Go.Value.bool b))) (allR_snoc p pt tm k)).symm, (congrArg (fun n : Int => some (Ph.eq (vi n))) hbT).symm, rfl, rfl, rfl, rfl, rfl, trivial⟩, by show 8 - (k + 1) < 8 - k; omega⟩
     ·first | replace h52 := of_decide_eq_true h52 | replace h52 := of_decide_eq_false h52 | skip
      have hbT := bits_no (pt := pt) (t := tm) (k := k) h52
      refine CW.skip (KW.then (CW.region (LW.p (PEv.move (.tmp rfl)) rfl rfl rfl (LW.p (PEv.move (.tmp rfl)) rfl rfl rfl ?_))))
      refine LW.g rfl rfl rfl rfl rfl rfl rfl (fun hc => PEv.move (.tmp rfl)) ?_
      refine LW.g rfl rfl rfl rfl rfl rfl rfl (fun hc => PEv.move (by first | exact .tmp rfl | exact .cond rfl (by first | assumption | simp_all))) ?_
      refine LW.gg rfl rfl rfl rfl rfl rfl rfl (fun hc => PEv.move (.tmp rfl)) ?_
      refine LW.gg rfl rfl rfl rfl rfl rfl rfl (fun hc => PEv.move (.tmp rfl)) ?_
      refine LW.gg rfl rfl rfl rfl rfl rfl rfl (fun hc => PEv.shr_w (j := k) (by first | exact .tmp rfl | exact .cond rfl (by first | assumption | simp_all)) (by first | exact .tmp rfl | exact .cond rfl (by first | assumption | simp_all))) ?_
      refine LW.gg rfl rfl rfl rfl rfl rfl rfl (fun hc => PEv.rem (by first | exact .tmp rfl | exact .cond rfl (by first | assumption | simp_all)) (.const _) (by decide)) ?_
      refine LW.gg rfl rfl rfl rfl rfl rfl rfl (fun hc => PEv.eql (by first | exact .tmp rfl | exact .cond rfl (by first | assumption | simp_all)) (.const _)) ?_
      refine LW.g rfl rfl rfl rfl rfl rfl rfl (fun hc => PEv.pick_or (by first | exact .tmp rfl | exact .cond rfl (by first | assumption | simp_all)) (fun hp => (by first | exact .const _ | exact .tmp rfl | exact .cond rfl (by first | assumption | (rw [hp]; rfl) | (rw [hc, hp]; rfl) | simp_all)))) ?_
      refine LW.p (PEv.pick_and (.tmp rfl) (fun hp => (by first | exact .const _ | exact .tmp rfl | exact .cond rfl (by first | assumption | (rw [hp]; rfl) | (rw [hc, hp]; rfl) | simp_all)))) rfl rfl rfl ?_
      refine LW.p (PEv.assign (.tmp rfl)) rfl rfl rfl (LW.nil (KW.inBlock (KW.then (CW.region (LW.p (PEv.move (.tmp rfl)) rfl rfl rfl ?_)))))
      refine LW.p (PEv.inc (.tmp rfl) (by omega)) rfl rfl rfl ?_
      refine LW.p (PEv.assign (.tmp rfl)) rfl rfl rfl (LW.nil (KW.round ?_))
      first | exact ⟨(k + 1, v44), ⟨by show k + 1 ≤ _; omega, by rw [hrT]; exact hS.take 2⟩, ⟨rfl, rfl, (congrArg (fun b : Bool => some (Ph.eq (Go.Value.bool b))) (allR_snoc p pt tm k)).symm, (congrArg (fun n : Int => some (Ph.eq (vi n))) hbT).symm, rfl, rfl, rfl, rfl, rfl, trivial⟩, by show 8 - (k + 1) < 8 - k; omega⟩ | exact ⟨(k + 1, v), ⟨by show k + 1 ≤ _; omega, by rw [hrT]; exact hS.take 2⟩, ⟨rfl, rfl, (congrArg (fun b : Bool => some (Ph.eq (Go.Value.bool b))) (allR_snoc p pt tm k)).symm, (congrArg (fun n : Int => some (Ph.eq (vi n))) hbT).symm, rfl, rfl, rfl, rfl, rfl, trivial⟩, by show 8 - (k + 1) < 8 - k; omega⟩
   ·first | replace h29 := of_decide_eq_true h29 | replace h29 := of_decide_eq_false h29 | skip
    refine CW.exit (KW.then_exit (KW.then_exit (KW.block_hit (KW.then (CW.seq ?_)))))
    have hk9 : k = 8 := by omega
    subst hk9
    have hfl := relL_len p pt 8
    obtain ⟨adv, cpv, rfl, _⟩ := (hS.own 1 rfl).sl (fun _ => rfl)
    have hSh := ofB_short (l := relL p pt 8) (by omega) 0
    refine CW.region (LW.p (PEv.move (.tmp rfl)) rfl rfl rfl ?_)
    refine LW.c (enter_call0 (.cons (.tmp rfl) (.cons (.const _) .nil)) (Tryz.en10)) rfl rfl rfl rfl (Of_any adv cpv (relL p pt 8) 0 _ ((hS.own 1 rfl).els (fun _ => rfl)) (by omega)) ?_
    rintro _ w10 ⟨bc, rfl, hC, uw10⟩
    have zw10 := uw10.size
    replace hS := hS.up uw10
    refine LW.r (REv.allocA Tryz.zeroValue27) rfl rfl rfl rfl ?_
    rintro _ w11 ⟨B14, rfl, MB14⟩
    refine LW.s (SEv.storeA Tryz.sizeOf27 hC.size (.tmp rfl) (.tmp rfl) hC.one MB14.blk rfl) rfl rfl rfl ?_
    intro w12 LB14
    have NB14 := MB14.set LB14
    clear LB14 MB14
    have eB14 := NB14.at_
    have zB14 := NB14.size
    replace hC := hC.up NB14.up
    replace hS := hS.addB NB14
    change Wx.Sep _ _ _ [_, _, _] at hS
    refine LW.nil (KW.then (CW.seq (CW.region ?_)))
    refine LW.p (PEv.loadA Tryz.isAgg27 Tryz.sizeOf27 (hC.size) (.tmp rfl) ((hS.blk 2 rfl).agg)) rfl rfl rfl ?_
    refine LW.p (PEv.move (.tmp rfl)) rfl rfl rfl ?_
    refine LW.c (enter_call0 (.cons (.tmp rfl) (.cons (.const _) (.cons (.tmp rfl) .nil))) (Tryz.en14)) rfl rfl rfl rfl (Released_any bc (ofB (relL p pt 8) 0) 9 tm _ hC (Nat.lt_of_le_of_lt (hSh 6) (by decide)) (Nat.lt_of_le_of_lt (hSh 7) (by decide))) ?_
    rintro _ w13 ⟨rfl, uw13⟩
    have zw13 := uw13.size
    replace hS := hS.up uw13
    replace hC := hC.up uw13
    rw [rel_released hp hpt, rel_list hpt]
    refine LW.p (PEv.move (.tmp rfl)) rfl rfl rfl (LW.p (PEv.extract (.tmp rfl) rfl) rfl rfl rfl (LW.p (PEv.extract (.tmp rfl) rfl) rfl rfl rfl (LW.p (PEv.assign (.tmp rfl)) rfl rfl rfl (LW.p (PEv.assign (.tmp rfl)) rfl rfl rfl (LW.nil (KW.then (CW.seq (CW.region ?_))))))))
    refine LW.p (PEv.loadA Tryz.isAgg27 Tryz.sizeOf27 (hC.size) (.tmp rfl) ((hS.blk 2 rfl).agg)) rfl rfl rfl ?_
    refine LW.p (PEv.move (.tmp rfl)) rfl rfl rfl ?_
    refine LW.p (PEv.build (cs := (⟨3, 0, 0, 0, 0, 0, tm⟩ : GAct).cells) Tryz.underlying24 Tryz.zeroValue24 Tryz.places24 (.cons (.const _) (.cons (.tmp rfl) .nil)) rfl) rfl rfl rfl ?_
    refine LW.c (enter_call0 (.cons (.tmp rfl) (.cons (.tmp rfl) .nil)) (Tryz.en12)) rfl rfl rfl rfl (Stops_any bc (ofB (relL p pt 8) 0) ⟨3, 0, 0, 0, 0, 0, tm⟩ _ hC (Nat.le_trans (hSh 6) (by decide)) (Nat.lt_of_le_of_lt (hSh 7) (by decide)) (Nat.lt_of_le_of_lt (hSh 3) (by decide))) ?_
    rintro v79 w14 ⟨hO79, uw14⟩
    have zw14 := uw14.size
    replace hS := hS.up uw14
    replace hC := hC.up uw14
    refine LW.p (PEv.assign (.tmp rfl)) rfl rfl rfl (LW.nil (KW.then (CW.seq ?_)))
    refine CW.draws_then 7 (by kernel_rfl) (by kernel_rfl) (by kernel_rfl) (by kernel_rfl) (by kernel_rfl) rfl rfl ?_
    refine HW.p (PEv.loadA Tryz.isAgg27 Tryz.sizeOf27 (hC.size) (.tmp rfl) ((hS.blk 2 rfl).agg)) rfl rfl ?_
    refine HW.p (PEv.move (.tmp rfl)) rfl rfl ?_
    refine HW.p (PEv.indexArr (j := 0) Tryz.underlying40 Tryz.sizeOf3 (.tmp rfl) (.const _) (by omega)) rfl rfl ?_
    refine HW.p (PEv.load Tryz.isAgg3 (.tmp rfl) ((hS.blk 0 rfl).cell (I8.cell ts (by decide)))) rfl rfl ?_
    refine HW.c (fun a w _ ha => enter_call0 (.cons (.tmp rfl) (.cons (.const _) .nil)) (Tryz.en16) a ha) rfl rfl (fun w hu => pick_any _ _ _ (by decide)) ?_
    refine HW.p (PEv.add_w (.tmp rfl) (.tmp rfl)) rfl rfl ?_
    refine HW.p (PEv.build (cs := (⟨3, 0, 0, 0, 0, 0, IntKind.i64.wrap (tm + pickI (ts.at 0) 30)⟩ : GAct).cells) Tryz.underlying24 Tryz.zeroValue24 Tryz.places24 (.cons (.const _) (.cons (.tmp rfl) .nil)) rfl) rfl rfl ?_
    refine HW.nil ?_
    intro w15 uw15
    have zw15 := uw15.size
    replace hS := hS.up uw15
    replace hC := hC.up uw15
    refine LW.c (enter_call0 (.cons (.tmp rfl) (.cons (.tmp rfl) .nil)) (Tryz.en12)) rfl rfl rfl rfl (Stops_any bc (ofB (relL p pt 8) 0) ⟨3, 0, 0, 0, 0, 0, IntKind.i64.wrap (tm + pickI (ts.at 0) 30)⟩ _ hC (Nat.le_trans (hSh 6) (by decide)) (Nat.lt_of_le_of_lt (hSh 7) (by decide)) (Nat.lt_of_le_of_lt (hSh 3) (by decide))) ?_
    rintro v87 w16 ⟨hO87, uw16⟩
    have zw16 := uw16.size
    replace hS := hS.up uw16
    replace hC := hC.up uw16
    refine LW.p (PEv.assign (.tmp rfl)) rfl rfl rfl (LW.nil (KW.then (CW.seq ?_)))
    have hd := pick_range (c := ts.at 0) (n := 30) (I8.in_ hts 0) (by decide)
    have hD : IntKind.i64.wrap (tm + pickI (ts.at 0) 30) = tm + pickI (ts.at 0) 30 := wrap_i64_in (by omega) (by omega)
    rw [rel_stops hp hpt (by show 0 ≤ tm ∧ tm ≤ 100; omega)] at hO79
    rw [rel_stops hp hpt (by show 0 ≤ IntKind.i64.wrap (tm + pickI (ts.at 0) 30) ∧ IntKind.i64.wrap (tm + pickI (ts.at 0) 30) ≤ 100; rw [hD]; omega)] at hO87
    cases hq21 : allR p pt tm 8 with
    | true =>
     rw [if_pos hq21] at hO79
     rw [if_pos (rel_mono hq21 (by show tm ≤ IntKind.i64.wrap (tm + pickI (ts.at 0) 30); rw [hD]; omega))] at hO87
     obtain ⟨ad79, cp79, rfl, _⟩ := hO79.sl (fun _ => rfl)
     obtain ⟨ad87, cp87, rfl, _⟩ := hO87.sl (fun _ => rfl)
     refine CW.region (LW.p (PEv.move (.tmp rfl)) rfl rfl rfl (LW.p (PEv.move (.tmp rfl)) rfl rfl rfl ?_))
     refine LW.yes rfl rfl rfl rfl rfl rfl ?_
     refine LW.p (PEv.move (.tmp rfl)) rfl rfl rfl ?_
     refine LW.yes rfl rfl rfl rfl rfl rfl ?_
     refine LW.p (PEv.move (.tmp rfl)) rfl rfl rfl ?_
     refine LW.yes rfl rfl rfl rfl rfl rfl ?_
     refine LW.p (PEv.tr (PEv.eql (.tmp rfl) (.tmp rfl)) (decide_eq_true rfl)) rfl rfl rfl ?_
     refine LW.p (PEv.pick_and (.tmp rfl) (fun hp => (by first | exact .const _ | exact .tmp rfl | exact .cond rfl (by first | assumption | (rw [hp]; rfl) | (rw [hc, hp]; rfl) | simp_all)))) rfl rfl rfl ?_
     refine LW.p (PEv.move (.tmp rfl)) rfl rfl rfl ?_
     refine LW.yes rfl rfl rfl rfl rfl rfl ?_
     refine LW.p (PEv.move (.tmp rfl)) rfl rfl rfl ?_
     refine LW.yes rfl rfl rfl rfl rfl rfl ?_
     refine LW.p (PEv.move (.tmp rfl)) rfl rfl rfl ?_
     refine LW.yes rfl rfl rfl rfl rfl rfl ?_
     refine LW.p (PEv.tr (PEv.eqlB Tryz.underlying4 (.tmp rfl) (.tmp rfl)) (rfl)) rfl rfl rfl ?_
     refine LW.p (PEv.pick_and (.tmp rfl) (fun hp => (by first | exact .const _ | exact .tmp rfl | exact .cond rfl (by first | assumption | (rw [hp]; rfl) | (rw [hc, hp]; rfl) | simp_all)))) rfl rfl rfl ?_
     refine LW.p (PEv.move (.tmp rfl)) rfl rfl rfl ?_
     refine LW.yes rfl rfl rfl rfl rfl rfl ?_
     refine LW.p (PEv.move (.tmp rfl)) rfl rfl rfl ?_
     refine LW.yes rfl rfl rfl rfl rfl rfl ?_
     refine LW.p (PEv.lenS Tryz.underlying30 (.tmp rfl)) rfl rfl rfl ?_
     refine LW.yes rfl rfl rfl rfl rfl rfl ?_
     refine LW.p (PEv.tr (PEv.eql (.tmp rfl) (.const _)) (rfl)) rfl rfl rfl ?_
     refine LW.yes rfl rfl rfl rfl rfl rfl ?_
     refine LW.p (PEv.move (.tmp rfl)) rfl rfl rfl ?_
     refine LW.yes rfl rfl rfl rfl rfl rfl ?_
     refine LW.p (PEv.tr (PEv.eqlB Tryz.underlying4 (.tmp rfl) (.tmp rfl)) (rfl)) rfl rfl rfl ?_
     refine LW.p (PEv.pick_and (.tmp rfl) (fun hp => (by first | exact .const _ | exact .tmp rfl | exact .cond rfl (by first | assumption | (rw [hp]; rfl) | (rw [hc, hp]; rfl) | simp_all)))) rfl rfl rfl ?_
     refine LW.p (PEv.move (.tmp rfl)) rfl rfl rfl ?_
     refine LW.yes rfl rfl rfl rfl rfl rfl ?_
     refine LW.p (PEv.move (.tmp rfl)) rfl rfl rfl ?_
     refine LW.yes rfl rfl rfl rfl rfl rfl ?_
     refine LW.p (PEv.lenS Tryz.underlying30 (.tmp rfl)) rfl rfl rfl ?_
     refine LW.yes rfl rfl rfl rfl rfl rfl ?_
     refine LW.p (PEv.fa (PEv.gtr (.tmp rfl) (.const _)) (rfl)) rfl rfl rfl ?_
     refine LW.yes rfl rfl rfl rfl rfl rfl ?_
     refine LW.p (PEv.move (.tmp rfl)) rfl rfl rfl ?_
     refine LW.yes rfl rfl rfl rfl rfl rfl ?_
     refine LW.p (PEv.move (.tmp rfl)) rfl rfl rfl ?_
     refine LW.yes rfl rfl rfl rfl rfl rfl ?_
     refine LW.p (PEv.lenS Tryz.underlying30 (.tmp rfl)) rfl rfl rfl ?_
     refine LW.yes rfl rfl rfl rfl rfl rfl ?_
     refine LW.p (PEv.tr (PEv.eql (.tmp rfl) (.const _)) (rfl)) rfl rfl rfl ?_
     refine LW.yes rfl rfl rfl rfl rfl rfl ?_
     refine LW.p (PEv.pick_or (.tmp rfl) (fun hp => (by first | exact .const _ | exact .tmp rfl | exact .cond rfl (by first | assumption | (rw [hp]; rfl) | (rw [hc, hp]; rfl) | simp_all)))) rfl rfl rfl ?_
     refine LW.p (PEv.pick_and (.tmp rfl) (fun hp => (by first | exact .const _ | exact .tmp rfl | exact .cond rfl (by first | assumption | (rw [hp]; rfl) | (rw [hc, hp]; rfl) | simp_all)))) rfl rfl rfl ?_
     refine LW.p (PEv.assign (.tmp rfl)) rfl rfl rfl (LW.nil (KW.then (CW.ret ?_)))
     refine KW.ret1 rfl rfl ⟨_, rfl, ?_⟩
     exact ⟨rfl, hS.upd⟩
    | false =>
     rw [if_neg (by rw [hq21]; decide)] at hO79
     obtain ⟨ad79, cp79, rfl, _⟩ := hO79.sl (fun _ => rfl)
     refine CW.region (LW.p (PEv.move (.tmp rfl)) rfl rfl rfl (LW.p (PEv.move (.tmp rfl)) rfl rfl rfl ?_))
     refine LW.yes rfl rfl rfl rfl rfl rfl ?_
     refine LW.p (PEv.move (.tmp rfl)) rfl rfl rfl ?_
     refine LW.yes rfl rfl rfl rfl rfl rfl ?_
     refine LW.p (PEv.move (.tmp rfl)) rfl rfl rfl ?_
     refine LW.yes rfl rfl rfl rfl rfl rfl ?_
     refine LW.p (PEv.tr (PEv.eql (.tmp rfl) (.tmp rfl)) (decide_eq_true rfl)) rfl rfl rfl ?_
     refine LW.p (PEv.pick_and (.tmp rfl) (fun hp => (by first | exact .const _ | exact .tmp rfl | exact .cond rfl (by first | assumption | (rw [hp]; rfl) | (rw [hc, hp]; rfl) | simp_all)))) rfl rfl rfl ?_
     refine LW.p (PEv.move (.tmp rfl)) rfl rfl rfl ?_
     refine LW.yes rfl rfl rfl rfl rfl rfl ?_
     refine LW.p (PEv.move (.tmp rfl)) rfl rfl rfl ?_
     refine LW.yes rfl rfl rfl rfl rfl rfl ?_
     refine LW.p (PEv.move (.tmp rfl)) rfl rfl rfl ?_
     refine LW.yes rfl rfl rfl rfl rfl rfl ?_
     refine LW.p (PEv.tr (PEv.eqlB Tryz.underlying4 (.tmp rfl) (.tmp rfl)) (rfl)) rfl rfl rfl ?_
     refine LW.p (PEv.pick_and (.tmp rfl) (fun hp => (by first | exact .const _ | exact .tmp rfl | exact .cond rfl (by first | assumption | (rw [hp]; rfl) | (rw [hc, hp]; rfl) | simp_all)))) rfl rfl rfl ?_
     refine LW.p (PEv.move (.tmp rfl)) rfl rfl rfl ?_
     refine LW.yes rfl rfl rfl rfl rfl rfl ?_
     refine LW.p (PEv.move (.tmp rfl)) rfl rfl rfl ?_
     refine LW.yes rfl rfl rfl rfl rfl rfl ?_
     refine LW.p (PEv.lenS Tryz.underlying30 (.tmp rfl)) rfl rfl rfl ?_
     refine LW.yes rfl rfl rfl rfl rfl rfl ?_
     refine LW.p (PEv.fa (PEv.eql (.tmp rfl) (.const _)) (rfl)) rfl rfl rfl ?_
     refine LW.yes rfl rfl rfl rfl rfl rfl ?_
     refine LW.p (PEv.move (.tmp rfl)) rfl rfl rfl ?_
     refine LW.yes rfl rfl rfl rfl rfl rfl ?_
     refine LW.p (PEv.tr (PEv.eqlB Tryz.underlying4 (.tmp rfl) (.tmp rfl)) (rfl)) rfl rfl rfl ?_
     refine LW.p (PEv.pick_and (.tmp rfl) (fun hp => (by first | exact .const _ | exact .tmp rfl | exact .cond rfl (by first | assumption | (rw [hp]; rfl) | (rw [hc, hp]; rfl) | simp_all)))) rfl rfl rfl ?_
     refine LW.p (PEv.move (.tmp rfl)) rfl rfl rfl ?_
     refine LW.yes rfl rfl rfl rfl rfl rfl ?_
     refine LW.p (PEv.move (.tmp rfl)) rfl rfl rfl ?_
     refine LW.yes rfl rfl rfl rfl rfl rfl ?_
     refine LW.p (PEv.lenS Tryz.underlying30 (.tmp rfl)) rfl rfl rfl ?_
     refine LW.yes rfl rfl rfl rfl rfl rfl ?_
     refine LW.p (PEv.tr (PEv.gtr (.tmp rfl) (.const _)) (rfl)) rfl rfl rfl ?_
     refine LW.yes rfl rfl rfl rfl rfl rfl ?_
     refine LW.p (PEv.move (.tmp rfl)) rfl rfl rfl ?_
     refine LW.no rfl rfl rfl rfl rfl rfl rfl rfl ?_
     refine LW.no rfl rfl rfl rfl rfl rfl rfl rfl ?_
     refine LW.no rfl rfl rfl rfl rfl rfl rfl rfl ?_
     refine LW.yes rfl rfl rfl rfl rfl rfl ?_
     refine LW.p (PEv.pick_or (b := false) (.tmp rfl) (fun hp => absurd (show true = false from hp) (by decide))) rfl rfl rfl ?_
     refine LW.p (PEv.pick_and (.tmp rfl) (fun hp => (by first | exact .const _ | exact .tmp rfl | exact .cond rfl (by first | assumption | (rw [hp]; rfl) | (rw [hc, hp]; rfl) | simp_all)))) rfl rfl rfl ?_
     refine LW.p (PEv.assign (.tmp rfl)) rfl rfl rfl (LW.nil (KW.then (CW.ret ?_)))
     refine KW.ret1 rfl rfl ⟨_, rfl, ?_⟩
     exact ⟨rfl, hS.upd⟩
end Go.Proofs.YtolkipbpklkcnaaGreat
end
