import Derived.Test.YtolkipbpklkcnaaGreatKR113
import Derived.Sort.OwnSortedInts
section
namespace Go.Wx
theorem flat_int (ks : List Int) : ks.flatMap (fun x => (eInt x).toList) = ks.map vi := by
  induction ks with
  | nil => rfl
  | cons k ks ih => rw [List.flatMap_cons, ih]; rfl
theorem sort_perm {a b : List Int} (h : a.Perm b) : (a.mergeSort fun x y => decide (x ≤ y)) = b.mergeSort fun x y => decide (x ≤ y) :=
  List.Perm.eq_of_pairwise (le := fun x y => decide (x ≤ y) = true) (fun x y _ _ h1 h2 => by have h3 := of_decide_eq_true h1; have h4 := of_decide_eq_true h2; omega)
    (List.pairwise_mergeSort (fun a b c h1 h2 => by have h3 := of_decide_eq_true h1; have h4 := of_decide_eq_true h2; exact decide_eq_true (by omega)) (fun a b => by simp; omega) a)
    (List.pairwise_mergeSort (fun a b c h1 h2 => by have h3 := of_decide_eq_true h1; have h4 := of_decide_eq_true h2; exact decide_eq_true (by omega)) (fun a b => by simp; omega) b)
    ((List.mergeSort_perm a _).trans (h.trans (List.mergeSort_perm b _).symm))
end Go.Wx
namespace Go.Proofs.YtolkipbpklkcnaaGreat
open Go.Wx Go.RowKit
namespace Hs
theorem appendSeq_any (g : Nat) (lb : Array Go.Value) (S Sp : List Int → Prop) (N : Nat) (w : World) (en : ∀ args w, (callFunc g args).run Tryz.prog w = .ok (.enter g args) w) (hit : ∀ W (X : Nat → Prop), Up w W → (∀ i, X i → w.heap.size ≤ i) → IterS Tryz.prog g lb eInt X (fun _ => False) S Sp N W) (hN0 : N ≤ 1000000000) : Ret Tryz.prog 126 #[.slice none 0 0, .func (.func g) #[] lb] w fun r w' => ∃ ks, S ks ∧ OwnS w' w.heap.size 3 1 eInt r ks ∧ Up w w' := by
  have hW := Up.refl w
  obtain ⟨w0, rfl⟩ : ∃ w0, w0 = w := ⟨_, rfl⟩
  refine Calls_startM (n := 13) Tryz.func126 rfl rfl rfl ?_
  refine CW.seq (CW.region ?_)
  refine LW.r (REv.box1 (.tmp rfl) rfl) rfl rfl rfl rfl ?_
  rintro _ w1 ⟨B2, rfl, NB2⟩
  have eB2 := NB2.at_
  have zB2 := NB2.size
  replace hW := hW.up NB2.up
  have hB2 := NB2.blk
  refine LW.p (PEv.assign (.const _)) rfl rfl rfl (LW.nil (KW.then (CW.seq (CW.seq (CW.region (LW.p (PEv.move (.tmp rfl)) rfl rfl rfl (LW.nil (KW.then (CW.block ?_)))))))))
  obtain ⟨bq, hbq⟩ : ∃ bq, bq = w1.heap.size := ⟨_, rfl⟩
  refine CW.rangeFunc (fun i => B2 ≤ i) (fun _ => False) (fun pre W => Sz bq W ∧ ∃ v, Blk W B2 #[v] 30 ∧ OwnS W (B2 + 1) 3 1 eInt v pre ∧ Up w0 W) (fun c pre W => Sz bq W ∧ False) (fun x a' W => Ag 13 [] ([(5, .eq (vi x)), (2, .eq (.pointer (some ⟨B2, 0, none⟩)))]) a' W) (.tmp rfl) en (hit _ _ hW (fun i (hi : B2 ≤ i) => by omega)) (fun _ => rfl) rfl ?_ ?_ ?_ ?_ ?_ ?_ ?_ ?_
  ·rw [← hbq]
   intro pre W W' row hs hg hr
   obtain ⟨hZ, v, hB2, hO, hW⟩ := hs
   exact ⟨hZ.ko (Ko.grown hg hr), v, hB2.ko (Ko.grown hg hr), hO.ko (Ko.grown hg hr), hW.ko (Ko.grown hg hr) (by omega)⟩
  ·rw [← hbq]
   intro c pre W W' row hs hg hr
   obtain ⟨hZ, hF⟩ := hs
   exact ⟨hZ.ko (Ko.grown hg hr), hF⟩
  ·intro x a' u W W' row hs hg hr
   exact hs.world rfl _
  ·exact ⟨Nat.le_of_eq hbq, _, hB2, OwnS.nil _ _ _ _ _, hW⟩
  ·rw [← hbq]
   intro lp pre x w2 K hs hk a ha
   obtain ⟨hZ, v, hB2, hO, hW⟩ := hs
   have zq := hZ.le
   have hK := Kf.refl bq w2
   have hN := Kx.refl bq (fun i => B2 ≤ i) (fun _ => False) w2
   revert a
   refine CW.assign1 (p := 7) rfl ?_
   refine CW.region (LW.p (PEv.assign (.tmp rfl)) rfl rfl rfl (LW.nil ?_))
   exact fun a ha => hk a _ hK hN ⟨hZ, v, hB2, hO, hW⟩ (ha.sub ⟨rfl, rfl, trivial⟩)
  ·rw [← hbq]
   intro lp pre x a' w3 hs hx hlt
   obtain ⟨hZ, v, hB2, hO, hW⟩ := hs
   have ha := hx
   have zq := hZ.le
   have hK := Kf.refl bq w3
   have hN := Kx.refl bq (fun i => B2 ≤ i) (fun _ => False) w3
   refine (show CW (some lp) 8 _ 13 [] _ (ownPostG bq (Kx bq (fun i => B2 ≤ i) (fun _ => False)) _ _ (pre ++ [x]) w3) ([(5, .eq (vi x)), (2, .eq (.pointer (some ⟨B2, 0, none⟩)))]) w3 from ?_) a' ha
   refine CW.block (CW.region ?_)
   refine LW.p (PEv.load Tryz.isAgg30 (.tmp rfl) (hB2.celln rfl)) rfl rfl rfl ?_
   refine LW.p (PEv.move (.tmp rfl)) rfl rfl rfl ?_
   refine LW.r (REv.buildSlice (xs := [x]) (enc := eInt) (mk := vi) Tryz.underlying30 Tryz.sizeOf3 Tryz.zeroValue3 rfl (by decide) (fun _ => rfl) (fun _ => rfl) (.cons (.tmp rfl) .nil) rfl) rfl rfl rfl rfl ?_
   rintro _ w4 ⟨B10, cB10, rfl, NB10, yB10, xB10⟩
   have eB10 := NB10.at_
   have zB10 := NB10.size
   replace hZ := hZ.up NB10.up
   replace hB2 := hB2.up NB10.up
   replace hO := hO.up NB10.up
   replace hW := hW.up NB10.up
   replace hK := hK.up NB10.up
   replace hN := hN.up NB10.up
   have hB10 := NB10.blk
   have hE10 := xB10
   refine LW.r (REv.append (enc := eInt) (base := B2 + 1) (bytes := 8) (i := Tryz.t3) Tryz.underlying30 (by kernel_rfl) rfl rfl rfl rfl (by decide) (fun _ => rfl) eInt_one (.tmp rfl) (.tmp rfl) hO (Sl.of_els hE10) (by simp) (by simp [maxLen]; omega) (by simp; omega) (by omega)) rfl rfl rfl rfl ?_
   rintro v11 w5 ⟨Ow5, Gw5⟩
   have zw5 := Gw5.size
   replace hZ := hZ.gr Gw5 rfl
   replace hB2 := hB2.gr Gw5 (by omega)
   replace hW := hW.gr Gw5 (by omega)
   replace hK := hK.gr Gw5
   replace hN := hN.gr Gw5 (fun i hi => by first | exact .inr (by omega) | exact .inl (by show _ ≤ _; omega))
   replace hO := Ow5
   refine LW.s (SEv.store Tryz.sizeOf30 (.tmp rfl) (.tmp rfl) hO.one hB2 (by simp)) rfl rfl rfl ?_
   intro w6 Nw6
   have zw6 := Nw6.size
   replace hZ := hZ.sto Nw6.sto (by omega)
   replace hO := hO.sto Nw6.sto (by omega)
   replace hW := hW.sto Nw6.sto (by omega)
   replace hK := hK.sto Nw6.sto (.inr (.inr ⟨_, _, hB2⟩))
   replace hN := hN.stoC Nw6.sto (⟨_, _, hB2⟩) (by first | exact .inr (by omega) | exact .inl rfl | exact .inl (by show _ ≤ _; omega))
   replace hB2 := Nw6.blk
   replace hB2 : Blk w6 B2 #[v11] _ := hB2
   refine LW.nil (KW.inBlock ?_)
   exact fun a ha => ⟨hK, hN, hZ, _, hB2, hO, hW⟩
  ·intro D ys w7 hDb hS hs hD
   rw [← hbq] at hDb
   obtain ⟨hZ, v, hB2, hO, hW⟩ := hs
   replace hD : Ob w7 D (.deferred (some [])) := hD
   have zD := hD.lt
   have zq := hZ.le
   refine KW.inBlock (KW.then (CW.seq (CW.region ?_)))
   refine LW.p (PEv.load Tryz.isAgg30 (.tmp rfl) (hB2.celln rfl)) rfl rfl rfl ?_
   refine LW.p (PEv.assign (.tmp rfl)) rfl rfl rfl (LW.nil (KW.then (CW.ret ?_)))
   refine KW.unmark hD rfl ?_
   replace hZ := hZ.ko (Ko.putObj (.deferred none) hD rfl hDb)
   replace hB2 := hB2.ko (Ko.putObj (.deferred none) hD rfl hDb)
   replace hO := hO.ko (Ko.putObj (.deferred none) hD rfl hDb)
   replace hW := hW.putObj (D := D) (.deferred none) (by omega)
   refine KW.ret1 rfl rfl ⟨_, rfl, ?_⟩
   exact ⟨ys, hS, hO.mono (by omega), hW⟩
  ·intro D c pre w8 hDb hpre hs hD
   rw [← hbq] at hDb
   obtain ⟨hZ, hF⟩ := hs
   replace hD : Ob w8 D (.deferred (some [])) := hD
   have zD := hD.lt
   have zq := hZ.le
   exact hF.elim
theorem sort_any (base e : Nat) (v : Value) (ks : List Int) (w : World) (h : OwnS w base e 1 eInt v ks) (hlen : ks.length < 4611686018427387904) : Ret Tryz.prog 84 #[v] w fun r w' => r = .tuple #[] ∧ OwnS w' base e 1 eInt v (ks.mergeSort fun x y => decide (x ≤ y)) ∧ Grew base w w' := by
  have h0 := h
  obtain ⟨h1, ⟨rfl, hn⟩ | ⟨g, cap, cur, rfl, hg, hb, h2, h3, h4, h5⟩⟩ := h
  · have hks : ks = [] := List.eq_nil_of_length_eq_zero hn
    subst hks
    refine Calls.mono (Tryz.slices_Sort_int_none none 0 w) ?_
    rintro e' w' ⟨rfl, rfl⟩
    exact ⟨_, rfl, rfl, by simpa using h0, ⟨rfl, rfl, rfl, Nat.le_refl _, fun _ _ _ => rfl, fun _ _ h _ => h⟩⟩
  · rw [flat_int] at h5
    have hl : g < w.heap.size := lt_of_block hb
    refine Calls.mono (Tryz.slices_Sort_int g 0 cap ks w (holds_of_blockI hb (by simpa using h5)) hl hlen) ?_
    rintro e' w' ⟨rfl, n, os, rfl⟩
    have hg2 := Go.grownBy_sortedI (w := w) (g := g) (n := n) (os := os) (ks.mergeSort fun x y => decide (x ≤ y)).toArray
    have ho := Go.ownsRow_sortedI (w := w) (n := n) (os := os) (ss := ks) (ts := ks.mergeSort fun x y => decide (x ≤ y)) (by simp) hg hb h2 h3 h4
    refine ⟨_, rfl, rfl, ?_, ⟨hg2.os, hg2.tape, hg2.output, hg2.size, fun i hi hi2 => hg2.block i hi (fun e => by cases e; omega), fun i o hi ho => (hg2.block i (lt_of_block hi) (fun e => by cases e; rw [hb] at hi; cases hi; cases ho)).trans hi⟩⟩
    show World.ownsRow _ _ _ _ _ _ _
    rw [flat_int, List.length_mergeSort]
    exact ho
theorem collect_any (g : Nat) (lb : Array Go.Value) (S Sp : List Int → Prop) (N : Nat) (w : World) (en : ∀ args w, (callFunc g args).run Tryz.prog w = .ok (.enter g args) w) (hit : ∀ W (X : Nat → Prop), Up w W → (∀ i, X i → w.heap.size ≤ i) → IterS Tryz.prog g lb eInt X (fun _ => False) S Sp N W) (hN0 : N ≤ 1000000000) : Ret Tryz.prog 83 #[.func (.func g) #[] lb] w fun r w' => ∃ ks, S ks ∧ OwnS w' w.heap.size 3 1 eInt r ks ∧ Up w w' := by
  have hW := Up.refl w
  refine Calls_start (n := 5) (m := 9) Tryz.func83 rfl rfl rfl ?_
  refine CW.seq (CW.region (LW.p (PEv.assign (.const _)) rfl rfl rfl (LW.nil (KW.then (CW.seq (CW.region (LW.p (PEv.move (.tmp rfl)) rfl rfl rfl ?_)))))))
  refine LW.c (enter_call0 (.cons (.const _) (.cons (.tmp rfl) .nil)) (Tryz.en126)) rfl rfl rfl rfl (appendSeq_any _ _ _ _ _ _ en hit hN0) ?_
  rintro _ w1 ⟨ks, hS, hO, uw1⟩
  have zw1 := uw1.size
  replace hW := hW.up uw1
  refine LW.p (PEv.assign (.tmp rfl)) rfl rfl rfl (LW.nil (KW.then (CW.ret ?_)))
  refine KW.ret1 rfl rfl ⟨_, rfl, ?_⟩
  exact ⟨ks, hS, hO, hW⟩
theorem sorted_any (g : Nat) (lb : Array Go.Value) (S Sp : List Int → Prop) (N : Nat) (w : World) (en : ∀ args w, (callFunc g args).run Tryz.prog w = .ok (.enter g args) w) (hit : ∀ W (X : Nat → Prop), Up w W → (∀ i, X i → w.heap.size ≤ i) → IterS Tryz.prog g lb eInt X (fun _ => False) S Sp N W) (hN0 : N ≤ 1000000000) (hS0 : ∀ ks, S ks → ks.length ≤ 1000000000) : Ret Tryz.prog 34 #[.func (.func g) #[] lb] w fun r w' => ∃ ks, S ks ∧ OwnS w' w.heap.size 3 1 eInt r (ks.mergeSort fun x y => decide (x ≤ y)) ∧ Up w w' := by
  have hW := Up.refl w
  refine Calls_start (n := 9) (m := 9) Tryz.func34 rfl rfl rfl ?_
  refine CW.seq (CW.region (LW.p (PEv.assign (.const _)) rfl rfl rfl (LW.nil (KW.then (CW.seq (CW.region (LW.p (PEv.move (.tmp rfl)) rfl rfl rfl ?_)))))))
  refine LW.c (enter_call0 (.cons (.tmp rfl) .nil) (Tryz.en83)) rfl rfl rfl rfl (collect_any _ _ _ _ _ _ en hit hN0) ?_
  rintro v w1 ⟨ks, hS, hO, uw1⟩
  have zw1 := uw1.size
  replace hW := hW.up uw1
  refine LW.p (PEv.assign (.tmp rfl)) rfl rfl rfl (LW.nil (KW.then (CW.seq (CW.region (LW.p (PEv.move (.tmp rfl)) rfl rfl rfl ?_)))))
  refine LW.c (enter_call0 (.cons (.tmp rfl) .nil) (Tryz.en84)) rfl rfl rfl rfl (sort_any _ _ _ _ _ hO (by have := hS0 ks hS; omega)) ?_
  rintro _ w2 ⟨rfl, hO2, uw2⟩
  have zw2 := uw2.size
  replace hW := hW.gr uw2 (by omega)
  replace hO := hO2
  refine LW.nil (KW.then (CW.seq (CW.region (LW.p (PEv.move (.tmp rfl)) rfl rfl rfl (LW.p (PEv.assign (.tmp rfl)) rfl rfl rfl (LW.nil (KW.then (CW.ret ?_))))))))
  refine KW.ret1 rfl rfl ⟨_, rfl, ?_⟩
  exact ⟨ks, hS, hO, hW⟩
end Hs
end Go.Proofs.YtolkipbpklkcnaaGreat
end
section
namespace Go.Wx
def unit1 (k : Int) : Int × Value := (k, .agg #[])
def setAdd (ks : List Int) (k : Int) : List Int := if k ∈ ks then ks else ks ++ [k]
theorem mset_unit (ks : List Int) (k : Int) : mset (ks.map unit1) k (.agg #[]) = (setAdd ks k).map unit1 := by
  have e : (ks.map unit1).map (·.1) = ks := by simp [List.map_map, Function.comp_def, unit1]
  unfold mset setAdd
  rw [e]
  by_cases h : k ∈ ks
  · rw [if_pos h, if_pos h, List.map_map]
    refine List.map_congr_left fun x _ => ?_
    show (if x = k then (k, Value.agg #[]) else unit1 x) = unit1 x
    by_cases hx : x = k
    · subst hx; rw [if_pos rfl]; rfl
    · rw [if_neg hx]
  · rw [if_neg h, if_neg h]; simp [unit1]
end Go.Wx
namespace Go.Proofs.YtolkipbpklkcnaaGreat
open Go.Wx Go.RowKit
theorem mapsKeys_any (b : Nat) (w : World) : Ret Tryz.prog 35 #[.map (some b)] w fun r w' => (∃ B, r = .func (.func 85) #[] #[.pointer (some ⟨B, 0, none⟩)] ∧ Blk w' B #[.map (some b)] 69 ∧ w.heap.size ≤ B) ∧ Up w w' := by
  have hW := Up.refl w
  refine Calls_start (n := 4) (m := 9) Tryz.func35 rfl rfl rfl ?_
  refine CW.seq (CW.region ?_)
  refine LW.r (REv.box1 (.tmp rfl) rfl) rfl rfl rfl rfl ?_
  rintro _ w1 ⟨B1, rfl, NB1⟩
  have eB1 := NB1.at_
  have zB1 := NB1.size
  replace hW := hW.up NB1.up
  have hB1 := NB1.blk
  refine LW.p (PEv.assign (.const _)) rfl rfl rfl (LW.nil (KW.then (CW.seq (CW.region ?_))))
  refine LW.p (PEv.makeFunc (.cons (.tmp rfl) .nil)) rfl rfl rfl ?_
  refine LW.p (PEv.assign (.tmp rfl)) rfl rfl rfl (LW.nil (KW.then (CW.ret ?_)))
  refine KW.ret1 rfl rfl ⟨_, rfl, ?_⟩
  exact ⟨⟨_, rfl, hB1, by omega⟩, hW⟩
theorem mapsKeys_iter (X Y : Nat → Prop) (B1 b : Nat) (kv : List (Int × Value)) (w : World) (hYY : ∀ i, Y i → i < w.heap.size) (hQX : ¬ X B1) (hbY : ¬ Y b) (hQ0 : Blk w B1 #[.map (some b)] 69) (hM0 : IMap w b kv) :
    IterS Tryz.prog 85 #[.pointer (some ⟨B1, 0, none⟩)] eInt X Y (fun ys => ys.Perm (kv.map (·.1))) (fun pre => pre.Nodup ∧ ∀ k ∈ pre, k ∈ kv.map (·.1)) kv.length w := by
  refine IterS.of ?_
  intro lp J Jx w0 hUw _ hY hJ
  obtain ⟨Bd, hBd⟩ : ∃ Bd, Bd = w0.heap.size := ⟨_, rfl⟩
  rw [← hBd] at hJ hY
  have zU := hUw.size
  have hQ := hQ0.up hUw
  have hM := hM0.up hUw
  have zQ0 := hQ.lt
  refine Calls_start (n := 14) (m := 9) Tryz.func85 rfl rfl rfl ?_
  refine CW.seq (CW.region ?_)
  refine LW.p (PEv.load Tryz.isAgg69 (.tmp rfl) (hQ.celln rfl)) rfl rfl rfl ?_
  refine LW.r (REv.range Tryz.underlying69 (.tmp rfl) hM) rfl rfl rfl rfl ?_
  rintro _ w1 ⟨r5, rfl, hR5, uw1, ew1, zw1⟩
  replace hQ := hQ.up uw1
  replace hM := hM.up uw1
  replace hJ := hJ.up uw1
  refine LW.nil (KW.then (CW.block ?_))
  refine CW.loop (σ := List Int) (fun s w => Jw Bd J s w ∧ Blk w B1 #[.map (some b)] 69 ∧ IRng w b r5 kv s) (fun s => [(0, .eq (.func (.yield lp) #[] #[])), (5, .eq (.pointer (some ⟨r5, 0, none⟩)))]) (fun s => kv.length - s.length) [] ?_ ?_ ?_
  ·exact ⟨hJ, hQ, hR5⟩
  ·exact ⟨rfl, rfl, trivial⟩
  ·rintro done w2 ⟨hJ, hQ, hR5⟩
   have zQ := hQ.lt
   refine CW.seq (CW.region ?_)
   refine LW.r (REv.next (.tmp rfl) hR5) rfl rfl rfl rfl ?_
   rintro _ w3 (⟨rfl, rfl, hPm⟩ | ⟨k, u, rfl, hNx⟩)
   ·skip
    refine LW.p (PEv.extract (.tmp rfl) rfl) rfl rfl rfl (LW.nil (KW.then (CW.seq ?_)))
    refine CW.cond_false (.tmp rfl) ?_
    refine CW.exit (KW.then_exit (KW.then_exit (KW.block_hit ?_)))
    refine KW.end0 rfl ⟨_, rfl, ?_⟩
    first | exact .inl ⟨_, hPm, hJ.j⟩ | exact .inr ⟨_, hR5.sub, hJx⟩
   ·skip
    obtain ⟨_, ho, hwk⟩ := hNx.walk
    replace hJ := hJ.walk hNx.grown (by omega) ho hwk
    replace hQ := hQ.sto hNx.sto (by omega)
    replace hR5 := hNx.rng
    have zw3 := hNx.size
    refine LW.p (PEv.extract (.tmp rfl) rfl) rfl rfl rfl (LW.nil (KW.then (CW.seq ?_)))
    refine CW.cond_true (.tmp rfl) ?_
    refine CW.skip (KW.then (CW.block (CW.seq (CW.region ?_))))
    refine LW.r (REv.entry (.tmp rfl) hNx.entry) rfl rfl rfl rfl ?_
    rintro _ _ ⟨rfl, rfl⟩
    refine LW.p (PEv.extract (.tmp rfl) rfl) rfl rfl rfl (LW.p (PEv.assign (.tmp rfl)) rfl rfl rfl (LW.nil (KW.then (CW.seq (CW.region (LW.p (PEv.move (.tmp rfl)) rfl rfl rfl (LW.p (PEv.move (.tmp rfl)) rfl rfl rfl ?_)))))))
    refine LW.y (.tmp rfl) (.cons (.tmp rfl) .nil) rfl rfl (hY done k _ hJ (by have := hR5.length; simp at this; omega)) ?_
    rintro _ w4 ⟨y, rfl, hcase⟩
    refine LW.p (PEv.not (.tmp rfl)) rfl rfl rfl ?_
    refine LW.nil (KW.then ?_)
    refine CW.cond (.tmp rfl) (fun h13 => ?_) (fun h13 => ?_)
    ·first | replace h13 := of_decide_eq_true h13 | replace h13 := of_decide_eq_false h13 | skip
     have hy : y = false := by simpa using h13
     subst hy
     obtain ⟨_, hJx⟩ := hcase.resolve_left (by simp)
     refine CW.ret (KW.block_ret (KW.then_ret (KW.block_ret ?_)))
     refine KW.ret0 rfl ⟨_, rfl, ?_⟩
     first | exact .inl ⟨_, hPm, hJ.j⟩ | exact .inr ⟨_, hR5.sub, hJx⟩
    ·first | replace h13 := of_decide_eq_true h13 | replace h13 := of_decide_eq_false h13 | skip
     have hy : y = true := by simpa using h13
     subst hy
     obtain ⟨_, hJ2, hN⟩ := hcase.resolve_right (by simp)
     replace hQ := hQ.kx hN hQX
     replace hR5 := hR5.kx hN hbY (fun h => by have := hYY _ h; omega)
     refine CW.skip (KW.inBlock (KW.round ?_))
     exact ⟨done ++ [k], ⟨hJ2, hQ, hR5⟩, ⟨rfl, rfl, trivial⟩, by have := hR5.length; simp at this ⊢; omega⟩
end Go.Proofs.YtolkipbpklkcnaaGreat
end
section
namespace Go.Wx
def stopB (b : Base) (a : GAct) (f : Fact) : Bool := namesB f b.Lots a && !overB f b.Releases a.Time
def stopStep (b : Base) (a : GAct) (ks : List Int) (f : Fact) : List Int := if stopB b a f = true then setAdd ks f.ID else ks
def stopKs (b : Base) (a : GAct) (l : List Fact) : List Int := l.foldl (stopStep b a) []
def stopsOf (b : Base) (a : GAct) : List Int := (stopKs b a (b.Holds.filter isHoldB)).mergeSort fun x y => decide (x ≤ y)
theorem stopKs_snoc (b : Base) (a : GAct) (l : List Fact) (f : Fact) : stopKs b a (l ++ [f]) = stopStep b a (stopKs b a l) f := by simp [stopKs]
theorem setAdd_length (ks : List Int) (k : Int) : (setAdd ks k).length ≤ ks.length + 1 := by unfold setAdd; split <;> simp
theorem foldl_length (b : Base) (a : GAct) : ∀ (l : List Fact) (ks : List Int), (l.foldl (stopStep b a) ks).length ≤ ks.length + l.length
  | [], _ => Nat.le_refl _
  | f :: l, ks => by
    rw [List.foldl_cons, List.length_cons]
    have h1 := foldl_length b a l (stopStep b a ks f)
    have h2 : (stopStep b a ks f).length ≤ ks.length + 1 := by unfold stopStep; split; exact setAdd_length _ _; omega
    omega
theorem stopKs_length (b : Base) (a : GAct) (l : List Fact) : (stopKs b a l).length ≤ l.length := by have := foldl_length b a l []; simpa [stopKs] using this
theorem unit1_keys (ks : List Int) : (ks.map unit1).map (·.1) = ks := by simp [List.map_map, Function.comp_def, unit1]
end Go.Wx
namespace Go.Proofs.YtolkipbpklkcnaaGreat
open Go.Wx Go.RowKit
theorem Stops_any (bc : Array Go.Value) (b : Base) (a : GAct) (w : World) (hC : BaseC w bc b) (hH : b.Holds.length ≤ 1000000000) (hR : b.Releases.length < 9223372036854775807) (hL : b.Lots.length < 9223372036854775807) : Ret Tryz.prog 12 #[.agg bc, .agg a.cells] w fun r w' => OwnS w' w.heap.size 3 1 eInt r (stopsOf b a) ∧ Up w w' := by
  have hW := Up.refl w
  obtain ⟨w0, rfl⟩ : ∃ w0, w0 = w := ⟨_, rfl⟩
  refine Calls_startM (n := 28) Tryz.func12 rfl rfl rfl ?_
  refine CW.seq (CW.region ?_)
  refine LW.r (REv.boxA (.tmp rfl)) rfl rfl rfl rfl ?_
  rintro _ w1 ⟨B2, rfl, NB2⟩
  have eB2 := NB2.at_
  have zB2 := NB2.size
  replace hC := hC.up NB2.up
  replace hW := hW.up NB2.up
  have hB2 := NB2.blk
  refine LW.r (REv.boxA (.tmp rfl)) rfl rfl rfl rfl ?_
  rintro _ w2 ⟨B3, rfl, NB3⟩
  have eB3 := NB3.at_
  have zB3 := NB3.size
  replace hC := hC.up NB3.up
  replace hW := hW.up NB3.up
  replace hB2 := hB2.up NB3.up
  have hB3 := NB3.blk
  refine LW.p (PEv.assign (.const _)) rfl rfl rfl (LW.nil (KW.then (CW.seq ?_)))
  have hU1 := Up.refl w2
  have hBs := hB2
  have hCs := hC
  refine CW.region ?_
  refine LW.r REv.makeMap rfl rfl rfl rfl ?_
  rintro _ w3 ⟨B7, rfl, MB7, uB7, eB7, zB7⟩
  replace hW := hW.up uB7
  replace hB3 := hB3.up uB7
  replace hU1 := hU1.up uB7
  have hM7 := MB7
  refine LW.r (REv.alloc1 Tryz.zeroValue69 rfl) rfl rfl rfl rfl ?_
  rintro _ w4 ⟨B5, rfl, MB5⟩
  refine LW.s (SEv.store Tryz.sizeOf69 (.tmp rfl) (.tmp rfl) rfl MB5.blk (by decide)) rfl rfl rfl ?_
  intro w5 LB5
  have NB5 := MB5.set LB5
  clear LB5 MB5
  have eB5 := NB5.at_
  have zB5 := NB5.size
  replace hW := hW.up NB5.up
  replace hB3 := hB3.up NB5.up
  replace hU1 := hU1.up NB5.up
  replace hM7 := hM7.up NB5.up
  have hB5 := NB5.blk
  refine LW.nil (KW.then (CW.seq (CW.seq (CW.region ?_))))
  refine LW.c (enter_call0 (.cons (.tmp rfl) .nil) (Tryz.en31)) rfl rfl rfl rfl (all_any _ _) ?_
  rintro _ w6 ⟨⟨BA, rfl, hA, zA⟩, uw6⟩
  have zw6 := uw6.size
  replace hW := hW.up uw6
  replace hB3 := hB3.up uw6
  replace hU1 := hU1.up uw6
  replace hM7 := hM7.up uw6
  replace hB5 := hB5.up uw6
  refine LW.nil (KW.then (CW.block ?_))
  obtain ⟨bq, hbq⟩ : ∃ bq, bq = w6.heap.size := ⟨_, rfl⟩
  refine CW.rangeFunc (fun _ => False) (fun i => i = B7) (fun pre W => Sz bq W ∧ Blk W B3 a.cells 24 ∧ Blk W B5 #[.map (some B7)] 69 ∧ IMap W B7 ((stopKs b a pre).map unit1) ∧ Up w2 W ∧ Up w0 W) (fun c pre W => Sz bq W ∧ False) (fun x a' W => ∃ BX, Ag 28 [] ([(6, .eq (.pointer (some ⟨BX, 0, none⟩))), (3, .eq (.pointer (some ⟨B3, 0, none⟩))), (5, .eq (.pointer (some ⟨B5, 0, none⟩))), (2, .eq (.pointer (some ⟨B2, 0, none⟩)))]) a' W ∧ bq ≤ BX ∧ Blk W BX (holdCells x ⟨B2, 0, none⟩) 74) (.tmp rfl) (fun args w => Tryz.en81 args w) (all_iter _ _ _ _ _ _ _ _ hU1 (fun _ h => h.elim) (fun i h => by omega) (fun h => h.elim) hA hBs hCs (by omega)) (fun _ => rfl) rfl ?_ ?_ ?_ ?_ ?_ ?_ ?_ ?_
  ·rw [← hbq]
   intro pre W W' row hs hg hr
   obtain ⟨hZ, hB3, hB5, hM7, hU1, hW⟩ := hs
   exact ⟨hZ.ko (Ko.grown hg hr), hB3.ko (Ko.grown hg hr), hB5.ko (Ko.grown hg hr), hM7.ko (Ko.grown hg hr) (by omega), hU1.ko (Ko.grown hg hr) (by omega), hW.ko (Ko.grown hg hr) (by omega)⟩
  ·rw [← hbq]
   intro c pre W W' row hs hg hr
   obtain ⟨hZ, hF⟩ := hs
   exact ⟨hZ.ko (Ko.grown hg hr), hF⟩
  ·rw [← hbq]
   intro x a' u W W' row hs hg hr
   obtain ⟨BX, ha, hBX, hBX6⟩ := hs
   exact ⟨BX, ha.world rfl _, hBX, hBX6.ko (Ko.grown hg hr)⟩
  ·exact ⟨Nat.le_of_eq hbq, hB3, hB5, hM7, hU1, hW⟩
  ·rw [← hbq]
   intro lp pre x w7 K hs hk a ha
   obtain ⟨hZ, hB3, hB5, hM7, hU1, hW⟩ := hs
   have zq := hZ.le
   have hK := Kf.refl bq w7
   have hN := Kx.refl bq (fun _ => False) (fun i => i = B7) w7
   revert a
   refine CW.assign1 (p := 9) rfl ?_
   refine CW.region ?_
   refine LW.r (REv.allocA Tryz.zeroValue74) rfl rfl rfl rfl ?_
   rintro _ w8 ⟨B6, rfl, MB6⟩
   refine LW.s (SEv.storeA Tryz.sizeOf74 rfl (.tmp rfl) (.tmp rfl) (by first | rfl | exact Fact.one _ | exact GAct.one _ | exact holdCells_one _ _ | exact hold0_one | (simp [Value.oneCell'])) MB6.blk rfl) rfl rfl rfl ?_
   intro w9 LB6
   have NB6 := MB6.set LB6
   clear LB6 MB6
   have eB6 := NB6.at_
   have zB6 := NB6.size
   replace hZ := hZ.up NB6.up
   replace hB3 := hB3.up NB6.up
   replace hB5 := hB5.up NB6.up
   replace hM7 := hM7.up NB6.up
   replace hU1 := hU1.up NB6.up
   replace hW := hW.up NB6.up
   replace hK := hK.up NB6.up
   replace hN := hN.up NB6.up
   have hB6 := NB6.blk
   refine LW.nil ?_
   exact fun a ha => hk a _ hK hN ⟨hZ, hB3, hB5, hM7, hU1, hW⟩ ⟨_, ha.sub ⟨rfl, rfl, rfl, rfl, trivial⟩, by omega, hB6⟩
  ·rw [← hbq]
   intro lp pre x a' w10 hs hx hlt
   obtain ⟨hZ, hB3, hB5, hM7, hU1, hW⟩ := hs
   obtain ⟨BX, ha, hBX, hBX6⟩ := hx
   have zq := hZ.le
   have hK := Kf.refl bq w10
   have hN := Kx.refl bq (fun _ => False) (fun i => i = B7) w10
   refine (show CW (some lp) 8 _ 28 [] _ (ownPostG bq (Kx bq (fun _ => False) (fun i => i = B7)) _ _ (pre ++ [x]) w10) ([(6, .eq (.pointer (some ⟨BX, 0, none⟩))), (3, .eq (.pointer (some ⟨B3, 0, none⟩))), (5, .eq (.pointer (some ⟨B5, 0, none⟩))), (2, .eq (.pointer (some ⟨B2, 0, none⟩)))]) w10 from ?_) a' ha
   refine CW.block (CW.seq ?_)
   cases hq4 : namesB x b.Lots a with
   | false =>
    refine CW.region ?_
    refine LW.p (PEv.loadA Tryz.isAgg74 Tryz.sizeOf74 rfl (.tmp rfl) (hBX6.agg)) rfl rfl rfl ?_
    refine LW.p (PEv.loadA Tryz.isAgg24 Tryz.sizeOf24 rfl (.tmp rfl) (hB3.agg)) rfl rfl rfl ?_
    refine LW.c (enter_call0 (.cons (.tmp rfl) (.cons (.tmp rfl) .nil)) (Tryz.en32)) rfl rfl rfl rfl (names_any _ _ _ _ _ _ (hBs.up hU1) (hCs.up hU1) hL) ?_
    rintro _ w11 ⟨rfl, uw11⟩
    have zw11 := uw11.size
    replace hZ := hZ.up uw11
    replace hB3 := hB3.up uw11
    replace hB5 := hB5.up uw11
    replace hM7 := hM7.up uw11
    replace hU1 := hU1.up uw11
    replace hW := hW.up uw11
    replace hBX6 := hBX6.up uw11
    replace hK := hK.up uw11
    replace hN := hN.up uw11
    rw [hq4]
    refine LW.p (PEv.move (.tmp rfl)) rfl rfl rfl ?_
    refine LW.no rfl rfl rfl rfl rfl rfl rfl rfl ?_
    refine LW.no rfl rfl rfl rfl rfl rfl rfl rfl ?_
    refine LW.no rfl rfl rfl rfl rfl rfl rfl rfl ?_
    refine LW.no rfl rfl rfl rfl rfl rfl rfl rfl ?_
    refine LW.no rfl rfl rfl rfl rfl rfl rfl rfl ?_
    refine LW.p (PEv.pick_and (b := false) (.tmp rfl) (fun hp => absurd (show false = true from hp) (by decide))) rfl rfl rfl ?_
    refine LW.nil (KW.then ?_)
    refine CW.cond (.tmp rfl) (fun h19 => ?_) (fun h19 => ?_)
    ·first | replace h19 := of_decide_eq_true h19 | replace h19 := of_decide_eq_false h19 | skip
     cases h19
    ·first | replace h19 := of_decide_eq_true h19 | replace h19 := of_decide_eq_false h19 | skip
     have hk : stopKs b a (pre ++ [x]) = stopKs b a pre := by rw [stopKs_snoc]; exact if_neg (by simp [stopB, hq4])
     refine CW.skip (KW.inBlock ?_)
     exact fun a ha => ⟨hK, hN, hZ, hB3, hB5, by rw [hk]; exact hM7, hU1, hW⟩
   | true =>
    refine CW.region ?_
    refine LW.p (PEv.loadA Tryz.isAgg74 Tryz.sizeOf74 rfl (.tmp rfl) (hBX6.agg)) rfl rfl rfl ?_
    refine LW.p (PEv.loadA Tryz.isAgg24 Tryz.sizeOf24 rfl (.tmp rfl) (hB3.agg)) rfl rfl rfl ?_
    refine LW.c (enter_call0 (.cons (.tmp rfl) (.cons (.tmp rfl) .nil)) (Tryz.en32)) rfl rfl rfl rfl (names_any _ _ _ _ _ _ (hBs.up hU1) (hCs.up hU1) hL) ?_
    rintro _ w12 ⟨rfl, uw12⟩
    have zw12 := uw12.size
    replace hZ := hZ.up uw12
    replace hB3 := hB3.up uw12
    replace hB5 := hB5.up uw12
    replace hM7 := hM7.up uw12
    replace hU1 := hU1.up uw12
    replace hW := hW.up uw12
    replace hBX6 := hBX6.up uw12
    replace hK := hK.up uw12
    replace hN := hN.up uw12
    rw [hq4]
    refine LW.p (PEv.move (.tmp rfl)) rfl rfl rfl ?_
    refine LW.yes rfl rfl rfl rfl rfl rfl ?_
    refine LW.p (PEv.loadA Tryz.isAgg74 Tryz.sizeOf74 rfl (.tmp rfl) (hBX6.agg)) rfl rfl rfl ?_
    refine LW.yes rfl rfl rfl rfl rfl rfl ?_
    refine LW.p (PEv.fieldAddr (off := 6) Tryz.underlying24 rfl rfl Tryz.sizeOf3 rfl (.tmp rfl)) rfl rfl rfl ?_
    refine LW.yes rfl rfl rfl rfl rfl rfl ?_
    refine LW.p (PEv.load Tryz.isAgg3 (.tmp rfl) (hB3.celln rfl)) rfl rfl rfl ?_
    refine LW.yes rfl rfl rfl rfl rfl rfl ?_
    refine LW.c (enter_call0 (.cons (.tmp rfl) (.cons (.tmp rfl) .nil)) (Tryz.en33)) rfl rfl rfl rfl (isOver_any _ _ _ _ _ _ (hBs.up hU1) (hCs.up hU1) hR) ?_
    rintro _ w13 ⟨rfl, uw13⟩
    have zw13 := uw13.size
    replace hZ := hZ.up uw13
    replace hB3 := hB3.up uw13
    replace hB5 := hB5.up uw13
    replace hM7 := hM7.up uw13
    replace hU1 := hU1.up uw13
    replace hW := hW.up uw13
    replace hBX6 := hBX6.up uw13
    replace hK := hK.up uw13
    replace hN := hN.up uw13
    refine LW.yes rfl rfl rfl rfl rfl rfl ?_
    refine LW.p (PEv.not (.tmp rfl)) rfl rfl rfl ?_
    refine LW.p (PEv.pick_and (.tmp rfl) (fun hp => (by first | exact .const _ | exact .tmp rfl | exact .cond rfl (by first | assumption | simp_all)))) rfl rfl rfl ?_
    refine LW.nil (KW.then ?_)
    refine CW.cond (.tmp rfl) (fun h19 => ?_) (fun h19 => ?_)
    ·first | replace h19 := of_decide_eq_true h19 | replace h19 := of_decide_eq_false h19 | skip
     have hk : stopKs b a (pre ++ [x]) = setAdd (stopKs b a pre) x.ID := by rw [stopKs_snoc]; exact if_pos (by simpa [stopB, hq4] using h19)
     refine CW.region ?_
     refine LW.p (PEv.load Tryz.isAgg69 (.tmp rfl) (hB5.celln rfl)) rfl rfl rfl ?_
     refine LW.p (PEv.fieldAddr (off := 0) Tryz.underlying74 rfl rfl Tryz.sizeOf35 rfl (.tmp rfl)) rfl rfl rfl ?_
     refine LW.p (PEv.fieldAddr (off := 1) Tryz.underlying35 rfl rfl Tryz.sizeOf3 rfl (.tmp rfl)) rfl rfl rfl ?_
     refine LW.p (PEv.load Tryz.isAgg3 (.tmp rfl) (hBX6.celln rfl)) rfl rfl rfl ?_
     refine LW.p (PEv.build (cs := #[]) Tryz.underlying77 Tryz.zeroValue77 Tryz.places77 .nil rfl) rfl rfl rfl ?_
     refine LW.s (SEv.mapUpdate Tryz.underlying69 Tryz.underlying3 (.tmp rfl) (.tmp rfl) (.tmp rfl) hM7) rfl rfl rfl ?_
     rintro w14 ⟨Mw14, Kw14, zw14⟩
     replace hZ := hZ.sto Kw14 (by omega)
     replace hB3 := hB3.sto Kw14 (by omega)
     replace hB5 := hB5.sto Kw14 (by omega)
     replace hU1 := hU1.sto Kw14 (by omega)
     replace hW := hW.sto Kw14 (by omega)
     replace hBX6 := hBX6.sto Kw14 (by omega)
     replace hK := hK.sto Kw14 (.inl (by omega))
     replace hN := hN.stoM Kw14 (hM7.obj) (by first | exact .inr (by omega) | exact .inl rfl | exact .inl (by show _ ≤ _; omega))
     replace hM7 := Mw14
     refine LW.nil ?_
     rw [mset_unit] at hM7
     refine KW.inBlock ?_
     exact fun a ha => ⟨hK, hN, hZ, hB3, hB5, by rw [hk]; exact hM7, hU1, hW⟩
    ·first | replace h19 := of_decide_eq_true h19 | replace h19 := of_decide_eq_false h19 | skip
     have hk : stopKs b a (pre ++ [x]) = stopKs b a pre := by rw [stopKs_snoc]; exact if_neg (by simpa [stopB, hq4] using h19)
     refine CW.skip (KW.inBlock ?_)
     exact fun a ha => ⟨hK, hN, hZ, hB3, hB5, by rw [hk]; exact hM7, hU1, hW⟩
  ·intro D ys w15 hDb hS hs hD
   rw [← hbq] at hDb
   obtain ⟨hZ, hB3, hB5, hM7, hU1, hW⟩ := hs
   replace hD : Ob w15 D (.deferred (some [])) := hD
   have zD := hD.lt
   have zq := hZ.le
   subst hS
   refine KW.inBlock (KW.then (CW.seq ?_))
   have hKl := stopKs_length b a (b.Holds.filter isHoldB)
   have hFl := List.length_filter_le isHoldB b.Holds
   have zBA := hB5.lt
   refine CW.region ?_
   refine LW.p (PEv.load Tryz.isAgg69 (.tmp rfl) (hB5.celln rfl)) rfl rfl rfl ?_
   refine LW.c (enter_call0 (.cons (.tmp rfl) .nil) (Tryz.en35)) rfl rfl rfl rfl (mapsKeys_any _ _) ?_
   rintro _ w16 ⟨⟨BK, rfl, hBK, zK⟩, uw16⟩
   have zw16 := uw16.size
   replace hZ := hZ.up uw16
   replace hB3 := hB3.up uw16
   replace hB5 := hB5.up uw16
   replace hM7 := hM7.up uw16
   replace hU1 := hU1.up uw16
   replace hW := hW.up uw16
   replace hD := hD.up uw16
   have zBK := hBK.lt
   refine LW.c (enter_call0 (.cons (.tmp rfl) .nil) (Tryz.en34)) rfl rfl rfl rfl (Hs.sorted_any _ _ _ _ _ _ Tryz.en85 (fun W X u hX => mapsKeys_iter X _ BK B7 _ W (fun i h => h.elim) (fun h => by have := hX _ h; omega) (fun h => h.elim) (hBK.up u) (hM7.up u)) (by rw [List.length_map]; omega) (fun ks h => by have := h.length_eq; rw [unit1_keys] at this; omega)) ?_
   rintro v w17 ⟨ks, hS, hO, uw17⟩
   have zw17 := uw17.size
   replace hZ := hZ.up uw17
   replace hB3 := hB3.up uw17
   replace hB5 := hB5.up uw17
   replace hM7 := hM7.up uw17
   replace hU1 := hU1.up uw17
   replace hW := hW.up uw17
   replace hD := hD.up uw17
   replace hBK := hBK.up uw17
   refine LW.p (PEv.assign (.tmp rfl)) rfl rfl rfl (LW.nil (KW.then (CW.ret ?_)))
   refine KW.unmark hD rfl ?_
   replace hZ := hZ.ko (Ko.putObj (.deferred none) hD rfl hDb)
   replace hB3 := hB3.ko (Ko.putObj (.deferred none) hD rfl hDb)
   replace hB5 := hB5.ko (Ko.putObj (.deferred none) hD rfl hDb)
   replace hM7 := hM7.ko (Ko.putObj (.deferred none) hD rfl hDb) (by omega)
   replace hU1 := hU1.ko (Ko.putObj (.deferred none) hD rfl hDb) (by omega)
   replace hW := hW.putObj (D := D) (.deferred none) (by omega)
   replace hBK := hBK.ko (Ko.putObj (.deferred none) hD rfl hDb)
   replace hO := hO.ko (Ko.putObj (.deferred none) hD rfl hDb)
   refine KW.ret1 rfl rfl ⟨_, rfl, ?_⟩
   have hp : ks.Perm (stopKs b a (b.Holds.filter isHoldB)) := by rw [unit1_keys] at hS; exact hS
   rw [sort_perm hp] at hO
   exact ⟨hO.mono (by omega), hW⟩
  ·intro D c pre w18 hDb hpre hs hD
   rw [← hbq] at hDb
   obtain ⟨hZ, hF⟩ := hs
   replace hD : Ob w18 D (.deferred (some [])) := hD
   have zD := hD.lt
   have zq := hZ.le
   exact hF.elim
end Go.Proofs.YtolkipbpklkcnaaGreat
end
section
namespace Go.Wx
theorem lst_mem {l : List Fact} {d : Int} {j : Nat} (hj : j < 11) {x : Fact} : x ∈ lstOf (ofB l d) j ↔ eff l d x ∧ x.Gone = false ∧ x.Kind = ((j + 1 : Nat) : Int) := by
  rw [lst_ofB l d hj]
  unfold lstAt
  rw [if_pos (List.mem_singleton.2 rfl), (sortK_sts _).same.mem, List.mem_filter, best_eff]
  simp
theorem lst_nodup (l : List Fact) (d : Int) {j : Nat} (hj : j < 11) : (lstOf (ofB l d) j).Nodup := by
  rw [lst_ofB l d hj]
  unfold lstAt
  rw [if_pos (List.mem_singleton.2 rfl)]
  exact ((sortK_sts _).same.perm.nodup_iff).2 ((factsM_nodup l d).filter _)
theorem eq_one {α : Type} {l : List α} {x : α} (hn : l.Nodup) (h : ∀ y, y ∈ l ↔ y = x) : l = [x] := by
  match l, hn, h with
  | [], _, h => exact absurd ((h x).2 rfl) (by simp)
  | [y], _, h => rw [(h y).1 List.mem_cons_self]
  | y :: z :: r, hn, h =>
    have e1 := (h y).1 List.mem_cons_self
    have e2 := (h z).1 (List.mem_cons_of_mem _ List.mem_cons_self)
    rw [List.nodup_cons] at hn
    exact absurd (by rw [e1, ← e2]; exact List.mem_cons_self) hn.1
theorem prev_mk {a b : Fact} (ha : validB a = true) (hb : validB b = true) (hk : keyB a = keyB b) (hv : b.Version < a.Version) : prevB a b = true := by
  unfold prevB; rw [ha, hb, hk]; simp [hv]
theorem keyB_nil {f : Fact} (h : validB f = true) : keyB f ≠ [] := by unfold keyB; rw [if_pos h]; exact keyB_ne h
theorem lst_none {l : List Fact} {d : Int} {j : Nat} (hj : j < 11) (h : ∀ x ∈ l, x.Kind ≠ ((j + 1 : Nat) : Int)) : lstOf (ofB l d) j = [] := List.eq_nil_iff_forall_not_mem.2 fun y hy => h y ((lst_mem hj).1 hy).1.1 ((lst_mem hj).1 hy).2.2
def hdF (v d i l u p : Int) (g : Bool) : Fact := { zeroF with Kind := 7, Version := v, Day := d, Gone := g, ID := i, Lot := l, Until := u, Parties := p }
theorem hdF_valid {v d i l u p : Int} {g : Bool} (hv : 1 ≤ v ∧ v ≤ 2) (hd : 0 ≤ d ∧ d ≤ 100) (hi : 1 ≤ i ∧ i ≤ 10) (hl : 0 ≤ l ∧ l ≤ 10) (hu : 0 ≤ u ∧ u ≤ 1000000) (hp : 1 ≤ p ∧ p ≤ 255) : validB (hdF v d i l u p g) = true := by
  have hr : restB (restOf (hdF v d i l u p g).Kind) (hdF v d i l u p g) = true := decide_eq_true (show (0 : Int) ≤ u from hu.1)
  have hq : preB (hdF v d i l u p g) = false := by
    show (decide (v < 1) || decide (1000000 < v) || decide (d < 0) || decide (100000 < d) || _) = false
    rw [decide_eq_false (show ¬ v < 1 by omega), decide_eq_false (show ¬ (1000000 : Int) < v by omega), decide_eq_false (show ¬ d < 0 by omega), decide_eq_false (show ¬ (100000 : Int) < d by omega)]; rfl
  have hn : runF (fieldsOf 7) (hdF v d i l u p g) = some (fact0 7 v d g) := by
    rw [show fieldsOf 7 = [num1 1, ⟨7, 0, 1000000⟩, ⟨9, 0, 1000000⟩, ⟨11, 0, 60⟩, ⟨12, 0, 4⟩, ⟨13, 0, 40⟩, ⟨14, 0, 1000000⟩, ⟨15, 0, 1000000⟩, ⟨5, 0, 1000000⟩, ⟨6, 0, 1000000⟩, ⟨17, 1, 255⟩] from rfl]
    refine (if_neg (show ¬ (i < 1 ∨ (1000000 : Int) < i) by omega)).trans ?_
    refine (if_neg (show ¬ ((0 : Int) < 0 ∨ (1000000 : Int) < 0) by decide)).trans ?_
    refine (if_neg (show ¬ (l < 0 ∨ (1000000 : Int) < l) by omega)).trans ?_
    refine (if_neg (show ¬ ((0 : Int) < 0 ∨ (60 : Int) < 0) by decide)).trans ?_
    refine (if_neg (show ¬ ((0 : Int) < 0 ∨ (4 : Int) < 0) by decide)).trans ?_
    refine (if_neg (show ¬ ((0 : Int) < 0 ∨ (40 : Int) < 0) by decide)).trans ?_
    refine (if_neg (show ¬ ((0 : Int) < 0 ∨ (1000000 : Int) < 0) by decide)).trans ?_
    refine (if_neg (show ¬ ((0 : Int) < 0 ∨ (1000000 : Int) < 0) by decide)).trans ?_
    refine (if_neg (show ¬ ((0 : Int) < 0 ∨ (1000000 : Int) < 0) by decide)).trans ?_
    refine (if_neg (show ¬ (u < 0 ∨ (1000000 : Int) < u) by omega)).trans ?_
    refine (if_neg (show ¬ (p < 1 ∨ (255 : Int) < p) by omega)).trans ?_
    rfl
  unfold validB
  rw [hr, hq, show (hdF v d i l u p g).Kind = 7 from rfl, hn]
  show (true && (!(false || !true) && Fact.eqb (fact0 7 v d g) (fact0 7 v d g))) = true
  rw [eqb_refl]; rfl
theorem stops_none {b : Base} (a : GAct) (h : b.Holds = []) : stopsOf b a = [] := by unfold stopsOf; rw [h]; simp [stopKs]
theorem stops_one {b : Base} {a : GAct} {f : Fact} (h : b.Holds = [f]) (hk : f.Kind = 7) : stopsOf b a = if stopB b a f = true then [f.ID] else [] := by
  unfold stopsOf
  rw [h, show [f].filter isHoldB = [f] by simp [isHoldB, hk]]
  unfold stopKs
  rw [List.foldl_cons, List.foldl_nil]
  unfold stopStep
  split
  · simp [setAdd]
  · simp
theorem met_no (s x : Int) : (Cond.mk 0 s x).met = true := by simp [Cond.met]
theorem met0 {l x : Int} (hl : 0 ≤ l ∧ l ≤ 1000000) : (Cond.mk l 0 x).met = (decide (l = 0) || decide (l = x)) := by
  unfold Cond.met
  rw [show IntKind.i64.wrap (l - 0) = l from by rw [Int.sub_zero]; exact wrap_i64_in (by omega) (by omega)]
  by_cases h : l = x
  · rw [decide_eq_true h, decide_eq_true (show x ≤ l by omega)]; rfl
  · rw [decide_eq_false h, Bool.and_false]
theorem names_hd {lots : List Fact} {a : GAct} {v d i l u p : Int} {g : Bool} (h0 : 0 ≤ a.Time) (hu : a.Time ≤ u) (hl : 0 ≤ l ∧ l ≤ 1000000) : namesB (hdF v d i l u p g) lots a = (decide (l = 0) || decide (l = (lotOf lots a.Wafer a.Time).1)) := by
  show ((true && decide ((0 : Int) ≤ a.Time) && decide (a.Time ≤ u)) && [Cond.mk 0 0 a.Wafer, Cond.mk l 0 (lotOf lots a.Wafer a.Time).1].all Cond.met && [Cond.mk 0 1 a.Tool, Cond.mk 0 1 a.Chamber, Cond.mk 0 1 a.Step, Cond.mk 0 0 a.Recipe, Cond.mk 0 0 a.Revision].all Cond.met) = _
  rw [decide_eq_true h0, decide_eq_true hu]
  simp only [List.all_cons, List.all_nil, met_no, met0 hl, Bool.true_and, Bool.and_true]
theorem over_one {v d i l u t : Int} {g : Bool} : overB (hdF v d i l u 1 g) [] t = false := by
  show decide (andNotI 1 0 = 0) = false
  decide
def knH (k : Int) : Fact := hdF 1 k 3 0 1000000 1 false
def knN (g : Int) : Fact := hdF 2 g 3 0 1000000 1 true
theorem known_list {k g d : Int} (hk : 0 ≤ k ∧ k < 20) (hg : k < g ∧ g ≤ 40) : lstOf (ofB [knN g, knH k] d) 6 = if k ≤ d ∧ d < g then [knH k] else [] := by
  have vN : validB (knN g) = true := hdF_valid (by omega) (by omega) (by omega) (by omega) (by omega) (by omega)
  have vH : validB (knH k) = true := hdF_valid (by omega) (by omega) (by omega) (by omega) (by omega) (by omega)
  have hm : ∀ y, y ∈ [knN g, knH k] → y = knN g ∨ y = knH k := fun y hy => by simpa using hy
  have hkey : keyB (knN g) = keyB (knH k) := key_of_ord (k := 7) vN vH rfl rfl rfl
  by_cases h : k ≤ d ∧ d < g
  · rw [if_pos h]
    refine eq_one (lst_nodup _ _ (by decide)) fun y => ?_
    rw [lst_mem (by decide)]
    constructor
    · rintro ⟨he, hgo, _⟩
      rcases hm y he.1 with rfl | rfl
      · cases hgo
      · rfl
    · rintro rfl
      refine ⟨⟨by simp, keyB_nil vH, h.1, fun x hx hd => ?_⟩, rfl, rfl⟩
      rcases hm x hx with rfl | rfl
      · exact absurd (show g ≤ d from hd) (by omega)
      · exact prev_irrefl _
  · rw [if_neg h]
    refine List.eq_nil_iff_forall_not_mem.2 fun y hy => ?_
    obtain ⟨he, hgo, _⟩ := (lst_mem (by decide)).1 hy
    rcases hm y he.1 with rfl | rfl
    · cases hgo
    · have h1 : k ≤ d := he.2.2.1
      have h2 := he.2.2.2 (knN g) (by simp) (show g ≤ d by omega)
      rw [prev_mk vN vH hkey (show (1 : Int) < 2 by decide)] at h2
      cases h2
theorem known_stops {k g d : Int} {a : GAct} (hk : 0 ≤ k ∧ k < 20) (hg : k < g ∧ g ≤ 40) (ha : 0 ≤ a.Time ∧ a.Time ≤ 1000000) : stopsOf (ofB [knN g, knH k] d) a = if k ≤ d ∧ d < g then [3] else [] := by
  have h1 : (ofB [knN g, knH k] d).Holds = _ := known_list hk hg
  have h2 : (ofB [knN g, knH k] d).Releases = [] := lst_none (j := 7) (by decide) fun x hx => by
    simp only [List.mem_cons, List.not_mem_nil, or_false] at hx
    rcases hx with rfl | rfl <;> exact (by decide : (7 : Int) ≠ ((7 + 1 : Nat) : Int))
  by_cases h : k ≤ d ∧ d < g
  · rw [if_pos h] at h1 ⊢
    rw [stops_one h1 rfl, if_pos]
    · rfl
    · unfold stopB
      rw [h2]
      unfold knH
      rw [names_hd ha.1 ha.2 (by decide), over_one]
      rfl
  · rw [if_neg h] at h1 ⊢
    exact stops_none a h1
end Go.Wx
namespace Go.Proofs.YtolkipbpklkcnaaGreat
open Go.Wx Go.RowKit
end Go.Proofs.YtolkipbpklkcnaaGreat
end
section
namespace Go.Wx
def heldH : Fact := ⟨7, 4, 1, 0, false, 0, 100, 0, 0, 0, 0, 3, 0, 0, 0, 0, 0, 5, ByteArray.empty⟩
def heldR1 : Fact := ⟨8, 0, 1, 0, false, 20, 0, 0, 4, 0, 0, 0, 0, 0, 0, 0, 0, 1, ByteArray.empty⟩
def heldR2 : Fact := ⟨8, 0, 1, 0, false, 50, 0, 0, 4, 0, 0, 0, 0, 0, 0, 0, 0, 4, ByteArray.empty⟩
def heldB : Base := ⟨[], [], [], [], [], [], [heldH], [heldR1, heldR2], [], [], []⟩
def actA : GAct := ⟨1, 0, 2, 1, 1, 1, 30⟩
def actO : GAct := ⟨1, 0, 3, 1, 1, 1, 30⟩
def actL : GAct := ⟨1, 0, 2, 1, 1, 1, 50⟩
theorem sane_p10 : partiesOf heldB.Releases 4 10 = 0 := by decide
theorem sane_p20 : partiesOf heldB.Releases 4 20 = 1 := by decide
theorem sane_p50 : partiesOf heldB.Releases 4 50 = 5 := by decide
theorem sane_r10 : releasedB heldB 4 10 = false := by decide
theorem sane_r20 : releasedB heldB 4 20 = false := by decide
theorem sane_r50 : releasedB heldB 4 50 = true := by decide
theorem sane_nA : namesB heldH heldB.Lots actA = true := by decide
theorem sane_nO : namesB heldH heldB.Lots actO = false := by decide
theorem sane_kA : stopKs heldB actA (heldB.Holds.filter isHoldB) = [4] := by decide
theorem sane_kO : stopKs heldB actO (heldB.Holds.filter isHoldB) = [] := by decide
theorem sane_kL : stopKs heldB actL (heldB.Holds.filter isHoldB) = [] := by decide
theorem sane_sA : stopsOf heldB actA = [4] := by unfold stopsOf; rw [sane_kA]; simp
theorem sane_sO : stopsOf heldB actO = [] := by unfold stopsOf; rw [sane_kO]; simp
theorem sane_sL : stopsOf heldB actL = [] := by unfold stopsOf; rw [sane_kL]; simp
end Go.Wx
namespace Go.Proofs.YtolkipbpklkcnaaGreat
open Go.Wx Go.RowKit
theorem pick_any (c n : Int) (w : World) (hn : n ≠ 0) : Ret Tryz.prog 16 #[vi c, vi n] w fun r w' => r = vi (pickI c n) ∧ Up w w' := by
  have hW := Up.refl w
  refine Calls_start (n := 13) (m := 9) Tryz.func16 rfl rfl rfl ?_
  refine CW.seq (CW.region (LW.p (PEv.assign (.const _)) rfl rfl rfl (LW.nil (KW.then (CW.seq (CW.seq (CW.region (LW.p (PEv.move (.tmp rfl)) rfl rfl rfl ?_))))))))
  refine LW.p (PEv.lss (.tmp rfl) (.const _)) rfl rfl rfl ?_
  refine LW.nil (KW.then ?_)
  refine CW.cond (.tmp rfl) (fun h6 => ?_) (fun h6 => ?_)
  ·first | replace h6 := of_decide_eq_true h6 | replace h6 := of_decide_eq_false h6 | skip
   refine CW.region (LW.p (PEv.move (.tmp rfl)) rfl rfl rfl ?_)
   refine LW.p (PEv.add_w (.tmp rfl) (.const _)) rfl rfl rfl ?_
   refine LW.p (PEv.neg Tryz.underlying3 (.tmp rfl)) rfl rfl rfl ?_
   refine LW.p (PEv.assign (.tmp rfl)) rfl rfl rfl (LW.nil (KW.then (CW.seq (CW.region (LW.p (PEv.move (.tmp rfl)) rfl rfl rfl (LW.p (PEv.move (.tmp rfl)) rfl rfl rfl ?_))))))
   refine LW.p (PEv.rem (.tmp rfl) (.tmp rfl) (by omega)) rfl rfl rfl ?_
   refine LW.p (PEv.assign (.tmp rfl)) rfl rfl rfl (LW.nil (KW.then (CW.ret ?_)))
   refine KW.ret1 rfl rfl ⟨_, rfl, ?_⟩
   exact ⟨by first | (rw [pickI, if_pos h6]) | (rw [pickI, if_neg (by omega)]), hW⟩
  ·first | replace h6 := of_decide_eq_true h6 | replace h6 := of_decide_eq_false h6 | skip
   refine CW.skip (KW.then (CW.seq (CW.region (LW.p (PEv.move (.tmp rfl)) rfl rfl rfl (LW.p (PEv.move (.tmp rfl)) rfl rfl rfl ?_)))))
   refine LW.p (PEv.rem (.tmp rfl) (.tmp rfl) (by omega)) rfl rfl rfl ?_
   refine LW.p (PEv.assign (.tmp rfl)) rfl rfl rfl (LW.nil (KW.then (CW.ret ?_)))
   refine KW.ret1 rfl rfl ⟨_, rfl, ?_⟩
   exact ⟨by first | (rw [pickI, if_pos h6]) | (rw [pickI, if_neg (by omega)]), hW⟩
theorem held_any (w : World) : Ret Tryz.prog 26 #[] w fun r w' => (∃ bc, r = .agg bc ∧ BaseC w' bc heldB) ∧ Up w w' := by
  have hW := Up.refl w
  refine Calls_start (n := 7) (m := 9) Tryz.func26 rfl rfl rfl ?_
  refine CW.seq (CW.region ?_)
  refine LW.r (REv.allocA Tryz.zeroValue27) rfl rfl rfl rfl ?_
  rintro _ w1 ⟨B0, rfl, NB0⟩
  have eB0 := NB0.at_
  have zB0 := NB0.size
  replace hW := hW.up NB0.up
  have hB0 := NB0.blk
  refine LW.nil (KW.then (CW.seq (CW.region ?_)))
  refine LW.p (PEv.build (cs := heldH.cells) Tryz.underlying35 Tryz.zeroValue35 Tryz.places35 (.cons (.const _) (.cons (.const _) (.cons (.const _) (.cons (.const _) (.cons (.const _) (.cons (.const _) .nil)))))) rfl) rfl rfl rfl ?_
  refine LW.r (REv.buildSlice (xs := [heldH]) (enc := Fact.cells) (mk := fun f => .agg f.cells) Tryz.underlying22 Tryz.sizeOf35 Tryz.zeroValue35 rfl (by decide) (fun _ => rfl) (fun _ => rfl) (.cons (.tmp rfl) .nil) rfl) rfl rfl rfl rfl ?_
  rintro _ w2 ⟨B2, cB2, rfl, NB2, yB2, xB2⟩
  have eB2 := NB2.at_
  have zB2 := NB2.size
  replace hW := hW.up NB2.up
  replace hB0 := hB0.up NB2.up
  have hB2 := NB2.blk
  have hE2 := xB2
  refine LW.p (PEv.build (cs := heldR1.cells) Tryz.underlying35 Tryz.zeroValue35 Tryz.places35 (.cons (.const _) (.cons (.const _) (.cons (.const _) (.cons (.const _) (.cons (.const _) .nil))))) rfl) rfl rfl rfl ?_
  refine LW.p (PEv.build (cs := heldR2.cells) Tryz.underlying35 Tryz.zeroValue35 Tryz.places35 (.cons (.const _) (.cons (.const _) (.cons (.const _) (.cons (.const _) (.cons (.const _) .nil))))) rfl) rfl rfl rfl ?_
  refine LW.r (REv.buildSlice (xs := [heldR1, heldR2]) (enc := Fact.cells) (mk := fun f => .agg f.cells) Tryz.underlying22 Tryz.sizeOf35 Tryz.zeroValue35 rfl (by decide) (fun _ => rfl) (fun _ => rfl) (.cons (.tmp rfl) (.cons (.tmp rfl) .nil)) rfl) rfl rfl rfl rfl ?_
  rintro _ w3 ⟨B5, cB5, rfl, NB5, yB5, xB5⟩
  have eB5 := NB5.at_
  have zB5 := NB5.size
  replace hW := hW.up NB5.up
  replace hB0 := hB0.up NB5.up
  replace hB2 := hB2.up NB5.up
  replace hE2 := hE2.up NB5.up
  have hB5 := NB5.blk
  have hE5 := xB5
  refine LW.p (PEv.build (cs := #[.slice none 0 0, .slice none 0 0, .slice none 0 0, .slice none 0 0, .slice none 0 0, .slice none 0 0, .slice (some ⟨B2, 0, none⟩) 1 1, .slice (some ⟨B5, 0, none⟩) 2 2, .slice none 0 0, .slice none 0 0, .slice none 0 0]) Tryz.underlying27 Tryz.zeroValue27 Tryz.places27 (.cons (.tmp rfl) (.cons (.tmp rfl) .nil)) rfl) rfl rfl rfl ?_
  refine LW.s (SEv.storeA Tryz.sizeOf27 rfl (.tmp rfl) (.tmp rfl) (by first | rfl | exact Fact.one _ | exact GAct.one _ | exact holdCells_one _ _ | exact hold0_one | (simp [Value.oneCell'])) hB0 rfl) rfl rfl rfl ?_
  intro w4 Nw4
  have zw4 := Nw4.size
  replace hW := hW.sto Nw4.sto (by omega)
  replace hB2 := hB2.sto Nw4.sto (by omega)
  replace hE2 := hE2.sto Nw4.sto (by omega)
  replace hB5 := hB5.sto Nw4.sto (by omega)
  replace hE5 := hE5.sto Nw4.sto (by omega)
  replace hB0 := Nw4.blk
  refine LW.nil (KW.then (CW.ret ?_))
  refine KW.retA rfl rfl Tryz.isAgg27 Tryz.sizeOf27 rfl (hB0.agg) ⟨_, rfl, ?_⟩
  exact ⟨⟨_, rfl, _, _, _, _, _, _, _, _, _, _, _, rfl, Sl.nil _ _ _, Sl.nil _ _ _, Sl.nil _ _ _, Sl.nil _ _ _, Sl.nil _ _ _, Sl.nil _ _ _, Sl.of_els hE2, Sl.of_els hE5, Sl.nil _ _ _, Sl.nil _ _ _, Sl.nil _ _ _⟩, hW⟩
end Go.Proofs.YtolkipbpklkcnaaGreat
end
section
namespace Go.Proofs.YtolkipbpklkcnaaGreat
open Go.Wx Go.RowKit
theorem sameInts_any (v1 v2 : Value) (xs ys : List Int) (w : World) (h1 : Sl w v1 1 eInt xs) (h2 : Sl w v2 1 eInt ys) (hx0 : xs.length ≤ 1000000000) (hy0 : ys.length ≤ 1000000000) : Ret Tryz.prog 20 #[v1, v2] w fun r w' => r = .bool (decide (xs = ys)) ∧ Up w w' := by
  have hW := Up.refl w
  obtain ⟨w0, rfl⟩ : ∃ w0, w0 = w := ⟨_, rfl⟩
  obtain ⟨ad, cp, rfl, hE1⟩ := h1
  obtain ⟨ad', cp', rfl, hE2⟩ := h2
  refine Calls_start (n := 26) (m := 9) Tryz.func20 rfl rfl rfl ?_
  refine CW.seq (CW.region (LW.p (PEv.assign (.const _)) rfl rfl rfl (LW.nil (KW.then (CW.seq (CW.seq (CW.region (LW.p (PEv.move (.tmp rfl)) rfl rfl rfl ?_))))))))
  refine LW.p (PEv.lenS Tryz.underlying30 (.tmp rfl)) rfl rfl rfl ?_
  refine LW.p (PEv.move (.tmp rfl)) rfl rfl rfl ?_
  refine LW.p (PEv.lenS Tryz.underlying30 (.tmp rfl)) rfl rfl rfl ?_
  refine LW.p (PEv.neq (.tmp rfl) (.tmp rfl)) rfl rfl rfl ?_
  refine LW.nil (KW.then ?_)
  refine CW.cond (.tmp rfl) (fun h10 => ?_) (fun h10 => ?_)
  ·first | replace h10 := of_decide_eq_true h10 | replace h10 := of_decide_eq_false h10 | skip
   have hr : decide (xs = ys) = false := decide_eq_false (fun h => by subst h; simp at h10)
   refine CW.seq (CW.region (LW.p (PEv.assign (.const _)) rfl rfl rfl (LW.nil (KW.then (CW.ret (KW.then_ret ?_))))))
   refine KW.ret1 rfl rfl ⟨_, rfl, ?_⟩
   exact ⟨by rw [hr], hW⟩
  ·first | replace h10 := of_decide_eq_true h10 | replace h10 := of_decide_eq_false h10 | skip
   have hlen : xs.length = ys.length := Int.ofNat.inj (show Int.ofNat _ = Int.ofNat _ from (by simpa using h10 : (xs.length : Int) = ys.length))
   refine CW.skip (KW.then (CW.seq (CW.seq (CW.region (LW.p (PEv.assign (.const _)) rfl rfl rfl (LW.nil (KW.then (CW.block ?_))))))))
   refine CW.loop (σ := Nat) (fun s w => (s ≤ xs.length ∧ xs.take s = ys.take s) ∧ Els w ad 1 eInt xs ∧ Els w ad' 1 eInt ys ∧ Up w0 w) (fun s => [(0, .eq (.slice ad xs.length cp)), (1, .eq (.slice ad' ys.length cp')), (5, .eq (vi (s : Int)))]) (fun s => xs.length - s) 0 ?_ ?_ ?_
   ·exact ⟨⟨Nat.zero_le _, rfl⟩, hE1, hE2, hW⟩
   ·exact ⟨rfl, rfl, rfl, trivial⟩
   ·rintro k w1 ⟨⟨hk, hT⟩, hE1, hE2, hW⟩
    refine CW.seq (CW.seq (CW.region (LW.p (PEv.move (.tmp rfl)) rfl rfl rfl (LW.p (PEv.move (.tmp rfl)) rfl rfl rfl ?_))))
    refine LW.p (PEv.lenS Tryz.underlying30 (.tmp rfl)) rfl rfl rfl ?_
    refine LW.p (PEv.lss (.tmp rfl) (.tmp rfl)) rfl rfl rfl ?_
    refine LW.nil (KW.then ?_)
    refine CW.cond (.tmp rfl) (fun h14 => ?_) (fun h14 => ?_)
    ·first | replace h14 := of_decide_eq_true h14 | replace h14 := of_decide_eq_false h14 | skip
     refine CW.skip (KW.then (CW.seq (CW.block (CW.seq ?_))))
     obtain ⟨x, hx⟩ := getElem?_of_lt (xs := xs) (i := k) (by omega)
     obtain ⟨y, hy⟩ := getElem?_of_lt (xs := ys) (i := k) (by omega)
     obtain ⟨B, o, had, hcell⟩ := hE1 k x hx
     obtain ⟨B', o', had', hcell'⟩ := hE2 k y hy
     refine CW.draws (by kernel_rfl) (by kernel_rfl) rfl rfl ?_
     refine HW.p (PEv.move (.tmp rfl)) rfl rfl ?_
     refine HW.p (PEv.move (.tmp rfl)) rfl rfl ?_
     refine HW.p (PEv.indexAddr' Tryz.underlying30 Tryz.sizeOf3 (.tmp rfl) (.tmp rfl) (by omega) had) rfl rfl ?_
     refine HW.p (PEv.load Tryz.isAgg3 (.tmp rfl) (hcell.nth (j := 0) rfl)) rfl rfl ?_
     refine HW.p (PEv.move (.tmp rfl)) rfl rfl ?_
     refine HW.p (PEv.move (.tmp rfl)) rfl rfl ?_
     refine HW.p (PEv.indexAddr' Tryz.underlying30 Tryz.sizeOf3 (.tmp rfl) (.tmp rfl) (by omega) had') rfl rfl ?_
     refine HW.p (PEv.load Tryz.isAgg3 (.tmp rfl) (hcell'.nth (j := 0) rfl)) rfl rfl ?_
     refine HW.p (PEv.neq (.tmp rfl) (.tmp rfl)) rfl rfl ?_
     refine HW.nil ?_
     intro w2 uw2
     have zw2 := uw2.size
     replace hE1 := hE1.up uw2
     replace hE2 := hE2.up uw2
     replace hW := hW.up uw2
     refine KW.then ?_
     refine CW.cond (.tmp rfl) (fun h25 => ?_) (fun h25 => ?_)
     ·first | replace h25 := of_decide_eq_true h25 | replace h25 := of_decide_eq_false h25 | skip
      have hr : decide (xs = ys) = false := decide_eq_false (ne_of_at hx hy (by simpa using h25))
      refine CW.seq (CW.region (LW.p (PEv.assign (.const _)) rfl rfl rfl (LW.nil (KW.then (CW.ret (KW.block_ret (KW.then_ret (KW.then_ret (KW.block_ret (KW.then_ret ?_))))))))))
      refine KW.ret1 rfl rfl ⟨_, rfl, ?_⟩
      exact ⟨by rw [hr], hW⟩
     ·first | replace h25 := of_decide_eq_true h25 | replace h25 := of_decide_eq_false h25 | skip
      refine CW.skip (KW.inBlock (KW.then (CW.region (LW.p (PEv.move (.tmp rfl)) rfl rfl rfl ?_))))
      refine LW.p (PEv.inc (.tmp rfl) (by omega)) rfl rfl rfl ?_
      refine LW.p (PEv.assign (.tmp rfl)) rfl rfl rfl (LW.nil (KW.round ?_))
      exact ⟨k + 1, ⟨⟨by omega, take_eq_step hT hx hy (by simpa using h25)⟩, hE1, hE2, hW⟩, ⟨rfl, rfl, rfl, trivial⟩, by omega⟩
    ·first | replace h14 := of_decide_eq_true h14 | replace h14 := of_decide_eq_false h14 | skip
     have hr : decide (xs = ys) = true := decide_eq_true (by have := hT; rw [show k = xs.length by omega, List.take_length, hlen, List.take_length] at this; exact this)
     refine CW.exit (KW.then_exit (KW.then_exit (KW.block_hit (KW.then (CW.seq (CW.region (LW.p (PEv.assign (.const _)) rfl rfl rfl (LW.nil (KW.then (CW.ret ?_))))))))))
     refine KW.ret1 rfl rfl ⟨_, rfl, ?_⟩
     exact ⟨by rw [hr], hW⟩
end Go.Proofs.YtolkipbpklkcnaaGreat
end
section
namespace Go.Wx
theorem same44 : Value.bool (decide (([4] : List Int) = [4])) = .bool true := by simp
end Go.Wx
namespace Go.Proofs.YtolkipbpklkcnaaGreat
open Go.Wx Go.RowKit
set_option maxHeartbeats 4000000 in
theorem sane_any (w : World) : Ret Tryz.prog 9 #[] w fun r w' => r = .bool true ∧ Up w w' := by
  have hW := Up.refl w
  refine Calls_start (n := 93) (m := 9) Tryz.func9 rfl rfl rfl ?_
  refine CW.seq (CW.region (LW.p (PEv.assign (.const _)) rfl rfl rfl (LW.nil (KW.then (CW.seq (CW.region ?_))))))
  refine LW.c (enter_call0 .nil (Tryz.en26)) rfl rfl rfl rfl (held_any _) ?_
  rintro _ w1 ⟨⟨bc, rfl, hC⟩, uw1⟩
  have zw1 := uw1.size
  replace hW := hW.up uw1
  refine LW.r (REv.allocA Tryz.zeroValue27) rfl rfl rfl rfl ?_
  rintro _ w2 ⟨B1, rfl, MB1⟩
  refine LW.s (SEv.storeA Tryz.sizeOf27 hC.size (.tmp rfl) (.tmp rfl) hC.one MB1.blk rfl) rfl rfl rfl ?_
  intro w3 LB1
  have NB1 := MB1.set LB1
  clear LB1 MB1
  have eB1 := NB1.at_
  have zB1 := NB1.size
  replace hW := hW.up NB1.up
  replace hC := hC.up NB1.up
  have hB1 := NB1.blk
  refine LW.nil (KW.then (CW.seq ?_))
  have hU1 := Up.refl w3
  have hCs := hC
  refine CW.region ?_
  refine LW.p (PEv.build (cs := actA.cells) Tryz.underlying24 Tryz.zeroValue24 Tryz.places24 (.cons (.const _) (.cons (.const _) (.cons (.const _) (.cons (.const _) (.cons (.const _) (.cons (.const _) .nil)))))) rfl) rfl rfl rfl ?_
  refine LW.r (REv.allocA Tryz.zeroValue24) rfl rfl rfl rfl ?_
  rintro _ w4 ⟨B2, rfl, MB2⟩
  refine LW.s (SEv.storeA Tryz.sizeOf24 rfl (.tmp rfl) (.tmp rfl) (by first | rfl | exact Fact.one _ | exact GAct.one _ | exact holdCells_one _ _ | exact hold0_one | (simp [Value.oneCell'])) MB2.blk rfl) rfl rfl rfl ?_
  intro w5 LB2
  have NB2 := MB2.set LB2
  clear LB2 MB2
  have eB2 := NB2.at_
  have zB2 := NB2.size
  replace hW := hW.up NB2.up
  replace hB1 := hB1.up NB2.up
  replace hU1 := hU1.up NB2.up
  have hB2 := NB2.blk
  refine LW.nil (KW.then (CW.seq (CW.region ?_)))
  refine LW.p (PEv.loadA Tryz.isAgg24 Tryz.sizeOf24 rfl (.tmp rfl) (hB2.agg)) rfl rfl rfl ?_
  refine LW.r (REv.allocA Tryz.zeroValue24) rfl rfl rfl rfl ?_
  rintro _ w6 ⟨B3, rfl, MB3⟩
  refine LW.s (SEv.storeA Tryz.sizeOf24 rfl (.tmp rfl) (.tmp rfl) (by first | rfl | exact Fact.one _ | exact GAct.one _ | exact holdCells_one _ _ | exact hold0_one | (simp [Value.oneCell'])) MB3.blk rfl) rfl rfl rfl ?_
  intro w7 LB3
  have NB3 := MB3.set LB3
  clear LB3 MB3
  have eB3 := NB3.at_
  have zB3 := NB3.size
  replace hW := hW.up NB3.up
  replace hB1 := hB1.up NB3.up
  replace hU1 := hU1.up NB3.up
  replace hB2 := hB2.up NB3.up
  have hB3 := NB3.blk
  refine LW.nil (KW.then (CW.seq (CW.region ?_)))
  refine LW.p (PEv.fieldAddr (off := 2) Tryz.underlying24 rfl rfl Tryz.sizeOf3 rfl (.tmp rfl)) rfl rfl rfl ?_
  refine LW.s (SEv.store Tryz.sizeOf3 (.tmp rfl) (.const _) rfl hB3 (Nat.le_of_ble_eq_true rfl)) rfl rfl rfl ?_
  intro w8 Nw8
  have zw8 := Nw8.size
  replace hW := hW.sto Nw8.sto (by omega)
  replace hB1 := hB1.sto Nw8.sto (by omega)
  replace hU1 := hU1.sto Nw8.sto (by omega)
  replace hB2 := hB2.sto Nw8.sto (by omega)
  replace hB3 := Nw8.blk
  replace hB3 : Blk w8 B3 actO.cells _ := hB3
  refine LW.nil (KW.then (CW.seq (CW.region ?_)))
  refine LW.p (PEv.loadA Tryz.isAgg24 Tryz.sizeOf24 rfl (.tmp rfl) (hB2.agg)) rfl rfl rfl ?_
  refine LW.r (REv.allocA Tryz.zeroValue24) rfl rfl rfl rfl ?_
  rintro _ w9 ⟨B4, rfl, MB4⟩
  refine LW.s (SEv.storeA Tryz.sizeOf24 rfl (.tmp rfl) (.tmp rfl) (by first | rfl | exact Fact.one _ | exact GAct.one _ | exact holdCells_one _ _ | exact hold0_one | (simp [Value.oneCell'])) MB4.blk rfl) rfl rfl rfl ?_
  intro w10 LB4
  have NB4 := MB4.set LB4
  clear LB4 MB4
  have eB4 := NB4.at_
  have zB4 := NB4.size
  replace hW := hW.up NB4.up
  replace hB1 := hB1.up NB4.up
  replace hU1 := hU1.up NB4.up
  replace hB2 := hB2.up NB4.up
  replace hB3 := hB3.up NB4.up
  have hB4 := NB4.blk
  refine LW.nil (KW.then (CW.seq (CW.region ?_)))
  refine LW.p (PEv.fieldAddr (off := 6) Tryz.underlying24 rfl rfl Tryz.sizeOf3 rfl (.tmp rfl)) rfl rfl rfl ?_
  refine LW.s (SEv.store Tryz.sizeOf3 (.tmp rfl) (.const _) rfl hB4 (Nat.le_of_ble_eq_true rfl)) rfl rfl rfl ?_
  intro w11 Nw11
  have zw11 := Nw11.size
  replace hW := hW.sto Nw11.sto (by omega)
  replace hB1 := hB1.sto Nw11.sto (by omega)
  replace hU1 := hU1.sto Nw11.sto (by omega)
  replace hB2 := hB2.sto Nw11.sto (by omega)
  replace hB3 := hB3.sto Nw11.sto (by omega)
  replace hB4 := Nw11.blk
  replace hB4 : Blk w11 B4 actL.cells _ := hB4
  refine LW.nil (KW.then (CW.seq (CW.region ?_)))
  refine LW.p (PEv.loadA Tryz.isAgg27 Tryz.sizeOf27 (hCs.size) (.tmp rfl) (hB1.agg)) rfl rfl rfl ?_
  refine LW.c (enter_call0 (.cons (.tmp rfl) (.cons (.const _) (.cons (.const _) .nil))) (Tryz.en14)) rfl rfl rfl rfl (Released_any _ _ 4 10 _ (hCs.up hU1) (by decide) (by decide)) ?_
  rintro _ w12 ⟨rfl, uw12⟩
  have zw12 := uw12.size
  replace hW := hW.up uw12
  replace hB1 := hB1.up uw12
  replace hU1 := hU1.up uw12
  replace hB2 := hB2.up uw12
  replace hB3 := hB3.up uw12
  replace hB4 := hB4.up uw12
  rw [sane_p10, sane_r10]
  refine LW.p (PEv.move (.tmp rfl)) rfl rfl rfl (LW.p (PEv.extract (.tmp rfl) rfl) rfl rfl rfl (LW.p (PEv.extract (.tmp rfl) rfl) rfl rfl rfl (LW.p (PEv.assign (.tmp rfl)) rfl rfl rfl (LW.p (PEv.assign (.tmp rfl)) rfl rfl rfl (LW.nil (KW.then (CW.seq (CW.region ?_))))))))
  refine LW.p (PEv.loadA Tryz.isAgg27 Tryz.sizeOf27 (hCs.size) (.tmp rfl) (hB1.agg)) rfl rfl rfl ?_
  refine LW.c (enter_call0 (.cons (.tmp rfl) (.cons (.const _) (.cons (.const _) .nil))) (Tryz.en14)) rfl rfl rfl rfl (Released_any _ _ 4 20 _ (hCs.up hU1) (by decide) (by decide)) ?_
  rintro _ w13 ⟨rfl, uw13⟩
  have zw13 := uw13.size
  replace hW := hW.up uw13
  replace hB1 := hB1.up uw13
  replace hU1 := hU1.up uw13
  replace hB2 := hB2.up uw13
  replace hB3 := hB3.up uw13
  replace hB4 := hB4.up uw13
  rw [sane_p20, sane_r20]
  refine LW.p (PEv.move (.tmp rfl)) rfl rfl rfl (LW.p (PEv.extract (.tmp rfl) rfl) rfl rfl rfl (LW.p (PEv.extract (.tmp rfl) rfl) rfl rfl rfl (LW.p (PEv.assign (.tmp rfl)) rfl rfl rfl (LW.p (PEv.assign (.tmp rfl)) rfl rfl rfl (LW.nil (KW.then (CW.seq (CW.region ?_))))))))
  refine LW.p (PEv.loadA Tryz.isAgg27 Tryz.sizeOf27 (hCs.size) (.tmp rfl) (hB1.agg)) rfl rfl rfl ?_
  refine LW.c (enter_call0 (.cons (.tmp rfl) (.cons (.const _) (.cons (.const _) .nil))) (Tryz.en14)) rfl rfl rfl rfl (Released_any _ _ 4 50 _ (hCs.up hU1) (by decide) (by decide)) ?_
  rintro _ w14 ⟨rfl, uw14⟩
  have zw14 := uw14.size
  replace hW := hW.up uw14
  replace hB1 := hB1.up uw14
  replace hU1 := hU1.up uw14
  replace hB2 := hB2.up uw14
  replace hB3 := hB3.up uw14
  replace hB4 := hB4.up uw14
  rw [sane_p50, sane_r50]
  refine LW.p (PEv.move (.tmp rfl)) rfl rfl rfl (LW.p (PEv.extract (.tmp rfl) rfl) rfl rfl rfl (LW.p (PEv.extract (.tmp rfl) rfl) rfl rfl rfl (LW.p (PEv.assign (.tmp rfl)) rfl rfl rfl (LW.p (PEv.assign (.tmp rfl)) rfl rfl rfl (LW.nil (KW.then (CW.seq ?_)))))))
  obtain ⟨v6, h6, hr⟩ := hCs.at6
  obtain ⟨ad, cp, rfl, hE⟩ := hr
  obtain ⟨BH, oH, rfl, hcH⟩ := hE 0 heldH rfl
  refine CW.draws (by kernel_rfl) (by kernel_rfl) rfl rfl ?_
  refine HW.p (PEv.loadA Tryz.isAgg27 Tryz.sizeOf27 (hCs.size) (.tmp rfl) (hB1.agg)) rfl rfl ?_
  refine HW.p (PEv.fieldAddr (off := 6) Tryz.underlying27 rfl rfl Tryz.sizeOf22 rfl (.tmp rfl)) rfl rfl ?_
  refine HW.p (PEv.load Tryz.isAgg22 (.tmp rfl) (hB1.cell h6)) rfl rfl ?_
  refine HW.p (PEv.indexAddr (j := 0) Tryz.underlying22 Tryz.sizeOf35 (.tmp rfl) (.const _) (by decide)) rfl rfl ?_
  refine HW.p (PEv.loadA Tryz.isAgg35 Tryz.sizeOf35 rfl (.tmp rfl) (hcH.up hU1)) rfl rfl ?_
  refine HW.p (PEv.loadA Tryz.isAgg24 Tryz.sizeOf24 rfl (.tmp rfl) (hB2.agg)) rfl rfl ?_
  refine HW.c (fun a w _ ha => enter_call0 (.cons (.tmp rfl) (.cons (.tmp rfl) (.cons (.tmp rfl) .nil))) (Tryz.en15) a ha) rfl rfl (fun w hu => (Names_any _ _ heldH actA _ ((hCs.up hU1).up hu) (by decide)).mono fun _ _ h => ⟨h.1.trans (congrArg Go.Value.bool sane_nA), h.2⟩) ?_
  refine HW.p (PEv.move (.tmp rfl)) rfl rfl ?_
  refine HW.yp rfl rfl rfl rfl rfl (PEv.loadA Tryz.isAgg27 Tryz.sizeOf27 (hCs.size) (.tmp rfl) (hB1.agg)) rfl ?_
  refine HW.yp rfl rfl rfl rfl rfl (PEv.fieldAddr (off := 6) Tryz.underlying27 rfl rfl Tryz.sizeOf22 rfl (.tmp rfl)) rfl ?_
  refine HW.yp rfl rfl rfl rfl rfl (PEv.load Tryz.isAgg22 (.tmp rfl) (hB1.cell h6)) rfl ?_
  refine HW.yp rfl rfl rfl rfl rfl (PEv.indexAddr (j := 0) Tryz.underlying22 Tryz.sizeOf35 (.tmp rfl) (.const _) (by decide)) rfl ?_
  refine HW.yp rfl rfl rfl rfl rfl (PEv.loadA Tryz.isAgg35 Tryz.sizeOf35 rfl (.tmp rfl) (hcH.up hU1)) rfl ?_
  refine HW.yp rfl rfl rfl rfl rfl (PEv.loadA Tryz.isAgg24 Tryz.sizeOf24 rfl (.tmp rfl) (hB3.agg)) rfl ?_
  refine HW.yc rfl rfl rfl rfl rfl (fun a w _ ha => enter_call0 (.cons (.tmp rfl) (.cons (.tmp rfl) (.cons (.tmp rfl) .nil))) (Tryz.en15) a ha) rfl (fun w hu => (Names_any _ _ heldH actO _ ((hCs.up hU1).up hu) (by decide)).mono fun _ _ h => ⟨h.1.trans (congrArg Go.Value.bool sane_nO), h.2⟩) ?_
  refine HW.yp rfl rfl rfl rfl rfl (PEv.not (.tmp rfl)) rfl ?_
  refine HW.p (PEv.pick_and (.tmp rfl) (fun hp => (by first | exact .const _ | exact .tmp rfl | exact .cond rfl (by first | assumption | simp_all)))) rfl rfl ?_
  refine HW.p (PEv.move (.tmp rfl)) rfl rfl ?_
  refine HW.yp rfl rfl rfl rfl rfl (PEv.move (.tmp rfl)) rfl ?_
  refine HW.yp rfl rfl rfl rfl rfl (PEv.eql (.tmp rfl) (.const _)) rfl ?_
  refine HW.p (PEv.pick_and (.tmp rfl) (fun hp => (by first | exact .const _ | exact .tmp rfl | exact .cond rfl (by first | assumption | simp_all)))) rfl rfl ?_
  refine HW.p (PEv.move (.tmp rfl)) rfl rfl ?_
  refine HW.yp rfl rfl rfl rfl rfl (PEv.move (.tmp rfl)) rfl ?_
  refine HW.yp rfl rfl rfl rfl rfl (PEv.not (.tmp rfl)) rfl ?_
  refine HW.p (PEv.pick_and (.tmp rfl) (fun hp => (by first | exact .const _ | exact .tmp rfl | exact .cond rfl (by first | assumption | simp_all)))) rfl rfl ?_
  refine HW.p (PEv.move (.tmp rfl)) rfl rfl ?_
  refine HW.yp rfl rfl rfl rfl rfl (PEv.move (.tmp rfl)) rfl ?_
  refine HW.yp rfl rfl rfl rfl rfl (PEv.eql (.tmp rfl) (.const _)) rfl ?_
  refine HW.p (PEv.pick_and (.tmp rfl) (fun hp => (by first | exact .const _ | exact .tmp rfl | exact .cond rfl (by first | assumption | simp_all)))) rfl rfl ?_
  refine HW.p (PEv.move (.tmp rfl)) rfl rfl ?_
  refine HW.yp rfl rfl rfl rfl rfl (PEv.move (.tmp rfl)) rfl ?_
  refine HW.yp rfl rfl rfl rfl rfl (PEv.not (.tmp rfl)) rfl ?_
  refine HW.p (PEv.pick_and (.tmp rfl) (fun hp => (by first | exact .const _ | exact .tmp rfl | exact .cond rfl (by first | assumption | simp_all)))) rfl rfl ?_
  refine HW.p (PEv.move (.tmp rfl)) rfl rfl ?_
  refine HW.yp rfl rfl rfl rfl rfl (PEv.move (.tmp rfl)) rfl ?_
  refine HW.yp rfl rfl rfl rfl rfl (PEv.eql (.tmp rfl) (.const _)) rfl ?_
  refine HW.p (PEv.pick_and (.tmp rfl) (fun hp => (by first | exact .const _ | exact .tmp rfl | exact .cond rfl (by first | assumption | simp_all)))) rfl rfl ?_
  refine HW.p (PEv.move (.tmp rfl)) rfl rfl ?_
  refine HW.yp rfl rfl rfl rfl rfl (PEv.move (.tmp rfl)) rfl ?_
  refine HW.p (PEv.pick_and (.tmp rfl) (fun hp => (by first | exact .const _ | exact .tmp rfl | exact .cond rfl (by first | assumption | simp_all)))) rfl rfl ?_
  refine HW.p (PEv.move (.tmp rfl)) rfl rfl ?_
  refine HW.yp rfl rfl rfl rfl rfl (PEv.loadA Tryz.isAgg27 Tryz.sizeOf27 (hCs.size) (.tmp rfl) (hB1.agg)) rfl ?_
  refine HW.yp rfl rfl rfl rfl rfl (PEv.loadA Tryz.isAgg24 Tryz.sizeOf24 rfl (.tmp rfl) (hB2.agg)) rfl ?_
  refine HW.yqc (ph := .pred fun v w => Sl w v 1 eInt [4]) (fun _ _ _ h u => Sl.up h u) rfl rfl rfl rfl rfl (fun a w hu ha => ⟨_, _, enter_call0 (.cons (.tmp rfl) (.cons (.tmp rfl) .nil)) (Tryz.en12) a ha, (Stops_any _ _ actA _ ((hCs.up hU1).up hu) (by decide) (by decide) (by decide)).mono fun v w' h => ⟨h.2, sane_sA ▸ h.1.sl (fun _ => rfl)⟩⟩) rfl ?_
  refine HW.yqr (p := fun v w => Sl w v 1 eInt [4]) (fun _ _ _ h u => Sl.up h u) rfl rfl rfl rfl rfl (fun w hu a ha => let ⟨v, w', h1, h2⟩ := REv.buildSlice (xs := [4]) (enc := eInt) (mk := vi) Tryz.underlying30 Tryz.sizeOf3 Tryz.zeroValue3 rfl (by decide) (fun _ => rfl) (fun _ => rfl) (.cons (.const _) .nil) rfl a ha; ⟨v, w', h1, h2.q⟩) rfl ?_
  refine HW.yqc (ph := .eq (.bool true)) (phUp.eq _) rfl rfl rfl rfl rfl (fun a w hu ha => ⟨_, _, enter_any2 Tryz.en20 a w, (sameInts_any (a.eval (.tmp 75)) (a.eval (.tmp 76)) [4] [4] w (ha.known (p := fun v w => Sl w v 1 eInt [4]) rfl) (ha.known (p := fun v w => Sl w v 1 eInt [4]) rfl) (by decide) (by decide)).mono fun _ _ h => ⟨h.2, h.1.trans same44⟩⟩) rfl ?_
  refine HW.p (PEv.pick_and (.tmp rfl) (fun hp => (by first | exact .const _ | exact .tmp rfl | exact .cond rfl (by first | assumption | simp_all)))) rfl rfl ?_
  refine HW.p (PEv.move (.tmp rfl)) rfl rfl ?_
  refine HW.yp rfl rfl rfl rfl rfl (PEv.loadA Tryz.isAgg27 Tryz.sizeOf27 (hCs.size) (.tmp rfl) (hB1.agg)) rfl ?_
  refine HW.yp rfl rfl rfl rfl rfl (PEv.loadA Tryz.isAgg24 Tryz.sizeOf24 rfl (.tmp rfl) (hB4.agg)) rfl ?_
  refine HW.yqc (ph := .pred fun v w => Sl w v 1 eInt []) (fun _ _ _ h u => Sl.up h u) rfl rfl rfl rfl rfl (fun a w hu ha => ⟨_, _, enter_call0 (.cons (.tmp rfl) (.cons (.tmp rfl) .nil)) (Tryz.en12) a ha, (Stops_any _ _ actL _ ((hCs.up hU1).up hu) (by decide) (by decide) (by decide)).mono fun v w' h => ⟨h.2, sane_sL ▸ h.1.sl (fun _ => rfl)⟩⟩) rfl ?_
  refine HW.yp rfl rfl rfl rfl rfl (PEv.lenQ Tryz.underlying30 rfl (fun v w h => let ⟨ad, c, e, _⟩ := h; ⟨ad, c, e⟩)) rfl ?_
  refine HW.yp rfl rfl rfl rfl rfl (PEv.eql (.tmp rfl) (.const _)) rfl ?_
  refine HW.p (PEv.pick_and (.tmp rfl) (fun hp => (by first | exact .const _ | exact .tmp rfl | exact .cond rfl (by first | assumption | simp_all)))) rfl rfl ?_
  refine HW.p (PEv.move (.tmp rfl)) rfl rfl ?_
  refine HW.yp rfl rfl rfl rfl rfl (PEv.loadA Tryz.isAgg27 Tryz.sizeOf27 (hCs.size) (.tmp rfl) (hB1.agg)) rfl ?_
  refine HW.yp rfl rfl rfl rfl rfl (PEv.loadA Tryz.isAgg24 Tryz.sizeOf24 rfl (.tmp rfl) (hB3.agg)) rfl ?_
  refine HW.yqc (ph := .pred fun v w => Sl w v 1 eInt []) (fun _ _ _ h u => Sl.up h u) rfl rfl rfl rfl rfl (fun a w hu ha => ⟨_, _, enter_call0 (.cons (.tmp rfl) (.cons (.tmp rfl) .nil)) (Tryz.en12) a ha, (Stops_any _ _ actO _ ((hCs.up hU1).up hu) (by decide) (by decide) (by decide)).mono fun v w' h => ⟨h.2, sane_sO ▸ h.1.sl (fun _ => rfl)⟩⟩) rfl ?_
  refine HW.yp rfl rfl rfl rfl rfl (PEv.lenQ Tryz.underlying30 rfl (fun v w h => let ⟨ad, c, e, _⟩ := h; ⟨ad, c, e⟩)) rfl ?_
  refine HW.yp rfl rfl rfl rfl rfl (PEv.eql (.tmp rfl) (.const _)) rfl ?_
  refine HW.p (PEv.pick_and (.tmp rfl) (fun hp => (by first | exact .const _ | exact .tmp rfl | exact .cond rfl (by first | assumption | simp_all)))) rfl rfl ?_
  refine HW.p (PEv.assign (.tmp rfl)) rfl rfl ?_
  refine HW.nil ?_
  intro w15 uw15
  have zw15 := uw15.size
  replace hW := hW.up uw15
  replace hB1 := hB1.up uw15
  replace hU1 := hU1.up uw15
  replace hB2 := hB2.up uw15
  replace hB3 := hB3.up uw15
  replace hB4 := hB4.up uw15
  refine KW.then (CW.ret ?_)
  refine KW.ret1 rfl rfl ⟨_, rfl, ?_⟩
  exact ⟨rfl, hW⟩
end Go.Proofs.YtolkipbpklkcnaaGreat
end
section
namespace Go.Wx
section
variable {P : Program} {n : Nat} {ds : List Deferred} {ops : Array Oper}
theorem HW.qc {base done : Env} {w0 : World} {o : Oper} {rest : List Oper} {K : Env → Prop} {d : Nat} {ph : Ph} (hp : phUp ph) (hg : o.guard = none)
    (h : ∀ a w, Up w0 w → Ag n ds (keepSlots (o.looksAt ops) done ++ base) a w → ∃ f args, (execOp a.eval o).run P w = .ok (.enter f args) w ∧ Ret P f args w fun v w' => Up w w' ∧ ph.holds v w') (hd : o.dst = some d) (k : HW P n ds ops base w0 ((d, ph) :: done) rest K) : HW P n ds ops base w0 done (o :: rest) K :=
  ⟨ph, d, hd, hp, fun a w hu ha => by
    rw [if_pos (by simp [Region.wanted, hg])]
    obtain ⟨f, args, e, r⟩ := h a w hu ha
    exact .inr ⟨f, args, w, e, r⟩, k⟩
end
end Go.Wx
namespace Go.Proofs.YtolkipbpklkcnaaGreat
open Go.Wx Go.RowKit
theorem OfA_any (v dv : Go.Value) (l : List Fact) (d : Int) (w : World) (hd : dv = vi d) (h : Sl w v 19 Fact.cells l) (hl : l.length ≤ 100000) : Ret Tryz.prog 10 #[v, dv] w fun r w' => Up w w' ∧ BaseV w' r (ofB l d) := by
  subst hd
  obtain ⟨ad, cp, rfl, hE⟩ := h
  exact (Of_any ad cp l d w hE hl).mono fun _ _ ⟨bc, e, hC, u⟩ => ⟨u, bc, e, hC⟩
end Go.Proofs.YtolkipbpklkcnaaGreat
end
section
namespace Go.Proofs.YtolkipbpklkcnaaGreat
open Go.Wx Go.RowKit
set_option maxHeartbeats 4000000 in
theorem HoldKnown_any (known gone day : Int) (a : GAct) (w : World) (hk : inI known) (hg : inI gone) (hd : inI day) (ha : inI a.Time) : Ret Tryz.prog 6 #[vi known, vi gone, vi day, .agg a.cells] w fun r w' => r = .bool true ∧ Up w w' := by
  have hW := Up.refl w
  obtain ⟨w0, rfl⟩ : ∃ w0, w0 = w := ⟨_, rfl⟩
  refine Calls_start (n := 61) (m := 9) Tryz.func6 rfl rfl rfl ?_
  refine CW.seq (CW.region ?_)
  refine LW.r (REv.boxA (.tmp rfl)) rfl rfl rfl rfl ?_
  rintro _ w1 ⟨B7, rfl, NB7⟩
  have eB7 := NB7.at_
  have zB7 := NB7.size
  replace hW := hW.up NB7.up
  have hB7 := NB7.blk
  refine LW.p (PEv.assign (.const _)) rfl rfl rfl (LW.nil (KW.then (CW.seq (CW.region ?_))))
  refine LW.c (enter_call0 .nil (Tryz.en9)) rfl rfl rfl rfl (sane_any _) ?_
  rintro _ w2 ⟨rfl, uw2⟩
  have zw2 := uw2.size
  replace hW := hW.up uw2
  replace hB7 := hB7.up uw2
  refine LW.p (PEv.assign (.tmp rfl)) rfl rfl rfl (LW.nil (KW.then (CW.seq (CW.region (LW.p (PEv.move (.tmp rfl)) rfl rfl rfl ?_)))))
  refine LW.c (enter_call0 (.cons (.tmp rfl) (.cons (.const _) .nil)) (Tryz.en16)) rfl rfl rfl rfl (pick_any _ _ _ (by decide)) ?_
  rintro _ w3 ⟨rfl, uw3⟩
  have zw3 := uw3.size
  replace hW := hW.up uw3
  replace hB7 := hB7.up uw3
  have hpk := pick_range (c := known) (n := 20) hk (by decide)
  obtain ⟨pk, epk⟩ : ∃ pk, pk = pickI known 20 := ⟨_, rfl⟩
  rw [← epk] at hpk ⊢
  refine LW.p (PEv.assign (.tmp rfl)) rfl rfl rfl (LW.nil (KW.then (CW.seq (CW.region (LW.p (PEv.move (.tmp rfl)) rfl rfl rfl ?_)))))
  refine LW.p (PEv.add_w (.tmp rfl) (.const _)) rfl rfl rfl ?_
  refine LW.p (PEv.move (.tmp rfl)) rfl rfl rfl ?_
  refine LW.c (enter_call0 (.cons (.tmp rfl) (.cons (.const _) .nil)) (Tryz.en16)) rfl rfl rfl rfl (pick_any _ _ _ (by decide)) ?_
  rintro _ w4 ⟨rfl, uw4⟩
  have zw4 := uw4.size
  replace hW := hW.up uw4
  replace hB7 := hB7.up uw4
  have hpg := pick_range (c := gone) (n := 20) hg (by decide)
  obtain ⟨pg, epg⟩ : ∃ pg, pg = pickI gone 20 := ⟨_, rfl⟩
  rw [← epg] at hpg ⊢
  refine LW.p (PEv.add_w (.tmp rfl) (.tmp rfl)) rfl rfl rfl ?_
  refine LW.p (PEv.assign (.tmp rfl)) rfl rfl rfl (LW.nil (KW.then (CW.seq ?_)))
  obtain ⟨g, eg⟩ : ∃ g, g = IntKind.i64.wrap (IntKind.i64.wrap (pk + 1) + pg) := ⟨_, rfl⟩
  rw [← eg]
  have hgk : pk < g ∧ g ≤ 40 := by rw [eg, show IntKind.i64.wrap (pk + 1) = pk + 1 from wrap_i64_in (by omega) (by omega), show IntKind.i64.wrap (pk + 1 + pg) = pk + 1 + pg from wrap_i64_in (by omega) (by omega)]; omega
  refine CW.region (LW.p (PEv.move (.tmp rfl)) rfl rfl rfl ?_)
  refine LW.c (enter_call0 (.cons (.tmp rfl) (.cons (.const _) .nil)) (Tryz.en16)) rfl rfl rfl rfl (pick_any _ _ _ (by decide)) ?_
  rintro _ w5 ⟨rfl, uw5⟩
  have zw5 := uw5.size
  replace hW := hW.up uw5
  replace hB7 := hB7.up uw5
  have hpd := pick_range (c := day) (n := 50) hd (by decide)
  obtain ⟨pd, epd⟩ : ∃ pd, pd = pickI day 50 := ⟨_, rfl⟩
  rw [← epd] at hpd ⊢
  refine LW.p (PEv.assign (.tmp rfl)) rfl rfl rfl (LW.nil (KW.then (CW.seq (CW.region (LW.p (PEv.move (.tmp rfl)) rfl rfl rfl ?_)))))
  refine LW.p (PEv.build (cs := (knH pk).cells) Tryz.underlying35 Tryz.zeroValue35 Tryz.places35 (.cons (.const _) (.cons (.const _) (.cons (.tmp rfl) (.cons (.const _) (.cons (.const _) (.cons (.const _) .nil)))))) rfl) rfl rfl rfl ?_
  refine LW.r (REv.allocA Tryz.zeroValue35) rfl rfl rfl rfl ?_
  rintro _ w6 ⟨B10, rfl, MB10⟩
  refine LW.s (SEv.storeA Tryz.sizeOf35 rfl (.tmp rfl) (.tmp rfl) (by first | rfl | exact Fact.one _ | exact GAct.one _ | exact holdCells_one _ _ | exact hold0_one | (simp [Value.oneCell'])) MB10.blk rfl) rfl rfl rfl ?_
  intro w7 LB10
  have NB10 := MB10.set LB10
  clear LB10 MB10
  have eB10 := NB10.at_
  have zB10 := NB10.size
  replace hW := hW.up NB10.up
  replace hB7 := hB7.up NB10.up
  have hB10 := NB10.blk
  refine LW.nil (KW.then (CW.seq (CW.region ?_)))
  refine LW.p (PEv.loadA Tryz.isAgg35 Tryz.sizeOf35 rfl (.tmp rfl) (hB10.agg)) rfl rfl rfl ?_
  refine LW.r (REv.allocA Tryz.zeroValue35) rfl rfl rfl rfl ?_
  rintro _ w8 ⟨B11, rfl, MB11⟩
  refine LW.s (SEv.storeA Tryz.sizeOf35 rfl (.tmp rfl) (.tmp rfl) (by first | rfl | exact Fact.one _ | exact GAct.one _ | exact holdCells_one _ _ | exact hold0_one | (simp [Value.oneCell'])) MB11.blk rfl) rfl rfl rfl ?_
  intro w9 LB11
  have NB11 := MB11.set LB11
  clear LB11 MB11
  have eB11 := NB11.at_
  have zB11 := NB11.size
  replace hW := hW.up NB11.up
  replace hB7 := hB7.up NB11.up
  replace hB10 := hB10.up NB11.up
  have hB11 := NB11.blk
  refine LW.nil (KW.then (CW.seq (CW.region ?_)))
  refine LW.p (PEv.fieldAddr (off := 2) Tryz.underlying35 rfl rfl Tryz.sizeOf3 rfl (.tmp rfl)) rfl rfl rfl ?_
  refine LW.s (SEv.store Tryz.sizeOf3 (.tmp rfl) (.const _) rfl hB11 (Nat.le_of_ble_eq_true rfl)) rfl rfl rfl ?_
  intro w10 Nw10
  have zw10 := Nw10.size
  replace hW := hW.sto Nw10.sto (by omega)
  replace hB7 := hB7.sto Nw10.sto (by omega)
  replace hB10 := hB10.sto Nw10.sto (by omega)
  replace hB11 := Nw10.blk
  replace hB11 : Blk w10 B11 ({ knH pk with Version := 2 } : Fact).cells _ := hB11
  refine LW.nil (KW.then (CW.seq (CW.region (LW.p (PEv.move (.tmp rfl)) rfl rfl rfl ?_))))
  refine LW.p (PEv.fieldAddr (off := 3) Tryz.underlying35 rfl rfl Tryz.sizeOf3 rfl (.tmp rfl)) rfl rfl rfl ?_
  refine LW.s (SEv.store Tryz.sizeOf3 (.tmp rfl) (.tmp rfl) rfl hB11 (Nat.le_of_ble_eq_true rfl)) rfl rfl rfl ?_
  intro w11 Nw11
  have zw11 := Nw11.size
  replace hW := hW.sto Nw11.sto (by omega)
  replace hB7 := hB7.sto Nw11.sto (by omega)
  replace hB10 := hB10.sto Nw11.sto (by omega)
  replace hB11 := Nw11.blk
  replace hB11 : Blk w11 B11 ({ knH pk with Version := 2, Day := g } : Fact).cells _ := hB11
  refine LW.nil (KW.then (CW.seq (CW.region ?_)))
  refine LW.p (PEv.fieldAddr (off := 4) Tryz.underlying35 rfl rfl Tryz.sizeOf4 rfl (.tmp rfl)) rfl rfl rfl ?_
  refine LW.s (SEv.store Tryz.sizeOf4 (.tmp rfl) (.const _) rfl hB11 (Nat.le_of_ble_eq_true rfl)) rfl rfl rfl ?_
  intro w12 Nw12
  have zw12 := Nw12.size
  replace hW := hW.sto Nw12.sto (by omega)
  replace hB7 := hB7.sto Nw12.sto (by omega)
  replace hB10 := hB10.sto Nw12.sto (by omega)
  replace hB11 := Nw12.blk
  replace hB11 : Blk w12 B11 (knN g).cells _ := hB11
  refine LW.nil (KW.then (CW.seq (CW.region ?_)))
  refine LW.p (PEv.fieldAddr (off := 6) Tryz.underlying24 rfl rfl Tryz.sizeOf3 rfl (.tmp rfl)) rfl rfl rfl ?_
  refine LW.p (PEv.load Tryz.isAgg3 (.tmp rfl) (hB7.celln rfl)) rfl rfl rfl ?_
  refine LW.c (enter_call0 (.cons (.tmp rfl) (.cons (.const _) .nil)) (Tryz.en16)) rfl rfl rfl rfl (pick_any _ _ _ (by decide)) ?_
  rintro _ w13 ⟨rfl, uw13⟩
  have zw13 := uw13.size
  replace hW := hW.up uw13
  replace hB7 := hB7.up uw13
  replace hB10 := hB10.up uw13
  replace hB11 := hB11.up uw13
  have hpt := pick_range (c := a.Time) (n := 1000000) ha (by decide)
  obtain ⟨pt, ept⟩ : ∃ pt, pt = pickI a.Time 1000000 := ⟨_, rfl⟩
  rw [← ept] at hpt ⊢
  refine LW.p (PEv.fieldAddr (off := 6) Tryz.underlying24 rfl rfl Tryz.sizeOf3 rfl (.tmp rfl)) rfl rfl rfl ?_
  refine LW.s (SEv.store Tryz.sizeOf3 (.tmp rfl) (.tmp rfl) rfl hB7 (Nat.le_of_ble_eq_true rfl)) rfl rfl rfl ?_
  intro w14 Nw14
  have zw14 := Nw14.size
  replace hW := hW.sto Nw14.sto (by omega)
  replace hB10 := hB10.sto Nw14.sto (by omega)
  replace hB11 := hB11.sto Nw14.sto (by omega)
  replace hB7 := Nw14.blk
  replace hB7 : Blk w14 B7 ({ a with Time := pt } : GAct).cells _ := hB7
  refine LW.nil (KW.then (CW.seq ?_))
  refine CW.draws_then 6 (by kernel_rfl) (by kernel_rfl) (by kernel_rfl) (by kernel_rfl) (by kernel_rfl) rfl rfl ?_
  refine HW.p (PEv.loadA Tryz.isAgg35 Tryz.sizeOf35 rfl (.tmp rfl) (hB11.agg)) rfl rfl ?_
  refine HW.p (PEv.loadA Tryz.isAgg35 Tryz.sizeOf35 rfl (.tmp rfl) (hB10.agg)) rfl rfl ?_
  refine HW.r (p := fun v w => Sl w v 19 Fact.cells [knN g, knH pk]) (fun _ _ _ h u => Sl.up h u) rfl (fun w hu a ha => let ⟨v, w', h1, h2⟩ := REv.buildSlice (xs := [knN g, knH pk]) (enc := Fact.cells) (mk := fun f => .agg f.cells) Tryz.underlying22 Tryz.sizeOf35 Tryz.zeroValue35 rfl (Nat.le_of_ble_eq_true rfl) (fun _ => rfl) (fun _ => rfl) (.cons (.tmp rfl) (.cons (.tmp rfl) .nil)) rfl a ha; ⟨v, w', h1, h2.q⟩) rfl ?_
  refine HW.p (PEv.move (.tmp rfl)) rfl rfl ?_
  refine HW.qc (ph := .pred fun v w => BaseV w v (ofB [knN g, knH pk] pd)) (fun _ _ _ h u => BaseV.up h u) rfl (fun a w hu ha => ⟨_, _, enter_any2 Tryz.en10 a w, OfA_any (a.eval (.tmp 36)) (a.eval (.tmp 37)) [knN g, knH pk] pd w (ha.ev (.tmp rfl)) (ha.known (p := fun v w => Sl w v 19 Fact.cells [knN g, knH pk]) rfl) (Nat.le_of_ble_eq_true rfl)⟩) rfl ?_
  refine HW.p (PEv.loadA Tryz.isAgg24 Tryz.sizeOf24 rfl (.tmp rfl) (hB7.agg)) rfl rfl ?_
  refine HW.nil ?_
  intro w15 uw15
  have zw15 := uw15.size
  replace hW := hW.up uw15
  replace hB7 := hB7.up uw15
  replace hB10 := hB10.up uw15
  replace hB11 := hB11.up uw15
  refine LW.open (d := 38) rfl fun v38 hp38 => ?_
  obtain ⟨bc, rfl, hC⟩ := hp38
  refine LW.open (d := 36) rfl fun v36 hp36 => ?_
  have hSh := ofB_short (l := [knN g, knH pk]) (Nat.le_of_ble_eq_true rfl) pd
  refine LW.c (enter_call0 (.cons (.tmp rfl) (.cons (.tmp rfl) .nil)) (Tryz.en12)) rfl rfl rfl rfl (Stops_any bc (ofB [knN g, knH pk] pd) { a with Time := pt } _ hC (Nat.le_trans (hSh 6) (by decide)) (Nat.lt_of_le_of_lt (hSh 7) (by decide)) (Nat.lt_of_le_of_lt (hSh 3) (by decide))) ?_
  rintro v40 w16 ⟨hO40, uw16⟩
  have zw16 := uw16.size
  replace hW := hW.up uw16
  replace hB7 := hB7.up uw16
  replace hB10 := hB10.up uw16
  replace hB11 := hB11.up uw16
  replace hC := hC.up uw16
  rw [known_stops hpk hgk ⟨hpt.1, show pt ≤ 1000000 by omega⟩] at hO40
  obtain ⟨ad40, cp40, rfl, _⟩ := hO40.sl (fun _ => rfl)
  clear hO40
  refine LW.p (PEv.assign (.tmp rfl)) rfl rfl rfl (LW.nil (KW.then (CW.seq (CW.region (LW.p (PEv.move (.tmp rfl)) rfl rfl rfl (LW.p (PEv.move (.tmp rfl)) rfl rfl rfl ?_))))))
  refine LW.yes rfl rfl rfl rfl rfl rfl ?_
  refine LW.p (PEv.move (.tmp rfl)) rfl rfl rfl ?_
  refine LW.yes rfl rfl rfl rfl rfl rfl ?_
  refine LW.p (PEv.lenS Tryz.underlying30 (.tmp rfl)) rfl rfl rfl ?_
  refine LW.yes rfl rfl rfl rfl rfl rfl ?_
  refine LW.p (PEv.eql (.tmp rfl) (.const _)) rfl rfl rfl ?_
  refine LW.yes rfl rfl rfl rfl rfl rfl ?_
  refine LW.p (PEv.move (.tmp rfl)) rfl rfl rfl ?_
  refine LW.yes rfl rfl rfl rfl rfl rfl ?_
  refine LW.p (PEv.move (.tmp rfl)) rfl rfl rfl ?_
  refine LW.yes rfl rfl rfl rfl rfl rfl ?_
  refine LW.p (PEv.geq (.tmp rfl) (.tmp rfl)) rfl rfl rfl ?_
  refine LW.yes rfl rfl rfl rfl rfl rfl ?_
  refine LW.p (PEv.move (.tmp rfl)) rfl rfl rfl ?_
  refine LW.g rfl rfl rfl rfl rfl rfl rfl (fun hc => PEv.move (.tmp rfl)) ?_
  refine LW.g rfl rfl rfl rfl rfl rfl rfl (fun hc => PEv.move (.tmp rfl)) ?_
  refine LW.g rfl rfl rfl rfl rfl rfl rfl (fun hc => PEv.lss (by first | exact .tmp rfl | exact .cond rfl (by first | assumption | simp_all)) (by first | exact .tmp rfl | exact .cond rfl (by first | assumption | simp_all))) ?_
  refine LW.yes rfl rfl rfl rfl rfl rfl ?_
  refine LW.p (PEv.pick_and (.tmp rfl) (fun hp => (by first | exact .const _ | exact .tmp rfl | exact .cond rfl (by first | assumption | simp_all)))) rfl rfl rfl ?_
  refine LW.yes rfl rfl rfl rfl rfl rfl ?_
  refine LW.p (PEv.eqlB Tryz.underlying4 (.tmp rfl) (.tmp rfl)) rfl rfl rfl ?_
  refine LW.p (PEv.pick_and (.tmp rfl) (fun hp => (by first | exact .const _ | exact .tmp rfl | exact .cond rfl (by first | assumption | simp_all)))) rfl rfl rfl ?_
  refine LW.p (PEv.move (.tmp rfl)) rfl rfl rfl ?_
  refine LW.g rfl rfl rfl rfl rfl rfl rfl (fun hc => PEv.move (.tmp rfl)) ?_
  refine LW.g rfl rfl rfl rfl rfl rfl rfl (fun hc => PEv.lenS Tryz.underlying30 (by first | exact .tmp rfl | exact .cond rfl (by first | assumption | simp_all))) ?_
  refine LW.g rfl rfl rfl rfl rfl rfl rfl (fun hc => PEv.leq (by first | exact .tmp rfl | exact .cond rfl (by first | assumption | simp_all)) (.const _)) ?_
  refine LW.p (PEv.pick_and (.tmp rfl) (fun hp => (by first | exact .const _ | exact .tmp rfl | exact .cond rfl (by first | assumption | simp_all)))) rfl rfl rfl ?_
  refine LW.p (PEv.assign (.tmp rfl)) rfl rfl rfl (LW.nil (KW.then (CW.ret ?_)))
  refine KW.ret1 rfl rfl ⟨_, rfl, ?_⟩
  exact ⟨congrArg Go.Value.bool (by by_cases h1 : pk ≤ pd <;> by_cases h2 : pd < g <;> simp [h1, h2]), hW⟩
end Go.Proofs.YtolkipbpklkcnaaGreat
end
