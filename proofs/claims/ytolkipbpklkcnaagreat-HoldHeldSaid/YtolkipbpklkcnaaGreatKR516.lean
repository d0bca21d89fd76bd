import Derived.Test.YtolkipbpklkcnaaGreatKR515
import Derived.Sort.OwnSortedInts
section
namespace Go.Wx
theorem flat_int (ks : List Int) : ks.flatMap (fun x => (eInt x).toList) = ks.map vi := by
  induction ks with
  | nil => rfl
  | cons k ks ih => rw [List.flatMap_cons, ih]; rfl
theorem sort_perm {a b : List Int} (h : a.Perm b) : (a.mergeSort fun x y => decide (x ≤ y)) = b.mergeSort fun x y => decide (x ≤ y) :=
  List.Perm.eq_of_pairwise (le := fun x y => decide (x ≤ y) = true) (fun x y _ _ h1 h2 => by have h3 := of_decide_eq_true h1; have h4 := of_decide_eq_true h2; omega)
    (List.pairwise_mergeSort (fun a b c h1 h2 => by have h3 := of_decide_eq_true h1; have h4 := of_decide_eq_true h2; exact decide_eq_true (by omega)) (fun a b => by simp; omega) a)
    (List.pairwise_mergeSort (fun a b c h1 h2 => by have h3 := of_decide_eq_true h1; have h4 := of_decide_eq_true h2; exact decide_eq_true (by omega)) (fun a b => by simp; omega) b)
    ((List.mergeSort_perm a _).trans (h.trans (List.mergeSort_perm b _).symm))
def unitB (k : Int) : Int × Go.Value := (k, .bool true)
def addI (ks : List Int) (k : Int) : List Int := if k ∈ ks then ks else ks ++ [k]
def sortI (ks : List Int) : List Int := ks.mergeSort fun x y => decide (x ≤ y)
theorem unitB_keys (ks : List Int) : (ks.map unitB).map (·.1) = ks := by simp [List.map_map, Function.comp_def, unitB]
theorem mset_unitB (ks : List Int) (k : Int) : mset (ks.map unitB) k (.bool true) = (addI ks k).map unitB := by
  unfold mset addI
  rw [unitB_keys]
  by_cases h : k ∈ ks
  · rw [if_pos h, if_pos h, List.map_map]
    refine List.map_congr_left fun x _ => ?_
    show (if x = k then (k, Go.Value.bool true) else unitB x) = unitB x
    by_cases hx : x = k
    · subst hx; rw [if_pos rfl]; rfl
    · rw [if_neg hx]
  · rw [if_neg h, if_neg h]; simp [unitB]
theorem addI_len (ks : List Int) (k : Int) : (addI ks k).length ≤ ks.length + 1 := by unfold addI; split <;> simp
theorem unitB_mem {ks : List Int} {k : Int} {u : Go.Value} (h : (k, u) ∈ ks.map unitB) : k ∈ ks ∧ u = .bool true := by
  obtain ⟨x, hx, e⟩ := List.mem_map.1 h
  cases e
  exact ⟨hx, rfl⟩
theorem foldAdd_len {α : Type} (g : List Int → α → List Int) (hg : ∀ ks x, (g ks x).length ≤ ks.length + 1) : ∀ (l : List α) (ks : List Int), (l.foldl g ks).length ≤ ks.length + l.length
  | [], _ => Nat.le_refl _
  | x :: l, ks => by
    rw [List.foldl_cons, List.length_cons]
    have h1 := foldAdd_len g hg l (g ks x)
    have h2 := hg ks x
    omega
def lotK (l : List Fact) : List Int := l.foldl (fun ks f => addI ks f.Wafer) []
def proK (ss : List Fact) (ks : List Int) (l : List Fact) : List Int := l.foldl (fun ks f => addI ks (whoL ss f.Time f.Wafer)) ks
def wafersL (lots ps ss : List Fact) : List Int := sortI ((proK ss (lotK lots) ps).filter isIDb)
theorem lotK_step {l : List Fact} {k : Nat} {x : Fact} (hx : l[k]? = some x) : lotK (l.take (k + 1)) = addI (lotK (l.take k)) x.Wafer := by rw [take_succ_of hx]; unfold lotK; rw [List.foldl_append]; rfl
theorem proK_step {ss l : List Fact} {ks : List Int} {k : Nat} {x : Fact} (hx : l[k]? = some x) : proK ss ks (l.take (k + 1)) = addI (proK ss ks (l.take k)) (whoL ss x.Time x.Wafer) := by rw [take_succ_of hx]; unfold proK; rw [List.foldl_append]; rfl
theorem lotK_len (l : List Fact) : (lotK l).length ≤ l.length := by have := foldAdd_len (fun ks (f : Fact) => addI ks f.Wafer) (fun _ _ => addI_len _ _) l []; simpa [lotK] using this
theorem proK_len (ss : List Fact) (ks : List Int) (l : List Fact) : (proK ss ks l).length ≤ ks.length + l.length := foldAdd_len (fun ks (f : Fact) => addI ks (whoL ss f.Time f.Wafer)) (fun _ _ => addI_len _ _) l ks
def curW (ks V : List Int) : List Int := ks.filter fun k => isIDb k || !decide (k ∈ V)
theorem curW_nil (ks : List Int) : curW ks [] = ks := List.filter_eq_self.2 fun k _ => by simp
theorem curW_yes (ks V : List Int) {k : Int} (h : isIDb k = true) : curW ks (V ++ [k]) = curW ks V := by
  refine List.filter_congr fun x _ => ?_
  by_cases e : x = k
  · rw [e, h]; rfl
  · simp [e]
theorem curW_no (ks V : List Int) {k : Int} (h : isIDb k = false) : (curW ks (V ++ [k])).map unitB = ((curW ks V).map unitB).filter fun p => !decide (p.1 = k) := by
  rw [List.filter_map, curW, curW, List.filter_filter]
  congr 1
  refine List.filter_congr fun x _ => ?_
  by_cases e : x = k
  · simp [e, h, unitB]
  · simp [e, unitB]
theorem filt_snoc_yes (V : List Int) {k : Int} (h : isIDb k = true) : (V ++ [k]).filter isIDb = V.filter isIDb ++ [k] := by rw [List.filter_append]; simp [h]
theorem filt_snoc_no (V : List Int) {k : Int} (h : isIDb k = false) : (V ++ [k]).filter isIDb = V.filter isIDb := by rw [List.filter_append]; simp [h]
theorem curW_fresh {ks V : List Int} {k : Int} (h : k ∈ curW ks V) (hf : k ∉ V.filter isIDb) : k ∉ V ∧ k ∈ ks := by
  obtain ⟨h1, h2⟩ := List.mem_filter.1 h
  refine ⟨fun hV => ?_, h1⟩
  cases hi : isIDb k with
  | true => exact hf (List.mem_filter.2 ⟨hV, hi⟩)
  | false => rw [hi] at h2; simp [hV] at h2
theorem curW_end {ks V : List Int} (h : (V.filter isIDb).Perm (((curW ks V).map unitB).map (·.1))) : curW ks V = ks.filter isIDb := by
  rw [unitB_keys] at h
  refine List.filter_congr fun k hk => ?_
  cases hi : isIDb k with
  | true => rfl
  | false =>
    cases hc : decide (k ∈ V) with
    | true => rfl
    | false =>
      exfalso
      have h1 : k ∈ curW ks V := List.mem_filter.2 ⟨hk, by rw [hc]; simp⟩
      have := (List.mem_filter.1 (h.symm.subset h1)).2
      rw [hi] at this; cases this
end Go.Wx
namespace Go.Proofs.YtolkipbpklkcnaaGreat
open Go.Wx Go.RowKit
namespace Hs
theorem mapsKeys_any (b : Nat) (w : World) : Ret Tryz.prog 52 #[.map (some b)] w fun r w' => (∃ B, r = .func (.func 94) #[] #[.pointer (some ⟨B, 0, none⟩)] ∧ Blk w' B #[.map (some b)] 92 ∧ w.heap.size ≤ B) ∧ Up w w' := by
  have hW := Up.refl w
  refine Calls_start (n := 4) (m := 9) Tryz.func52 rfl rfl rfl ?_
  refine CW.seq (CW.region ?_)
  refine LW.r (REv.box1 (.tmp rfl) rfl) rfl rfl rfl rfl ?_
  rintro _ w1 ⟨B1, rfl, NB1⟩
  have eB1 := NB1.at_
  have zB1 := NB1.size
  replace hW := hW.up NB1.up
  have hB1 := NB1.blk
  refine LW.p (PEv.assign (.const _)) rfl rfl rfl (LW.nil (KW.then (CW.seq (CW.region ?_))))
  refine LW.p (PEv.makeFunc (.cons (.tmp rfl) .nil)) rfl rfl rfl ?_
  refine LW.p (PEv.assign (.tmp rfl)) rfl rfl rfl (LW.nil (KW.then (CW.ret ?_)))
  refine KW.ret1 rfl rfl ⟨_, rfl, ?_⟩
  exact ⟨⟨_, rfl, hB1, by omega⟩, hW⟩
theorem mapsKeys_iter (X Y : Nat → Prop) (B1 b : Nat) (kv : List (Int × Value)) (w : World) (hYY : ∀ i, Y i → i < w.heap.size) (hQX : ¬ X B1) (hbY : ¬ Y b) (hQ0 : Blk w B1 #[.map (some b)] 92) (hM0 : IMap w b kv) :
    IterS Tryz.prog 94 #[.pointer (some ⟨B1, 0, none⟩)] eInt X Y (fun ys => ys.Perm (kv.map (·.1))) (fun pre => pre.Nodup ∧ ∀ k ∈ pre, k ∈ kv.map (·.1)) kv.length w := by
  refine IterS.of ?_
  intro lp J Jx w0 hUw _ hY hJ
  obtain ⟨Bd, hBd⟩ : ∃ Bd, Bd = w0.heap.size := ⟨_, rfl⟩
  rw [← hBd] at hJ hY
  have zU := hUw.size
  have hQ := hQ0.up hUw
  have hM := hM0.up hUw
  have zQ0 := hQ.lt
  refine Calls_start (n := 14) (m := 9) Tryz.func94 rfl rfl rfl ?_
  refine CW.seq (CW.region ?_)
  refine LW.p (PEv.load Tryz.isAgg92 (.tmp rfl) (hQ.celln rfl)) rfl rfl rfl ?_
  refine LW.r (REv.range Tryz.underlying92 (.tmp rfl) hM) rfl rfl rfl rfl ?_
  rintro _ w1 ⟨r5, rfl, hR5, uw1, ew1, zw1⟩
  replace hQ := hQ.up uw1
  replace hM := hM.up uw1
  replace hJ := hJ.up uw1
  refine LW.nil (KW.then (CW.block ?_))
  refine CW.loop (σ := List Int) (fun s w => Jw Bd J s w ∧ Blk w B1 #[.map (some b)] 92 ∧ IRng w b r5 kv s) (fun s => [(0, .eq (.func (.yield lp) #[] #[])), (5, .eq (.pointer (some ⟨r5, 0, none⟩)))]) (fun s => kv.length - s.length) [] ?_ ?_ ?_
  ·exact ⟨hJ, hQ, hR5⟩
  ·exact ⟨rfl, rfl, trivial⟩
  ·rintro done w2 ⟨hJ, hQ, hR5⟩
   have zQ := hQ.lt
   refine CW.seq (CW.region ?_)
   refine LW.r (REv.next (.tmp rfl) hR5) rfl rfl rfl rfl ?_
   rintro _ w3 (⟨rfl, rfl, hPm⟩ | ⟨k, u, rfl, hNx⟩)
   ·skip
    refine LW.p (PEv.extract (.tmp rfl) rfl) rfl rfl rfl (LW.nil (KW.then (CW.seq ?_)))
    refine CW.cond_false (.tmp rfl) ?_
    refine CW.exit (KW.then_exit (KW.then_exit (KW.block_hit ?_)))
    refine KW.end0 rfl ⟨_, rfl, ?_⟩
    first | exact .inl ⟨_, hPm, hJ.j⟩ | exact .inr ⟨_, hR5.sub, hJx⟩
   ·skip
    obtain ⟨_, ho, hwk⟩ := hNx.walk
    replace hJ := hJ.walk hNx.grown (by omega) ho hwk
    replace hQ := hQ.sto hNx.sto (by omega)
    replace hR5 := hNx.rng
    have zw3 := hNx.size
    refine LW.p (PEv.extract (.tmp rfl) rfl) rfl rfl rfl (LW.nil (KW.then (CW.seq ?_)))
    refine CW.cond_true (.tmp rfl) ?_
    refine CW.skip (KW.then (CW.block (CW.seq (CW.region ?_))))
    refine LW.r (REv.entry (.tmp rfl) hNx.entry) rfl rfl rfl rfl ?_
    rintro _ _ ⟨rfl, rfl⟩
    refine LW.p (PEv.extract (.tmp rfl) rfl) rfl rfl rfl (LW.p (PEv.assign (.tmp rfl)) rfl rfl rfl (LW.nil (KW.then (CW.seq (CW.region (LW.p (PEv.move (.tmp rfl)) rfl rfl rfl (LW.p (PEv.move (.tmp rfl)) rfl rfl rfl ?_)))))))
    refine LW.y (.tmp rfl) (.cons (.tmp rfl) .nil) rfl rfl (hY done k _ hJ (by have := hR5.length; simp at this; omega)) ?_
    rintro _ w4 ⟨y, rfl, hcase⟩
    refine LW.p (PEv.not (.tmp rfl)) rfl rfl rfl ?_
    refine LW.nil (KW.then ?_)
    refine CW.cond (.tmp rfl) (fun h13 => ?_) (fun h13 => ?_)
    ·first | replace h13 := of_decide_eq_true h13 | replace h13 := of_decide_eq_false h13 | skip
     have hy : y = false := by simpa using h13
     subst hy
     obtain ⟨_, hJx⟩ := hcase.resolve_left (by simp)
     refine CW.ret (KW.block_ret (KW.then_ret (KW.block_ret ?_)))
     refine KW.ret0 rfl ⟨_, rfl, ?_⟩
     first | exact .inl ⟨_, hPm, hJ.j⟩ | exact .inr ⟨_, hR5.sub, hJx⟩
    ·first | replace h13 := of_decide_eq_true h13 | replace h13 := of_decide_eq_false h13 | skip
     have hy : y = true := by simpa using h13
     subst hy
     obtain ⟨_, hJ2, hN⟩ := hcase.resolve_right (by simp)
     replace hQ := hQ.kx hN hQX
     replace hR5 := hR5.kx hN hbY (fun h => by have := hYY _ h; omega)
     refine CW.skip (KW.inBlock (KW.round ?_))
     exact ⟨done ++ [k], ⟨hJ2, hQ, hR5⟩, ⟨rfl, rfl, trivial⟩, by have := hR5.length; simp at this ⊢; omega⟩
theorem appendSeq_any (g : Nat) (lb : Array Go.Value) (S Sp : List Int → Prop) (N : Nat) (w : World) (en : ∀ args w, (callFunc g args).run Tryz.prog w = .ok (.enter g args) w) (hit : ∀ W (X : Nat → Prop), Up w W → (∀ i, X i → w.heap.size ≤ i) → IterS Tryz.prog g lb eInt X (fun _ => False) S Sp N W) (hN0 : N ≤ 1000000000) : Ret Tryz.prog 126 #[.slice none 0 0, .func (.func g) #[] lb] w fun r w' => ∃ ks, S ks ∧ OwnS w' w.heap.size 3 1 eInt r ks ∧ Up w w' := by
  have hW := Up.refl w
  obtain ⟨w0, rfl⟩ : ∃ w0, w0 = w := ⟨_, rfl⟩
  refine Calls_startM (n := 13) Tryz.func126 rfl rfl rfl ?_
  refine CW.seq (CW.region ?_)
  refine LW.r (REv.box1 (.tmp rfl) rfl) rfl rfl rfl rfl ?_
  rintro _ w1 ⟨B2, rfl, NB2⟩
  have eB2 := NB2.at_
  have zB2 := NB2.size
  replace hW := hW.up NB2.up
  have hB2 := NB2.blk
  refine LW.p (PEv.assign (.const _)) rfl rfl rfl (LW.nil (KW.then (CW.seq (CW.seq (CW.region (LW.p (PEv.move (.tmp rfl)) rfl rfl rfl (LW.nil (KW.then (CW.block ?_)))))))))
  obtain ⟨bq, hbq⟩ : ∃ bq, bq = w1.heap.size := ⟨_, rfl⟩
  refine CW.rangeFunc (fun i => B2 ≤ i) (fun _ => False) (fun pre W => Sz bq W ∧ ∃ v, Blk W B2 #[v] 30 ∧ OwnS W (B2 + 1) 3 1 eInt v pre ∧ Up w0 W) (fun c pre W => Sz bq W ∧ False) (fun x a' W => Ag 13 [] ([(5, .eq (vi x)), (2, .eq (.pointer (some ⟨B2, 0, none⟩)))]) a' W) (.tmp rfl) en (hit _ _ hW (fun i (hi : B2 ≤ i) => by omega)) (fun _ => rfl) rfl ?_ ?_ ?_ ?_ ?_ ?_ ?_ ?_
  ·rw [← hbq]
   intro pre W W' row hs hg hr
   obtain ⟨hZ, v, hB2, hO, hW⟩ := hs
   exact ⟨hZ.ko (Ko.grown hg hr), v, hB2.ko (Ko.grown hg hr), hO.ko (Ko.grown hg hr), hW.ko (Ko.grown hg hr) (by omega)⟩
  ·rw [← hbq]
   intro c pre W W' row hs hg hr
   obtain ⟨hZ, hF⟩ := hs
   exact ⟨hZ.ko (Ko.grown hg hr), hF⟩
  ·intro x a' u W W' row hs hg hr
   exact hs.world rfl _
  ·exact ⟨Nat.le_of_eq hbq, _, hB2, OwnS.nil _ _ _ _ _, hW⟩
  ·rw [← hbq]
   intro lp pre x w2 K hs hk a ha
   obtain ⟨hZ, v, hB2, hO, hW⟩ := hs
   have zq := hZ.le
   have hK := Kf.refl bq w2
   have hN := Kx.refl bq (fun i => B2 ≤ i) (fun _ => False) w2
   revert a
   refine CW.assign1 (p := 7) rfl ?_
   refine CW.region (LW.p (PEv.assign (.tmp rfl)) rfl rfl rfl (LW.nil ?_))
   exact fun a ha => hk a _ hK hN ⟨hZ, v, hB2, hO, hW⟩ (ha.sub ⟨rfl, rfl, trivial⟩)
  ·rw [← hbq]
   intro lp pre x a' w3 hs hx hlt
   obtain ⟨hZ, v, hB2, hO, hW⟩ := hs
   have ha := hx
   have zq := hZ.le
   have hK := Kf.refl bq w3
   have hN := Kx.refl bq (fun i => B2 ≤ i) (fun _ => False) w3
   refine (show CW (some lp) 8 _ 13 [] _ (ownPostG bq (Kx bq (fun i => B2 ≤ i) (fun _ => False)) _ _ (pre ++ [x]) w3) ([(5, .eq (vi x)), (2, .eq (.pointer (some ⟨B2, 0, none⟩)))]) w3 from ?_) a' ha
   refine CW.block (CW.region ?_)
   refine LW.p (PEv.load Tryz.isAgg30 (.tmp rfl) (hB2.celln rfl)) rfl rfl rfl ?_
   refine LW.p (PEv.move (.tmp rfl)) rfl rfl rfl ?_
   refine LW.r (REv.buildSlice (xs := [x]) (enc := eInt) (mk := vi) Tryz.underlying30 Tryz.sizeOf3 Tryz.zeroValue3 rfl (by decide) (fun _ => rfl) (fun _ => rfl) (.cons (.tmp rfl) .nil) rfl) rfl rfl rfl rfl ?_
   rintro _ w4 ⟨B10, cB10, rfl, NB10, yB10, xB10⟩
   have eB10 := NB10.at_
   have zB10 := NB10.size
   replace hZ := hZ.up NB10.up
   replace hB2 := hB2.up NB10.up
   replace hO := hO.up NB10.up
   replace hW := hW.up NB10.up
   replace hK := hK.up NB10.up
   replace hN := hN.up NB10.up
   have hB10 := NB10.blk
   have hE10 := xB10
   refine LW.r (REv.append (enc := eInt) (base := B2 + 1) (bytes := 8) (i := Tryz.t3) Tryz.underlying30 (by kernel_rfl) rfl rfl rfl rfl (by decide) (fun _ => rfl) eInt_one (.tmp rfl) (.tmp rfl) hO (Sl.of_els hE10) (by simp) (by simp [maxLen]; omega) (by simp; omega) (by omega)) rfl rfl rfl rfl ?_
   rintro v11 w5 ⟨Ow5, Gw5⟩
   have zw5 := Gw5.size
   replace hZ := hZ.gr Gw5 rfl
   replace hB2 := hB2.gr Gw5 (by omega)
   replace hW := hW.gr Gw5 (by omega)
   replace hK := hK.gr Gw5
   replace hN := hN.gr Gw5 (fun i hi => by first | exact .inr (by omega) | exact .inl (by show _ ≤ _; omega))
   replace hO := Ow5
   refine LW.s (SEv.store Tryz.sizeOf30 (.tmp rfl) (.tmp rfl) hO.one hB2 (by simp)) rfl rfl rfl ?_
   intro w6 Nw6
   have zw6 := Nw6.size
   replace hZ := hZ.sto Nw6.sto (by omega)
   replace hO := hO.sto Nw6.sto (by omega)
   replace hW := hW.sto Nw6.sto (by omega)
   replace hK := hK.sto Nw6.sto (.inr (.inr ⟨_, _, hB2⟩))
   replace hN := hN.stoC Nw6.sto (⟨_, _, hB2⟩) (by first | exact .inr (by omega) | exact .inl rfl | exact .inl (by show _ ≤ _; omega))
   replace hB2 := Nw6.blk
   replace hB2 : Blk w6 B2 #[v11] _ := hB2
   refine LW.nil (KW.inBlock ?_)
   exact fun a ha => ⟨hK, hN, hZ, _, hB2, hO, hW⟩
  ·intro D ys w7 hDb hS hs hD
   rw [← hbq] at hDb
   obtain ⟨hZ, v, hB2, hO, hW⟩ := hs
   replace hD : Ob w7 D (.deferred (some [])) := hD
   have zD := hD.lt
   have zq := hZ.le
   refine KW.inBlock (KW.then (CW.seq (CW.region ?_)))
   refine LW.p (PEv.load Tryz.isAgg30 (.tmp rfl) (hB2.celln rfl)) rfl rfl rfl ?_
   refine LW.p (PEv.assign (.tmp rfl)) rfl rfl rfl (LW.nil (KW.then (CW.ret ?_)))
   refine KW.unmark hD rfl ?_
   replace hZ := hZ.ko (Ko.putObj (.deferred none) hD rfl hDb)
   replace hB2 := hB2.ko (Ko.putObj (.deferred none) hD rfl hDb)
   replace hO := hO.ko (Ko.putObj (.deferred none) hD rfl hDb)
   replace hW := hW.putObj (D := D) (.deferred none) (by omega)
   refine KW.ret1 rfl rfl ⟨_, rfl, ?_⟩
   exact ⟨ys, hS, hO.mono (by omega), hW⟩
  ·intro D c pre w8 hDb hpre hs hD
   rw [← hbq] at hDb
   obtain ⟨hZ, hF⟩ := hs
   replace hD : Ob w8 D (.deferred (some [])) := hD
   have zD := hD.lt
   have zq := hZ.le
   exact hF.elim
theorem sort_any (base e : Nat) (v : Value) (ks : List Int) (w : World) (h : OwnS w base e 1 eInt v ks) (hlen : ks.length < 4611686018427387904) : Ret Tryz.prog 84 #[v] w fun r w' => r = .tuple #[] ∧ OwnS w' base e 1 eInt v (ks.mergeSort fun x y => decide (x ≤ y)) ∧ Grew base w w' := by
  have h0 := h
  obtain ⟨h1, ⟨rfl, hn⟩ | ⟨g, cap, cur, rfl, hg, hb, h2, h3, h4, h5⟩⟩ := h
  · have hks : ks = [] := List.eq_nil_of_length_eq_zero hn
    subst hks
    refine Calls.mono (Tryz.slices_Sort_int_none none 0 w) ?_
    rintro e' w' ⟨rfl, rfl⟩
    exact ⟨_, rfl, rfl, by simpa using h0, ⟨rfl, rfl, rfl, Nat.le_refl _, fun _ _ _ => rfl, fun _ _ h _ => h⟩⟩
  · rw [flat_int] at h5
    have hl : g < w.heap.size := lt_of_block hb
    refine Calls.mono (Tryz.slices_Sort_int g 0 cap ks w (holds_of_blockI hb (by simpa using h5)) hl hlen) ?_
    rintro e' w' ⟨rfl, n, os, rfl⟩
    have hg2 := Go.grownBy_sortedI (w := w) (g := g) (n := n) (os := os) (ks.mergeSort fun x y => decide (x ≤ y)).toArray
    have ho := Go.ownsRow_sortedI (w := w) (n := n) (os := os) (ss := ks) (ts := ks.mergeSort fun x y => decide (x ≤ y)) (by simp) hg hb h2 h3 h4
    refine ⟨_, rfl, rfl, ?_, ⟨hg2.os, hg2.tape, hg2.output, hg2.size, fun i hi hi2 => hg2.block i hi (fun e => by cases e; omega), fun i o hi ho => (hg2.block i (lt_of_block hi) (fun e => by cases e; rw [hb] at hi; cases hi; cases ho)).trans hi⟩⟩
    show World.ownsRow _ _ _ _ _ _ _
    rw [flat_int, List.length_mergeSort]
    exact ho
theorem collect_any (g : Nat) (lb : Array Go.Value) (S Sp : List Int → Prop) (N : Nat) (w : World) (en : ∀ args w, (callFunc g args).run Tryz.prog w = .ok (.enter g args) w) (hit : ∀ W (X : Nat → Prop), Up w W → (∀ i, X i → w.heap.size ≤ i) → IterS Tryz.prog g lb eInt X (fun _ => False) S Sp N W) (hN0 : N ≤ 1000000000) : Ret Tryz.prog 83 #[.func (.func g) #[] lb] w fun r w' => ∃ ks, S ks ∧ OwnS w' w.heap.size 3 1 eInt r ks ∧ Up w w' := by
  have hW := Up.refl w
  refine Calls_start (n := 5) (m := 9) Tryz.func83 rfl rfl rfl ?_
  refine CW.seq (CW.region (LW.p (PEv.assign (.const _)) rfl rfl rfl (LW.nil (KW.then (CW.seq (CW.region (LW.p (PEv.move (.tmp rfl)) rfl rfl rfl ?_)))))))
  refine LW.c (enter_call0 (.cons (.const _) (.cons (.tmp rfl) .nil)) (Tryz.en126)) rfl rfl rfl rfl (appendSeq_any _ _ _ _ _ _ en hit hN0) ?_
  rintro _ w1 ⟨ks, hS, hO, uw1⟩
  have zw1 := uw1.size
  replace hW := hW.up uw1
  refine LW.p (PEv.assign (.tmp rfl)) rfl rfl rfl (LW.nil (KW.then (CW.ret ?_)))
  refine KW.ret1 rfl rfl ⟨_, rfl, ?_⟩
  exact ⟨ks, hS, hO, hW⟩
theorem sorted_any (g : Nat) (lb : Array Go.Value) (S Sp : List Int → Prop) (N : Nat) (w : World) (en : ∀ args w, (callFunc g args).run Tryz.prog w = .ok (.enter g args) w) (hit : ∀ W (X : Nat → Prop), Up w W → (∀ i, X i → w.heap.size ≤ i) → IterS Tryz.prog g lb eInt X (fun _ => False) S Sp N W) (hN0 : N ≤ 1000000000) (hS0 : ∀ ks, S ks → ks.length ≤ 1000000000) : Ret Tryz.prog 34 #[.func (.func g) #[] lb] w fun r w' => ∃ ks, S ks ∧ OwnS w' w.heap.size 3 1 eInt r (ks.mergeSort fun x y => decide (x ≤ y)) ∧ Up w w' := by
  have hW := Up.refl w
  refine Calls_start (n := 9) (m := 9) Tryz.func34 rfl rfl rfl ?_
  refine CW.seq (CW.region (LW.p (PEv.assign (.const _)) rfl rfl rfl (LW.nil (KW.then (CW.seq (CW.region (LW.p (PEv.move (.tmp rfl)) rfl rfl rfl ?_)))))))
  refine LW.c (enter_call0 (.cons (.tmp rfl) .nil) (Tryz.en83)) rfl rfl rfl rfl (collect_any _ _ _ _ _ _ en hit hN0) ?_
  rintro v w1 ⟨ks, hS, hO, uw1⟩
  have zw1 := uw1.size
  replace hW := hW.up uw1
  refine LW.p (PEv.assign (.tmp rfl)) rfl rfl rfl (LW.nil (KW.then (CW.seq (CW.region (LW.p (PEv.move (.tmp rfl)) rfl rfl rfl ?_)))))
  refine LW.c (enter_call0 (.cons (.tmp rfl) .nil) (Tryz.en84)) rfl rfl rfl rfl (sort_any _ _ _ _ _ hO (by have := hS0 ks hS; omega)) ?_
  rintro _ w2 ⟨rfl, hO2, uw2⟩
  have zw2 := uw2.size
  replace hW := hW.gr uw2 (by omega)
  replace hO := hO2
  refine LW.nil (KW.then (CW.seq (CW.region (LW.p (PEv.move (.tmp rfl)) rfl rfl rfl (LW.p (PEv.assign (.tmp rfl)) rfl rfl rfl (LW.nil (KW.then (CW.ret ?_))))))))
  refine KW.ret1 rfl rfl ⟨_, rfl, ?_⟩
  exact ⟨ks, hS, hO, hW⟩
end Hs
theorem wafDel_any (n : Int) (v : Go.Value) (w : World) : Ret Tryz.prog 51 #[vi n, v] w fun r w' => r = .bool (!isIDb n) ∧ Up w w' := by
  have hW := Up.refl w
  refine Calls_start (n := 8) (m := 9) Tryz.func51 rfl rfl rfl ?_
  refine CW.seq (CW.region (LW.p (PEv.assign (.const _)) rfl rfl rfl (LW.nil (KW.then (CW.seq (CW.region (LW.p (PEv.move (.tmp rfl)) rfl rfl rfl ?_)))))))
  refine LW.c (enter_call0 (.cons (.tmp rfl) .nil) (Tryz.en36)) rfl rfl rfl rfl (isID_any _ _) ?_
  rintro _ w1 ⟨rfl, uw1⟩
  have zw1 := uw1.size
  replace hW := hW.up uw1
  refine LW.p (PEv.not (.tmp rfl)) rfl rfl rfl ?_
  refine LW.p (PEv.assign (.tmp rfl)) rfl rfl rfl (LW.nil (KW.then (CW.ret ?_)))
  refine KW.ret1 rfl rfl ⟨_, rfl, ?_⟩
  exact ⟨rfl, hW⟩
theorem delW_any (b : Nat) (ks : List Int) (w : World) (hM : IMap w b (ks.map unitB)) : Ret Tryz.prog 50 #[.map (some b), .func (.func 51) #[] #[]] w fun r w' => r = .tuple #[] ∧ Stp (aIMap b (ks.map unitB)) (aIMap b ((ks.filter isIDb).map unitB)) w w' := by
  obtain ⟨w0, rfl⟩ : ∃ w0, w0 = w := ⟨_, rfl⟩
  have hS : Wx.Sep (aIMap b (ks.map unitB)).foot w0 w0 [aIMap b (ks.map unitB)] := Sep.cons (A := aIMap b (ks.map unitB)) hM (fun _ h => h) (Sep.start _ _) (by simp)
  refine Calls_start (n := 19) (m := 9) Tryz.func50 rfl rfl rfl ?_
  refine CW.seq (CW.region (LW.p (PEv.move (.tmp rfl)) rfl rfl rfl ?_))
  refine LW.r (REv.range Tryz.underlying92 (.tmp rfl) (hS.get 0 rfl)) rfl rfl rfl rfl ?_
  rintro _ w1 ⟨r7, rfl, hR_, uR, eR, zR⟩
  replace hS := hS.stp 0 rfl (stp_range hR_ uR eR)
  change Wx.Sep _ _ _ [_] at hS
  clear hR_
  refine LW.nil (KW.then (CW.block ?_))
  refine CW.loopB (σ := List Int) (fun s w => (s.Nodup ∧ ∀ k ∈ s, k ∈ ks) ∧ (Wx.Sep (aIMap b (ks.map unitB)).foot w0 w [aIRng b r7 ((curW ks s).map unitB) (s.filter isIDb)])) (fun s => []) ([(0, .eq _), (1, .eq _), (7, .eq _)]) (fun s => ks.length - s.length) [] ?_ ⟨rfl, rfl, rfl, trivial⟩ ?_
  ·exact ⟨⟨List.nodup_nil, fun _ h => by cases h⟩, by rw [curW_nil]; exact hS⟩
  ·rintro V w2 ⟨hV, hS⟩
   refine CW.seq (CW.region ?_)
   refine LW.r (REv.next (.tmp rfl) (hS.get 0 rfl)) rfl rfl rfl rfl ?_
   rintro _ w3 (⟨rfl, rfl, hPm⟩ | ⟨k0, u0, rfl, hNx⟩)
   ·skip
    refine LW.p (PEv.extract (.tmp rfl) rfl) rfl rfl rfl (LW.nil (KW.then (CW.seq ?_)))
    refine CW.cond_false (.tmp rfl) ?_
    refine CW.exit (KW.then_exit (KW.then_exit (KW.block_hit ?_)))
    refine KW.end0 rfl ⟨_, rfl, ?_⟩
    rw [curW_end hPm] at hS
    have hS2 := hS.stp 0 rfl (stp_rngEnd (hS.get 0 rfl))
    exact ⟨rfl, hS2.fr, hS2.get 0 rfl, fun _ h => .inl h⟩
   ·skip
    have zw3 := hNx.size
    replace hS := hS.stp 0 rfl (stp_next hNx)
    change Wx.Sep _ _ _ [_] at hS
    obtain ⟨hk0c, hu0⟩ := unitB_mem hNx.mem
    subst hu0
    obtain ⟨hk0V, hk0k⟩ := curW_fresh hk0c hNx.fresh
    have hV2 : (V ++ [k0]).Nodup ∧ ∀ k ∈ V ++ [k0], k ∈ ks := ⟨List.nodup_append.2 ⟨hV.1, by simp, fun a ha c hc => by simp at hc; subst hc; exact fun e => hk0V (e ▸ ha)⟩, fun k hk => (List.mem_append.1 hk).elim (hV.2 k) (fun h => by cases List.mem_singleton.1 h; exact hk0k)⟩
    have hVl := hV2.1.length_le_of_subset hV2.2
    rw [List.length_append, List.length_singleton] at hVl
    refine LW.p (PEv.extract (.tmp rfl) rfl) rfl rfl rfl (LW.nil (KW.then (CW.seq ?_)))
    refine CW.cond_true (.tmp rfl) ?_
    refine CW.skip (KW.then (CW.block (CW.seq (CW.region ?_))))
    refine LW.r (REv.entry (.tmp rfl) hNx.entry) rfl rfl rfl rfl ?_
    rintro _ _ ⟨rfl, rfl⟩
    refine LW.p (PEv.extract (.tmp rfl) rfl) rfl rfl rfl (LW.p (PEv.extract (.tmp rfl) rfl) rfl rfl rfl (LW.p (PEv.assign (.tmp rfl)) rfl rfl rfl (LW.p (PEv.assign (.tmp rfl)) rfl rfl rfl (LW.nil (KW.then (CW.seq (CW.region (LW.p (PEv.move (.tmp rfl)) rfl rfl rfl (LW.p (PEv.move (.tmp rfl)) rfl rfl rfl (LW.p (PEv.move (.tmp rfl)) rfl rfl rfl ?_))))))))))
    refine LW.c (enter_callv (.tmp rfl) (.cons (.tmp rfl) (.cons (.tmp rfl) .nil)) (Tryz.en51)) rfl rfl rfl rfl (wafDel_any _ _ _) ?_
    rintro _ w4 ⟨rfl, uw4⟩
    have zw4 := uw4.size
    replace hS := hS.up uw4
    refine LW.nil (KW.then ?_)
    refine CW.cond (.tmp rfl) (fun h16 => ?_) (fun h16 => ?_)
    ·first | replace h16 := of_decide_eq_true h16 | replace h16 := of_decide_eq_false h16 | skip
     have hid : isIDb k0 = false := by simpa using h16
     refine CW.region (LW.p (PEv.move (.tmp rfl)) rfl rfl rfl (LW.p (PEv.move (.tmp rfl)) rfl rfl rfl ?_))
     refine LW.rn (REv.deleteR Tryz.underlying92 Tryz.underlying3 (.tmp rfl) (.tmp rfl) (hS.get 0 rfl)) rfl rfl rfl ?_
     rintro _ w5 ⟨hR2, Kd, zd⟩
     replace hS := hS.stp 0 rfl (stp_rng hR2 Kd)
     change Wx.Sep _ _ _ [_] at hS
     clear hR2 Kd
     refine LW.nil (KW.inBlock (KW.round ?_))
     exact ⟨V ++ [k0], ⟨hV2, by first | (rw [curW_yes ks V hid, filt_snoc_yes V hid]; exact hS) | (rw [curW_no ks V hid, filt_snoc_no V hid]; exact hS)⟩, ⟨rfl, rfl, rfl, trivial⟩, by rw [List.length_append, List.length_singleton]; omega⟩
    ·first | replace h16 := of_decide_eq_true h16 | replace h16 := of_decide_eq_false h16 | skip
     have hid : isIDb k0 = true := by simpa using h16
     refine CW.skip (KW.inBlock (KW.round ?_))
     exact ⟨V ++ [k0], ⟨hV2, by first | (rw [curW_yes ks V hid, filt_snoc_yes V hid]; exact hS) | (rw [curW_no ks V hid, filt_snoc_no V hid]; exact hS)⟩, ⟨rfl, rfl, rfl, trivial⟩, by rw [List.length_append, List.length_singleton]; omega⟩
theorem Wafers_any (bc : Array Go.Value) (bs : Base) (w : World) (hC : BaseC w bc bs) (hs : bs.Swaps.length ≤ 1000000000) (hsum : bs.Lots.length + bs.Processes.length ≤ 1000000000) : Ret Tryz.prog 24 #[.agg bc] w fun r w' => OwnS w' w.heap.size 3 1 eInt r (wafersL bs.Lots bs.Processes bs.Swaps) ∧ Up w w' := by
  obtain ⟨w0, rfl⟩ : ∃ w0, w0 = w := ⟨_, rfl⟩
  have hS := Sep.start no w0
  refine Calls_start (n := 40) (m := 9) Tryz.func24 rfl rfl rfl ?_
  refine CW.seq (CW.region ?_)
  refine LW.r (REv.boxA (.tmp rfl)) rfl rfl rfl rfl ?_
  rintro _ w1 ⟨B1, rfl, NB1⟩
  have eB1 := NB1.at_
  have zB1 := NB1.size
  replace hS := hS.addB NB1
  change Wx.Sep _ _ _ [_] at hS
  refine LW.p (PEv.assign (.const _)) rfl rfl rfl (LW.nil (KW.then (CW.seq (CW.region ?_))))
  refine LW.r REv.makeMap rfl rfl rfl rfl ?_
  rintro _ w2 ⟨M8, rfl, hMM8, uw2, eM8, zw2⟩
  replace hS := hS.add uw2 (A' := aIMap M8 (([] : List Int).map unitB)) hMM8 (fun i (h : i = M8) => by omega)
  change Wx.Sep _ _ _ [_, _] at hS
  refine LW.p (PEv.assign (.tmp rfl)) rfl rfl rfl (LW.nil (KW.then (CW.seq (CW.seq ?_))))
  obtain ⟨v3, h3, ad, cp, rfl, hE0⟩ := hC.at3
  refine CW.region ?_
  refine LW.p (PEv.fieldAddr (off := 3) Tryz.underlying27 rfl rfl Tryz.sizeOf22 rfl (.tmp rfl)) rfl rfl rfl ?_
  refine LW.p (PEv.load Tryz.isAgg22 (.tmp rfl) ((hS.blk 0 rfl).cell h3)) rfl rfl rfl ?_
  refine LW.p (PEv.lenS Tryz.underlying22 (.tmp rfl)) rfl rfl rfl ?_
  refine LW.p (PEv.move (.const _)) rfl rfl rfl ?_
  refine LW.nil (KW.then (CW.block ?_))
  refine CW.loopB (σ := Nat) (fun s w => (s ≤ bs.Lots.length) ∧ (Wx.Sep no w0 w [aBlk B1 bc 27, aIMap M8 ((lotK (bs.Lots.take s)).map unitB)])) (fun s => [(12, .eq (vi (s : Int)))]) ([(1, .eq _), (2, .eq _), (3, .eq _), (10, .eq _), (11, .eq _)]) (fun s => bs.Lots.length - s) 0 ?_ ⟨rfl, rfl, rfl, rfl, rfl, rfl, trivial⟩ ?_
  ·exact ⟨Nat.zero_le _, hS⟩
  ·rintro k w3 ⟨hk, hS⟩
   refine CW.seq (CW.region ?_)
   refine LW.p (PEv.lss (.tmp rfl) (.tmp rfl)) rfl rfl rfl ?_
   refine LW.nil (KW.then (CW.seq ?_))
   refine CW.cond (.tmp rfl) (fun h13 => ?_) (fun h13 => ?_)
   ·first | replace h13 := of_decide_eq_true h13 | replace h13 := of_decide_eq_false h13 | skip
    refine CW.skip (KW.then (CW.seq (CW.block (CW.seq ?_))))
    have hE := Els.up hE0 hS.upd
    refine CW.region ?_
    obtain ⟨x, hx⟩ := getElem?_of_lt (xs := bs.Lots) (i := k) (by omega)
    obtain ⟨Bx, ox, ax, hcx⟩ := hE _ x hx
    refine LW.p (PEv.indexAddr' Tryz.underlying22 Tryz.sizeOf35 (.tmp rfl) (.tmp rfl) (by omega) ax) rfl rfl rfl ?_
    refine LW.p (PEv.loadA Tryz.isAgg35 Tryz.sizeOf35 rfl (.tmp rfl) (hcx)) rfl rfl rfl ?_
    refine LW.r (REv.allocA Tryz.zeroValue35) rfl rfl rfl rfl ?_
    rintro _ w4 ⟨B5, rfl, MB5⟩
    refine LW.s (SEv.storeA Tryz.sizeOf35 rfl (.tmp rfl) (.tmp rfl) (Fact.one _) MB5.blk rfl) rfl rfl rfl ?_
    intro w5 LB5
    have NB5 := MB5.set LB5
    clear LB5 MB5
    have eB5 := NB5.at_
    have zB5 := NB5.size
    replace hcx := hcx.up NB5.up
    replace hS := hS.addB NB5
    change Wx.Sep _ _ _ [_, _, _] at hS
    refine LW.nil (KW.then (CW.region (LW.p (PEv.move (.tmp rfl)) rfl rfl rfl ?_)))
    refine LW.p (PEv.fieldAddr (off := 7) Tryz.underlying35 rfl rfl Tryz.sizeOf3 rfl (.tmp rfl)) rfl rfl rfl ?_
    refine LW.p (PEv.load Tryz.isAgg3 (.tmp rfl) ((hS.blk 2 rfl).celln rfl)) rfl rfl rfl ?_
    refine LW.s (SEv.mapUpdate Tryz.underlying92 Tryz.underlying3 (.tmp rfl) (.tmp rfl) (.const _) (hS.get 1 rfl)) rfl rfl rfl ?_
    rintro w6 ⟨Mu, Ku, zu⟩
    rw [mset_unitB] at Mu
    replace hS := hS.stp 1 rfl (stp_set Mu Ku)
    change Wx.Sep _ _ _ [_, _, _] at hS
    clear Mu Ku
    refine LW.nil (KW.inBlock (KW.then (CW.region ?_)))
    refine LW.p (PEv.inc (.tmp rfl) (by omega)) rfl rfl rfl ?_
    refine LW.p (PEv.move (.tmp rfl)) rfl rfl rfl (LW.nil (KW.round ?_))
    exact ⟨k + 1, ⟨by omega, by rw [lotK_step hx]; exact hS.take 2⟩, ⟨rfl, rfl, rfl, rfl, rfl, rfl, trivial⟩, by first | omega | (dsimp only; omega)⟩
   ·first | replace h13 := of_decide_eq_true h13 | replace h13 := of_decide_eq_false h13 | skip
    refine CW.exit (KW.then_exit (KW.then_exit (KW.block_hit (KW.then (CW.seq (CW.seq ?_))))))
    obtain ⟨v0, h0, ad', cp', rfl, hE1⟩ := hC.at0
    have hkl : k = bs.Lots.length := by omega
    rw [hkl, List.take_length] at hS
    refine CW.region ?_
    refine LW.p (PEv.fieldAddr (off := 0) Tryz.underlying27 rfl rfl Tryz.sizeOf22 rfl (.tmp rfl)) rfl rfl rfl ?_
    refine LW.p (PEv.load Tryz.isAgg22 (.tmp rfl) ((hS.blk 0 rfl).cell h0)) rfl rfl rfl ?_
    refine LW.p (PEv.lenS Tryz.underlying22 (.tmp rfl)) rfl rfl rfl ?_
    refine LW.p (PEv.move (.const _)) rfl rfl rfl ?_
    refine LW.nil (KW.then (CW.block ?_))
    refine CW.loopB (σ := Nat) (fun s w => (s ≤ bs.Processes.length) ∧ (Wx.Sep no w0 w [aBlk B1 bc 27, aIMap M8 ((proK bs.Swaps (lotK bs.Lots) (bs.Processes.take s)).map unitB)])) (fun s => [(23, .eq (vi (s : Int)))]) ([(1, .eq _), (2, .eq _), (3, .eq _), (21, .eq _), (22, .eq _)]) (fun s => bs.Processes.length - s) 0 ?_ ⟨rfl, rfl, rfl, rfl, rfl, rfl, trivial⟩ ?_
    ·exact ⟨Nat.zero_le _, hS⟩
    ·rintro j w7 ⟨hj, hS⟩
     refine CW.seq (CW.region ?_)
     refine LW.p (PEv.lss (.tmp rfl) (.tmp rfl)) rfl rfl rfl ?_
     refine LW.nil (KW.then (CW.seq ?_))
     refine CW.cond (.tmp rfl) (fun h24 => ?_) (fun h24 => ?_)
     ·first | replace h24 := of_decide_eq_true h24 | replace h24 := of_decide_eq_false h24 | skip
      refine CW.skip (KW.then (CW.seq (CW.block (CW.seq ?_))))
      have hE := Els.up hE1 hS.upd
      refine CW.region ?_
      obtain ⟨x, hx⟩ := getElem?_of_lt (xs := bs.Processes) (i := j) (by omega)
      obtain ⟨Bx, ox, ax, hcx⟩ := hE _ x hx
      refine LW.p (PEv.indexAddr' Tryz.underlying22 Tryz.sizeOf35 (.tmp rfl) (.tmp rfl) (by omega) ax) rfl rfl rfl ?_
      refine LW.p (PEv.loadA Tryz.isAgg35 Tryz.sizeOf35 rfl (.tmp rfl) (hcx)) rfl rfl rfl ?_
      refine LW.r (REv.allocA Tryz.zeroValue35) rfl rfl rfl rfl ?_
      rintro _ w8 ⟨B7, rfl, MB7⟩
      refine LW.s (SEv.storeA Tryz.sizeOf35 rfl (.tmp rfl) (.tmp rfl) (Fact.one _) MB7.blk rfl) rfl rfl rfl ?_
      intro w9 LB7
      have NB7 := MB7.set LB7
      clear LB7 MB7
      have eB7 := NB7.at_
      have zB7 := NB7.size
      replace hcx := hcx.up NB7.up
      replace hS := hS.addB NB7
      change Wx.Sep _ _ _ [_, _, _] at hS
      refine LW.nil (KW.then (CW.region (LW.p (PEv.move (.tmp rfl)) rfl rfl rfl ?_)))
      refine LW.p (PEv.loadA Tryz.isAgg27 Tryz.sizeOf27 (hC.size) (.tmp rfl) ((hS.blk 0 rfl).agg)) rfl rfl rfl ?_
      refine LW.p (PEv.fieldAddr (off := 7) Tryz.underlying35 rfl rfl Tryz.sizeOf3 rfl (.tmp rfl)) rfl rfl rfl ?_
      refine LW.p (PEv.load Tryz.isAgg3 (.tmp rfl) ((hS.blk 2 rfl).celln rfl)) rfl rfl rfl ?_
      refine LW.p (PEv.fieldAddr (off := 5) Tryz.underlying35 rfl rfl Tryz.sizeOf3 rfl (.tmp rfl)) rfl rfl rfl ?_
      refine LW.p (PEv.load Tryz.isAgg3 (.tmp rfl) ((hS.blk 2 rfl).celln rfl)) rfl rfl rfl ?_
      refine LW.c (enter_call0 (.cons (.tmp rfl) (.cons (.tmp rfl) (.cons (.tmp rfl) .nil))) (Tryz.en49)) rfl rfl rfl rfl (Who_any bc bs _ _ _ (hC.up hS.upd) hs) ?_
      rintro _ w10 ⟨rfl, uw10⟩
      have zw10 := uw10.size
      replace hS := hS.up uw10
      refine LW.s (SEv.mapUpdate Tryz.underlying92 Tryz.underlying3 (.tmp rfl) (.tmp rfl) (.const _) (hS.get 1 rfl)) rfl rfl rfl ?_
      rintro w11 ⟨Mu, Ku, zu⟩
      rw [mset_unitB] at Mu
      replace hS := hS.stp 1 rfl (stp_set Mu Ku)
      change Wx.Sep _ _ _ [_, _, _] at hS
      clear Mu Ku
      refine LW.nil (KW.inBlock (KW.then (CW.region ?_)))
      refine LW.p (PEv.inc (.tmp rfl) (by omega)) rfl rfl rfl ?_
      refine LW.p (PEv.move (.tmp rfl)) rfl rfl rfl (LW.nil (KW.round ?_))
      exact ⟨j + 1, ⟨by omega, by rw [proK_step hx]; exact hS.take 2⟩, ⟨rfl, rfl, rfl, rfl, rfl, rfl, trivial⟩, by first | omega | (dsimp only; omega)⟩
     ·first | replace h24 := of_decide_eq_true h24 | replace h24 := of_decide_eq_false h24 | skip
      refine CW.exit (KW.then_exit (KW.then_exit (KW.block_hit (KW.then (CW.seq ?_)))))
      have hjl : j = bs.Processes.length := by omega
      rw [hjl, List.take_length] at hS
      have hml := Nat.le_trans (List.length_filter_le isIDb _) (Nat.le_trans (proK_len bs.Swaps (lotK bs.Lots) bs.Processes) (Nat.add_le_add_right (lotK_len bs.Lots) _))
      refine CW.region (LW.p (PEv.move (.tmp rfl)) rfl rfl rfl ?_)
      refine LW.c (enter_call0 (.cons (.tmp rfl) (.cons (.func _) .nil)) (Tryz.en50)) rfl rfl rfl rfl (delW_any M8 _ _ (hS.get 1 rfl)) ?_
      rintro _ w12 ⟨rfl, uw12⟩
      have zw12 := uw12.fr.size
      replace hS := hS.stp 1 rfl uw12
      change Wx.Sep _ _ _ [_, _] at hS
      refine LW.nil (KW.then (CW.seq (CW.region (LW.p (PEv.move (.tmp rfl)) rfl rfl rfl ?_))))
      refine LW.c (enter_call0 (.cons (.tmp rfl) .nil) (Tryz.en52)) rfl rfl rfl rfl (Hs.mapsKeys_any _ _) ?_
      rintro _ w13 ⟨⟨BK, rfl, hBK, zK⟩, uw13⟩
      have zw13 := uw13.size
      replace hS := hS.up uw13
      have zBK := hBK.lt
      have zz := hS.upd.size
      refine LW.c (enter_call0 (.cons (.tmp rfl) .nil) (Tryz.en34)) rfl rfl rfl rfl (Hs.sorted_any _ _ _ _ _ _ Tryz.en94 (fun W X u hX => Hs.mapsKeys_iter X _ BK M8 _ W (fun i h => h.elim) (fun h => by have := hX _ h; omega) (fun h => h.elim) (hBK.up u) (((hS.get 1 rfl : IMap _ _ _)).up u)) (by rw [List.length_map]; omega) (fun ks h => by have := h.length_eq; rw [unitB_keys] at this; omega)) ?_
      rintro v w14 ⟨ks, hP, hO, uw14⟩
      have zw14 := uw14.size
      replace hS := hS.up uw14
      replace hBK := hBK.up uw14
      rw [unitB_keys] at hP
      rw [sort_perm hP] at hO
      replace hO := hO.mono (show w0.heap.size ≤ _ by omega)
      refine LW.p (PEv.assign (.tmp rfl)) rfl rfl rfl (LW.nil (KW.then (CW.ret ?_)))
      refine KW.ret1 rfl rfl ⟨_, rfl, ?_⟩
      exact ⟨hO, hS.upd⟩
end Go.Proofs.YtolkipbpklkcnaaGreat
end
section
namespace Go.Wx
def unit1 (k : Int) : Int × Value := (k, .agg #[])
def setAdd (ks : List Int) (k : Int) : List Int := if k ∈ ks then ks else ks ++ [k]
theorem mset_unit (ks : List Int) (k : Int) : mset (ks.map unit1) k (.agg #[]) = (setAdd ks k).map unit1 := by
  have e : (ks.map unit1).map (·.1) = ks := by simp [List.map_map, Function.comp_def, unit1]
  unfold mset setAdd
  rw [e]
  by_cases h : k ∈ ks
  · rw [if_pos h, if_pos h, List.map_map]
    refine List.map_congr_left fun x _ => ?_
    show (if x = k then (k, Value.agg #[]) else unit1 x) = unit1 x
    by_cases hx : x = k
    · subst hx; rw [if_pos rfl]; rfl
    · rw [if_neg hx]
  · rw [if_neg h, if_neg h]; simp [unit1]
end Go.Wx
namespace Go.Proofs.YtolkipbpklkcnaaGreat
open Go.Wx Go.RowKit
theorem mapsKeys_any (b : Nat) (w : World) : Ret Tryz.prog 35 #[.map (some b)] w fun r w' => (∃ B, r = .func (.func 85) #[] #[.pointer (some ⟨B, 0, none⟩)] ∧ Blk w' B #[.map (some b)] 69 ∧ w.heap.size ≤ B) ∧ Up w w' := by
  have hW := Up.refl w
  refine Calls_start (n := 4) (m := 9) Tryz.func35 rfl rfl rfl ?_
  refine CW.seq (CW.region ?_)
  refine LW.r (REv.box1 (.tmp rfl) rfl) rfl rfl rfl rfl ?_
  rintro _ w1 ⟨B1, rfl, NB1⟩
  have eB1 := NB1.at_
  have zB1 := NB1.size
  replace hW := hW.up NB1.up
  have hB1 := NB1.blk
  refine LW.p (PEv.assign (.const _)) rfl rfl rfl (LW.nil (KW.then (CW.seq (CW.region ?_))))
  refine LW.p (PEv.makeFunc (.cons (.tmp rfl) .nil)) rfl rfl rfl ?_
  refine LW.p (PEv.assign (.tmp rfl)) rfl rfl rfl (LW.nil (KW.then (CW.ret ?_)))
  refine KW.ret1 rfl rfl ⟨_, rfl, ?_⟩
  exact ⟨⟨_, rfl, hB1, by omega⟩, hW⟩
theorem mapsKeys_iter (X Y : Nat → Prop) (B1 b : Nat) (kv : List (Int × Value)) (w : World) (hYY : ∀ i, Y i → i < w.heap.size) (hQX : ¬ X B1) (hbY : ¬ Y b) (hQ0 : Blk w B1 #[.map (some b)] 69) (hM0 : IMap w b kv) :
    IterS Tryz.prog 85 #[.pointer (some ⟨B1, 0, none⟩)] eInt X Y (fun ys => ys.Perm (kv.map (·.1))) (fun pre => pre.Nodup ∧ ∀ k ∈ pre, k ∈ kv.map (·.1)) kv.length w := by
  refine IterS.of ?_
  intro lp J Jx w0 hUw _ hY hJ
  obtain ⟨Bd, hBd⟩ : ∃ Bd, Bd = w0.heap.size := ⟨_, rfl⟩
  rw [← hBd] at hJ hY
  have zU := hUw.size
  have hQ := hQ0.up hUw
  have hM := hM0.up hUw
  have zQ0 := hQ.lt
  refine Calls_start (n := 14) (m := 9) Tryz.func85 rfl rfl rfl ?_
  refine CW.seq (CW.region ?_)
  refine LW.p (PEv.load Tryz.isAgg69 (.tmp rfl) (hQ.celln rfl)) rfl rfl rfl ?_
  refine LW.r (REv.range Tryz.underlying69 (.tmp rfl) hM) rfl rfl rfl rfl ?_
  rintro _ w1 ⟨r5, rfl, hR5, uw1, ew1, zw1⟩
  replace hQ := hQ.up uw1
  replace hM := hM.up uw1
  replace hJ := hJ.up uw1
  refine LW.nil (KW.then (CW.block ?_))
  refine CW.loop (σ := List Int) (fun s w => Jw Bd J s w ∧ Blk w B1 #[.map (some b)] 69 ∧ IRng w b r5 kv s) (fun s => [(0, .eq (.func (.yield lp) #[] #[])), (5, .eq (.pointer (some ⟨r5, 0, none⟩)))]) (fun s => kv.length - s.length) [] ?_ ?_ ?_
  ·exact ⟨hJ, hQ, hR5⟩
  ·exact ⟨rfl, rfl, trivial⟩
  ·rintro done w2 ⟨hJ, hQ, hR5⟩
   have zQ := hQ.lt
   refine CW.seq (CW.region ?_)
   refine LW.r (REv.next (.tmp rfl) hR5) rfl rfl rfl rfl ?_
   rintro _ w3 (⟨rfl, rfl, hPm⟩ | ⟨k, u, rfl, hNx⟩)
   ·skip
    refine LW.p (PEv.extract (.tmp rfl) rfl) rfl rfl rfl (LW.nil (KW.then (CW.seq ?_)))
    refine CW.cond_false (.tmp rfl) ?_
    refine CW.exit (KW.then_exit (KW.then_exit (KW.block_hit ?_)))
    refine KW.end0 rfl ⟨_, rfl, ?_⟩
    first | exact .inl ⟨_, hPm, hJ.j⟩ | exact .inr ⟨_, hR5.sub, hJx⟩
   ·skip
    obtain ⟨_, ho, hwk⟩ := hNx.walk
    replace hJ := hJ.walk hNx.grown (by omega) ho hwk
    replace hQ := hQ.sto hNx.sto (by omega)
    replace hR5 := hNx.rng
    have zw3 := hNx.size
    refine LW.p (PEv.extract (.tmp rfl) rfl) rfl rfl rfl (LW.nil (KW.then (CW.seq ?_)))
    refine CW.cond_true (.tmp rfl) ?_
    refine CW.skip (KW.then (CW.block (CW.seq (CW.region ?_))))
    refine LW.r (REv.entry (.tmp rfl) hNx.entry) rfl rfl rfl rfl ?_
    rintro _ _ ⟨rfl, rfl⟩
    refine LW.p (PEv.extract (.tmp rfl) rfl) rfl rfl rfl (LW.p (PEv.assign (.tmp rfl)) rfl rfl rfl (LW.nil (KW.then (CW.seq (CW.region (LW.p (PEv.move (.tmp rfl)) rfl rfl rfl (LW.p (PEv.move (.tmp rfl)) rfl rfl rfl ?_)))))))
    refine LW.y (.tmp rfl) (.cons (.tmp rfl) .nil) rfl rfl (hY done k _ hJ (by have := hR5.length; simp at this; omega)) ?_
    rintro _ w4 ⟨y, rfl, hcase⟩
    refine LW.p (PEv.not (.tmp rfl)) rfl rfl rfl ?_
    refine LW.nil (KW.then ?_)
    refine CW.cond (.tmp rfl) (fun h13 => ?_) (fun h13 => ?_)
    ·first | replace h13 := of_decide_eq_true h13 | replace h13 := of_decide_eq_false h13 | skip
     have hy : y = false := by simpa using h13
     subst hy
     obtain ⟨_, hJx⟩ := hcase.resolve_left (by simp)
     refine CW.ret (KW.block_ret (KW.then_ret (KW.block_ret ?_)))
     refine KW.ret0 rfl ⟨_, rfl, ?_⟩
     first | exact .inl ⟨_, hPm, hJ.j⟩ | exact .inr ⟨_, hR5.sub, hJx⟩
    ·first | replace h13 := of_decide_eq_true h13 | replace h13 := of_decide_eq_false h13 | skip
     have hy : y = true := by simpa using h13
     subst hy
     obtain ⟨_, hJ2, hN⟩ := hcase.resolve_right (by simp)
     replace hQ := hQ.kx hN hQX
     replace hR5 := hR5.kx hN hbY (fun h => by have := hYY _ h; omega)
     refine CW.skip (KW.inBlock (KW.round ?_))
     exact ⟨done ++ [k], ⟨hJ2, hQ, hR5⟩, ⟨rfl, rfl, trivial⟩, by have := hR5.length; simp at this ⊢; omega⟩
end Go.Proofs.YtolkipbpklkcnaaGreat
end
section
namespace Go.Wx
def stopB (b : Base) (a : GAct) (f : Fact) : Bool := namesB f b.Lots a && !overB f b.Releases a.Time
def stopStep (b : Base) (a : GAct) (ks : List Int) (f : Fact) : List Int := if stopB b a f = true then setAdd ks f.ID else ks
def stopKs (b : Base) (a : GAct) (l : List Fact) : List Int := l.foldl (stopStep b a) []
def stopsOf (b : Base) (a : GAct) : List Int := (stopKs b a (b.Holds.filter isHoldB)).mergeSort fun x y => decide (x ≤ y)
theorem stopKs_snoc (b : Base) (a : GAct) (l : List Fact) (f : Fact) : stopKs b a (l ++ [f]) = stopStep b a (stopKs b a l) f := by simp [stopKs]
theorem setAdd_length (ks : List Int) (k : Int) : (setAdd ks k).length ≤ ks.length + 1 := by unfold setAdd; split <;> simp
theorem foldl_length (b : Base) (a : GAct) : ∀ (l : List Fact) (ks : List Int), (l.foldl (stopStep b a) ks).length ≤ ks.length + l.length
  | [], _ => Nat.le_refl _
  | f :: l, ks => by
    rw [List.foldl_cons, List.length_cons]
    have h1 := foldl_length b a l (stopStep b a ks f)
    have h2 : (stopStep b a ks f).length ≤ ks.length + 1 := by unfold stopStep; split; exact setAdd_length _ _; omega
    omega
theorem stopKs_length (b : Base) (a : GAct) (l : List Fact) : (stopKs b a l).length ≤ l.length := by have := foldl_length b a l []; simpa [stopKs] using this
theorem unit1_keys (ks : List Int) : (ks.map unit1).map (·.1) = ks := by simp [List.map_map, Function.comp_def, unit1]
end Go.Wx
namespace Go.Proofs.YtolkipbpklkcnaaGreat
open Go.Wx Go.RowKit
theorem Stops_any (bc : Array Go.Value) (b : Base) (a : GAct) (w : World) (hC : BaseC w bc b) (hH : b.Holds.length ≤ 1000000000) (hR : b.Releases.length < 9223372036854775807) (hL : b.Lots.length < 9223372036854775807) : Ret Tryz.prog 12 #[.agg bc, .agg a.cells] w fun r w' => OwnS w' w.heap.size 3 1 eInt r (stopsOf b a) ∧ Up w w' := by
  have hW := Up.refl w
  obtain ⟨w0, rfl⟩ : ∃ w0, w0 = w := ⟨_, rfl⟩
  refine Calls_startM (n := 28) Tryz.func12 rfl rfl rfl ?_
  refine CW.seq (CW.region ?_)
  refine LW.r (REv.boxA (.tmp rfl)) rfl rfl rfl rfl ?_
  rintro _ w1 ⟨B2, rfl, NB2⟩
  have eB2 := NB2.at_
  have zB2 := NB2.size
  replace hC := hC.up NB2.up
  replace hW := hW.up NB2.up
  have hB2 := NB2.blk
  refine LW.r (REv.boxA (.tmp rfl)) rfl rfl rfl rfl ?_
  rintro _ w2 ⟨B3, rfl, NB3⟩
  have eB3 := NB3.at_
  have zB3 := NB3.size
  replace hC := hC.up NB3.up
  replace hW := hW.up NB3.up
  replace hB2 := hB2.up NB3.up
  have hB3 := NB3.blk
  refine LW.p (PEv.assign (.const _)) rfl rfl rfl (LW.nil (KW.then (CW.seq ?_)))
  have hU1 := Up.refl w2
  have hBs := hB2
  have hCs := hC
  refine CW.region ?_
  refine LW.r REv.makeMap rfl rfl rfl rfl ?_
  rintro _ w3 ⟨B7, rfl, MB7, uB7, eB7, zB7⟩
  replace hW := hW.up uB7
  replace hB3 := hB3.up uB7
  replace hU1 := hU1.up uB7
  have hM7 := MB7
  refine LW.r (REv.alloc1 Tryz.zeroValue69 rfl) rfl rfl rfl rfl ?_
  rintro _ w4 ⟨B5, rfl, MB5⟩
  refine LW.s (SEv.store Tryz.sizeOf69 (.tmp rfl) (.tmp rfl) rfl MB5.blk (by decide)) rfl rfl rfl ?_
  intro w5 LB5
  have NB5 := MB5.set LB5
  clear LB5 MB5
  have eB5 := NB5.at_
  have zB5 := NB5.size
  replace hW := hW.up NB5.up
  replace hB3 := hB3.up NB5.up
  replace hU1 := hU1.up NB5.up
  replace hM7 := hM7.up NB5.up
  have hB5 := NB5.blk
  refine LW.nil (KW.then (CW.seq (CW.seq (CW.region ?_))))
  refine LW.c (enter_call0 (.cons (.tmp rfl) .nil) (Tryz.en31)) rfl rfl rfl rfl (all_any _ _) ?_
  rintro _ w6 ⟨⟨BA, rfl, hA, zA⟩, uw6⟩
  have zw6 := uw6.size
  replace hW := hW.up uw6
  replace hB3 := hB3.up uw6
  replace hU1 := hU1.up uw6
  replace hM7 := hM7.up uw6
  replace hB5 := hB5.up uw6
  refine LW.nil (KW.then (CW.block ?_))
  obtain ⟨bq, hbq⟩ : ∃ bq, bq = w6.heap.size := ⟨_, rfl⟩
  refine CW.rangeFunc (fun _ => False) (fun i => i = B7) (fun pre W => Sz bq W ∧ Blk W B3 a.cells 24 ∧ Blk W B5 #[.map (some B7)] 69 ∧ IMap W B7 ((stopKs b a pre).map unit1) ∧ Up w2 W ∧ Up w0 W) (fun c pre W => Sz bq W ∧ False) (fun x a' W => ∃ BX, Ag 28 [] ([(6, .eq (.pointer (some ⟨BX, 0, none⟩))), (3, .eq (.pointer (some ⟨B3, 0, none⟩))), (5, .eq (.pointer (some ⟨B5, 0, none⟩))), (2, .eq (.pointer (some ⟨B2, 0, none⟩)))]) a' W ∧ bq ≤ BX ∧ Blk W BX (holdCells x ⟨B2, 0, none⟩) 74) (.tmp rfl) (fun args w => Tryz.en81 args w) (all_iter _ _ _ _ _ _ _ _ hU1 (fun _ h => h.elim) (fun i h => by omega) (fun h => h.elim) hA hBs hCs (by omega)) (fun _ => rfl) rfl ?_ ?_ ?_ ?_ ?_ ?_ ?_ ?_
  ·rw [← hbq]
   intro pre W W' row hs hg hr
   obtain ⟨hZ, hB3, hB5, hM7, hU1, hW⟩ := hs
   exact ⟨hZ.ko (Ko.grown hg hr), hB3.ko (Ko.grown hg hr), hB5.ko (Ko.grown hg hr), hM7.ko (Ko.grown hg hr) (by omega), hU1.ko (Ko.grown hg hr) (by omega), hW.ko (Ko.grown hg hr) (by omega)⟩
  ·rw [← hbq]
   intro c pre W W' row hs hg hr
   obtain ⟨hZ, hF⟩ := hs
   exact ⟨hZ.ko (Ko.grown hg hr), hF⟩
  ·rw [← hbq]
   intro x a' u W W' row hs hg hr
   obtain ⟨BX, ha, hBX, hBX6⟩ := hs
   exact ⟨BX, ha.world rfl _, hBX, hBX6.ko (Ko.grown hg hr)⟩
  ·exact ⟨Nat.le_of_eq hbq, hB3, hB5, hM7, hU1, hW⟩
  ·rw [← hbq]
   intro lp pre x w7 K hs hk a ha
   obtain ⟨hZ, hB3, hB5, hM7, hU1, hW⟩ := hs
   have zq := hZ.le
   have hK := Kf.refl bq w7
   have hN := Kx.refl bq (fun _ => False) (fun i => i = B7) w7
   revert a
   refine CW.assign1 (p := 9) rfl ?_
   refine CW.region ?_
   refine LW.r (REv.allocA Tryz.zeroValue74) rfl rfl rfl rfl ?_
   rintro _ w8 ⟨B6, rfl, MB6⟩
   refine LW.s (SEv.storeA Tryz.sizeOf74 rfl (.tmp rfl) (.tmp rfl) (by first | rfl | exact Fact.one _ | exact GAct.one _ | exact holdCells_one _ _ | exact hold0_one | (simp [Value.oneCell'])) MB6.blk rfl) rfl rfl rfl ?_
   intro w9 LB6
   have NB6 := MB6.set LB6
   clear LB6 MB6
   have eB6 := NB6.at_
   have zB6 := NB6.size
   replace hZ := hZ.up NB6.up
   replace hB3 := hB3.up NB6.up
   replace hB5 := hB5.up NB6.up
   replace hM7 := hM7.up NB6.up
   replace hU1 := hU1.up NB6.up
   replace hW := hW.up NB6.up
   replace hK := hK.up NB6.up
   replace hN := hN.up NB6.up
   have hB6 := NB6.blk
   refine LW.nil ?_
   exact fun a ha => hk a _ hK hN ⟨hZ, hB3, hB5, hM7, hU1, hW⟩ ⟨_, ha.sub ⟨rfl, rfl, rfl, rfl, trivial⟩, by omega, hB6⟩
  ·rw [← hbq]
   intro lp pre x a' w10 hs hx hlt
   obtain ⟨hZ, hB3, hB5, hM7, hU1, hW⟩ := hs
   obtain ⟨BX, ha, hBX, hBX6⟩ := hx
   have zq := hZ.le
   have hK := Kf.refl bq w10
   have hN := Kx.refl bq (fun _ => False) (fun i => i = B7) w10
   refine (show CW (some lp) 8 _ 28 [] _ (ownPostG bq (Kx bq (fun _ => False) (fun i => i = B7)) _ _ (pre ++ [x]) w10) ([(6, .eq (.pointer (some ⟨BX, 0, none⟩))), (3, .eq (.pointer (some ⟨B3, 0, none⟩))), (5, .eq (.pointer (some ⟨B5, 0, none⟩))), (2, .eq (.pointer (some ⟨B2, 0, none⟩)))]) w10 from ?_) a' ha
   refine CW.block (CW.seq ?_)
   cases hq4 : namesB x b.Lots a with
   | false =>
    refine CW.region ?_
    refine LW.p (PEv.loadA Tryz.isAgg74 Tryz.sizeOf74 rfl (.tmp rfl) (hBX6.agg)) rfl rfl rfl ?_
    refine LW.p (PEv.loadA Tryz.isAgg24 Tryz.sizeOf24 rfl (.tmp rfl) (hB3.agg)) rfl rfl rfl ?_
    refine LW.c (enter_call0 (.cons (.tmp rfl) (.cons (.tmp rfl) .nil)) (Tryz.en32)) rfl rfl rfl rfl (names_any _ _ _ _ _ _ (hBs.up hU1) (hCs.up hU1) hL) ?_
    rintro _ w11 ⟨rfl, uw11⟩
    have zw11 := uw11.size
    replace hZ := hZ.up uw11
    replace hB3 := hB3.up uw11
    replace hB5 := hB5.up uw11
    replace hM7 := hM7.up uw11
    replace hU1 := hU1.up uw11
    replace hW := hW.up uw11
    replace hBX6 := hBX6.up uw11
    replace hK := hK.up uw11
    replace hN := hN.up uw11
    rw [hq4]
    refine LW.p (PEv.move (.tmp rfl)) rfl rfl rfl ?_
    refine LW.no rfl rfl rfl rfl rfl rfl rfl rfl ?_
    refine LW.no rfl rfl rfl rfl rfl rfl rfl rfl ?_
    refine LW.no rfl rfl rfl rfl rfl rfl rfl rfl ?_
    refine LW.no rfl rfl rfl rfl rfl rfl rfl rfl ?_
    refine LW.no rfl rfl rfl rfl rfl rfl rfl rfl ?_
    refine LW.p (PEv.pick_and (b := false) (.tmp rfl) (fun hp => absurd (show false = true from hp) (by decide))) rfl rfl rfl ?_
    refine LW.nil (KW.then ?_)
    refine CW.cond (.tmp rfl) (fun h19 => ?_) (fun h19 => ?_)
    ·first | replace h19 := of_decide_eq_true h19 | replace h19 := of_decide_eq_false h19 | skip
     cases h19
    ·first | replace h19 := of_decide_eq_true h19 | replace h19 := of_decide_eq_false h19 | skip
     have hk : stopKs b a (pre ++ [x]) = stopKs b a pre := by rw [stopKs_snoc]; exact if_neg (by simp [stopB, hq4])
     refine CW.skip (KW.inBlock ?_)
     exact fun a ha => ⟨hK, hN, hZ, hB3, hB5, by rw [hk]; exact hM7, hU1, hW⟩
   | true =>
    refine CW.region ?_
    refine LW.p (PEv.loadA Tryz.isAgg74 Tryz.sizeOf74 rfl (.tmp rfl) (hBX6.agg)) rfl rfl rfl ?_
    refine LW.p (PEv.loadA Tryz.isAgg24 Tryz.sizeOf24 rfl (.tmp rfl) (hB3.agg)) rfl rfl rfl ?_
    refine LW.c (enter_call0 (.cons (.tmp rfl) (.cons (.tmp rfl) .nil)) (Tryz.en32)) rfl rfl rfl rfl (names_any _ _ _ _ _ _ (hBs.up hU1) (hCs.up hU1) hL) ?_
    rintro _ w12 ⟨rfl, uw12⟩
    have zw12 := uw12.size
    replace hZ := hZ.up uw12
    replace hB3 := hB3.up uw12
    replace hB5 := hB5.up uw12
    replace hM7 := hM7.up uw12
    replace hU1 := hU1.up uw12
    replace hW := hW.up uw12
    replace hBX6 := hBX6.up uw12
    replace hK := hK.up uw12
    replace hN := hN.up uw12
    rw [hq4]
    refine LW.p (PEv.move (.tmp rfl)) rfl rfl rfl ?_
    refine LW.yes rfl rfl rfl rfl rfl rfl ?_
    refine LW.p (PEv.loadA Tryz.isAgg74 Tryz.sizeOf74 rfl (.tmp rfl) (hBX6.agg)) rfl rfl rfl ?_
    refine LW.yes rfl rfl rfl rfl rfl rfl ?_
    refine LW.p (PEv.fieldAddr (off := 6) Tryz.underlying24 rfl rfl Tryz.sizeOf3 rfl (.tmp rfl)) rfl rfl rfl ?_
    refine LW.yes rfl rfl rfl rfl rfl rfl ?_
    refine LW.p (PEv.load Tryz.isAgg3 (.tmp rfl) (hB3.celln rfl)) rfl rfl rfl ?_
    refine LW.yes rfl rfl rfl rfl rfl rfl ?_
    refine LW.c (enter_call0 (.cons (.tmp rfl) (.cons (.tmp rfl) .nil)) (Tryz.en33)) rfl rfl rfl rfl (isOver_any _ _ _ _ _ _ (hBs.up hU1) (hCs.up hU1) hR) ?_
    rintro _ w13 ⟨rfl, uw13⟩
    have zw13 := uw13.size
    replace hZ := hZ.up uw13
    replace hB3 := hB3.up uw13
    replace hB5 := hB5.up uw13
    replace hM7 := hM7.up uw13
    replace hU1 := hU1.up uw13
    replace hW := hW.up uw13
    replace hBX6 := hBX6.up uw13
    replace hK := hK.up uw13
    replace hN := hN.up uw13
    refine LW.yes rfl rfl rfl rfl rfl rfl ?_
    refine LW.p (PEv.not (.tmp rfl)) rfl rfl rfl ?_
    refine LW.p (PEv.pick_and (.tmp rfl) (fun hp => (by first | exact .const _ | exact .tmp rfl | exact .cond rfl (by first | assumption | simp_all)))) rfl rfl rfl ?_
    refine LW.nil (KW.then ?_)
    refine CW.cond (.tmp rfl) (fun h19 => ?_) (fun h19 => ?_)
    ·first | replace h19 := of_decide_eq_true h19 | replace h19 := of_decide_eq_false h19 | skip
     have hk : stopKs b a (pre ++ [x]) = setAdd (stopKs b a pre) x.ID := by rw [stopKs_snoc]; exact if_pos (by simpa [stopB, hq4] using h19)
     refine CW.region ?_
     refine LW.p (PEv.load Tryz.isAgg69 (.tmp rfl) (hB5.celln rfl)) rfl rfl rfl ?_
     refine LW.p (PEv.fieldAddr (off := 0) Tryz.underlying74 rfl rfl Tryz.sizeOf35 rfl (.tmp rfl)) rfl rfl rfl ?_
     refine LW.p (PEv.fieldAddr (off := 1) Tryz.underlying35 rfl rfl Tryz.sizeOf3 rfl (.tmp rfl)) rfl rfl rfl ?_
     refine LW.p (PEv.load Tryz.isAgg3 (.tmp rfl) (hBX6.celln rfl)) rfl rfl rfl ?_
     refine LW.p (PEv.build (cs := #[]) Tryz.underlying77 Tryz.zeroValue77 Tryz.places77 .nil rfl) rfl rfl rfl ?_
     refine LW.s (SEv.mapUpdate Tryz.underlying69 Tryz.underlying3 (.tmp rfl) (.tmp rfl) (.tmp rfl) hM7) rfl rfl rfl ?_
     rintro w14 ⟨Mw14, Kw14, zw14⟩
     replace hZ := hZ.sto Kw14 (by omega)
     replace hB3 := hB3.sto Kw14 (by omega)
     replace hB5 := hB5.sto Kw14 (by omega)
     replace hU1 := hU1.sto Kw14 (by omega)
     replace hW := hW.sto Kw14 (by omega)
     replace hBX6 := hBX6.sto Kw14 (by omega)
     replace hK := hK.sto Kw14 (.inl (by omega))
     replace hN := hN.stoM Kw14 (hM7.obj) (by first | exact .inr (by omega) | exact .inl rfl | exact .inl (by show _ ≤ _; omega))
     replace hM7 := Mw14
     refine LW.nil ?_
     rw [mset_unit] at hM7
     refine KW.inBlock ?_
     exact fun a ha => ⟨hK, hN, hZ, hB3, hB5, by rw [hk]; exact hM7, hU1, hW⟩
    ·first | replace h19 := of_decide_eq_true h19 | replace h19 := of_decide_eq_false h19 | skip
     have hk : stopKs b a (pre ++ [x]) = stopKs b a pre := by rw [stopKs_snoc]; exact if_neg (by simpa [stopB, hq4] using h19)
     refine CW.skip (KW.inBlock ?_)
     exact fun a ha => ⟨hK, hN, hZ, hB3, hB5, by rw [hk]; exact hM7, hU1, hW⟩
  ·intro D ys w15 hDb hS hs hD
   rw [← hbq] at hDb
   obtain ⟨hZ, hB3, hB5, hM7, hU1, hW⟩ := hs
   replace hD : Ob w15 D (.deferred (some [])) := hD
   have zD := hD.lt
   have zq := hZ.le
   subst hS
   refine KW.inBlock (KW.then (CW.seq ?_))
   have hKl := stopKs_length b a (b.Holds.filter isHoldB)
   have hFl := List.length_filter_le isHoldB b.Holds
   have zBA := hB5.lt
   refine CW.region ?_
   refine LW.p (PEv.load Tryz.isAgg69 (.tmp rfl) (hB5.celln rfl)) rfl rfl rfl ?_
   refine LW.c (enter_call0 (.cons (.tmp rfl) .nil) (Tryz.en35)) rfl rfl rfl rfl (mapsKeys_any _ _) ?_
   rintro _ w16 ⟨⟨BK, rfl, hBK, zK⟩, uw16⟩
   have zw16 := uw16.size
   replace hZ := hZ.up uw16
   replace hB3 := hB3.up uw16
   replace hB5 := hB5.up uw16
   replace hM7 := hM7.up uw16
   replace hU1 := hU1.up uw16
   replace hW := hW.up uw16
   replace hD := hD.up uw16
   have zBK := hBK.lt
   refine LW.c (enter_call0 (.cons (.tmp rfl) .nil) (Tryz.en34)) rfl rfl rfl rfl (Hs.sorted_any _ _ _ _ _ _ Tryz.en85 (fun W X u hX => mapsKeys_iter X _ BK B7 _ W (fun i h => h.elim) (fun h => by have := hX _ h; omega) (fun h => h.elim) (hBK.up u) (hM7.up u)) (by rw [List.length_map]; omega) (fun ks h => by have := h.length_eq; rw [unit1_keys] at this; omega)) ?_
   rintro v w17 ⟨ks, hS, hO, uw17⟩
   have zw17 := uw17.size
   replace hZ := hZ.up uw17
   replace hB3 := hB3.up uw17
   replace hB5 := hB5.up uw17
   replace hM7 := hM7.up uw17
   replace hU1 := hU1.up uw17
   replace hW := hW.up uw17
   replace hD := hD.up uw17
   replace hBK := hBK.up uw17
   refine LW.p (PEv.assign (.tmp rfl)) rfl rfl rfl (LW.nil (KW.then (CW.ret ?_)))
   refine KW.unmark hD rfl ?_
   replace hZ := hZ.ko (Ko.putObj (.deferred none) hD rfl hDb)
   replace hB3 := hB3.ko (Ko.putObj (.deferred none) hD rfl hDb)
   replace hB5 := hB5.ko (Ko.putObj (.deferred none) hD rfl hDb)
   replace hM7 := hM7.ko (Ko.putObj (.deferred none) hD rfl hDb) (by omega)
   replace hU1 := hU1.ko (Ko.putObj (.deferred none) hD rfl hDb) (by omega)
   replace hW := hW.putObj (D := D) (.deferred none) (by omega)
   replace hBK := hBK.ko (Ko.putObj (.deferred none) hD rfl hDb)
   replace hO := hO.ko (Ko.putObj (.deferred none) hD rfl hDb)
   refine KW.ret1 rfl rfl ⟨_, rfl, ?_⟩
   have hp : ks.Perm (stopKs b a (b.Holds.filter isHoldB)) := by rw [unit1_keys] at hS; exact hS
   rw [sort_perm hp] at hO
   exact ⟨hO.mono (by omega), hW⟩
  ·intro D c pre w18 hDb hpre hs hD
   rw [← hbq] at hDb
   obtain ⟨hZ, hF⟩ := hs
   replace hD : Ob w18 D (.deferred (some [])) := hD
   have zD := hD.lt
   have zq := hZ.le
   exact hF.elim
end Go.Proofs.YtolkipbpklkcnaaGreat
end
section
namespace Go.Wx
theorem lst_mem {l : List Fact} {d : Int} {j : Nat} (hj : j < 11) {x : Fact} : x ∈ lstOf (ofB l d) j ↔ eff l d x ∧ x.Gone = false ∧ x.Kind = ((j + 1 : Nat) : Int) := by
  rw [lst_ofB l d hj]
  unfold lstAt
  rw [if_pos (List.mem_singleton.2 rfl), (sortK_sts _).same.mem, List.mem_filter, best_eff]
  simp
theorem eff_valid {l : List Fact} {d : Int} {x : Fact} (h : eff l d x) : validB x = true := keyB_valid h.2.1
theorem eff_key {l : List Fact} {d : Int} {x y : Fact} (hx : eff l d x) (hy : eff l d y) (e : keyB x = keyB y) : x = y := prev_total (eff_valid hx) (eff_valid hy) e (hy.2.2.2 x hx.1 hx.2.2.1) (hx.2.2.2 y hy.1 hy.2.2.1)
theorem lst_nodup (l : List Fact) (d : Int) {j : Nat} (hj : j < 11) : (lstOf (ofB l d) j).Nodup := by
  rw [lst_ofB l d hj]
  unfold lstAt
  rw [if_pos (List.mem_singleton.2 rfl)]
  exact ((sortK_sts _).same.perm.nodup_iff).2 ((factsM_nodup l d).filter _)
theorem lst_srt (l : List Fact) (d : Int) {j : Nat} (hj : j < 11) : srt (ordK ((j + 1 : Nat) : Int)) (lstOf (ofB l d) j) := by
  rw [lst_ofB l d hj]; unfold lstAt; rw [if_pos (List.mem_singleton.2 rfl)]; exact (sortK_sts _).ord
theorem met0 {l x : Int} (hl : 0 ≤ l ∧ l ≤ 1000000) : (Cond.mk l 0 x).met = (decide (l = 0) || decide (l = x)) := by
  unfold Cond.met
  rw [show IntKind.i64.wrap (l - 0) = l from by rw [Int.sub_zero]; exact wrap_i64_in (by omega) (by omega)]
  by_cases h : l = x
  · rw [decide_eq_true h, decide_eq_true (show x ≤ l by omega)]; rfl
  · rw [decide_eq_false h, Bool.and_false]
end Go.Wx
namespace Go.Proofs.YtolkipbpklkcnaaGreat
open Go.Wx Go.RowKit
end Go.Proofs.YtolkipbpklkcnaaGreat
end
section
namespace Go.Wx
def heldH : Fact := ⟨7, 4, 1, 0, false, 0, 100, 0, 0, 0, 0, 3, 0, 0, 0, 0, 0, 5, ByteArray.empty⟩
def heldR1 : Fact := ⟨8, 0, 1, 0, false, 20, 0, 0, 4, 0, 0, 0, 0, 0, 0, 0, 0, 1, ByteArray.empty⟩
def heldR2 : Fact := ⟨8, 0, 1, 0, false, 50, 0, 0, 4, 0, 0, 0, 0, 0, 0, 0, 0, 4, ByteArray.empty⟩
def heldB : Base := ⟨[], [], [], [], [], [], [heldH], [heldR1, heldR2], [], [], []⟩
def actA : GAct := ⟨1, 0, 2, 1, 1, 1, 30⟩
def actO : GAct := ⟨1, 0, 3, 1, 1, 1, 30⟩
def actL : GAct := ⟨1, 0, 2, 1, 1, 1, 50⟩
theorem sane_p10 : partiesOf heldB.Releases 4 10 = 0 := by decide
theorem sane_p20 : partiesOf heldB.Releases 4 20 = 1 := by decide
theorem sane_p50 : partiesOf heldB.Releases 4 50 = 5 := by decide
theorem sane_r10 : releasedB heldB 4 10 = false := by decide
theorem sane_r20 : releasedB heldB 4 20 = false := by decide
theorem sane_r50 : releasedB heldB 4 50 = true := by decide
theorem sane_nA : namesB heldH heldB.Lots actA = true := by decide
theorem sane_nO : namesB heldH heldB.Lots actO = false := by decide
theorem sane_kA : stopKs heldB actA (heldB.Holds.filter isHoldB) = [4] := by decide
theorem sane_kO : stopKs heldB actO (heldB.Holds.filter isHoldB) = [] := by decide
theorem sane_kL : stopKs heldB actL (heldB.Holds.filter isHoldB) = [] := by decide
theorem sane_sA : stopsOf heldB actA = [4] := by unfold stopsOf; rw [sane_kA]; simp
theorem sane_sO : stopsOf heldB actO = [] := by unfold stopsOf; rw [sane_kO]; simp
theorem sane_sL : stopsOf heldB actL = [] := by unfold stopsOf; rw [sane_kL]; simp
end Go.Wx
namespace Go.Proofs.YtolkipbpklkcnaaGreat
open Go.Wx Go.RowKit
theorem pick_any (c n : Int) (w : World) (hn : n ≠ 0) : Ret Tryz.prog 16 #[vi c, vi n] w fun r w' => r = vi (pickI c n) ∧ Up w w' := by
  have hW := Up.refl w
  refine Calls_start (n := 13) (m := 9) Tryz.func16 rfl rfl rfl ?_
  refine CW.seq (CW.region (LW.p (PEv.assign (.const _)) rfl rfl rfl (LW.nil (KW.then (CW.seq (CW.seq (CW.region (LW.p (PEv.move (.tmp rfl)) rfl rfl rfl ?_))))))))
  refine LW.p (PEv.lss (.tmp rfl) (.const _)) rfl rfl rfl ?_
  refine LW.nil (KW.then ?_)
  refine CW.cond (.tmp rfl) (fun h6 => ?_) (fun h6 => ?_)
  ·first | replace h6 := of_decide_eq_true h6 | replace h6 := of_decide_eq_false h6 | skip
   refine CW.region (LW.p (PEv.move (.tmp rfl)) rfl rfl rfl ?_)
   refine LW.p (PEv.add_w (.tmp rfl) (.const _)) rfl rfl rfl ?_
   refine LW.p (PEv.neg Tryz.underlying3 (.tmp rfl)) rfl rfl rfl ?_
   refine LW.p (PEv.assign (.tmp rfl)) rfl rfl rfl (LW.nil (KW.then (CW.seq (CW.region (LW.p (PEv.move (.tmp rfl)) rfl rfl rfl (LW.p (PEv.move (.tmp rfl)) rfl rfl rfl ?_))))))
   refine LW.p (PEv.rem (.tmp rfl) (.tmp rfl) (by omega)) rfl rfl rfl ?_
   refine LW.p (PEv.assign (.tmp rfl)) rfl rfl rfl (LW.nil (KW.then (CW.ret ?_)))
   refine KW.ret1 rfl rfl ⟨_, rfl, ?_⟩
   exact ⟨by first | (rw [pickI, if_pos h6]) | (rw [pickI, if_neg (by omega)]), hW⟩
  ·first | replace h6 := of_decide_eq_true h6 | replace h6 := of_decide_eq_false h6 | skip
   refine CW.skip (KW.then (CW.seq (CW.region (LW.p (PEv.move (.tmp rfl)) rfl rfl rfl (LW.p (PEv.move (.tmp rfl)) rfl rfl rfl ?_)))))
   refine LW.p (PEv.rem (.tmp rfl) (.tmp rfl) (by omega)) rfl rfl rfl ?_
   refine LW.p (PEv.assign (.tmp rfl)) rfl rfl rfl (LW.nil (KW.then (CW.ret ?_)))
   refine KW.ret1 rfl rfl ⟨_, rfl, ?_⟩
   exact ⟨by first | (rw [pickI, if_pos h6]) | (rw [pickI, if_neg (by omega)]), hW⟩
theorem held_any (w : World) : Ret Tryz.prog 26 #[] w fun r w' => (∃ bc, r = .agg bc ∧ BaseC w' bc heldB) ∧ Up w w' := by
  have hW := Up.refl w
  refine Calls_start (n := 7) (m := 9) Tryz.func26 rfl rfl rfl ?_
  refine CW.seq (CW.region ?_)
  refine LW.r (REv.allocA Tryz.zeroValue27) rfl rfl rfl rfl ?_
  rintro _ w1 ⟨B0, rfl, NB0⟩
  have eB0 := NB0.at_
  have zB0 := NB0.size
  replace hW := hW.up NB0.up
  have hB0 := NB0.blk
  refine LW.nil (KW.then (CW.seq (CW.region ?_)))
  refine LW.p (PEv.build (cs := heldH.cells) Tryz.underlying35 Tryz.zeroValue35 Tryz.places35 (.cons (.const _) (.cons (.const _) (.cons (.const _) (.cons (.const _) (.cons (.const _) (.cons (.const _) .nil)))))) rfl) rfl rfl rfl ?_
  refine LW.r (REv.buildSlice (xs := [heldH]) (enc := Fact.cells) (mk := fun f => .agg f.cells) Tryz.underlying22 Tryz.sizeOf35 Tryz.zeroValue35 rfl (by decide) (fun _ => rfl) (fun _ => rfl) (.cons (.tmp rfl) .nil) rfl) rfl rfl rfl rfl ?_
  rintro _ w2 ⟨B2, cB2, rfl, NB2, yB2, xB2⟩
  have eB2 := NB2.at_
  have zB2 := NB2.size
  replace hW := hW.up NB2.up
  replace hB0 := hB0.up NB2.up
  have hB2 := NB2.blk
  have hE2 := xB2
  refine LW.p (PEv.build (cs := heldR1.cells) Tryz.underlying35 Tryz.zeroValue35 Tryz.places35 (.cons (.const _) (.cons (.const _) (.cons (.const _) (.cons (.const _) (.cons (.const _) .nil))))) rfl) rfl rfl rfl ?_
  refine LW.p (PEv.build (cs := heldR2.cells) Tryz.underlying35 Tryz.zeroValue35 Tryz.places35 (.cons (.const _) (.cons (.const _) (.cons (.const _) (.cons (.const _) (.cons (.const _) .nil))))) rfl) rfl rfl rfl ?_
  refine LW.r (REv.buildSlice (xs := [heldR1, heldR2]) (enc := Fact.cells) (mk := fun f => .agg f.cells) Tryz.underlying22 Tryz.sizeOf35 Tryz.zeroValue35 rfl (by decide) (fun _ => rfl) (fun _ => rfl) (.cons (.tmp rfl) (.cons (.tmp rfl) .nil)) rfl) rfl rfl rfl rfl ?_
  rintro _ w3 ⟨B5, cB5, rfl, NB5, yB5, xB5⟩
  have eB5 := NB5.at_
  have zB5 := NB5.size
  replace hW := hW.up NB5.up
  replace hB0 := hB0.up NB5.up
  replace hB2 := hB2.up NB5.up
  replace hE2 := hE2.up NB5.up
  have hB5 := NB5.blk
  have hE5 := xB5
  refine LW.p (PEv.build (cs := #[.slice none 0 0, .slice none 0 0, .slice none 0 0, .slice none 0 0, .slice none 0 0, .slice none 0 0, .slice (some ⟨B2, 0, none⟩) 1 1, .slice (some ⟨B5, 0, none⟩) 2 2, .slice none 0 0, .slice none 0 0, .slice none 0 0]) Tryz.underlying27 Tryz.zeroValue27 Tryz.places27 (.cons (.tmp rfl) (.cons (.tmp rfl) .nil)) rfl) rfl rfl rfl ?_
  refine LW.s (SEv.storeA Tryz.sizeOf27 rfl (.tmp rfl) (.tmp rfl) (by first | rfl | exact Fact.one _ | exact GAct.one _ | exact holdCells_one _ _ | exact hold0_one | (simp [Value.oneCell'])) hB0 rfl) rfl rfl rfl ?_
  intro w4 Nw4
  have zw4 := Nw4.size
  replace hW := hW.sto Nw4.sto (by omega)
  replace hB2 := hB2.sto Nw4.sto (by omega)
  replace hE2 := hE2.sto Nw4.sto (by omega)
  replace hB5 := hB5.sto Nw4.sto (by omega)
  replace hE5 := hE5.sto Nw4.sto (by omega)
  replace hB0 := Nw4.blk
  refine LW.nil (KW.then (CW.ret ?_))
  refine KW.retA rfl rfl Tryz.isAgg27 Tryz.sizeOf27 rfl (hB0.agg) ⟨_, rfl, ?_⟩
  exact ⟨⟨_, rfl, _, _, _, _, _, _, _, _, _, _, _, rfl, Sl.nil _ _ _, Sl.nil _ _ _, Sl.nil _ _ _, Sl.nil _ _ _, Sl.nil _ _ _, Sl.nil _ _ _, Sl.of_els hE2, Sl.of_els hE5, Sl.nil _ _ _, Sl.nil _ _ _, Sl.nil _ _ _⟩, hW⟩
end Go.Proofs.YtolkipbpklkcnaaGreat
end
section
namespace Go.Proofs.YtolkipbpklkcnaaGreat
open Go.Wx Go.RowKit
theorem sameInts_any (v1 v2 : Value) (xs ys : List Int) (w : World) (h1 : Sl w v1 1 eInt xs) (h2 : Sl w v2 1 eInt ys) (hx0 : xs.length ≤ 1000000000) (hy0 : ys.length ≤ 1000000000) : Ret Tryz.prog 20 #[v1, v2] w fun r w' => r = .bool (decide (xs = ys)) ∧ Up w w' := by
  have hW := Up.refl w
  obtain ⟨w0, rfl⟩ : ∃ w0, w0 = w := ⟨_, rfl⟩
  obtain ⟨ad, cp, rfl, hE1⟩ := h1
  obtain ⟨ad', cp', rfl, hE2⟩ := h2
  refine Calls_start (n := 26) (m := 9) Tryz.func20 rfl rfl rfl ?_
  refine CW.seq (CW.region (LW.p (PEv.assign (.const _)) rfl rfl rfl (LW.nil (KW.then (CW.seq (CW.seq (CW.region (LW.p (PEv.move (.tmp rfl)) rfl rfl rfl ?_))))))))
  refine LW.p (PEv.lenS Tryz.underlying30 (.tmp rfl)) rfl rfl rfl ?_
  refine LW.p (PEv.move (.tmp rfl)) rfl rfl rfl ?_
  refine LW.p (PEv.lenS Tryz.underlying30 (.tmp rfl)) rfl rfl rfl ?_
  refine LW.p (PEv.neq (.tmp rfl) (.tmp rfl)) rfl rfl rfl ?_
  refine LW.nil (KW.then ?_)
  refine CW.cond (.tmp rfl) (fun h10 => ?_) (fun h10 => ?_)
  ·first | replace h10 := of_decide_eq_true h10 | replace h10 := of_decide_eq_false h10 | skip
   have hr : decide (xs = ys) = false := decide_eq_false (fun h => by subst h; simp at h10)
   refine CW.seq (CW.region (LW.p (PEv.assign (.const _)) rfl rfl rfl (LW.nil (KW.then (CW.ret (KW.then_ret ?_))))))
   refine KW.ret1 rfl rfl ⟨_, rfl, ?_⟩
   exact ⟨by rw [hr], hW⟩
  ·first | replace h10 := of_decide_eq_true h10 | replace h10 := of_decide_eq_false h10 | skip
   have hlen : xs.length = ys.length := Int.ofNat.inj (show Int.ofNat _ = Int.ofNat _ from (by simpa using h10 : (xs.length : Int) = ys.length))
   refine CW.skip (KW.then (CW.seq (CW.seq (CW.region (LW.p (PEv.assign (.const _)) rfl rfl rfl (LW.nil (KW.then (CW.block ?_))))))))
   refine CW.loop (σ := Nat) (fun s w => (s ≤ xs.length ∧ xs.take s = ys.take s) ∧ Els w ad 1 eInt xs ∧ Els w ad' 1 eInt ys ∧ Up w0 w) (fun s => [(0, .eq (.slice ad xs.length cp)), (1, .eq (.slice ad' ys.length cp')), (5, .eq (vi (s : Int)))]) (fun s => xs.length - s) 0 ?_ ?_ ?_
   ·exact ⟨⟨Nat.zero_le _, rfl⟩, hE1, hE2, hW⟩
   ·exact ⟨rfl, rfl, rfl, trivial⟩
   ·rintro k w1 ⟨⟨hk, hT⟩, hE1, hE2, hW⟩
    refine CW.seq (CW.seq (CW.region (LW.p (PEv.move (.tmp rfl)) rfl rfl rfl (LW.p (PEv.move (.tmp rfl)) rfl rfl rfl ?_))))
    refine LW.p (PEv.lenS Tryz.underlying30 (.tmp rfl)) rfl rfl rfl ?_
    refine LW.p (PEv.lss (.tmp rfl) (.tmp rfl)) rfl rfl rfl ?_
    refine LW.nil (KW.then ?_)
    refine CW.cond (.tmp rfl) (fun h14 => ?_) (fun h14 => ?_)
    ·first | replace h14 := of_decide_eq_true h14 | replace h14 := of_decide_eq_false h14 | skip
     refine CW.skip (KW.then (CW.seq (CW.block (CW.seq ?_))))
     obtain ⟨x, hx⟩ := getElem?_of_lt (xs := xs) (i := k) (by omega)
     obtain ⟨y, hy⟩ := getElem?_of_lt (xs := ys) (i := k) (by omega)
     obtain ⟨B, o, had, hcell⟩ := hE1 k x hx
     obtain ⟨B', o', had', hcell'⟩ := hE2 k y hy
     refine CW.draws (by kernel_rfl) (by kernel_rfl) rfl rfl ?_
     refine HW.p (PEv.move (.tmp rfl)) rfl rfl ?_
     refine HW.p (PEv.move (.tmp rfl)) rfl rfl ?_
     refine HW.p (PEv.indexAddr' Tryz.underlying30 Tryz.sizeOf3 (.tmp rfl) (.tmp rfl) (by omega) had) rfl rfl ?_
     refine HW.p (PEv.load Tryz.isAgg3 (.tmp rfl) (hcell.nth (j := 0) rfl)) rfl rfl ?_
     refine HW.p (PEv.move (.tmp rfl)) rfl rfl ?_
     refine HW.p (PEv.move (.tmp rfl)) rfl rfl ?_
     refine HW.p (PEv.indexAddr' Tryz.underlying30 Tryz.sizeOf3 (.tmp rfl) (.tmp rfl) (by omega) had') rfl rfl ?_
     refine HW.p (PEv.load Tryz.isAgg3 (.tmp rfl) (hcell'.nth (j := 0) rfl)) rfl rfl ?_
     refine HW.p (PEv.neq (.tmp rfl) (.tmp rfl)) rfl rfl ?_
     refine HW.nil ?_
     intro w2 uw2
     have zw2 := uw2.size
     replace hE1 := hE1.up uw2
     replace hE2 := hE2.up uw2
     replace hW := hW.up uw2
     refine KW.then ?_
     refine CW.cond (.tmp rfl) (fun h25 => ?_) (fun h25 => ?_)
     ·first | replace h25 := of_decide_eq_true h25 | replace h25 := of_decide_eq_false h25 | skip
      have hr : decide (xs = ys) = false := decide_eq_false (ne_of_at hx hy (by simpa using h25))
      refine CW.seq (CW.region (LW.p (PEv.assign (.const _)) rfl rfl rfl (LW.nil (KW.then (CW.ret (KW.block_ret (KW.then_ret (KW.then_ret (KW.block_ret (KW.then_ret ?_))))))))))
      refine KW.ret1 rfl rfl ⟨_, rfl, ?_⟩
      exact ⟨by rw [hr], hW⟩
     ·first | replace h25 := of_decide_eq_true h25 | replace h25 := of_decide_eq_false h25 | skip
      refine CW.skip (KW.inBlock (KW.then (CW.region (LW.p (PEv.move (.tmp rfl)) rfl rfl rfl ?_))))
      refine LW.p (PEv.inc (.tmp rfl) (by omega)) rfl rfl rfl ?_
      refine LW.p (PEv.assign (.tmp rfl)) rfl rfl rfl (LW.nil (KW.round ?_))
      exact ⟨k + 1, ⟨⟨by omega, take_eq_step hT hx hy (by simpa using h25)⟩, hE1, hE2, hW⟩, ⟨rfl, rfl, rfl, trivial⟩, by omega⟩
    ·first | replace h14 := of_decide_eq_true h14 | replace h14 := of_decide_eq_false h14 | skip
     have hr : decide (xs = ys) = true := decide_eq_true (by have := hT; rw [show k = xs.length by omega, List.take_length, hlen, List.take_length] at this; exact this)
     refine CW.exit (KW.then_exit (KW.then_exit (KW.block_hit (KW.then (CW.seq (CW.region (LW.p (PEv.assign (.const _)) rfl rfl rfl (LW.nil (KW.then (CW.ret ?_))))))))))
     refine KW.ret1 rfl rfl ⟨_, rfl, ?_⟩
     exact ⟨by rw [hr], hW⟩
end Go.Proofs.YtolkipbpklkcnaaGreat
end
section
namespace Go.Wx
theorem same44 : Value.bool (decide (([4] : List Int) = [4])) = .bool true := by simp
end Go.Wx
namespace Go.Proofs.YtolkipbpklkcnaaGreat
open Go.Wx Go.RowKit
set_option maxHeartbeats 4000000 in
theorem sane_any (w : World) : Ret Tryz.prog 9 #[] w fun r w' => r = .bool true ∧ Up w w' := by
  have hW := Up.refl w
  refine Calls_start (n := 93) (m := 9) Tryz.func9 rfl rfl rfl ?_
  refine CW.seq (CW.region (LW.p (PEv.assign (.const _)) rfl rfl rfl (LW.nil (KW.then (CW.seq (CW.region ?_))))))
  refine LW.c (enter_call0 .nil (Tryz.en26)) rfl rfl rfl rfl (held_any _) ?_
  rintro _ w1 ⟨⟨bc, rfl, hC⟩, uw1⟩
  have zw1 := uw1.size
  replace hW := hW.up uw1
  refine LW.r (REv.allocA Tryz.zeroValue27) rfl rfl rfl rfl ?_
  rintro _ w2 ⟨B1, rfl, MB1⟩
  refine LW.s (SEv.storeA Tryz.sizeOf27 hC.size (.tmp rfl) (.tmp rfl) hC.one MB1.blk rfl) rfl rfl rfl ?_
  intro w3 LB1
  have NB1 := MB1.set LB1
  clear LB1 MB1
  have eB1 := NB1.at_
  have zB1 := NB1.size
  replace hW := hW.up NB1.up
  replace hC := hC.up NB1.up
  have hB1 := NB1.blk
  refine LW.nil (KW.then (CW.seq ?_))
  have hU1 := Up.refl w3
  have hCs := hC
  refine CW.region ?_
  refine LW.p (PEv.build (cs := actA.cells) Tryz.underlying24 Tryz.zeroValue24 Tryz.places24 (.cons (.const _) (.cons (.const _) (.cons (.const _) (.cons (.const _) (.cons (.const _) (.cons (.const _) .nil)))))) rfl) rfl rfl rfl ?_
  refine LW.r (REv.allocA Tryz.zeroValue24) rfl rfl rfl rfl ?_
  rintro _ w4 ⟨B2, rfl, MB2⟩
  refine LW.s (SEv.storeA Tryz.sizeOf24 rfl (.tmp rfl) (.tmp rfl) (by first | rfl | exact Fact.one _ | exact GAct.one _ | exact holdCells_one _ _ | exact hold0_one | (simp [Value.oneCell'])) MB2.blk rfl) rfl rfl rfl ?_
  intro w5 LB2
  have NB2 := MB2.set LB2
  clear LB2 MB2
  have eB2 := NB2.at_
  have zB2 := NB2.size
  replace hW := hW.up NB2.up
  replace hB1 := hB1.up NB2.up
  replace hU1 := hU1.up NB2.up
  have hB2 := NB2.blk
  refine LW.nil (KW.then (CW.seq (CW.region ?_)))
  refine LW.p (PEv.loadA Tryz.isAgg24 Tryz.sizeOf24 rfl (.tmp rfl) (hB2.agg)) rfl rfl rfl ?_
  refine LW.r (REv.allocA Tryz.zeroValue24) rfl rfl rfl rfl ?_
  rintro _ w6 ⟨B3, rfl, MB3⟩
  refine LW.s (SEv.storeA Tryz.sizeOf24 rfl (.tmp rfl) (.tmp rfl) (by first | rfl | exact Fact.one _ | exact GAct.one _ | exact holdCells_one _ _ | exact hold0_one | (simp [Value.oneCell'])) MB3.blk rfl) rfl rfl rfl ?_
  intro w7 LB3
  have NB3 := MB3.set LB3
  clear LB3 MB3
  have eB3 := NB3.at_
  have zB3 := NB3.size
  replace hW := hW.up NB3.up
  replace hB1 := hB1.up NB3.up
  replace hU1 := hU1.up NB3.up
  replace hB2 := hB2.up NB3.up
  have hB3 := NB3.blk
  refine LW.nil (KW.then (CW.seq (CW.region ?_)))
  refine LW.p (PEv.fieldAddr (off := 2) Tryz.underlying24 rfl rfl Tryz.sizeOf3 rfl (.tmp rfl)) rfl rfl rfl ?_
  refine LW.s (SEv.store Tryz.sizeOf3 (.tmp rfl) (.const _) rfl hB3 (Nat.le_of_ble_eq_true rfl)) rfl rfl rfl ?_
  intro w8 Nw8
  have zw8 := Nw8.size
  replace hW := hW.sto Nw8.sto (by omega)
  replace hB1 := hB1.sto Nw8.sto (by omega)
  replace hU1 := hU1.sto Nw8.sto (by omega)
  replace hB2 := hB2.sto Nw8.sto (by omega)
  replace hB3 := Nw8.blk
  replace hB3 : Blk w8 B3 actO.cells _ := hB3
  refine LW.nil (KW.then (CW.seq (CW.region ?_)))
  refine LW.p (PEv.loadA Tryz.isAgg24 Tryz.sizeOf24 rfl (.tmp rfl) (hB2.agg)) rfl rfl rfl ?_
  refine LW.r (REv.allocA Tryz.zeroValue24) rfl rfl rfl rfl ?_
  rintro _ w9 ⟨B4, rfl, MB4⟩
  refine LW.s (SEv.storeA Tryz.sizeOf24 rfl (.tmp rfl) (.tmp rfl) (by first | rfl | exact Fact.one _ | exact GAct.one _ | exact holdCells_one _ _ | exact hold0_one | (simp [Value.oneCell'])) MB4.blk rfl) rfl rfl rfl ?_
  intro w10 LB4
  have NB4 := MB4.set LB4
  clear LB4 MB4
  have eB4 := NB4.at_
  have zB4 := NB4.size
  replace hW := hW.up NB4.up
  replace hB1 := hB1.up NB4.up
  replace hU1 := hU1.up NB4.up
  replace hB2 := hB2.up NB4.up
  replace hB3 := hB3.up NB4.up
  have hB4 := NB4.blk
  refine LW.nil (KW.then (CW.seq (CW.region ?_)))
  refine LW.p (PEv.fieldAddr (off := 6) Tryz.underlying24 rfl rfl Tryz.sizeOf3 rfl (.tmp rfl)) rfl rfl rfl ?_
  refine LW.s (SEv.store Tryz.sizeOf3 (.tmp rfl) (.const _) rfl hB4 (Nat.le_of_ble_eq_true rfl)) rfl rfl rfl ?_
  intro w11 Nw11
  have zw11 := Nw11.size
  replace hW := hW.sto Nw11.sto (by omega)
  replace hB1 := hB1.sto Nw11.sto (by omega)
  replace hU1 := hU1.sto Nw11.sto (by omega)
  replace hB2 := hB2.sto Nw11.sto (by omega)
  replace hB3 := hB3.sto Nw11.sto (by omega)
  replace hB4 := Nw11.blk
  replace hB4 : Blk w11 B4 actL.cells _ := hB4
  refine LW.nil (KW.then (CW.seq (CW.region ?_)))
  refine LW.p (PEv.loadA Tryz.isAgg27 Tryz.sizeOf27 (hCs.size) (.tmp rfl) (hB1.agg)) rfl rfl rfl ?_
  refine LW.c (enter_call0 (.cons (.tmp rfl) (.cons (.const _) (.cons (.const _) .nil))) (Tryz.en14)) rfl rfl rfl rfl (Released_any _ _ 4 10 _ (hCs.up hU1) (by decide) (by decide)) ?_
  rintro _ w12 ⟨rfl, uw12⟩
  have zw12 := uw12.size
  replace hW := hW.up uw12
  replace hB1 := hB1.up uw12
  replace hU1 := hU1.up uw12
  replace hB2 := hB2.up uw12
  replace hB3 := hB3.up uw12
  replace hB4 := hB4.up uw12
  rw [sane_p10, sane_r10]
  refine LW.p (PEv.move (.tmp rfl)) rfl rfl rfl (LW.p (PEv.extract (.tmp rfl) rfl) rfl rfl rfl (LW.p (PEv.extract (.tmp rfl) rfl) rfl rfl rfl (LW.p (PEv.assign (.tmp rfl)) rfl rfl rfl (LW.p (PEv.assign (.tmp rfl)) rfl rfl rfl (LW.nil (KW.then (CW.seq (CW.region ?_))))))))
  refine LW.p (PEv.loadA Tryz.isAgg27 Tryz.sizeOf27 (hCs.size) (.tmp rfl) (hB1.agg)) rfl rfl rfl ?_
  refine LW.c (enter_call0 (.cons (.tmp rfl) (.cons (.const _) (.cons (.const _) .nil))) (Tryz.en14)) rfl rfl rfl rfl (Released_any _ _ 4 20 _ (hCs.up hU1) (by decide) (by decide)) ?_
  rintro _ w13 ⟨rfl, uw13⟩
  have zw13 := uw13.size
  replace hW := hW.up uw13
  replace hB1 := hB1.up uw13
  replace hU1 := hU1.up uw13
  replace hB2 := hB2.up uw13
  replace hB3 := hB3.up uw13
  replace hB4 := hB4.up uw13
  rw [sane_p20, sane_r20]
  refine LW.p (PEv.move (.tmp rfl)) rfl rfl rfl (LW.p (PEv.extract (.tmp rfl) rfl) rfl rfl rfl (LW.p (PEv.extract (.tmp rfl) rfl) rfl rfl rfl (LW.p (PEv.assign (.tmp rfl)) rfl rfl rfl (LW.p (PEv.assign (.tmp rfl)) rfl rfl rfl (LW.nil (KW.then (CW.seq (CW.region ?_))))))))
  refine LW.p (PEv.loadA Tryz.isAgg27 Tryz.sizeOf27 (hCs.size) (.tmp rfl) (hB1.agg)) rfl rfl rfl ?_
  refine LW.c (enter_call0 (.cons (.tmp rfl) (.cons (.const _) (.cons (.const _) .nil))) (Tryz.en14)) rfl rfl rfl rfl (Released_any _ _ 4 50 _ (hCs.up hU1) (by decide) (by decide)) ?_
  rintro _ w14 ⟨rfl, uw14⟩
  have zw14 := uw14.size
  replace hW := hW.up uw14
  replace hB1 := hB1.up uw14
  replace hU1 := hU1.up uw14
  replace hB2 := hB2.up uw14
  replace hB3 := hB3.up uw14
  replace hB4 := hB4.up uw14
  rw [sane_p50, sane_r50]
  refine LW.p (PEv.move (.tmp rfl)) rfl rfl rfl (LW.p (PEv.extract (.tmp rfl) rfl) rfl rfl rfl (LW.p (PEv.extract (.tmp rfl) rfl) rfl rfl rfl (LW.p (PEv.assign (.tmp rfl)) rfl rfl rfl (LW.p (PEv.assign (.tmp rfl)) rfl rfl rfl (LW.nil (KW.then (CW.seq ?_)))))))
  obtain ⟨v6, h6, hr⟩ := hCs.at6
  obtain ⟨ad, cp, rfl, hE⟩ := hr
  obtain ⟨BH, oH, rfl, hcH⟩ := hE 0 heldH rfl
  refine CW.draws (by kernel_rfl) (by kernel_rfl) rfl rfl ?_
  refine HW.p (PEv.loadA Tryz.isAgg27 Tryz.sizeOf27 (hCs.size) (.tmp rfl) (hB1.agg)) rfl rfl ?_
  refine HW.p (PEv.fieldAddr (off := 6) Tryz.underlying27 rfl rfl Tryz.sizeOf22 rfl (.tmp rfl)) rfl rfl ?_
  refine HW.p (PEv.load Tryz.isAgg22 (.tmp rfl) (hB1.cell h6)) rfl rfl ?_
  refine HW.p (PEv.indexAddr (j := 0) Tryz.underlying22 Tryz.sizeOf35 (.tmp rfl) (.const _) (by decide)) rfl rfl ?_
  refine HW.p (PEv.loadA Tryz.isAgg35 Tryz.sizeOf35 rfl (.tmp rfl) (hcH.up hU1)) rfl rfl ?_
  refine HW.p (PEv.loadA Tryz.isAgg24 Tryz.sizeOf24 rfl (.tmp rfl) (hB2.agg)) rfl rfl ?_
  refine HW.c (fun a w _ ha => enter_call0 (.cons (.tmp rfl) (.cons (.tmp rfl) (.cons (.tmp rfl) .nil))) (Tryz.en15) a ha) rfl rfl (fun w hu => (Names_any _ _ heldH actA _ ((hCs.up hU1).up hu) (by decide)).mono fun _ _ h => ⟨h.1.trans (congrArg Go.Value.bool sane_nA), h.2⟩) ?_
  refine HW.p (PEv.move (.tmp rfl)) rfl rfl ?_
  refine HW.yp rfl rfl rfl rfl rfl (PEv.loadA Tryz.isAgg27 Tryz.sizeOf27 (hCs.size) (.tmp rfl) (hB1.agg)) rfl ?_
  refine HW.yp rfl rfl rfl rfl rfl (PEv.fieldAddr (off := 6) Tryz.underlying27 rfl rfl Tryz.sizeOf22 rfl (.tmp rfl)) rfl ?_
  refine HW.yp rfl rfl rfl rfl rfl (PEv.load Tryz.isAgg22 (.tmp rfl) (hB1.cell h6)) rfl ?_
  refine HW.yp rfl rfl rfl rfl rfl (PEv.indexAddr (j := 0) Tryz.underlying22 Tryz.sizeOf35 (.tmp rfl) (.const _) (by decide)) rfl ?_
  refine HW.yp rfl rfl rfl rfl rfl (PEv.loadA Tryz.isAgg35 Tryz.sizeOf35 rfl (.tmp rfl) (hcH.up hU1)) rfl ?_
  refine HW.yp rfl rfl rfl rfl rfl (PEv.loadA Tryz.isAgg24 Tryz.sizeOf24 rfl (.tmp rfl) (hB3.agg)) rfl ?_
  refine HW.yc rfl rfl rfl rfl rfl (fun a w _ ha => enter_call0 (.cons (.tmp rfl) (.cons (.tmp rfl) (.cons (.tmp rfl) .nil))) (Tryz.en15) a ha) rfl (fun w hu => (Names_any _ _ heldH actO _ ((hCs.up hU1).up hu) (by decide)).mono fun _ _ h => ⟨h.1.trans (congrArg Go.Value.bool sane_nO), h.2⟩) ?_
  refine HW.yp rfl rfl rfl rfl rfl (PEv.not (.tmp rfl)) rfl ?_
  refine HW.p (PEv.pick_and (.tmp rfl) (fun hp => (by first | exact .const _ | exact .tmp rfl | exact .cond rfl (by first | assumption | simp_all)))) rfl rfl ?_
  refine HW.p (PEv.move (.tmp rfl)) rfl rfl ?_
  refine HW.yp rfl rfl rfl rfl rfl (PEv.move (.tmp rfl)) rfl ?_
  refine HW.yp rfl rfl rfl rfl rfl (PEv.eql (.tmp rfl) (.const _)) rfl ?_
  refine HW.p (PEv.pick_and (.tmp rfl) (fun hp => (by first | exact .const _ | exact .tmp rfl | exact .cond rfl (by first | assumption | simp_all)))) rfl rfl ?_
  refine HW.p (PEv.move (.tmp rfl)) rfl rfl ?_
  refine HW.yp rfl rfl rfl rfl rfl (PEv.move (.tmp rfl)) rfl ?_
  refine HW.yp rfl rfl rfl rfl rfl (PEv.not (.tmp rfl)) rfl ?_
  refine HW.p (PEv.pick_and (.tmp rfl) (fun hp => (by first | exact .const _ | exact .tmp rfl | exact .cond rfl (by first | assumption | simp_all)))) rfl rfl ?_
  refine HW.p (PEv.move (.tmp rfl)) rfl rfl ?_
  refine HW.yp rfl rfl rfl rfl rfl (PEv.move (.tmp rfl)) rfl ?_
  refine HW.yp rfl rfl rfl rfl rfl (PEv.eql (.tmp rfl) (.const _)) rfl ?_
  refine HW.p (PEv.pick_and (.tmp rfl) (fun hp => (by first | exact .const _ | exact .tmp rfl | exact .cond rfl (by first | assumption | simp_all)))) rfl rfl ?_
  refine HW.p (PEv.move (.tmp rfl)) rfl rfl ?_
  refine HW.yp rfl rfl rfl rfl rfl (PEv.move (.tmp rfl)) rfl ?_
  refine HW.yp rfl rfl rfl rfl rfl (PEv.not (.tmp rfl)) rfl ?_
  refine HW.p (PEv.pick_and (.tmp rfl) (fun hp => (by first | exact .const _ | exact .tmp rfl | exact .cond rfl (by first | assumption | simp_all)))) rfl rfl ?_
  refine HW.p (PEv.move (.tmp rfl)) rfl rfl ?_
  refine HW.yp rfl rfl rfl rfl rfl (PEv.move (.tmp rfl)) rfl ?_
  refine HW.yp rfl rfl rfl rfl rfl (PEv.eql (.tmp rfl) (.const _)) rfl ?_
  refine HW.p (PEv.pick_and (.tmp rfl) (fun hp => (by first | exact .const _ | exact .tmp rfl | exact .cond rfl (by first | assumption | simp_all)))) rfl rfl ?_
  refine HW.p (PEv.move (.tmp rfl)) rfl rfl ?_
  refine HW.yp rfl rfl rfl rfl rfl (PEv.move (.tmp rfl)) rfl ?_
  refine HW.p (PEv.pick_and (.tmp rfl) (fun hp => (by first | exact .const _ | exact .tmp rfl | exact .cond rfl (by first | assumption | simp_all)))) rfl rfl ?_
  refine HW.p (PEv.move (.tmp rfl)) rfl rfl ?_
  refine HW.yp rfl rfl rfl rfl rfl (PEv.loadA Tryz.isAgg27 Tryz.sizeOf27 (hCs.size) (.tmp rfl) (hB1.agg)) rfl ?_
  refine HW.yp rfl rfl rfl rfl rfl (PEv.loadA Tryz.isAgg24 Tryz.sizeOf24 rfl (.tmp rfl) (hB2.agg)) rfl ?_
  refine HW.yqc (ph := .pred fun v w => Sl w v 1 eInt [4]) (fun _ _ _ h u => Sl.up h u) rfl rfl rfl rfl rfl (fun a w hu ha => ⟨_, _, enter_call0 (.cons (.tmp rfl) (.cons (.tmp rfl) .nil)) (Tryz.en12) a ha, (Stops_any _ _ actA _ ((hCs.up hU1).up hu) (by decide) (by decide) (by decide)).mono fun v w' h => ⟨h.2, sane_sA ▸ h.1.sl (fun _ => rfl)⟩⟩) rfl ?_
  refine HW.yqr (p := fun v w => Sl w v 1 eInt [4]) (fun _ _ _ h u => Sl.up h u) rfl rfl rfl rfl rfl (fun w hu a ha => let ⟨v, w', h1, h2⟩ := REv.buildSlice (xs := [4]) (enc := eInt) (mk := vi) Tryz.underlying30 Tryz.sizeOf3 Tryz.zeroValue3 rfl (by decide) (fun _ => rfl) (fun _ => rfl) (.cons (.const _) .nil) rfl a ha; ⟨v, w', h1, h2.q⟩) rfl ?_
  refine HW.yqc (ph := .eq (.bool true)) (phUp.eq _) rfl rfl rfl rfl rfl (fun a w hu ha => ⟨_, _, enter_any2 Tryz.en20 a w, (sameInts_any (a.eval (.tmp 75)) (a.eval (.tmp 76)) [4] [4] w (ha.known (p := fun v w => Sl w v 1 eInt [4]) rfl) (ha.known (p := fun v w => Sl w v 1 eInt [4]) rfl) (by decide) (by decide)).mono fun _ _ h => ⟨h.2, h.1.trans same44⟩⟩) rfl ?_
  refine HW.p (PEv.pick_and (.tmp rfl) (fun hp => (by first | exact .const _ | exact .tmp rfl | exact .cond rfl (by first | assumption | simp_all)))) rfl rfl ?_
  refine HW.p (PEv.move (.tmp rfl)) rfl rfl ?_
  refine HW.yp rfl rfl rfl rfl rfl (PEv.loadA Tryz.isAgg27 Tryz.sizeOf27 (hCs.size) (.tmp rfl) (hB1.agg)) rfl ?_
  refine HW.yp rfl rfl rfl rfl rfl (PEv.loadA Tryz.isAgg24 Tryz.sizeOf24 rfl (.tmp rfl) (hB4.agg)) rfl ?_
  refine HW.yqc (ph := .pred fun v w => Sl w v 1 eInt []) (fun _ _ _ h u => Sl.up h u) rfl rfl rfl rfl rfl (fun a w hu ha => ⟨_, _, enter_call0 (.cons (.tmp rfl) (.cons (.tmp rfl) .nil)) (Tryz.en12) a ha, (Stops_any _ _ actL _ ((hCs.up hU1).up hu) (by decide) (by decide) (by decide)).mono fun v w' h => ⟨h.2, sane_sL ▸ h.1.sl (fun _ => rfl)⟩⟩) rfl ?_
  refine HW.yp rfl rfl rfl rfl rfl (PEv.lenQ Tryz.underlying30 rfl (fun v w h => let ⟨ad, c, e, _⟩ := h; ⟨ad, c, e⟩)) rfl ?_
  refine HW.yp rfl rfl rfl rfl rfl (PEv.eql (.tmp rfl) (.const _)) rfl ?_
  refine HW.p (PEv.pick_and (.tmp rfl) (fun hp => (by first | exact .const _ | exact .tmp rfl | exact .cond rfl (by first | assumption | simp_all)))) rfl rfl ?_
  refine HW.p (PEv.move (.tmp rfl)) rfl rfl ?_
  refine HW.yp rfl rfl rfl rfl rfl (PEv.loadA Tryz.isAgg27 Tryz.sizeOf27 (hCs.size) (.tmp rfl) (hB1.agg)) rfl ?_
  refine HW.yp rfl rfl rfl rfl rfl (PEv.loadA Tryz.isAgg24 Tryz.sizeOf24 rfl (.tmp rfl) (hB3.agg)) rfl ?_
  refine HW.yqc (ph := .pred fun v w => Sl w v 1 eInt []) (fun _ _ _ h u => Sl.up h u) rfl rfl rfl rfl rfl (fun a w hu ha => ⟨_, _, enter_call0 (.cons (.tmp rfl) (.cons (.tmp rfl) .nil)) (Tryz.en12) a ha, (Stops_any _ _ actO _ ((hCs.up hU1).up hu) (by decide) (by decide) (by decide)).mono fun v w' h => ⟨h.2, sane_sO ▸ h.1.sl (fun _ => rfl)⟩⟩) rfl ?_
  refine HW.yp rfl rfl rfl rfl rfl (PEv.lenQ Tryz.underlying30 rfl (fun v w h => let ⟨ad, c, e, _⟩ := h; ⟨ad, c, e⟩)) rfl ?_
  refine HW.yp rfl rfl rfl rfl rfl (PEv.eql (.tmp rfl) (.const _)) rfl ?_
  refine HW.p (PEv.pick_and (.tmp rfl) (fun hp => (by first | exact .const _ | exact .tmp rfl | exact .cond rfl (by first | assumption | simp_all)))) rfl rfl ?_
  refine HW.p (PEv.assign (.tmp rfl)) rfl rfl ?_
  refine HW.nil ?_
  intro w15 uw15
  have zw15 := uw15.size
  replace hW := hW.up uw15
  replace hB1 := hB1.up uw15
  replace hU1 := hU1.up uw15
  replace hB2 := hB2.up uw15
  replace hB3 := hB3.up uw15
  replace hB4 := hB4.up uw15
  refine KW.then (CW.ret ?_)
  refine KW.ret1 rfl rfl ⟨_, rfl, ?_⟩
  exact ⟨rfl, hW⟩
end Go.Proofs.YtolkipbpklkcnaaGreat
end
section
namespace Go.Wx
open Go.RowKit
section
variable {P : Program} {n : Nat} {ds : List Deferred} {l : Env} {w : World} {d : Option Tmp} {ty : TypeId} {ps : String} {af : Array Edge} {g : Option (Nat × Bool)}
theorem PEv.max2 {x y : Operand} {ts : Array TypeId} {i j : Int} (hx : Val l x (.int .i64 i)) (hy : Val l y (.int .i64 j)) :
    PEv P n ds l w ⟨d, .call { callee := .builtin .max, args := #[x, y], argTypes := ts }, ty, ps, af, g⟩ (.int .i64 (if i < j then j else i)) := fun a w' ha _ => by
  rw [BigFrame.execOp_builtin, BigFrame.builtin_max]
  refine run_v ?_
  have e : (#[x, y] : Array Operand).map a.eval = #[.int .i64 i, .int .i64 j] := by simp [ha.ev hx, ha.ev hy]
  rw [e]
  exact run_max_int2 w' _ _ _ _ _ _
end
theorem OwnS.rebase {α : Type} {enc : α → Array Value} {b e k : Nat} {w : World} {v : Value} {xs : List α} (h : OwnS w 0 e k enc v xs) (hb : ∀ i, (aOwn e k enc v xs).foot i → b ≤ i) : OwnS w b e k enc v xs := by
  obtain ⟨h1, h2⟩ := h
  refine ⟨h1, ?_⟩
  rcases h2 with h2 | ⟨g, cap, cur, e, _, rest⟩
  · exact .inl h2
  · exact .inr ⟨g, cap, cur, e, hb g (by rw [e]; rfl), rest⟩
end Go.Wx
end
section
namespace Go.Wx
section
variable {P : Program} {n : Nat} {ds : List Deferred} {ops : Array Oper}
theorem HW.qc {base done : Env} {w0 : World} {o : Oper} {rest : List Oper} {K : Env → Prop} {d : Nat} {ph : Ph} (hp : phUp ph) (hg : o.guard = none)
    (h : ∀ a w, Up w0 w → Ag n ds (keepSlots (o.looksAt ops) done ++ base) a w → ∃ f args, (execOp a.eval o).run P w = .ok (.enter f args) w ∧ Ret P f args w fun v w' => Up w w' ∧ ph.holds v w') (hd : o.dst = some d) (k : HW P n ds ops base w0 ((d, ph) :: done) rest K) : HW P n ds ops base w0 done (o :: rest) K :=
  ⟨ph, d, hd, hp, fun a w hu ha => by
    rw [if_pos (by simp [Region.wanted, hg])]
    obtain ⟨f, args, e, r⟩ := h a w hu ha
    exact .inr ⟨f, args, w, e, r⟩, k⟩
end
end Go.Wx
namespace Go.Proofs.YtolkipbpklkcnaaGreat
open Go.Wx Go.RowKit
end Go.Proofs.YtolkipbpklkcnaaGreat
end
section
namespace Go.Wx
theorem snocI {α : Type} {M : List α → Prop} (nil : M []) (snoc : ∀ l x, M l → M (l ++ [x])) (l : List α) : M l := by
  have h : ∀ r : List α, M r.reverse := fun r => by
    induction r with
    | nil => exact nil
    | cons x r ih => rw [List.reverse_cons]; exact snoc _ _ ih
  have := h l.reverse
  rwa [List.reverse_reverse] at this
end Go.Wx
namespace Go.Proofs.YtolkipbpklkcnaaGreat
open Go.Wx Go.RowKit
end Go.Proofs.YtolkipbpklkcnaaGreat
end
section
namespace Go.Wx
theorem ltK_tot {a b : K2} (h : ltK b a = false) (hne : a ≠ b) : ltK a b = true := by
  obtain ⟨a1, a2⟩ := a
  obtain ⟨b1, b2⟩ := b
  unfold ltK at h ⊢
  simp only [Bool.or_eq_false_iff, Bool.and_eq_false_iff, decide_eq_false_iff_not, Bool.or_eq_true, Bool.and_eq_true, decide_eq_true_eq] at h ⊢
  by_cases h1 : a1 < b1
  · exact .inl h1
  · have e : a1 = b1 := by omega
    refine .inr ⟨e, ?_⟩
    subst e
    have : a2 ≠ b2 := fun e => hne (by rw [e])
    omega
theorem ord_pair (l : List Fact) (d : Int) {j : Nat} (hj : j < 11) : (lstOf (ofB l d) j).Pairwise fun x y => ltK (ordK ((j + 1 : Nat) : Int) x) (ordK ((j + 1 : Nat) : Int) y) = true := by
  have h := (lst_srt l d hj).and (lst_nodup l d hj)
  refine List.Pairwise.imp_of_mem (fun {x y} hx hy h => ltK_tot h.1 fun e => h.2 ?_) h
  have hx := (lst_mem hj).1 hx
  have hy := (lst_mem hj).1 hy
  exact eff_key hx.1 hy.1 (key_of_ord (eff_valid hx.1) (eff_valid hy.1) hx.2.2 hy.2.2 e)
def hOk (b : Base) : Prop := (∀ x ∈ b.Holds, validB x = true ∧ x.Kind = 7) ∧ b.Holds.Pairwise fun x y => x.ID < y.ID
theorem holds_ok (l : List Fact) (d : Int) : hOk (ofB l d) := by
  refine ⟨fun x hx => ?_, ?_⟩
  · have hx := (lst_mem (j := 6) (by decide)).1 hx
    exact ⟨eff_valid hx.1, hx.2.2⟩
  · refine List.Pairwise.imp (fun {x y} h => ?_) (ord_pair l d (j := 6) (by decide))
    replace h : (decide (x.ID < y.ID) || (decide (x.ID = y.ID) && decide ((0 : Int) < 0))) = true := h
    simpa using h
theorem hOk.filt {b : Base} (h : hOk b) : b.Holds.filter isHoldB = b.Holds := List.filter_eq_self.2 fun x hx => decide_eq_true (h.1 x hx).2
theorem stopKs_map {b : Base} {a : GAct} (l : List Fact) (hs : l.Pairwise fun x y => x.ID < y.ID) : stopKs b a l = (l.filter (stopB b a)).map (·.ID) := by
  induction l using snocI with
  | nil => rfl
  | snoc l x ih =>
    rw [List.pairwise_append] at hs
    rw [stopKs_snoc, ih hs.1, List.filter_append, List.map_append]
    unfold stopStep
    by_cases h : stopB b a x = true
    · rw [if_pos h, List.filter_cons_of_pos h]
      unfold setAdd
      rw [if_neg]
      · rfl
      · intro hm
        obtain ⟨y, hy, e⟩ := List.mem_map.1 hm
        have := hs.2.2 y (List.mem_filter.1 hy).1 x (by simp)
        omega
    · rw [if_neg h, List.filter_cons_of_neg h]
      simp
theorem stops_ok {b : Base} (h : hOk b) (a : GAct) : stopsOf b a = (b.Holds.filter (stopB b a)).map (·.ID) := by
  unfold stopsOf
  rw [h.filt, stopKs_map _ h.2]
  refine List.mergeSort_of_pairwise ?_
  rw [List.pairwise_map]
  exact (h.2.sublist List.filter_sublist).imp fun {x y} h => decide_eq_true (by omega)
theorem find_ok {b : Base} (h : hOk b) {x : Fact} (hx : x ∈ b.Holds) : findB b.Holds x.ID = some x := by
  unfold findB
  rw [h.filt]
  have inj : ∀ (l : List Fact), l.Pairwise (fun x y => x.ID < y.ID) → x ∈ l → l.find? (fun f => decide (f.ID = x.ID)) = some x := fun l => by
    induction l with
    | nil => intro _ hm; cases hm
    | cons y l ih =>
      intro hp hm
      rw [List.pairwise_cons] at hp
      by_cases e : y.ID = x.ID
      · rw [List.find?_cons_of_pos (by simpa using e)]
        rcases List.mem_cons.1 hm with rfl | hm
        · rfl
        · have := hp.1 x hm; omega
      · rw [List.find?_cons_of_neg (by simpa using e)]
        rcases List.mem_cons.1 hm with rfl | hm
        · exact absurd rfl e
        · exact ih hp.2 hm
  exact inj _ h.2 hx
theorem met1 {l x : Int} (hl : 0 ≤ l ∧ l ≤ 1000000) : (Cond.mk l 1 x).met = (decide (l = 0) || decide (IntKind.i64.wrap (l - 1) = x)) := by
  unfold Cond.met
  rw [show IntKind.i64.wrap (l - 1) = l - 1 from wrap_i64_in (by omega) (by omega)]
  by_cases h : l - 1 = x
  · rw [decide_eq_true h, decide_eq_true (show x ≤ l by omega)]; rfl
  · rw [decide_eq_false h, Bool.and_false]
structure HdIn (f : Fact) : Prop where
  wafer : 0 ≤ f.Wafer ∧ f.Wafer ≤ 1000000
  lot : 0 ≤ f.Lot ∧ f.Lot ≤ 1000000
  tool : 0 ≤ f.Tool ∧ f.Tool ≤ 1000000
  chamber : 0 ≤ f.Chamber ∧ f.Chamber ≤ 1000000
  step : 0 ≤ f.Step ∧ f.Step ≤ 1000000
  recipe : 0 ≤ f.Recipe ∧ f.Recipe ≤ 1000000
  revision : 0 ≤ f.Revision ∧ f.Revision ≤ 1000000
  time : 0 ≤ f.Time ∧ f.Time ≤ 1000000
  parties : 1 ≤ f.Parties ∧ f.Parties ≤ 255
theorem run_bound {o : Nat} {lo hi : Int} (ho : okOff o = true) : ∀ (fs : List Fld) (f g : Fact) (k : Nat), runF fs f = some g → (∀ x ∈ fs, okOff x.off = true) → fs[k]? = some ⟨o, lo, hi⟩ → (∀ x ∈ fs.take k, x.off ≠ o) → lo ≤ getF f o ∧ getF f o ≤ hi
  | [], _, _, _, _, _, hx, _ => by cases hx
  | y :: fs, f, g, k, hr, hok, hx, hne => by
    unfold runF at hr
    by_cases hc : getF f y.off < y.lo ∨ y.hi < getF f y.off
    · rw [if_pos hc] at hr; cases hr
    · rw [if_neg hc] at hr
      cases k with
      | zero => cases hx; dsimp only at hc; omega
      | succ k =>
        have h1 := run_bound ho fs (setF f y.off 0) g k hr (fun x hm => hok x (List.mem_cons_of_mem _ hm)) hx (fun x hm => hne x (by rw [List.take_succ_cons]; exact List.mem_cons_of_mem _ hm))
        rwa [get_set (hok y List.mem_cons_self) ho, if_neg (hne y (by rw [List.take_succ_cons]; exact List.mem_cons_self))] at h1
theorem hd_in {f : Fact} (hv : validB f = true) (hk : f.Kind = 7) : HdIn f := by
  have key : ∀ (k o : Nat) (lo hi : Int), (fieldsOf 7)[k]? = some ⟨o, lo, hi⟩ → okOff o = true → (∀ x ∈ (fieldsOf 7).take k, x.off ≠ o) → lo ≤ getF f o ∧ getF f o ≤ hi := fun k o lo hi hx ho hall => by
    unfold validB at hv
    rw [Bool.and_eq_true, Bool.and_eq_true, hk] at hv
    have h3 := hv.2.2
    cases hr : runF (fieldsOf 7) f with
    | none => rw [hr] at h3; cases h3
    | some g => exact run_bound ho _ f g k hr (by decide) hx hall
  have h3 : 0 ≤ f.Tool ∧ f.Tool ≤ 60 := key 3 11 _ _ rfl rfl (by decide)
  have h4 : 0 ≤ f.Chamber ∧ f.Chamber ≤ 4 := key 4 12 _ _ rfl rfl (by decide)
  have h5 : 0 ≤ f.Step ∧ f.Step ≤ 40 := key 5 13 _ _ rfl rfl (by decide)
  exact ⟨key 1 7 _ _ rfl rfl (by decide), key 2 9 _ _ rfl rfl (by decide), by omega, by omega, by omega, key 6 14 _ _ rfl rfl (by decide), key 7 15 _ _ rfl rfl (by decide), key 8 5 _ _ rfl rfl (by decide), key 10 17 _ _ rfl rfl (by decide)⟩
theorem filt_at {α : Type} {p : α → Bool} {l : List α} {k : Nat} {x : α} (hx : l[k]? = some x) (hp : p x = true) : (l.filter p)[((l.take k).filter p).length]? = some x := by
  obtain ⟨hk, e⟩ := List.getElem?_eq_some_iff.1 hx
  have h : l.filter p = (l.take k).filter p ++ x :: (l.drop (k + 1)).filter p := by
    rw [← List.filter_cons_of_pos hp, ← List.filter_append, ← e, ← List.drop_eq_getElem_cons hk, List.take_append_drop]
  rw [h, List.getElem?_append_right (Nat.le_refl _), Nat.sub_self]; rfl
theorem filt_yes2 {α : Type} {p : α → Bool} {l : List α} {k : Nat} {x : α} (hx : l[k]? = some x) (hp : p x = true) : ((l.take (k + 1)).filter p).length = ((l.take k).filter p).length + 1 := by
  rw [take_succ_of hx, List.filter_append, List.filter_cons_of_pos hp]; simp
theorem filt_no2 {α : Type} {p : α → Bool} {l : List α} {k : Nat} {x : α} (hx : l[k]? = some x) (hp : p x = false) : ((l.take (k + 1)).filter p).length = ((l.take k).filter p).length := by
  rw [take_succ_of hx, List.filter_append, List.filter_cons_of_neg (by rw [hp]; decide)]; simp
end Go.Wx
namespace Go.Proofs.YtolkipbpklkcnaaGreat
open Go.Wx Go.RowKit
end Go.Proofs.YtolkipbpklkcnaaGreat
end
section
namespace Go.Wx
theorem flat_size {α : Type} {enc : α → Array Go.Value} {k : Nat} (hk : ∀ x, (enc x).size = k) : ∀ xs : List α, (xs.flatMap fun x => (enc x).toList).length = xs.length * k
  | [] => by simp
  | x :: xs => by rw [List.flatMap_cons, List.length_append, flat_size hk xs, Array.length_toList, hk, List.length_cons, Nat.add_mul]; omega
theorem flat_take {α : Type} {enc : α → Array Go.Value} {k i : Nat} (hk : ∀ x, (enc x).size = k) {xs : List α} (hi : i ≤ xs.length) : (xs.flatMap fun x => (enc x).toList).take (i * k) = (xs.take i).flatMap fun x => (enc x).toList := by
  have e : xs = xs.take i ++ xs.drop i := (List.take_append_drop i xs).symm
  have hl : ((xs.take i).flatMap fun x => (enc x).toList).length = i * k := by rw [flat_size hk, List.length_take, Nat.min_eq_left hi]
  rw [show (xs.flatMap fun x => (enc x).toList) = ((xs.take i).flatMap fun x => (enc x).toList) ++ ((xs.drop i).flatMap fun x => (enc x).toList) by rw [← List.flatMap_append, List.take_append_drop], ← hl, List.take_left']
  rfl
section
variable {P : Program} {n : Nat} {ds : List Deferred} {l : Env} {w : World} {d : Option Tmp} {ty : TypeId} {ps : String} {af : Array Edge} {g : Option (Nat × Bool)}
theorem REv.clearTail {α : Type} {enc : α → Array Go.Value} {T e : TypeId} {k i cp : Nat} {x : Operand} {z : Go.Value} {ad : Option Addr} {xs : List α} (hT : P.underlying T = some (.slice e)) (hz : ∀ w, (zeroValue e).run P w = .ok z w) (hzs : z.cells.size = k) (h1 : z.cells.all (·.oneCell') = true) (hk : ∀ x, (enc x).size = k)
    (hx : Val l x (.slice (if cp = i then ad else ad.map (·.add (i * k))) (xs.length - i) (cp - i))) (hi : i ≤ xs.length) (ho : OwnS w 0 e k enc (.slice ad xs.length cp) xs) :
    REv P n ds l w ⟨d, .call { callee := .builtin .clear, args := #[x], argTypes := #[T] }, ty, ps, af, g⟩ (fun _ w' => Stp (aOwn e k enc (.slice ad xs.length cp) xs) (aOwn e k enc (.slice ad i cp) (xs.take i)) w w') := fun a ha => by
  by_cases h0 : xs.length - i = 0
  · have hie : i = xs.length := by omega
    subst hie
    refine ⟨.tuple #[], w, ?_, Fr.refl _ _, (show OwnS w 0 e k enc (.slice ad xs.length cp) (xs.take xs.length) by rw [List.take_length]; exact ho), fun i h => .inl h⟩
    have hx' := ha.ev hx
    rw [h0] at hx'
    simp only [execOp, resolve, invoke, builtin, Builtin.clear_]
    split at hx' <;> (try cases ad) <;> simp [hx', run_underlying hT, Result.andThen]
  · obtain ⟨hlen, ⟨he, hn⟩ | ⟨g', cap', cur, he, _, hg, hcap, hcm, hcs, htake⟩⟩ := ho
    · exact absurd hn (by omega)
    · cases he
      rw [if_neg (show ¬ cp = i by omega)] at hx
      have hzc : (Builtin.zeroCells z.cells (xs.length - i)).size = (xs.length - i) * k := by rw [← hzs]; simp [Builtin.zeroCells]
      have hle : xs.length * k ≤ cur.size := by rw [hcs]; exact Nat.mul_le_mul_right k hcap
      have hsum : i * k + (xs.length - i) * k = xs.length * k := by rw [← Nat.add_mul]; congr 1; omega
      have hst := run_storeCells_at P g' (i * k) e (Builtin.zeroCells z.cells (xs.length - i)).toList 0 cur w hg (by rw [Array.length_toList, hzc]; omega) (fun u hu => by
        simp only [Builtin.zeroCells, Array.toList_map, List.mem_map] at hu
        obtain ⟨i, _, rfl⟩ := hu
        by_cases hk : z.cells.size = 0
        · have : z.cells = #[] := Array.eq_empty_of_size_eq_zero hk
          simp [this] at *
        · have hlt : i % z.cells.size < z.cells.size := Nat.mod_lt _ (by omega)
          rw [getElem!_pos z.cells _ hlt]
          exact Array.all_eq_true_iff_forall_mem.1 h1 _ (Array.getElem_mem hlt))
      refine ⟨.tuple #[], w.setRow g' (cur.toList.take (i * k + 0) ++ (Builtin.zeroCells z.cells (xs.length - i)).toList ++ cur.toList.drop (i * k + 0 + (Builtin.zeroCells z.cells (xs.length - i)).toList.length)).toArray, ?_, ⟨rfl, rfl, rfl, by simp, fun i hi hne => setRow_other w g' i _ (fun e => hne (by rw [e]; rfl))⟩, ?_, fun i h => .inl h⟩
      · obtain ⟨m, hm⟩ : ∃ m, xs.length - i = m + 1 := ⟨xs.length - i - 1, by omega⟩
        rw [hm] at hst hx ⊢
        have ead : (⟨g', 0, none⟩ : Addr).add (i * k) = ⟨g', i * k, none⟩ := by
          unfold Addr.add
          by_cases h : i * k = 0 <;> simp [h]
        simp only [Option.map_some] at hx
        rw [ead] at hx
        simp [execOp, resolve, invoke, builtin, ha.ev hx, Builtin.clear_, run_underlying hT, Result.andThen, hz]
        rw [hst]
        simp
      · show OwnS _ 0 e k enc (.slice (some ⟨g', 0, none⟩) i cp) (xs.take i)
        have hf := flat_take hk hi
        refine ⟨by rw [flat_size hk, List.length_take, Nat.min_eq_left hi], .inr ⟨g', cp, _, by rw [List.length_take, Nat.min_eq_left hi], Nat.zero_le _, setRow_heap w g' cur _ e (0, 0) hg, by rw [List.length_take]; omega, hcm, ?_, ?_⟩⟩
        · simp only [List.size_toArray, List.length_append, List.length_take, List.length_drop, Array.length_toList, hzc]
          omega
        · rw [List.length_take, Nat.min_eq_left hi, ← hf, ← htake]
          simp only [Nat.add_zero, List.append_assoc]
          rw [List.take_append_of_le_length (by rw [List.length_take, Array.length_toList]; omega), List.take_take, List.take_take]
          congr 1
          omega
end
section
variable {P : Program} {n : Nat} {ds : List Deferred} {l : Env} {w : World} {d : Option Tmp} {ty : TypeId} {ps : String} {af : Array Edge} {g : Option (Nat × Bool)}
theorem PEv.eqlNilS {T T' e : TypeId} {x : Operand} {ad : Option Addr} {m c : Nat} (hT : P.underlying T = some (.slice e)) (hx : Val l x (.slice ad m c)) : PEv P n ds l w ⟨d, .binOp .eql T x (.const (.slice none 0 0)) T', ty, ps, af, g⟩ (.bool ad.isNone) := fun a w' ha _ => by
  refine run_v ?_
  have e1 : a.eval (.const (.slice none 0 0)) = .slice none 0 0 := rfl
  rw [ha.ev hx, e1, Sem.run_bind]
  have : (eqGuard .eql T x (.const (.slice none 0 0)) (.slice ad m c) (.slice none 0 0)).run P w' = .ok () w' := by unfold eqGuard; rfl
  rw [this]
  exact Lib.run_eql_slice_nil w' T e ad m c 0 0 hT
end
def IdxI (p : Int → Bool) (l : List Int) (i : Int) : Prop := (∃ (k : Nat) (x : Int), i = (k : Int) ∧ l[k]? = some x ∧ p x = true ∧ ∀ y ∈ l.take k, p y = false) ∨ (i = -1 ∧ ∀ y ∈ l, p y = false)
theorem take_noneI {p : Int → Bool} {l : List Int} {k : Nat} {x : Int} (hx : l[k]? = some x) (hn : ∀ y ∈ l.take k, p y = false) (h : p x = false) : ∀ y ∈ l.take (k + 1), p y = false := fun y hy => by
  rw [take_succ_of hx] at hy
  rcases List.mem_append.1 hy with hy | hy
  · exact hn y hy
  · rw [List.mem_singleton.1 hy]; exact h
def keepI (p : Int → Bool) (l : List Int) (j : Nat) : List Int := (l.take j).filter fun x => !p x
theorem keepI_len (p : Int → Bool) (l : List Int) (j : Nat) : (keepI p l j).length ≤ j := Nat.le_trans (List.length_filter_le _ _) (by rw [List.length_take]; omega)
theorem keepI_first {p : Int → Bool} {l : List Int} {k : Nat} {x : Int} (hx : l[k]? = some x) (hp : p x = true) (hn : ∀ y ∈ l.take k, p y = false) : keepI p l (k + 1) = l.take k := by
  unfold keepI
  rw [take_succ_of hx, List.filter_append, List.filter_cons_of_neg (by rw [hp]; decide), List.filter_nil, List.append_nil]
  exact List.filter_eq_self.2 fun y hy => by rw [hn y hy]; rfl
theorem keepI_yes {p : Int → Bool} {l : List Int} {k : Nat} {x : Int} (hx : l[k]? = some x) (hp : p x = false) : keepI p l (k + 1) = keepI p l k ++ [x] := by
  unfold keepI
  rw [take_succ_of hx, List.filter_append, List.filter_cons_of_pos (by rw [hp]; rfl), List.filter_nil]
theorem keepI_no {p : Int → Bool} {l : List Int} {k : Nat} {x : Int} (hx : l[k]? = some x) (hp : p x = true) : keepI p l (k + 1) = keepI p l k := by
  unfold keepI
  rw [take_succ_of hx, List.filter_append, List.filter_cons_of_neg (by rw [hp]; decide), List.filter_nil, List.append_nil]
theorem keepI_none {p : Int → Bool} {l : List Int} (hn : ∀ y ∈ l, p y = false) : (l.filter fun x => !p x) = l := List.filter_eq_self.2 fun y hy => by rw [hn y hy]; rfl
structure DelI (p : Int → Bool) (l M : List Int) (j : Nat) : Prop where
  len : M.length = l.length
  kept : M.take (keepI p l j).length = keepI p l j
  rest : ∀ m, j ≤ m → M[m]? = l[m]?
theorem DelI.start {p : Int → Bool} {l : List Int} {k : Nat} {x : Int} (hx : l[k]? = some x) (hp : p x = true) (hn : ∀ y ∈ l.take k, p y = false) : DelI p l l (k + 1) := by
  have hk : k < l.length := (List.getElem?_eq_some_iff.1 hx).1
  refine ⟨rfl, ?_, fun _ _ => rfl⟩
  rw [keepI_first hx hp hn, List.length_take, Nat.min_eq_left (by omega)]
theorem DelI.no {p : Int → Bool} {l M : List Int} {j : Nat} {x : Int} (h : DelI p l M j) (hx : l[j]? = some x) (hp : p x = true) : DelI p l M (j + 1) :=
  ⟨h.len, by rw [keepI_no hx hp]; exact h.kept, fun m hm => h.rest m (by omega)⟩
theorem DelI.yes {p : Int → Bool} {l M : List Int} {j : Nat} {x : Int} (h : DelI p l M j) (hx : l[j]? = some x) (hp : p x = false) : DelI p l (M.set (keepI p l j).length x) (j + 1) := by
  have hj : j < l.length := (List.getElem?_eq_some_iff.1 hx).1
  have hk := keepI_len p l j
  have hM := h.len
  refine ⟨by rw [List.length_set, hM], ?_, fun m hm => ?_⟩
  · rw [keepI_yes hx hp, List.length_append, List.length_singleton, List.take_succ_eq_append_getElem (by rw [List.length_set]; omega), List.getElem_set_self, List.take_set_of_le (Nat.le_refl _), h.kept]
  · rw [List.getElem?_set_ne (by omega)]
    exact h.rest m (by omega)
theorem keepI_all {p : Int → Bool} {l : List Int} : keepI p l l.length = l.filter fun x => !p x := by unfold keepI; rw [List.take_length]
theorem OwnS.lcp {α : Type} {enc : α → Array Go.Value} {b k m cp : Nat} {e : TypeId} {w : World} {ad : Option Addr} {xs : List α} (h : OwnS w b e k enc (.slice ad m cp) xs) : xs.length ≤ cp := by
  obtain ⟨_, ⟨he, hn⟩ | ⟨g', cap, cur, he, _, _, hcap, _⟩⟩ := h
  · cases he; omega
  · cases he; exact hcap
end Go.Wx
namespace Go.Proofs.YtolkipbpklkcnaaGreat
open Go.Wx Go.RowKit
theorem indexI_any (cf : Nat) (lb : Array Go.Value) (p : Int → Bool) (hen : ∀ args w, (callFunc cf args).run Tryz.prog w = .ok (.enter cf args) w) (ad : Option Addr) (cp : Nat) (l : List Int) (w : World) (hE0 : Els w ad 1 eInt l) (hl : l.length ≤ 1000000000) (hp : ∀ W, Up w W → ∀ x, Ret Tryz.prog cf (#[vi x] ++ lb) W fun r W' => r = .bool (p x) ∧ Up W W') : Ret Tryz.prog 87 #[.slice ad l.length cp, .func (.func cf) #[] lb] w fun r w' => ∃ i, r = vi i ∧ IdxI p l i ∧ Up w w' := by
  have hW := Up.refl w
  obtain ⟨w0, rfl⟩ : ∃ w0, w0 = w := ⟨_, rfl⟩
  refine Calls_start (n := 19) (m := 9) Tryz.func87 rfl rfl rfl ?_
  refine CW.seq (CW.region (LW.p (PEv.assign (.const _)) rfl rfl rfl (LW.nil (KW.then (CW.seq (CW.seq (CW.region (LW.p (PEv.move (.tmp rfl)) rfl rfl rfl ?_))))))))
  refine LW.p (PEv.lenS Tryz.underlying30 (.tmp rfl)) rfl rfl rfl ?_
  refine LW.p (PEv.move (.const _)) rfl rfl rfl ?_
  refine LW.nil (KW.then (CW.block ?_))
  refine CW.loopB (σ := Nat) (fun s w => (s ≤ l.length) ∧ (∀ y ∈ l.take s, p y = false) ∧ (Up w0 w)) (fun s => [(8, .eq (vi (s : Int)))]) ([(0, .eq _), (1, .eq _), (7, .eq _)]) (fun s => l.length - s) 0 ?_ ⟨rfl, rfl, rfl, rfl, trivial⟩ ?_
  ·exact ⟨Nat.zero_le _, by simp, hW⟩
  ·rintro k w1 ⟨hk, hn, hW⟩
   refine CW.seq (CW.region ?_)
   refine LW.p (PEv.lss (.tmp rfl) (.tmp rfl)) rfl rfl rfl ?_
   refine LW.nil (KW.then (CW.seq ?_))
   refine CW.cond (.tmp rfl) (fun h9 => ?_) (fun h9 => ?_)
   ·first | replace h9 := of_decide_eq_true h9 | replace h9 := of_decide_eq_false h9 | skip
    refine CW.skip (KW.then (CW.seq (CW.block (CW.seq (CW.region (LW.p (PEv.move (.tmp rfl)) rfl rfl rfl (LW.p (PEv.assign (.tmp rfl)) rfl rfl rfl (LW.nil (KW.then (CW.seq ?_))))))))))
    have hE := Els.up hE0 hW
    refine CW.region (LW.p (PEv.move (.tmp rfl)) rfl rfl rfl (LW.p (PEv.move (.tmp rfl)) rfl rfl rfl (LW.p (PEv.move (.tmp rfl)) rfl rfl rfl ?_)))
    obtain ⟨x, hx⟩ := getElem?_of_lt (xs := l) (i := k) (by omega)
    obtain ⟨Bx, ox, ax, hcx⟩ := hE _ x hx
    refine LW.p (PEv.indexAddr' Tryz.underlying30 Tryz.sizeOf3 (.tmp rfl) (.tmp rfl) (by omega) ax) rfl rfl rfl ?_
    refine LW.p (PEv.load Tryz.isAgg3 (.tmp rfl) (hcx.nth (j := 0) rfl)) rfl rfl rfl ?_
    refine LW.c (enter_call (.tmp rfl) (.cons (.tmp rfl) .nil) (hen)) rfl rfl rfl rfl (hp _ hW x) ?_
    rintro _ w2 ⟨rfl, uw2⟩
    have zw2 := uw2.size
    replace hW := hW.up uw2
    replace hcx := hcx.up uw2
    refine LW.nil (KW.then ?_)
    refine CW.cond (.tmp rfl) (fun h16 => ?_) (fun h16 => ?_)
    ·first | replace h16 := of_decide_eq_true h16 | replace h16 := of_decide_eq_false h16 | skip
     refine CW.seq (CW.region (LW.p (PEv.move (.tmp rfl)) rfl rfl rfl (LW.p (PEv.assign (.tmp rfl)) rfl rfl rfl (LW.nil (KW.then (CW.ret (KW.block_ret (KW.then_ret (KW.then_ret (KW.block_ret (KW.then_ret ?_)))))))))))
     refine KW.ret1 rfl rfl ⟨_, rfl, ?_⟩
     first | exact ⟨_, rfl, .inl ⟨k, x, rfl, hx, by simpa using h16, hn⟩, hW⟩ | exact ⟨-1, rfl, .inr ⟨rfl, by rw [show k = l.length by omega, List.take_length] at hn; exact hn⟩, hW⟩
    ·first | replace h16 := of_decide_eq_true h16 | replace h16 := of_decide_eq_false h16 | skip
     refine CW.skip (KW.inBlock (KW.then (CW.region ?_)))
     refine LW.p (PEv.inc (.tmp rfl) (by omega)) rfl rfl rfl ?_
     refine LW.p (PEv.move (.tmp rfl)) rfl rfl rfl (LW.nil (KW.round ?_))
     exact ⟨k + 1, ⟨by omega, take_noneI hx hn (by simpa using h16), hW⟩, ⟨rfl, rfl, rfl, rfl, trivial⟩, by first | omega | (dsimp only; omega)⟩
   ·first | replace h9 := of_decide_eq_true h9 | replace h9 := of_decide_eq_false h9 | skip
    refine CW.exit (KW.then_exit (KW.then_exit (KW.block_hit (KW.then (CW.seq (CW.region (LW.p (PEv.assign (.const _)) rfl rfl rfl (LW.nil (KW.then (CW.ret ?_))))))))))
    refine KW.ret1 rfl rfl ⟨_, rfl, ?_⟩
    first | exact ⟨_, rfl, .inl ⟨k, x, rfl, hx, by simpa using h16, hn⟩, hW⟩ | exact ⟨-1, rfl, .inr ⟨rfl, by rw [show k = l.length by omega, List.take_length] at hn; exact hn⟩, hW⟩
theorem deleteI_any (cf : Nat) (lb : Array Go.Value) (p : Int → Bool) (hen : ∀ args w, (callFunc cf args).run Tryz.prog w = .ok (.enter cf args) w) (ad : Option Addr) (cp : Nat) (l : List Int) (w : World) (ho : OwnS w 0 3 1 eInt (.slice ad l.length cp) l) (hl : l.length ≤ 1000000000) (hp : ∀ W, Fr (aOwn 3 1 eInt (.slice ad l.length cp) (l)).foot w W → ∀ x, Ret Tryz.prog cf (#[vi x] ++ lb) W fun r W' => r = .bool (p x) ∧ Up W W') : Ret Tryz.prog 44 #[.slice ad l.length cp, .func (.func cf) #[] lb] w fun r w' => Stp (aOwn 3 1 eInt (.slice ad l.length cp) (l)) (aOwn 3 1 eInt (r) (l.filter fun x => !p x)) w w' := by
  obtain ⟨w0, rfl⟩ : ∃ w0, w0 = w := ⟨_, rfl⟩
  have hS : Wx.Sep (aOwn 3 1 eInt (.slice ad l.length cp) (l)).foot w0 w0 [aOwn 3 1 eInt (.slice ad l.length cp) (l)] := Sep.cons ho (fun _ h => h) (Sep.start _ _) (by simp)
  refine Calls_start (n := 42) (m := 9) Tryz.func44 rfl rfl rfl ?_
  refine CW.seq (CW.region (LW.p (PEv.assign (.const _)) rfl rfl rfl (LW.nil (KW.then (CW.seq (CW.region (LW.p (PEv.move (.tmp rfl)) rfl rfl rfl (LW.p (PEv.move (.tmp rfl)) rfl rfl rfl ?_))))))))
  refine LW.c (enter_call0 (.cons (.tmp rfl) (.cons (.tmp rfl) .nil)) (Tryz.en87)) rfl rfl rfl rfl (indexI_any cf lb p hen ad cp l _ ((hS.own 0 rfl).els (fun _ => rfl)) hl (fun W u x => hp W (hS.fr.trans (u.fr _)) x)) ?_
  rintro _ w1 ⟨i, rfl, hi, uw1⟩
  have zw1 := uw1.size
  replace hS := hS.up uw1
  refine LW.p (PEv.assign (.tmp rfl)) rfl rfl rfl (LW.nil (KW.then (CW.seq (CW.seq (CW.region (LW.p (PEv.move (.tmp rfl)) rfl rfl rfl ?_))))))
  refine LW.p (PEv.eql (.tmp rfl) (.const _)) rfl rfl rfl ?_
  refine LW.nil (KW.then ?_)
  refine CW.cond (.tmp rfl) (fun h12 => ?_) (fun h12 => ?_)
  ·first | replace h12 := of_decide_eq_true h12 | replace h12 := of_decide_eq_false h12 | skip
   have hn := (hi.resolve_left (fun ⟨k, x, e, _⟩ => by omega)).2
   refine CW.seq (CW.region (LW.p (PEv.move (.tmp rfl)) rfl rfl rfl (LW.p (PEv.assign (.tmp rfl)) rfl rfl rfl (LW.nil (KW.then (CW.ret (KW.then_ret ?_)))))))
   refine KW.ret1 rfl rfl ⟨_, rfl, ?_⟩
   first | exact ⟨hS.fr, by rw [keepI_none hn]; exact hS.get 0 rfl, fun _ h => .inl h⟩ | exact ⟨hS.fr, by rw [← keepI_all, ← hjl, ← hD.kept, ← hi2]; exact hS.get 0 rfl, fun _ h => .inl h⟩
  ·first | replace h12 := of_decide_eq_true h12 | replace h12 := of_decide_eq_false h12 | skip
   refine CW.skip (KW.then (CW.seq (CW.seq ?_)))
   obtain ⟨k, x, rfl, hx, hpx, hn⟩ := hi.resolve_right (fun ⟨e, _⟩ => h12 e)
   have hkl := (List.getElem?_eq_some_iff.1 hx).1
   obtain ⟨g, rfl⟩ := (hS.own 0 rfl).adr (by omega)
   have hD0 := DelI.start hx hpx hn
   have hk0 : k = (keepI p l (k + 1)).length := by rw [keepI_first hx hpx hn, List.length_take]; omega
   refine CW.region (LW.p (PEv.move (.tmp rfl)) rfl rfl rfl ?_)
   refine LW.p (PEv.inc (.tmp rfl) (by omega)) rfl rfl rfl ?_
   refine LW.p (PEv.assign (.tmp rfl)) rfl rfl rfl (LW.nil (KW.then (CW.block ?_)))
   refine CW.loopB (σ := Nat × Nat × List Int) (fun s w => (s.1 ≤ l.length) ∧ (s.2.1 = (keepI p l s.1).length) ∧ (DelI p l s.2.2 s.1) ∧ (Wx.Sep (aOwn 3 1 eInt (.slice (some ⟨g, 0, none⟩) l.length cp) l).foot w0 w [aOwn 3 1 eInt (.slice (some ⟨g, 0, none⟩) l.length cp) s.2.2])) (fun s => [(6, .eq (vi (s.1 : Int))), (5, .eq (vi (s.2.1 : Int)))]) ([(0, .eq _), (1, .eq _), (4, .eq _)]) (fun s => l.length - s.1) (k + 1, k, l) ?_ ⟨rfl, rfl, rfl, rfl, rfl, trivial⟩ ?_
   ·exact ⟨by show k + 1 ≤ _; omega, hk0, hD0, hS⟩
   ·rintro ⟨j, i, M⟩ w2 ⟨hj, hi2, hD, hS⟩
    dsimp only at hj hi2 hD hS
    change CW _ _ _ _ _ _ _ ([(6, .eq (vi (j : Int))), (5, .eq (vi (i : Int)))] ++ _) _
    refine CW.seq (CW.seq (CW.region (LW.p (PEv.move (.tmp rfl)) rfl rfl rfl (LW.p (PEv.move (.tmp rfl)) rfl rfl rfl ?_))))
    refine LW.p (PEv.lenS Tryz.underlying30 (.tmp rfl)) rfl rfl rfl ?_
    refine LW.p (PEv.lss (.tmp rfl) (.tmp rfl)) rfl rfl rfl ?_
    refine LW.nil (KW.then ?_)
    refine CW.cond (.tmp rfl) (fun h19 => ?_) (fun h19 => ?_)
    ·first | replace h19 := of_decide_eq_true h19 | replace h19 := of_decide_eq_false h19 | skip
     refine CW.skip (KW.then (CW.seq (CW.block (CW.seq ?_))))
     have hjl : j < l.length := by omega
     obtain ⟨x, hx⟩ := getElem?_of_lt (xs := l) (i := j) hjl
     have hxM := (hD.rest j (Nat.le_refl _)).trans hx
     obtain ⟨Bx, ox, ax, hcx⟩ := ((hS.own 0 rfl).els (fun _ => rfl)) j x hxM
     cases ax
     refine CW.region (LW.p (PEv.move (.tmp rfl)) rfl rfl rfl (LW.p (PEv.move (.tmp rfl)) rfl rfl rfl ?_))
     refine LW.p (PEv.indexAddr' Tryz.underlying30 Tryz.sizeOf3 (.tmp rfl) (.tmp rfl) (by omega) rfl) rfl rfl rfl ?_
     refine LW.p (PEv.load Tryz.isAgg3 (.tmp rfl) (hcx.nth (j := 0) rfl)) rfl rfl rfl ?_
     refine LW.p (PEv.assign (.tmp rfl)) rfl rfl rfl (LW.nil (KW.then (CW.seq (CW.region (LW.p (PEv.move (.tmp rfl)) rfl rfl rfl (LW.p (PEv.move (.tmp rfl)) rfl rfl rfl ?_))))))
     refine LW.c (enter_call (.tmp rfl) (.cons (.tmp rfl) .nil) (hen)) rfl rfl rfl rfl (hp _ hS.fr x) ?_
     rintro _ w3 ⟨rfl, uw3⟩
     have zw3 := uw3.size
     replace hS := hS.up uw3
     refine LW.p (PEv.not (.tmp rfl)) rfl rfl rfl ?_
     refine LW.nil (KW.then ?_)
     refine CW.cond (.tmp rfl) (fun h29 => ?_) (fun h29 => ?_)
     ·first | replace h29 := of_decide_eq_true h29 | replace h29 := of_decide_eq_false h29 | skip
      refine CW.seq ?_
      have hkj := keepI_len p l j
      have hMl := hD.len
      obtain ⟨y, hy⟩ := getElem?_of_lt (xs := M) (i := i) (by omega)
      have hpn : p x = false := by simpa using h29
      have hky := keepI_yes hx hpn
      refine CW.region (LW.p (PEv.move (.tmp rfl)) rfl rfl rfl (LW.p (PEv.move (.tmp rfl)) rfl rfl rfl (LW.p (PEv.move (.tmp rfl)) rfl rfl rfl ?_)))
      refine LW.p (PEv.indexAddr' Tryz.underlying30 Tryz.sizeOf3 (.tmp rfl) (.tmp rfl) (by omega) rfl) rfl rfl rfl ?_
      refine LW.s (SEv.storeOwnF (enc := eInt) (k := 1) (z := x) (i := i) (j := 0) Tryz.sizeOf3 (fun _ => rfl) rfl (.tmp rfl) (.tmp rfl) (hS.own 0 rfl) hy (by decide) rfl) rfl rfl rfl ?_
      intro w4 Gw4
      have zw4 := Gw4.fr.size
      replace hS := hS.stp 0 rfl Gw4
      change Wx.Sep _ _ _ [_] at hS
      refine LW.nil (KW.then (CW.region (LW.p (PEv.move (.tmp rfl)) rfl rfl rfl ?_)))
      refine LW.p (PEv.inc (.tmp rfl) (by omega)) rfl rfl rfl ?_
      refine LW.p (PEv.assign (.tmp rfl)) rfl rfl rfl (LW.nil (KW.inBlock (KW.then (CW.region (LW.p (PEv.move (.tmp rfl)) rfl rfl rfl ?_)))))
      refine LW.p (PEv.inc (.tmp rfl) (by omega)) rfl rfl rfl ?_
      refine LW.p (PEv.assign (.tmp rfl)) rfl rfl rfl (LW.nil (KW.round ?_))
      first | exact ⟨(j + 1, i + 1, M.set i x), ⟨by show j + 1 ≤ _; omega, by show i + 1 = _; rw [hky, hi2]; simp, by show DelI p l (M.set i x) (j + 1); rw [hi2]; exact hD.yes hx hpn, hS⟩, ⟨rfl, rfl, rfl, rfl, rfl, trivial⟩, by show l.length - (j + 1) < l.length - j; omega⟩ | exact ⟨(j + 1, i, M), ⟨by show j + 1 ≤ _; omega, by show i = _; rw [keepI_no hx (by simpa using h29)]; exact hi2, hD.no hx (by simpa using h29), hS⟩, ⟨rfl, rfl, rfl, rfl, rfl, trivial⟩, by show l.length - (j + 1) < l.length - j; omega⟩
     ·first | replace h29 := of_decide_eq_true h29 | replace h29 := of_decide_eq_false h29 | skip
      refine CW.skip (KW.inBlock (KW.then (CW.region (LW.p (PEv.move (.tmp rfl)) rfl rfl rfl ?_))))
      refine LW.p (PEv.inc (.tmp rfl) (by omega)) rfl rfl rfl ?_
      refine LW.p (PEv.assign (.tmp rfl)) rfl rfl rfl (LW.nil (KW.round ?_))
      first | exact ⟨(j + 1, i + 1, M.set i x), ⟨by show j + 1 ≤ _; omega, by show i + 1 = _; rw [hky, hi2]; simp, by show DelI p l (M.set i x) (j + 1); rw [hi2]; exact hD.yes hx hpn, hS⟩, ⟨rfl, rfl, rfl, rfl, rfl, trivial⟩, by show l.length - (j + 1) < l.length - j; omega⟩ | exact ⟨(j + 1, i, M), ⟨by show j + 1 ≤ _; omega, by show i = _; rw [keepI_no hx (by simpa using h29)]; exact hi2, hD.no hx (by simpa using h29), hS⟩, ⟨rfl, rfl, rfl, rfl, rfl, trivial⟩, by show l.length - (j + 1) < l.length - j; omega⟩
    ·first | replace h19 := of_decide_eq_true h19 | replace h19 := of_decide_eq_false h19 | skip
     refine CW.exit (KW.then_exit (KW.then_exit (KW.block_hit (KW.then (CW.seq ?_)))))
     have hjl : j = l.length := by omega
     have hkj := keepI_len p l j
     have hMl := hD.len
     have hcl := (hS.own 0 rfl).lcp
     refine CW.region (LW.p (PEv.move (.tmp rfl)) rfl rfl rfl (LW.p (PEv.move (.tmp rfl)) rfl rfl rfl ?_))
     refine LW.p (PEv.sliceFrom Tryz.underlying30 Tryz.sizeOf3 (.tmp rfl) (.tmp rfl) (by omega)) rfl rfl rfl ?_
     refine LW.rn (REv.clearTail (enc := eInt) (k := 1) Tryz.underlying30 Tryz.zeroValue3 rfl (by simp [Value.cells, Value.oneCell']) (fun _ => rfl) (xs := M) (i := i) (by rw [hD.len]; exact .tmp rfl) (by omega) (by rw [hD.len]; exact hS.own 0 rfl)) rfl rfl rfl ?_
     intro v_ w5 Gw5
     rw [hD.len] at Gw5
     have zw5 := Gw5.fr.size
     replace hS := hS.stp 0 rfl Gw5
     change Wx.Sep _ _ _ [_] at hS
     refine LW.nil (KW.then (CW.seq (CW.region (LW.p (PEv.move (.tmp rfl)) rfl rfl rfl (LW.p (PEv.move (.tmp rfl)) rfl rfl rfl ?_)))))
     refine LW.p (PEv.sliceHi Tryz.underlying30 Tryz.sizeOf3 (.tmp rfl) (.tmp rfl) (by omega)) rfl rfl rfl ?_
     refine LW.p (PEv.assign (.tmp rfl)) rfl rfl rfl (LW.nil (KW.then (CW.ret ?_)))
     refine KW.ret1 rfl rfl ⟨_, rfl, ?_⟩
     first | exact ⟨hS.fr, by rw [keepI_none hn]; exact hS.get 0 rfl, fun _ h => .inl h⟩ | exact ⟨hS.fr, by rw [← keepI_all, ← hjl, ← hD.kept, ← hi2]; exact hS.get 0 rfl, fun _ h => .inl h⟩
theorem cloneI_any (ad : Option Addr) (cp : Nat) (l : List Int) (w : World) (hE0 : Els w ad 1 eInt l) (hl : l.length ≤ 1000000000) : Ret Tryz.prog 45 #[.slice ad l.length cp] w fun r w' => OwnS w' w.heap.size 3 1 eInt r l ∧ Up w w' := by
  obtain ⟨w0, rfl⟩ : ∃ w0, w0 = w := ⟨_, rfl⟩
  have hS := Sep.start no w0
  refine Calls_start (n := 8) (m := 9) Tryz.func45 rfl rfl rfl ?_
  refine CW.seq (CW.region (LW.p (PEv.assign (.const _)) rfl rfl rfl (LW.nil (KW.then (CW.seq (CW.seq (CW.region (LW.p (PEv.move (.tmp rfl)) rfl rfl rfl ?_))))))))
  refine LW.p (PEv.eqlNilS Tryz.underlying30 (.tmp rfl)) rfl rfl rfl ?_
  refine LW.nil (KW.then ?_)
  refine CW.cond (.tmp rfl) (fun h4 => ?_) (fun h4 => ?_)
  ·first | replace h4 := of_decide_eq_true h4 | replace h4 := of_decide_eq_false h4 | skip
   have hnil : l = [] := by cases l with | nil => rfl | cons x r => (obtain ⟨B, o, e, _⟩ := hE0 0 x rfl; rw [e] at h4; cases h4)
   refine CW.seq (CW.region (LW.p (PEv.assign (.const _)) rfl rfl rfl (LW.nil (KW.then (CW.ret (KW.then_ret ?_))))))
   refine KW.ret1 rfl rfl ⟨_, rfl, ?_⟩
   first | (subst hnil; exact ⟨OwnS.nil _ _ _ _ _, hS.upd⟩) | exact ⟨(hS.own 0 rfl).rebase (fun i h => (hS.foot 0 rfl i h).resolve_left (fun h => h)), hS.upd⟩
  ·first | replace h4 := of_decide_eq_true h4 | replace h4 := of_decide_eq_false h4 | skip
   refine CW.skip (KW.then (CW.seq (CW.region ?_)))
   refine LW.r (REv.buildSlice (xs := ([] : List Int)) (enc := eInt) (mk := vi) Tryz.underlying30 Tryz.sizeOf3 Tryz.zeroValue3 rfl (by decide) (fun _ => rfl) (fun _ => rfl) .nil rfl) rfl rfl rfl rfl ?_
   intro v5 w1 hN5
   obtain ⟨uw1, B5, rfl, hO5⟩ := NewSl.own0 hN5 (Nat.le_refl _)
   have zw1 := uw1.size
   replace hS := hS.add uw1 (A' := aOwn 3 1 eInt (.slice (some ⟨B5, 0, none⟩) 0 0) ([] : List Int)) (hO5.mono (Nat.zero_le _)) (fun i h => hO5.base i h)
   clear hN5 hO5
   change Wx.Sep _ _ _ [_] at hS
   refine LW.p (PEv.move (.tmp rfl)) rfl rfl rfl ?_
   refine LW.r (REv.appendF (enc := eInt) (bytes := 8) (i := Tryz.t3) Tryz.underlying30 (by kernel_rfl) rfl rfl rfl rfl (by decide) (fun _ => rfl) eInt_one (.tmp rfl) (.tmp rfl) (hS.own 0 rfl) (Sl.of_els (Els.up hE0 hS.upd)) (by simp [maxLen]; omega) (by simp; omega)) rfl rfl rfl rfl ?_
   intro v7 w2 Gw2
   have zw2 := Gw2.fr.size
   replace hS := hS.stp 0 rfl Gw2
   change Wx.Sep _ _ _ [_] at hS
   refine LW.p (PEv.assign (.tmp rfl)) rfl rfl rfl (LW.nil (KW.then (CW.ret ?_)))
   refine KW.ret1 rfl rfl ⟨_, rfl, ?_⟩
   first | (subst hnil; exact ⟨OwnS.nil _ _ _ _ _, hS.upd⟩) | exact ⟨(hS.own 0 rfl).rebase (fun i h => (hS.foot 0 rfl i h).resolve_left (fun h => h)), hS.upd⟩
end Go.Proofs.YtolkipbpklkcnaaGreat
end
section
namespace Go.Wx
theorem sortI_len (ks : List Int) : (sortI ks).length = ks.length := List.length_mergeSort _
theorem wafersL_len (ls ps ss : List Fact) : (wafersL ls ps ss).length ≤ ls.length + ps.length := by
  unfold wafersL
  rw [sortI_len]
  exact Nat.le_trans (List.length_filter_le isIDb _) (Nat.le_trans (proK_len ss (lotK ls) ps) (Nat.add_le_add_right (lotK_len ls) _))
def heldL (b : Base) (id t : Int) : List Int := match findB b.Holds id with
  | none => []
  | some f => if overB f b.Releases t = true then [] else (wafersL b.Lots b.Processes b.Swaps).filter fun x => aboutB f b.Lots x t
theorem heldL_none {b : Base} {id t : Int} (h : findB b.Holds id = none) : heldL b id t = [] := by unfold heldL; rw [h]
theorem heldL_over {b : Base} {id t : Int} {f : Fact} (h : findB b.Holds id = some f) (h2 : overB f b.Releases t = true) : heldL b id t = [] := by unfold heldL; rw [h]; exact if_pos h2
theorem heldL_some {b : Base} {id t : Int} {f : Fact} (h : findB b.Holds id = some f) (h2 : overB f b.Releases t = false) : heldL b id t = (wafersL b.Lots b.Processes b.Swaps).filter fun x => !(!aboutB f b.Lots x t) := by
  unfold heldL; rw [h]
  refine (if_neg (by rw [h2]; decide)).trans ?_
  simp only [Bool.not_not]
end Go.Wx
namespace Go.Proofs.YtolkipbpklkcnaaGreat
open Go.Wx Go.RowKit
theorem heldOut_any (x : Int) (f : Fact) (B7 B5 Bb : Nat) (bc : Array Go.Value) (b : Base) (t : Int) (w : World) (hB7 : Blk w B7 (holdCells f ⟨Bb, 0, none⟩) 74) (hB5 : Blk w B5 #[vi t] 3) (hb : Blk w Bb bc 27) (hC : BaseC w bc b) (hlen : b.Lots.length < 9223372036854775807) : Ret Tryz.prog 46 #[vi x, .pointer (some ⟨B7, 0, none⟩), .pointer (some ⟨B5, 0, none⟩)] w fun r w' => r = .bool (!aboutB f b.Lots x t) ∧ Up w w' := by
  have hW := Up.refl w
  refine Calls_start (n := 10) (m := 9) Tryz.func46 rfl rfl rfl ?_
  refine CW.seq (CW.region (LW.p (PEv.assign (.const _)) rfl rfl rfl (LW.nil (KW.then (CW.seq (CW.region ?_))))))
  refine LW.p (PEv.loadA Tryz.isAgg74 Tryz.sizeOf74 rfl (.tmp rfl) (hB7.agg)) rfl rfl rfl ?_
  refine LW.p (PEv.move (.tmp rfl)) rfl rfl rfl ?_
  refine LW.p (PEv.load Tryz.isAgg3 (.tmp rfl) (hB5.celln rfl)) rfl rfl rfl ?_
  refine LW.c (enter_call0 (.cons (.tmp rfl) (.cons (.tmp rfl) (.cons (.tmp rfl) .nil))) (Tryz.en47)) rfl rfl rfl rfl (isAbout_any f Bb bc b x t _ hb hC hlen) ?_
  rintro _ w1 ⟨rfl, uw1⟩
  have zw1 := uw1.size
  replace hB7 := hB7.up uw1
  replace hB5 := hB5.up uw1
  replace hb := hb.up uw1
  replace hC := hC.up uw1
  replace hW := hW.up uw1
  refine LW.p (PEv.not (.tmp rfl)) rfl rfl rfl ?_
  refine LW.p (PEv.assign (.tmp rfl)) rfl rfl rfl (LW.nil (KW.then (CW.ret ?_)))
  refine KW.ret1 rfl rfl ⟨_, rfl, ?_⟩
  exact ⟨rfl, hW⟩
theorem Held_any (bc : Array Go.Value) (b : Base) (id t : Int) (w : World) (hC : BaseC w bc b) (hH : b.Holds.length < 9223372036854775807) (hR : b.Releases.length < 9223372036854775807) (hL : b.Lots.length < 9223372036854775807) (hs : b.Swaps.length ≤ 1000000000) (hsum : b.Lots.length + b.Processes.length ≤ 500000000) : Ret Tryz.prog 21 #[.agg bc, vi id, vi t] w fun r w' => OwnS w' w.heap.size 3 1 eInt r (heldL b id t) ∧ Up w w' := by
  obtain ⟨w0, rfl⟩ : ∃ w0, w0 = w := ⟨_, rfl⟩
  have hS := Sep.start no w0
  refine Calls_start (n := 26) (m := 9) Tryz.func21 rfl rfl rfl ?_
  refine CW.seq (CW.region ?_)
  refine LW.r (REv.boxA (.tmp rfl)) rfl rfl rfl rfl ?_
  rintro _ w1 ⟨B3, rfl, NB3⟩
  have eB3 := NB3.at_
  have zB3 := NB3.size
  replace hS := hS.addB NB3
  change Wx.Sep _ _ _ [_] at hS
  refine LW.r (REv.box1 (.tmp rfl) rfl) rfl rfl rfl rfl ?_
  rintro _ w2 ⟨B5, rfl, NB5⟩
  have eB5 := NB5.at_
  have zB5 := NB5.size
  replace hS := hS.addB NB5
  change Wx.Sep _ _ _ [_, _] at hS
  refine LW.p (PEv.assign (.const _)) rfl rfl rfl (LW.nil (KW.then (CW.seq ?_)))
  cases hq1 : findB b.Holds id with
  | none =>
   refine CW.region (LW.p (PEv.move (.tmp rfl)) rfl rfl rfl ?_)
   refine LW.c (enter_call0 (.cons (.tmp rfl) (.cons (.tmp rfl) .nil)) (Tryz.en37)) rfl rfl rfl rfl (find_any B3 bc b id _ (hS.blk 0 rfl) (hC.up hS.upd) hH) ?_
   rintro _ w3 ⟨rfl, uw3⟩
   have zw3 := uw3.size
   replace hS := hS.up uw3
   rw [hq1]
   refine LW.p (PEv.move (.tmp rfl)) rfl rfl rfl (LW.p (PEv.extract (.tmp rfl) rfl) rfl rfl rfl (LW.p (PEv.extract (.tmp rfl) rfl) rfl rfl rfl ?_))
   refine LW.r (REv.allocA Tryz.zeroValue74) rfl rfl rfl rfl ?_
   rintro _ w4 ⟨B7, rfl, MB7⟩
   refine LW.s (SEv.storeA Tryz.sizeOf74 rfl (.tmp rfl) (.tmp rfl) (by first | exact hold0_one | exact holdCells_one _ _) MB7.blk rfl) rfl rfl rfl ?_
   intro w5 LB7
   have NB7 := MB7.set LB7
   clear LB7 MB7
   have eB7 := NB7.at_
   have zB7 := NB7.size
   replace hS := hS.addB NB7
   change Wx.Sep _ _ _ [_, _, _] at hS
   refine LW.p (PEv.assign (.tmp rfl)) rfl rfl rfl (LW.nil (KW.then (CW.seq (CW.seq (CW.region (LW.p (PEv.move (.tmp rfl)) rfl rfl rfl ?_))))))
   refine LW.p (PEv.not (.tmp rfl)) rfl rfl rfl ?_
   refine LW.p (PEv.move (.tmp rfl)) rfl rfl rfl ?_
   refine LW.no rfl rfl rfl rfl rfl rfl rfl rfl ?_
   refine LW.no rfl rfl rfl rfl rfl rfl rfl rfl ?_
   refine LW.no rfl rfl rfl rfl rfl rfl rfl rfl ?_
   refine LW.p (PEv.pick_or (b := false) (.tmp rfl) (fun hp => absurd (show true = false from hp) (by decide))) rfl rfl rfl ?_
   refine LW.nil (KW.then ?_)
   refine CW.cond_true (.tmp rfl) ?_
   refine CW.seq (CW.region (LW.p (PEv.assign (.const _)) rfl rfl rfl (LW.nil (KW.then (CW.ret (KW.then_ret ?_))))))
   refine KW.ret1 rfl rfl ⟨_, rfl, ?_⟩
   exact ⟨by rw [heldL_none hq1]; exact OwnS.nil _ _ _ _ _, hS.upd⟩
  | some f =>
   refine CW.region (LW.p (PEv.move (.tmp rfl)) rfl rfl rfl ?_)
   refine LW.c (enter_call0 (.cons (.tmp rfl) (.cons (.tmp rfl) .nil)) (Tryz.en37)) rfl rfl rfl rfl (find_any B3 bc b id _ (hS.blk 0 rfl) (hC.up hS.upd) hH) ?_
   rintro _ w6 ⟨rfl, uw6⟩
   have zw6 := uw6.size
   replace hS := hS.up uw6
   rw [hq1]
   refine LW.p (PEv.move (.tmp rfl)) rfl rfl rfl (LW.p (PEv.extract (.tmp rfl) rfl) rfl rfl rfl (LW.p (PEv.extract (.tmp rfl) rfl) rfl rfl rfl ?_))
   refine LW.r (REv.allocA Tryz.zeroValue74) rfl rfl rfl rfl ?_
   rintro _ w7 ⟨B7, rfl, MB7⟩
   refine LW.s (SEv.storeA Tryz.sizeOf74 rfl (.tmp rfl) (.tmp rfl) (by first | exact hold0_one | exact holdCells_one _ _) MB7.blk rfl) rfl rfl rfl ?_
   intro w8 LB7
   have NB7 := MB7.set LB7
   clear LB7 MB7
   have eB7 := NB7.at_
   have zB7 := NB7.size
   replace hS := hS.addB NB7
   change Wx.Sep _ _ _ [_, _, _] at hS
   refine LW.p (PEv.assign (.tmp rfl)) rfl rfl rfl (LW.nil (KW.then (CW.seq (CW.seq (CW.region (LW.p (PEv.move (.tmp rfl)) rfl rfl rfl ?_))))))
   refine LW.p (PEv.not (.tmp rfl)) rfl rfl rfl ?_
   refine LW.p (PEv.move (.tmp rfl)) rfl rfl rfl ?_
   refine LW.yes rfl rfl rfl rfl rfl rfl ?_
   refine LW.p (PEv.loadA Tryz.isAgg74 Tryz.sizeOf74 rfl (.tmp rfl) ((hS.blk 2 rfl).agg)) rfl rfl rfl ?_
   refine LW.yes rfl rfl rfl rfl rfl rfl ?_
   refine LW.p (PEv.load Tryz.isAgg3 (.tmp rfl) ((hS.blk 1 rfl).celln rfl)) rfl rfl rfl ?_
   refine LW.yes rfl rfl rfl rfl rfl rfl ?_
   refine LW.c (enter_call0 (.cons (.tmp rfl) (.cons (.tmp rfl) .nil)) (Tryz.en33)) rfl rfl rfl rfl (isOver_any f B3 bc b t _ (hS.blk 0 rfl) (hC.up hS.upd) hR) ?_
   rintro _ w9 ⟨rfl, uw9⟩
   have zw9 := uw9.size
   replace hS := hS.up uw9
   refine LW.p (PEv.pick_or (.tmp rfl) (fun hp => (by first | exact .const _ | exact .tmp rfl | exact .cond rfl (by first | assumption | simp_all)))) rfl rfl rfl ?_
   refine LW.nil (KW.then ?_)
   refine CW.cond (.tmp rfl) (fun h20 => ?_) (fun h20 => ?_)
   ·first | replace h20 := of_decide_eq_true h20 | replace h20 := of_decide_eq_false h20 | skip
    have hov := h20
    refine CW.seq (CW.region (LW.p (PEv.assign (.const _)) rfl rfl rfl (LW.nil (KW.then (CW.ret (KW.then_ret ?_))))))
    refine KW.ret1 rfl rfl ⟨_, rfl, ?_⟩
    first | exact ⟨by rw [heldL_over hq1 (decide_eq_true hov)]; exact OwnS.nil _ _ _ _ _, hS.upd⟩ | exact ⟨by rw [heldL_some hq1 (decide_eq_false hov)]; exact (hS.own 3 rfl).rebase (fun i h => (hS.foot 3 rfl i h).resolve_left (fun h => h)), hS.upd⟩
   ·first | replace h20 := of_decide_eq_true h20 | replace h20 := of_decide_eq_false h20 | skip
    have hov := h20
    refine CW.skip (KW.then (CW.seq (CW.region ?_)))
    refine LW.p (PEv.loadA Tryz.isAgg27 Tryz.sizeOf27 (hC.size) (.tmp rfl) ((hS.blk 0 rfl).agg)) rfl rfl rfl ?_
    refine LW.c (enter_call0 (.cons (.tmp rfl) .nil) (Tryz.en24)) rfl rfl rfl rfl (Wafers_any bc b _ (hC.up hS.upd) hs (Nat.le_trans hsum (by decide))) ?_
    rintro v22 w10 ⟨hO22, uw10⟩
    have zw10 := uw10.size
    replace hS := hS.up uw10
    have hwl := wafersL_len b.Lots b.Processes b.Swaps
    obtain ⟨ad22, cp22, rfl, hE22⟩ := hO22.sl (fun _ => rfl)
    clear hO22
    refine LW.c (enter_call0 (.cons (.tmp rfl) .nil) (Tryz.en45)) rfl rfl rfl rfl (cloneI_any ad22 cp22 (wafersL b.Lots b.Processes b.Swaps) _ hE22 (by omega)) ?_
    rintro v23 w11 ⟨hO23, uw11⟩
    have zw11 := uw11.size
    replace hS := hS.add uw11 (A' := aOwn 3 1 eInt v23 (wafersL b.Lots b.Processes b.Swaps)) (hO23.mono (Nat.zero_le _)) (fun i h => (hO23.base i h))
    change Wx.Sep _ _ _ [_, _, _, _] at hS
    clear hO23
    obtain ⟨ad23, cp23, rfl, _⟩ := (hS.own 3 rfl).sl (fun _ => rfl)
    refine LW.p (PEv.makeFunc (.cons (.tmp rfl) (.cons (.tmp rfl) .nil))) rfl rfl rfl ?_
    refine LW.c (enter_call0 (.cons (.tmp rfl) (.cons (.tmp rfl) .nil)) (Tryz.en44)) rfl rfl rfl rfl (deleteI_any 46 #[.pointer (some ⟨B7, 0, none⟩), .pointer (some ⟨B5, 0, none⟩)] (fun x => !aboutB f b.Lots x t) Tryz.en46 ad23 cp23 (wafersL b.Lots b.Processes b.Swaps) _ (hS.own 3 rfl) (by omega) (fun W hfr x => heldOut_any x f B7 B5 B3 bc b t W ((hfr.block B7 (hS.blk 2 rfl).lt (hS.ne (i := 2) (j := 3) (by decide) rfl rfl B7 rfl)).trans (hS.blk 2 rfl)) ((hfr.block B5 (hS.blk 1 rfl).lt (hS.ne (i := 1) (j := 3) (by decide) rfl rfl B5 rfl)).trans (hS.blk 1 rfl)) ((hfr.block B3 (hS.blk 0 rfl).lt (hS.ne (i := 0) (j := 3) (by decide) rfl rfl B3 rfl)).trans (hS.blk 0 rfl)) (hC.up ((hS.fr.next hfr (hS.foot 3 rfl)).toUp (fun _ h => h))) hL)) ?_
    rintro v25 w12 uw12
    have zw12 := uw12.fr.size
    replace hS := hS.stp 3 rfl uw12
    change Wx.Sep _ _ _ [_, _, _, _] at hS
    refine LW.p (PEv.assign (.tmp rfl)) rfl rfl rfl (LW.nil (KW.then (CW.ret ?_)))
    refine KW.ret1 rfl rfl ⟨_, rfl, ?_⟩
    first | exact ⟨by rw [heldL_over hq1 (decide_eq_true hov)]; exact OwnS.nil _ _ _ _ _, hS.upd⟩ | exact ⟨by rw [heldL_some hq1 (decide_eq_false hov)]; exact (hS.own 3 rfl).rebase (fun i h => (hS.foot 3 rfl i h).resolve_left (fun h => h)), hS.upd⟩
end Go.Proofs.YtolkipbpklkcnaaGreat
end
section
namespace Go.Wx
def mx (i j : Int) : Int := if i < j then j else i
def actH (h : Fact) (x t : Int) : GAct := ⟨x, mx (IntKind.i64.wrap (h.Step - 1)) 0, mx (IntKind.i64.wrap (h.Tool - 1)) 0, mx (IntKind.i64.wrap (h.Chamber - 1)) 0, mx h.Recipe 1, mx h.Revision 1, t⟩
def qH (b : Base) (h : Fact) (t x : Int) : Bool := (stopsOf b (actH h x t)).any fun y => decide (y = h.ID)
theorem met1_max {l : Int} (hl : 0 ≤ l ∧ l ≤ 1000000) : (Cond.mk l 1 (mx (IntKind.i64.wrap (l - 1)) 0)).met = true := by
  rw [met1 hl]
  have e : IntKind.i64.wrap (l - 1) = l - 1 := wrap_i64_in (by omega) (by omega)
  rw [e, Bool.or_eq_true, decide_eq_true_eq, decide_eq_true_eq]
  unfold mx
  split <;> omega
theorem met0_max {l : Int} (hl : 0 ≤ l ∧ l ≤ 1000000) : (Cond.mk l 0 (mx l 1)).met = true := by
  rw [met0 hl, Bool.or_eq_true, decide_eq_true_eq, decide_eq_true_eq]
  unfold mx
  split <;> omega
theorem names_act {h : Fact} (hv : validB h = true) (hk : h.Kind = 7) (lots : List Fact) (x t : Int) : namesB h lots (actH h x t) = aboutB h lots x t := by
  have hi := hd_in hv hk
  show (aboutB h lots x t && [Cond.mk h.Tool 1 _, Cond.mk h.Chamber 1 _, Cond.mk h.Step 1 _, Cond.mk h.Recipe 0 _, Cond.mk h.Revision 0 _].all Cond.met) = _
  simp only [List.all_cons, List.all_nil]
  rw [show (Cond.mk h.Tool 1 (actH h x t).Tool).met = true from met1_max hi.tool, show (Cond.mk h.Chamber 1 (actH h x t).Chamber).met = true from met1_max hi.chamber, show (Cond.mk h.Step 1 (actH h x t).Step).met = true from met1_max hi.step, show (Cond.mk h.Recipe 0 (actH h x t).Recipe).met = true from met0_max hi.recipe, show (Cond.mk h.Revision 0 (actH h x t).Revision).met = true from met0_max hi.revision]
  simp
theorem ids_inj {b : Base} (h : hOk b) {x y : Fact} (hx : x ∈ b.Holds) (hy : y ∈ b.Holds) (e : x.ID = y.ID) : x = y := by
  have h1 := find_ok h hx
  rw [e, find_ok h hy] at h1
  exact (Option.some.inj h1).symm
theorem qH_eq {b : Base} (hb : hOk b) {h : Fact} (hh : h ∈ b.Holds) (t x : Int) : qH b h t x = (aboutB h b.Lots x t && !overB h b.Releases t) := by
  have e1 : stopB b (actH h x t) h = (aboutB h b.Lots x t && !overB h b.Releases t) := by
    unfold stopB; rw [names_act (hb.1 h hh).1 (hb.1 h hh).2]; rfl
  unfold qH
  rw [stops_ok hb]
  cases e : stopB b (actH h x t) h with
  | true =>
    rw [← e1, e]
    exact List.any_eq_true.2 ⟨h.ID, List.mem_map.2 ⟨h, List.mem_filter.2 ⟨hh, e⟩, rfl⟩, by simp⟩
  | false =>
    rw [← e1, e]
    refine Bool.eq_false_iff.2 fun hc => ?_
    obtain ⟨y, hy, hyh⟩ := List.any_eq_true.1 hc
    obtain ⟨f, hf, rfl⟩ := List.mem_map.1 hy
    obtain ⟨hf1, hf2⟩ := List.mem_filter.1 hf
    have := ids_inj hb hf1 hh (by simpa using hyh)
    subst this
    rw [e] at hf2; cases hf2
theorem held_ok {b : Base} (hb : hOk b) {h : Fact} (hh : h ∈ b.Holds) (t : Int) : heldL b h.ID t = (wafersL b.Lots b.Processes b.Swaps).filter (qH b h t) := by
  cases ho : overB h b.Releases t with
  | true =>
    rw [heldL_over (find_ok hb hh) ho]
    refine (List.filter_eq_nil_iff.2 fun x _ => ?_).symm
    rw [qH_eq hb hh, ho]; simp
  | false =>
    rw [heldL_some (find_ok hb hh) ho]
    refine List.filter_congr fun x _ => ?_
    rw [qH_eq hb hh, ho]; simp
theorem held_nil {b : Base} (h : b.Holds = []) (id t : Int) : heldL b id t = [] := heldL_none (by unfold findB; rw [h]; rfl)
theorem stopsOf_len (b : Base) (a : GAct) : (stopsOf b a).length ≤ b.Holds.length := by
  unfold stopsOf
  rw [List.length_mergeSort]
  exact Nat.le_trans (stopKs_length _ _ _) (List.length_filter_le _ _)
end Go.Wx
namespace Go.Proofs.YtolkipbpklkcnaaGreat
open Go.Wx Go.RowKit
end Go.Proofs.YtolkipbpklkcnaaGreat
end
section
namespace Go.Wx
def cutH (f : Fact) : Fact := { f with Text := f.Text.extract 0 (if (50 : Int) < f.Text.size then (50 : Int) else f.Text.size).toNat }
def fewH (l : List Fact) : List Fact := (l.take 40).map cutH
theorem cutH_snoc {l : List Fact} {k : Nat} {x : Fact} (h : l[k]? = some x) : (l.take (k + 1)).map cutH = (l.take k).map cutH ++ [cutH x] := by rw [take_succ_of h]; simp
theorem fewH_end {l : List Fact} {k : Nat} (hk : k ≤ l.length) (h40 : k ≤ 40) (h : (decide (k < l.length) && decide (k < 40)) = false) : (l.take k).map cutH = fewH l := by
  unfold fewH
  congr 1
  by_cases h1 : k < l.length
  · have : k = 40 := by simp [h1] at h; omega
    rw [this]
  · rw [show k = l.length by omega, List.take_length, List.take_of_length_le (by omega)]
end Go.Wx
namespace Go.Proofs.YtolkipbpklkcnaaGreat
open Go.Wx Go.RowKit
theorem has_any (v : Value) (xs : List Int) (n : Int) (w : World) (h : Sl w v 1 eInt xs) (hx0 : xs.length ≤ 1000000000) : Ret Tryz.prog 25 #[v, vi n] w fun r w' => r = .bool (xs.any fun x => decide (x = n)) ∧ Up w w' := by
  have hW := Up.refl w
  obtain ⟨w0, rfl⟩ : ∃ w0, w0 = w := ⟨_, rfl⟩
  obtain ⟨ad, cp, rfl, hE⟩ := h
  refine Calls_start (n := 18) (m := 9) Tryz.func25 rfl rfl rfl ?_
  refine CW.seq (CW.region (LW.p (PEv.assign (.const _)) rfl rfl rfl (LW.nil (KW.then (CW.seq (CW.seq (CW.region (LW.p (PEv.assign (.const _)) rfl rfl rfl (LW.nil (KW.then (CW.block ?_)))))))))))
  refine CW.loop (σ := Nat) (fun s w => (s ≤ xs.length ∧ ((xs.take s).any fun x => decide (x = n)) = false) ∧ Els w ad 1 eInt xs ∧ Up w0 w) (fun s => [(0, .eq (.slice ad xs.length cp)), (1, .eq (vi n)), (5, .eq (vi (s : Int)))]) (fun s => xs.length - s) 0 ?_ ?_ ?_
  ·exact ⟨⟨Nat.zero_le _, by simp⟩, hE, hW⟩
  ·exact ⟨rfl, rfl, rfl, trivial⟩
  ·rintro k w1 ⟨⟨hk, hT⟩, hE, hW⟩
   refine CW.seq (CW.seq (CW.region (LW.p (PEv.move (.tmp rfl)) rfl rfl rfl (LW.p (PEv.move (.tmp rfl)) rfl rfl rfl ?_))))
   refine LW.p (PEv.lenS Tryz.underlying30 (.tmp rfl)) rfl rfl rfl ?_
   refine LW.p (PEv.lss (.tmp rfl) (.tmp rfl)) rfl rfl rfl ?_
   refine LW.nil (KW.then ?_)
   refine CW.cond (.tmp rfl) (fun h9 => ?_) (fun h9 => ?_)
   ·first | replace h9 := of_decide_eq_true h9 | replace h9 := of_decide_eq_false h9 | skip
    refine CW.skip (KW.then (CW.seq (CW.block (CW.seq ?_))))
    obtain ⟨x, hx⟩ := getElem?_of_lt (xs := xs) (i := k) (by omega)
    obtain ⟨B, o, had, hcell⟩ := hE k x hx
    refine CW.region (LW.p (PEv.move (.tmp rfl)) rfl rfl rfl (LW.p (PEv.move (.tmp rfl)) rfl rfl rfl ?_))
    refine LW.p (PEv.indexAddr' Tryz.underlying30 Tryz.sizeOf3 (.tmp rfl) (.tmp rfl) (by omega) had) rfl rfl rfl ?_
    refine LW.p (PEv.load Tryz.isAgg3 (.tmp rfl) (hcell.nth (j := 0) rfl)) rfl rfl rfl ?_
    refine LW.p (PEv.move (.tmp rfl)) rfl rfl rfl ?_
    refine LW.p (PEv.eql (.tmp rfl) (.tmp rfl)) rfl rfl rfl ?_
    refine LW.nil (KW.then ?_)
    refine CW.cond (.tmp rfl) (fun h17 => ?_) (fun h17 => ?_)
    ·first | replace h17 := of_decide_eq_true h17 | replace h17 := of_decide_eq_false h17 | skip
     have hr : (xs.any fun x => decide (x = n)) = true := List.any_eq_true.2 ⟨x, List.mem_of_getElem? hx, by simpa using h17⟩
     refine CW.seq (CW.region (LW.p (PEv.assign (.const _)) rfl rfl rfl (LW.nil (KW.then (CW.ret (KW.block_ret (KW.then_ret (KW.then_ret (KW.block_ret (KW.then_ret ?_))))))))))
     refine KW.ret1 rfl rfl ⟨_, rfl, ?_⟩
     exact ⟨by rw [hr], hW⟩
    ·first | replace h17 := of_decide_eq_true h17 | replace h17 := of_decide_eq_false h17 | skip
     refine CW.skip (KW.inBlock (KW.then (CW.region (LW.p (PEv.move (.tmp rfl)) rfl rfl rfl ?_))))
     refine LW.p (PEv.inc (.tmp rfl) (by omega)) rfl rfl rfl ?_
     refine LW.p (PEv.assign (.tmp rfl)) rfl rfl rfl (LW.nil (KW.round ?_))
     exact ⟨k + 1, ⟨⟨by omega, by rw [take_succ_of hx, List.any_append, hT]; simpa using h17⟩, hE, hW⟩, ⟨rfl, rfl, rfl, trivial⟩, by omega⟩
   ·first | replace h9 := of_decide_eq_true h9 | replace h9 := of_decide_eq_false h9 | skip
    have hr : (xs.any fun x => decide (x = n)) = false := by have := hT; rw [show k = xs.length by omega, List.take_length] at this; exact this
    refine CW.exit (KW.then_exit (KW.then_exit (KW.block_hit (KW.then (CW.seq (CW.region (LW.p (PEv.assign (.const _)) rfl rfl rfl (LW.nil (KW.then (CW.ret ?_))))))))))
    refine KW.ret1 rfl rfl ⟨_, rfl, ?_⟩
    exact ⟨by rw [hr], hW⟩
theorem few_any (ad : Option Addr) (cp : Nat) (l : List Fact) (w : World) (hE : Els w ad 19 Fact.cells l) : Ret Tryz.prog 11 #[.slice ad l.length cp] w fun r w' => OwnS w' w.heap.size 35 19 Fact.cells r (fewH l) ∧ Up w w' := by
  have hW := Up.refl w
  obtain ⟨w0, rfl⟩ : ∃ w0, w0 = w := ⟨_, rfl⟩
  refine Calls_start (n := 33) (m := 9) Tryz.func11 rfl rfl rfl ?_
  refine CW.seq (CW.region (LW.p (PEv.assign (.const _)) rfl rfl rfl (LW.nil (KW.then (CW.seq (CW.region (LW.p (PEv.assign (.const _)) rfl rfl rfl (LW.nil (KW.then (CW.seq (CW.seq (CW.region (LW.p (PEv.assign (.const _)) rfl rfl rfl ?_)))))))))))))
  refine LW.nil (KW.then (CW.block ?_))
  refine CW.loop (σ := Nat × Value) (fun s w => (s.1 ≤ l.length ∧ s.1 ≤ 40) ∧ OwnS w w0.heap.size 35 19 Fact.cells s.2 ((l.take s.1).map cutH) ∧ Up w0 w) (fun s => [(0, .eq (.slice ad l.length cp)), (3, .eq s.2), (4, .eq (vi (s.1 : Int)))]) (fun s => l.length - s.1) (0, .slice none 0 0) ?_ ?_ ?_
  ·exact ⟨⟨Nat.zero_le _, by omega⟩, OwnS.nil _ _ _ _ _, hW⟩
  ·exact ⟨rfl, rfl, rfl, trivial⟩
  ·rintro ⟨k, v⟩ w1 ⟨⟨hk, hk40⟩, hO, hW⟩
   dsimp only at hk hk40 hO
   have zW := hW.size
   refine CW.seq (CW.seq (CW.region (LW.p (PEv.move (.tmp rfl)) rfl rfl rfl (LW.p (PEv.move (.tmp rfl)) rfl rfl rfl ?_))))
   refine LW.p (PEv.lenS Tryz.underlying22 (.tmp rfl)) rfl rfl rfl ?_
   refine LW.p (PEv.lss (.tmp rfl) (.tmp rfl)) rfl rfl rfl ?_
   refine LW.p (PEv.move (.tmp rfl)) rfl rfl rfl ?_
   refine LW.g rfl rfl rfl rfl rfl rfl rfl (fun hc => PEv.move (.tmp rfl)) ?_
   refine LW.g rfl rfl rfl rfl rfl rfl rfl (fun hc => PEv.lss (by first | exact .tmp rfl | exact .cond rfl (by first | assumption | simp_all)) (.const _)) ?_
   refine LW.p (PEv.pick_and (.tmp rfl) (fun hp => (by first | exact .const _ | exact .tmp rfl | exact .cond rfl (by first | assumption | simp_all)))) rfl rfl rfl ?_
   refine LW.nil (KW.then ?_)
   refine CW.cond (.tmp rfl) (fun h13 => ?_) (fun h13 => ?_)
   ·first | replace h13 := of_decide_eq_true h13 | replace h13 := of_decide_eq_false h13 | skip
    have hk1 : k < l.length ∧ k < 40 := by simp at h13; omega
    refine CW.skip (KW.then (CW.seq (CW.block (CW.seq ?_))))
    obtain ⟨x, hx⟩ := getElem?_of_lt (xs := l) (i := k) (by omega)
    obtain ⟨B, o, had, hc0⟩ := hE k x hx
    have hcell := hc0.up hW
    have hlen : ((l.take k).map cutH).length = k := by rw [List.length_map, List.length_take]; omega
    have hO4 := hO
    have hU4 := Up.refl w1
    refine CW.region (LW.p (PEv.move (.tmp rfl)) rfl rfl rfl (LW.p (PEv.move (.tmp rfl)) rfl rfl rfl ?_))
    refine LW.p (PEv.indexAddr' Tryz.underlying22 Tryz.sizeOf35 (.tmp rfl) (.tmp rfl) (by omega) had) rfl rfl rfl ?_
    refine LW.p (PEv.loadA Tryz.isAgg35 Tryz.sizeOf35 rfl (.tmp rfl) (hcell)) rfl rfl rfl ?_
    refine LW.r (REv.allocA Tryz.zeroValue35) rfl rfl rfl rfl ?_
    rintro _ w2 ⟨B5, rfl, MB5⟩
    refine LW.s (SEv.storeA Tryz.sizeOf35 rfl (.tmp rfl) (.tmp rfl) (by first | rfl | exact Fact.one _ | exact GAct.one _ | exact holdCells_one _ _ | exact hold0_one | (simp [Value.oneCell'])) MB5.blk rfl) rfl rfl rfl ?_
    intro w3 LB5
    have NB5 := MB5.set LB5
    clear LB5 MB5
    have eB5 := NB5.at_
    have zB5 := NB5.size
    replace hW := hW.up NB5.up
    replace hU4 := hU4.up NB5.up
    have hB5 := NB5.blk
    refine LW.nil (KW.then (CW.seq (CW.region ?_)))
    refine LW.p (PEv.fieldAddr (off := 18) Tryz.underlying35 rfl rfl Tryz.sizeOf9 rfl (.tmp rfl)) rfl rfl rfl ?_
    refine LW.p (PEv.load Tryz.isAgg9 (.tmp rfl) (hB5.celln rfl)) rfl rfl rfl ?_
    refine LW.p (PEv.fieldAddr (off := 18) Tryz.underlying35 rfl rfl Tryz.sizeOf9 rfl (.tmp rfl)) rfl rfl rfl ?_
    refine LW.p (PEv.load Tryz.isAgg9 (.tmp rfl) (hB5.celln rfl)) rfl rfl rfl ?_
    refine LW.p (PEv.lenStr Tryz.underlying9 (.tmp rfl)) rfl rfl rfl ?_
    refine LW.p (PEv.min2 (.tmp rfl) (.const _)) rfl rfl rfl ?_
    refine LW.p (PEv.strTo Tryz.underlying9 (.tmp rfl) (.tmp rfl) (by split <;> omega) (by split <;> omega)) rfl rfl rfl ?_
    refine LW.p (PEv.fieldAddr (off := 18) Tryz.underlying35 rfl rfl Tryz.sizeOf9 rfl (.tmp rfl)) rfl rfl rfl ?_
    refine LW.s (SEv.store Tryz.sizeOf9 (.tmp rfl) (.tmp rfl) rfl hB5 (Nat.le_of_ble_eq_true rfl)) rfl rfl rfl ?_
    intro w4 Nw4
    have zw4 := Nw4.size
    replace hW := hW.sto Nw4.sto (by omega)
    replace hU4 := hU4.sto Nw4.sto (by omega)
    replace hB5 := Nw4.blk
    replace hB5 : Blk w4 B5 (cutH x).cells _ := hB5
    refine LW.nil (KW.then ?_)
    have hO := hO4.up hU4
    refine CW.region (LW.p (PEv.move (.tmp rfl)) rfl rfl rfl ?_)
    refine LW.p (PEv.loadA Tryz.isAgg35 Tryz.sizeOf35 rfl (.tmp rfl) (hB5.agg)) rfl rfl rfl ?_
    refine LW.r (REv.buildSlice (xs := [cutH x]) (enc := Fact.cells) (mk := fun f => .agg f.cells) Tryz.underlying22 Tryz.sizeOf35 Tryz.zeroValue35 rfl (by decide) (fun _ => rfl) (fun _ => rfl) (.cons (.tmp rfl) .nil) rfl) rfl rfl rfl rfl ?_
    rintro _ w5 ⟨B30, cB30, rfl, NB30, yB30, xB30⟩
    have eB30 := NB30.at_
    have zB30 := NB30.size
    replace hW := hW.up NB30.up
    replace hB5 := hB5.up NB30.up
    replace hO := hO.up NB30.up
    have hB30 := NB30.blk
    have hE30 := xB30
    refine LW.r (REv.append (enc := Fact.cells) (base := w0.heap.size) (bytes := 160) (i := Tryz.t35) Tryz.underlying22 (by kernel_rfl) rfl rfl rfl rfl (by decide) (fun _ => rfl) Fact.one (.tmp rfl) (.tmp rfl) hO (Sl.of_els hE30) (by simp) (by rw [hlen]; simp [maxLen]; omega) (by rw [hlen]; simp; omega) (by omega)) rfl rfl rfl rfl ?_
    rintro v31 w6 ⟨Ow6, Gw6⟩
    have zw6 := Gw6.size
    replace hW := hW.gr Gw6 (by omega)
    replace hO := Ow6
    refine LW.p (PEv.assign (.tmp rfl)) rfl rfl rfl (LW.nil (KW.inBlock (KW.then (CW.region (LW.p (PEv.move (.tmp rfl)) rfl rfl rfl ?_)))))
    refine LW.p (PEv.inc (.tmp rfl) (by omega)) rfl rfl rfl ?_
    refine LW.p (PEv.assign (.tmp rfl)) rfl rfl rfl (LW.nil (KW.round ?_))
    exact ⟨(k + 1, v31), ⟨⟨by omega, by omega⟩, by rw [cutH_snoc hx]; exact hO, hW⟩, ⟨rfl, rfl, rfl, trivial⟩, by dsimp only; omega⟩
   ·first | replace h13 := of_decide_eq_true h13 | replace h13 := of_decide_eq_false h13 | skip
    have hr : (l.take k).map cutH = fewH l := fewH_end hk hk40 (by simp at h13 ⊢; intro h; have := h13 h; omega)
    refine CW.exit (KW.then_exit (KW.then_exit (KW.block_hit (KW.then (CW.seq (CW.region (LW.p (PEv.move (.tmp rfl)) rfl rfl rfl (LW.p (PEv.assign (.tmp rfl)) rfl rfl rfl (LW.nil (KW.then (CW.ret ?_)))))))))))
    refine KW.ret1 rfl rfl ⟨_, rfl, ?_⟩
    exact ⟨hr ▸ hO, hW⟩
end Go.Proofs.YtolkipbpklkcnaaGreat
end
section
namespace Go.Proofs.YtolkipbpklkcnaaGreat
open Go.Wx Go.RowKit
set_option maxHeartbeats 4000000 in
set_option maxRecDepth 8000 in
theorem HoldHeld_any (ad : Option Addr) (cp : Nat) (l : List Fact) (day which time : Int) (w : World) (hE0 : Els w ad 19 Fact.cells l) (hwh : inI which) : Ret Tryz.prog 8 #[.slice ad l.length cp, vi day, vi which, vi time] w fun r w' => r = .bool true ∧ Up w w' := by
  obtain ⟨w0, rfl⟩ : ∃ w0, w0 = w := ⟨_, rfl⟩
  have hS := Sep.start no w0
  refine Calls_start (n := 119) (m := 9) Tryz.func8 rfl rfl rfl ?_
  refine CW.seq (CW.region (LW.p (PEv.assign (.const _)) rfl rfl rfl (LW.nil (KW.then (CW.seq (CW.region ?_))))))
  refine LW.c (enter_call0 .nil (Tryz.en9)) rfl rfl rfl rfl (sane_any _) ?_
  rintro _ w1 ⟨rfl, uw1⟩
  have zw1 := uw1.size
  replace hS := hS.up uw1
  refine LW.p (PEv.assign (.tmp rfl)) rfl rfl rfl (LW.nil (KW.then (CW.seq (CW.region (LW.p (PEv.move (.tmp rfl)) rfl rfl rfl ?_)))))
  refine LW.c (enter_call0 (.cons (.tmp rfl) .nil) (Tryz.en11)) rfl rfl rfl rfl (few_any ad cp l _ (Els.up hE0 hS.upd)) ?_
  rintro v20 w2 ⟨hO20, uw2⟩
  have zw2 := uw2.size
  replace hS := hS.up uw2
  obtain ⟨ad20, cp20, rfl, hE20⟩ := hO20.sl (fun _ => rfl)
  clear hO20
  have hfl : (fewH l).length ≤ 40 := by unfold fewH; rw [List.length_map, List.length_take]; omega
  refine LW.p (PEv.move (.tmp rfl)) rfl rfl rfl ?_
  refine LW.c (enter_call0 (.cons (.tmp rfl) (.cons (.tmp rfl) .nil)) (Tryz.en10)) rfl rfl rfl rfl (Of_any ad20 cp20 (fewH l) day _ hE20 (by omega)) ?_
  rintro _ w3 ⟨bc, rfl, hC, uw3⟩
  have zw3 := uw3.size
  replace hS := hS.up uw3
  have hSh := ofB_short (l := fewH l) (by omega) day
  have hOk := holds_ok (fewH l) day
  obtain ⟨b, eb⟩ : ∃ b, b = ofB (fewH l) day := ⟨_, rfl⟩
  rw [← eb] at hC hSh hOk
  obtain ⟨v6, h6, ad6, cp6, rfl, hEh⟩ := hC.at6
  replace hEh : Els w3 ad6 19 Fact.cells b.Holds := hEh
  have hHl : b.Holds.length ≤ 100000 := hSh 6
  refine LW.r (REv.allocA Tryz.zeroValue27) rfl rfl rfl rfl ?_
  rintro _ w4 ⟨B10, rfl, MB10⟩
  refine LW.s (SEv.storeA Tryz.sizeOf27 hC.size (.tmp rfl) (.tmp rfl) hC.one MB10.blk rfl) rfl rfl rfl ?_
  intro w5 LB10
  have NB10 := MB10.set LB10
  clear LB10 MB10
  have eB10 := NB10.at_
  have zB10 := NB10.size
  replace hC := hC.up NB10.up
  replace hEh := hEh.up NB10.up
  replace hS := hS.addB NB10
  change Wx.Sep _ _ _ [_] at hS
  refine LW.nil (KW.then (CW.seq (CW.seq (CW.region ?_))))
  refine LW.p (PEv.fieldAddr (off := 6) Tryz.underlying27 rfl rfl Tryz.sizeOf22 rfl (.tmp rfl)) rfl rfl rfl ?_
  refine LW.p (PEv.load Tryz.isAgg22 (.tmp rfl) ((hS.blk 0 rfl).cell h6)) rfl rfl rfl ?_
  refine LW.p (PEv.lenS Tryz.underlying22 (.tmp rfl)) rfl rfl rfl ?_
  refine LW.p (PEv.eql (.tmp rfl) (.const _)) rfl rfl rfl ?_
  refine LW.nil (KW.then ?_)
  refine CW.cond (.tmp rfl) (fun h26 => ?_) (fun h26 => ?_)
  ·first | replace h26 := of_decide_eq_true h26 | replace h26 := of_decide_eq_false h26 | skip
   have hnil := h26
   refine CW.seq (CW.region (LW.p (PEv.move (.tmp rfl)) rfl rfl rfl (LW.p (PEv.move (.tmp rfl)) rfl rfl rfl ?_)))
   refine LW.yes rfl rfl rfl rfl rfl rfl ?_
   refine LW.p (PEv.loadA Tryz.isAgg27 Tryz.sizeOf27 (hC.size) (.tmp rfl) ((hS.blk 0 rfl).agg)) rfl rfl rfl ?_
   refine LW.yes rfl rfl rfl rfl rfl rfl ?_
   refine LW.p (PEv.move (.tmp rfl)) rfl rfl rfl ?_
   refine LW.yes rfl rfl rfl rfl rfl rfl ?_
   refine LW.p (PEv.move (.tmp rfl)) rfl rfl rfl ?_
   refine LW.yes rfl rfl rfl rfl rfl rfl ?_
   refine LW.c (enter_call0 (.cons (.tmp rfl) (.cons (.tmp rfl) (.cons (.tmp rfl) .nil))) (Tryz.en21)) rfl rfl rfl rfl (Held_any bc b which time _ hC (Nat.lt_of_le_of_lt (hSh 6) (by decide)) (Nat.lt_of_le_of_lt (hSh 7) (by decide)) (Nat.lt_of_le_of_lt (hSh 3) (by decide)) (Nat.le_trans (hSh 2) (by decide)) (by have h1 : b.Lots.length ≤ 100000 := hSh 3; have h2 : b.Processes.length ≤ 100000 := hSh 0; omega)) ?_
   rintro v32 w6 ⟨hO32, uw6⟩
   have zw6 := uw6.size
   replace hS := hS.up uw6
   replace hC := hC.up uw6
   replace hEh := hEh.up uw6
   rw [held_nil (b := b) (List.eq_nil_of_length_eq_zero (by omega))] at hO32
   obtain ⟨ad32, cp32, rfl, _⟩ := hO32.sl (fun _ => rfl)
   clear hO32
   refine LW.yes rfl rfl rfl rfl rfl rfl ?_
   refine LW.p (PEv.lenS Tryz.underlying30 (.tmp rfl)) rfl rfl rfl ?_
   refine LW.yes rfl rfl rfl rfl rfl rfl ?_
   refine LW.p (PEv.tr (PEv.eql (.tmp rfl) (.const _)) (rfl)) rfl rfl rfl ?_
   refine LW.p (PEv.pick_and (.tmp rfl) (fun hp => (by first | exact .const _ | exact .tmp rfl | exact .cond rfl (by first | assumption | (rw [hp]; rfl) | (rw [hc, hp]; rfl) | simp_all)))) rfl rfl rfl ?_
   refine LW.p (PEv.assign (.tmp rfl)) rfl rfl rfl (LW.nil (KW.then (CW.ret (KW.then_ret ?_))))
   refine KW.ret1 rfl rfl ⟨_, rfl, ?_⟩
   first | exact ⟨rfl, hUz.trans hS.upd⟩ | exact ⟨rfl, hS.upd⟩
  ·first | replace h26 := of_decide_eq_true h26 | replace h26 := of_decide_eq_false h26 | skip
   have hne : (b.Holds.length : Int) ≠ 0 := by omega
   refine CW.skip (KW.then (CW.seq ?_))
   have hpr := pick_range (c := which) (n := (b.Holds.length : Int)) hwh (by omega)
   obtain ⟨kx, ekx⟩ := Int.eq_ofNat_of_zero_le hpr.1
   have hkx : kx < b.Holds.length := by omega
   obtain ⟨x, hx⟩ := getElem?_of_lt (xs := b.Holds) (i := kx) hkx
   obtain ⟨Bx, ox, ax, hcx⟩ := hEh kx x hx
   subst ax
   have hxm := List.mem_of_getElem? hx
   have hU5 := hS.upd
   have hB10 := hS.blk 0 rfl
   have hC5 := hC
   replace hS := Sep.start no w5
   refine CW.free 10 [.eq (.pointer (some ⟨B10, 6, none⟩)), .eq (.slice (some ⟨Bx, ox, none⟩) b.Holds.length cp6), .eq (vi which), .eq (.pointer (some ⟨B10, 6, none⟩)), .eq (.slice (some ⟨Bx, ox, none⟩) b.Holds.length cp6), .eq (vi (b.Holds.length : Int)), .eq (vi (kx : Int)), .eq (.pointer (some ⟨Bx, ox + kx * 19, none⟩)), .eq (.agg x.cells), .pred fun v W => ∃ B, v = .pointer (some ⟨B, 0, none⟩) ∧ w5.drew.heap.size ≤ B ∧ Blk W B zeroF.cells 35] [11, 44] (by kernel_rfl) rfl (by kernel_rfl) (by kernel_rfl) (by kernel_rfl) (by kernel_rfl) (by kernel_rfl) (by kernel_rfl) (by kernel_rfl) ⟨PhU.eq _, PhU.eq _, PhU.eq _, PhU.eq _, PhU.eq _, PhU.eq _, PhU.eq _, PhU.eq _, PhU.eq _, PhU.pred fun _ _ _ h u => let ⟨B, e, hz, hb⟩ := h; ⟨B, e, hz, hb.up u⟩, trivial⟩ ?_ ?_
   ·intro W hU0
    have hU := (Up.drew w5).trans hU0
    have zU0 := hU0.size
    refine allL.cons ⟨rfl, TU.p (PEv.fieldAddr (off := 6) Tryz.underlying27 rfl rfl Tryz.sizeOf22 rfl (.tmp rfl)) rfl⟩ ?_
    refine allL.cons ⟨rfl, TU.p (PEv.load Tryz.isAgg22 (.tmp rfl) ((hB10.up hU).cell h6)) rfl⟩ ?_
    refine allL.cons ⟨rfl, TU.p (PEv.move (.tmp rfl)) rfl⟩ ?_
    refine allL.cons ⟨rfl, TU.p (PEv.fieldAddr (off := 6) Tryz.underlying27 rfl rfl Tryz.sizeOf22 rfl (.tmp rfl)) rfl⟩ ?_
    refine allL.cons ⟨rfl, TU.p (PEv.load Tryz.isAgg22 (.tmp rfl) ((hB10.up hU).cell h6)) rfl⟩ ?_
    refine allL.cons ⟨rfl, TU.p (PEv.lenS Tryz.underlying22 (.tmp rfl)) rfl⟩ ?_
    refine allL.cons ⟨rfl, TU.c (enter_call0 (.cons (.tmp rfl) (.cons (.tmp rfl) .nil)) (Tryz.en16)) (pick_any _ _ _ hne) (by rintro _ W1 ⟨rfl, u⟩; exact ⟨u, by rw [ekx]; rfl⟩)⟩ ?_
    refine allL.cons ⟨rfl, TU.p (PEv.indexAddr' Tryz.underlying22 Tryz.sizeOf35 (.tmp rfl) (.tmp rfl) hkx rfl) rfl⟩ ?_
    refine allL.cons ⟨rfl, TU.p (PEv.loadA Tryz.isAgg35 Tryz.sizeOf35 rfl (.tmp rfl) (hcx.up hU)) rfl⟩ ?_
    refine allL.cons ⟨rfl, TU.r (REv.allocA Tryz.zeroValue35) (fun v W' h => let ⟨B, e, N⟩ := h; ⟨N.up, B, e, by rw [N.at_]; exact zU0, N.blk⟩)⟩ ?_
    exact allL.nil
   ·intro w7 g hU0 hg
    have hU := (Up.drew w5).trans hU0
    have zw7 := hU.size
    obtain ⟨B11, e11, z11, hB11⟩ : ∃ B, g 11 = .pointer (some ⟨B, 0, none⟩) ∧ w5.drew.heap.size ≤ B ∧ Blk w7 B zeroF.cells 35 := hg 9 _ 11 (by decide) rfl rfl
    have e44 : g 44 = .agg x.cells := hg 8 _ 44 (by decide) rfl rfl
    change LW _ _ _ _ _ _ _ _ ((11, .eq (g 11)) :: (44, .eq (g 44)) :: _) _
    rw [e11, e44]
    clear hg e11 e44
    replace hS := (hS.up (Up.drew _)).add hU0 (A' := aBlk B11 zeroF.cells 35) hB11 (fun i (e : i = B11) => by omega)
    change Wx.Sep no _ _ [_] at hS
    refine LW.s (SEv.storeA Tryz.sizeOf35 rfl (.tmp rfl) (.tmp rfl) (Fact.one _) (hS.blk 0 rfl) rfl) rfl rfl rfl ?_
    intro w8 Nw8
    have zw8 := Nw8.size
    replace hS := hS.putB 0 rfl (show Set_ _ w8 _ (x.cells) _ from Nw8)
    change Wx.Sep _ _ _ [_] at hS
    refine LW.nil (KW.then (CW.seq ?_))
    refine CW.draws_then 6 (by kernel_rfl) (by kernel_rfl) (by kernel_rfl) (by kernel_rfl) (by kernel_rfl) rfl rfl ?_
    refine HW.p (PEv.fieldAddr (off := 5) Tryz.underlying35 rfl rfl Tryz.sizeOf3 rfl (.tmp rfl)) rfl rfl ?_
    refine HW.p (PEv.load Tryz.isAgg3 (.tmp rfl) ((hS.blk 0 rfl).celln rfl)) rfl rfl ?_
    refine HW.p (PEv.move (.tmp rfl)) rfl rfl ?_
    refine HW.c (fun a w _ ha => enter_call0 (.cons (.tmp rfl) (.cons (.const _) .nil)) (Tryz.en16) a ha) rfl rfl (fun w hu => pick_any _ _ _ (by decide)) ?_
    refine HW.p (PEv.add_w (.tmp rfl) (.tmp rfl)) rfl rfl ?_
    refine HW.p (PEv.sub_w (.tmp rfl) (.const _)) rfl rfl ?_
    refine HW.nil ?_
    intro w9 uw9
    have zw9 := uw9.size
    replace hS := hS.up uw9
    refine LW.p (PEv.assign (.tmp rfl)) rfl rfl rfl (LW.nil (KW.then (CW.seq ?_)))
    obtain ⟨tt, ett⟩ : ∃ o, o = IntKind.i64.wrap (IntKind.i64.wrap (x.Time + pickI time 40) - 5) := ⟨_, rfl⟩
    rw [← ett]
    refine CW.region ?_
    refine LW.p (PEv.loadA Tryz.isAgg27 Tryz.sizeOf27 (hC5.size) (.tmp rfl) ((hB10.up hS.upd).agg)) rfl rfl rfl ?_
    refine LW.c (enter_call0 (.cons (.tmp rfl) .nil) (Tryz.en24)) rfl rfl rfl rfl (Wafers_any bc b _ (hC5.up hS.upd) (Nat.le_trans (hSh 2) (by decide)) (by have h1 : b.Lots.length ≤ 100000 := hSh 3; have h2 : b.Processes.length ≤ 100000 := hSh 0; omega)) ?_
    rintro v52 w10 ⟨hO52, uw10⟩
    have zw10 := uw10.size
    replace hS := hS.up uw10
    obtain ⟨wfs, ewf⟩ : ∃ wf, wf = wafersL b.Lots b.Processes b.Swaps := ⟨_, rfl⟩
    rw [← ewf] at hO52
    obtain ⟨ad52, cp52, rfl, hE52⟩ := hO52.sl (fun _ => rfl)
    replace hE52 : Els w10 ad52 1 eInt wfs := hE52
    clear hO52
    have hwl : wfs.length ≤ 200000 := by rw [ewf]; have h0 := wafersL_len b.Lots b.Processes b.Swaps; have h1 : b.Lots.length ≤ 100000 := hSh 3; have h2 : b.Processes.length ≤ 100000 := hSh 0; omega
    refine LW.p (PEv.assign (.tmp rfl)) rfl rfl rfl (LW.nil (KW.then (CW.seq (CW.region ?_))))
    refine LW.p (PEv.loadA Tryz.isAgg27 Tryz.sizeOf27 (hC5.size) (.tmp rfl) ((hB10.up hS.upd).agg)) rfl rfl rfl ?_
    refine LW.p (PEv.fieldAddr (off := 1) Tryz.underlying35 rfl rfl Tryz.sizeOf3 rfl (.tmp rfl)) rfl rfl rfl ?_
    refine LW.p (PEv.load Tryz.isAgg3 (.tmp rfl) ((hS.blk 0 rfl).celln rfl)) rfl rfl rfl ?_
    refine LW.p (PEv.move (.tmp rfl)) rfl rfl rfl ?_
    refine LW.c (enter_call0 (.cons (.tmp rfl) (.cons (.tmp rfl) (.cons (.tmp rfl) .nil))) (Tryz.en21)) rfl rfl rfl rfl (Held_any bc b x.ID tt _ (hC5.up hS.upd) (Nat.lt_of_le_of_lt (hSh 6) (by decide)) (Nat.lt_of_le_of_lt (hSh 7) (by decide)) (Nat.lt_of_le_of_lt (hSh 3) (by decide)) (Nat.le_trans (hSh 2) (by decide)) (by have h1 : b.Lots.length ≤ 100000 := hSh 3; have h2 : b.Processes.length ≤ 100000 := hSh 0; omega)) ?_
    rintro v57 w11 ⟨hO57, uw11⟩
    have zw11 := uw11.size
    replace hS := hS.up uw11
    replace hE52 := hE52.up uw11
    rw [held_ok hOk hxm, ← ewf] at hO57
    obtain ⟨out, eout⟩ : ∃ o, o = wfs.filter (qH b x tt) := ⟨_, rfl⟩
    rw [← eout] at hO57
    obtain ⟨ad57, cp57, rfl, hE57⟩ := hO57.sl (fun _ => rfl)
    replace hE57 : Els w11 ad57 1 eInt out := hE57
    clear hO57
    refine LW.p (PEv.assign (.tmp rfl)) rfl rfl rfl (LW.nil (KW.then (CW.seq ?_)))
    have hUz := hU5.trans hS.upd
    have hC := hC5.up hS.upd
    replace hB10 := hB10.up hS.upd
    have hB11 := hS.blk 0 rfl
    replace hS := Sep.start no w11
    refine CW.region (LW.p (PEv.assign (.const _)) rfl rfl rfl (LW.nil (KW.then (CW.seq (CW.seq (CW.region (LW.p (PEv.assign (.const _)) rfl rfl rfl (LW.nil (KW.then (CW.block ?_))))))))))
    refine CW.loopB (σ := Nat) (fun s w => (s ≤ wfs.length) ∧ (Wx.Sep no w11 w [])) (fun s => [(16, .eq (vi (s : Int))), (15, .eq (vi (((wfs.take s).filter (qH b x tt)).length : Int)))]) ([(9, .eq _), (10, .eq _), (11, .eq _), (12, .eq _), (13, .eq _), (14, .eq _)]) (fun s => wfs.length - s) 0 ?_ ⟨rfl, rfl, rfl, rfl, rfl, rfl, rfl, rfl, trivial⟩ ?_
    ·exact ⟨Nat.zero_le _, hS⟩
    ·rintro k w12 ⟨hk, hS⟩
     refine CW.seq (CW.seq (CW.region (LW.p (PEv.move (.tmp rfl)) rfl rfl rfl (LW.p (PEv.move (.tmp rfl)) rfl rfl rfl ?_))))
     refine LW.p (PEv.lenS Tryz.underlying30 (.tmp rfl)) rfl rfl rfl ?_
     refine LW.p (PEv.lss (.tmp rfl) (.tmp rfl)) rfl rfl rfl ?_
     refine LW.nil (KW.then ?_)
     refine CW.cond (.tmp rfl) (fun h61 => ?_) (fun h61 => ?_)
     ·first | replace h61 := of_decide_eq_true h61 | replace h61 := of_decide_eq_false h61 | skip
      have hk1 : k < wfs.length := by omega
      refine CW.skip (KW.then (CW.seq (CW.block (CW.seq ?_))))
      obtain ⟨y, hy⟩ := getElem?_of_lt (xs := wfs) (i := k) hk1
      obtain ⟨Bw, ow, aw, hcw0⟩ := hE52 k y hy
      subst aw
      have hcw := hcw0.up hS.upd
      have hkw : k < wfs.length := hk1
      refine CW.free 25 [.eq (.slice (some ⟨Bw, ow, none⟩) wfs.length cp52), .eq (vi ((k : Int))), .eq (.pointer (some ⟨Bw, ow + k * 1, none⟩)), .eq (vi (y)), .eq (.pointer (some ⟨B11, 11, none⟩)), .eq (vi (x.Tool)), .eq (vi (IntKind.i64.wrap (x.Tool - 1))), .eq (vi (mx (IntKind.i64.wrap (x.Tool - 1)) 0)), .eq (.pointer (some ⟨B11, 12, none⟩)), .eq (vi (x.Chamber)), .eq (vi (IntKind.i64.wrap (x.Chamber - 1))), .eq (vi (mx (IntKind.i64.wrap (x.Chamber - 1)) 0)), .eq (.pointer (some ⟨B11, 13, none⟩)), .eq (vi (x.Step)), .eq (vi (IntKind.i64.wrap (x.Step - 1))), .eq (vi (mx (IntKind.i64.wrap (x.Step - 1)) 0)), .eq (.pointer (some ⟨B11, 14, none⟩)), .eq (vi (x.Recipe)), .eq (vi (mx (x.Recipe) 1)), .eq (.pointer (some ⟨B11, 15, none⟩)), .eq (vi (x.Revision)), .eq (vi (mx (x.Revision) 1)), .eq (vi (tt)), .eq (.agg (actH x y tt).cells), .pred fun v W => ∃ B, v = .pointer (some ⟨B, 0, none⟩) ∧ w12.drew.heap.size ≤ B ∧ Blk W B (⟨0, 0, 0, 0, 0, 0, 0⟩ : GAct).cells 24] [17, 87] (by kernel_rfl) rfl (by kernel_rfl) (by kernel_rfl) (by kernel_rfl) (by kernel_rfl) (by kernel_rfl) (by kernel_rfl) (by kernel_rfl) ⟨PhU.eq _, PhU.eq _, PhU.eq _, PhU.eq _, PhU.eq _, PhU.eq _, PhU.eq _, PhU.eq _, PhU.eq _, PhU.eq _, PhU.eq _, PhU.eq _, PhU.eq _, PhU.eq _, PhU.eq _, PhU.eq _, PhU.eq _, PhU.eq _, PhU.eq _, PhU.eq _, PhU.eq _, PhU.eq _, PhU.eq _, PhU.eq _, PhU.pred fun _ _ _ h u => let ⟨B, e, hz, hb⟩ := h; ⟨B, e, hz, hb.up u⟩, trivial⟩ ?_ ?_
      ·intro W hU0
       have hU := (Up.drew w12).trans hU0
       have zU0 := hU0.size
       refine allL.cons ⟨rfl, TU.p (PEv.move (.tmp rfl)) rfl⟩ ?_
       refine allL.cons ⟨rfl, TU.p (PEv.move (.tmp rfl)) rfl⟩ ?_
       refine allL.cons ⟨rfl, TU.p (PEv.indexAddr' Tryz.underlying30 Tryz.sizeOf3 (.tmp rfl) (.tmp rfl) hkw rfl) rfl⟩ ?_
       refine allL.cons ⟨rfl, TU.p (PEv.load Tryz.isAgg3 (.tmp rfl) ((hcw.up hU).nth (j := 0) rfl)) rfl⟩ ?_
       refine allL.cons ⟨rfl, TU.p (PEv.fieldAddr (off := 11) Tryz.underlying35 rfl rfl Tryz.sizeOf3 rfl (.tmp rfl)) rfl⟩ ?_
       refine allL.cons ⟨rfl, TU.p (PEv.load Tryz.isAgg3 (.tmp rfl) (((hB11.up hS.upd).up hU).celln rfl)) rfl⟩ ?_
       refine allL.cons ⟨rfl, TU.p (PEv.sub_w (.tmp rfl) (.const _)) rfl⟩ ?_
       refine allL.cons ⟨rfl, TU.p (PEv.max2 (.tmp rfl) (.const _)) rfl⟩ ?_
       refine allL.cons ⟨rfl, TU.p (PEv.fieldAddr (off := 12) Tryz.underlying35 rfl rfl Tryz.sizeOf3 rfl (.tmp rfl)) rfl⟩ ?_
       refine allL.cons ⟨rfl, TU.p (PEv.load Tryz.isAgg3 (.tmp rfl) (((hB11.up hS.upd).up hU).celln rfl)) rfl⟩ ?_
       refine allL.cons ⟨rfl, TU.p (PEv.sub_w (.tmp rfl) (.const _)) rfl⟩ ?_
       refine allL.cons ⟨rfl, TU.p (PEv.max2 (.tmp rfl) (.const _)) rfl⟩ ?_
       refine allL.cons ⟨rfl, TU.p (PEv.fieldAddr (off := 13) Tryz.underlying35 rfl rfl Tryz.sizeOf3 rfl (.tmp rfl)) rfl⟩ ?_
       refine allL.cons ⟨rfl, TU.p (PEv.load Tryz.isAgg3 (.tmp rfl) (((hB11.up hS.upd).up hU).celln rfl)) rfl⟩ ?_
       refine allL.cons ⟨rfl, TU.p (PEv.sub_w (.tmp rfl) (.const _)) rfl⟩ ?_
       refine allL.cons ⟨rfl, TU.p (PEv.max2 (.tmp rfl) (.const _)) rfl⟩ ?_
       refine allL.cons ⟨rfl, TU.p (PEv.fieldAddr (off := 14) Tryz.underlying35 rfl rfl Tryz.sizeOf3 rfl (.tmp rfl)) rfl⟩ ?_
       refine allL.cons ⟨rfl, TU.p (PEv.load Tryz.isAgg3 (.tmp rfl) (((hB11.up hS.upd).up hU).celln rfl)) rfl⟩ ?_
       refine allL.cons ⟨rfl, TU.p (PEv.max2 (.tmp rfl) (.const _)) rfl⟩ ?_
       refine allL.cons ⟨rfl, TU.p (PEv.fieldAddr (off := 15) Tryz.underlying35 rfl rfl Tryz.sizeOf3 rfl (.tmp rfl)) rfl⟩ ?_
       refine allL.cons ⟨rfl, TU.p (PEv.load Tryz.isAgg3 (.tmp rfl) (((hB11.up hS.upd).up hU).celln rfl)) rfl⟩ ?_
       refine allL.cons ⟨rfl, TU.p (PEv.max2 (.tmp rfl) (.const _)) rfl⟩ ?_
       refine allL.cons ⟨rfl, TU.p (PEv.move (.tmp rfl)) rfl⟩ ?_
       refine allL.cons ⟨rfl, TU.p (PEv.build (cs := (actH x y tt).cells) Tryz.underlying24 Tryz.zeroValue24 Tryz.places24 (.cons (.tmp rfl) (.cons (.tmp rfl) (.cons (.tmp rfl) (.cons (.tmp rfl) (.cons (.tmp rfl) (.cons (.tmp rfl) (.cons (.tmp rfl) .nil))))))) rfl) rfl⟩ ?_
       refine allL.cons ⟨rfl, TU.r (REv.allocA Tryz.zeroValue24) (fun v W' h => let ⟨B, e, N⟩ := h; ⟨N.up, B, e, by rw [N.at_]; exact zU0, N.blk⟩)⟩ ?_
       exact allL.nil
      ·intro w13 g hU0 hg
       have hU := (Up.drew w12).trans hU0
       have zw13 := hU.size
       obtain ⟨B17, e17, z17, hB17⟩ : ∃ B, g 17 = .pointer (some ⟨B, 0, none⟩) ∧ w12.drew.heap.size ≤ B ∧ Blk w13 B (⟨0, 0, 0, 0, 0, 0, 0⟩ : GAct).cells 24 := hg 24 _ 17 (by decide) rfl rfl
       have e87 : g 87 = .agg (actH x y tt).cells := hg 23 _ 87 (by decide) rfl rfl
       change LW _ _ _ _ _ _ _ _ ((17, .eq (g 17)) :: (87, .eq (g 87)) :: _) _
       rw [e17, e87]
       clear hg e17 e87
       replace hS := (hS.up (Up.drew _)).add hU0 (A' := aBlk B17 (⟨0, 0, 0, 0, 0, 0, 0⟩ : GAct).cells 24) hB17 (fun i (e : i = B17) => by omega)
       change Wx.Sep no _ _ [_] at hS
       refine LW.s (SEv.storeA Tryz.sizeOf24 rfl (.tmp rfl) (.tmp rfl) (GAct.one _) (hS.blk 0 rfl) rfl) rfl rfl rfl ?_
       intro w14 Nw14
       have zw14 := Nw14.size
       replace hS := hS.putB 0 rfl (show Set_ _ w14 _ ((actH x y tt).cells) _ from Nw14)
       change Wx.Sep _ _ _ [_] at hS
       refine LW.nil (KW.then (CW.seq (CW.seq ?_)))
       refine CW.draws_then 5 (by kernel_rfl) (by kernel_rfl) (by kernel_rfl) (by kernel_rfl) (by kernel_rfl) rfl rfl ?_
       refine HW.p (PEv.loadA Tryz.isAgg27 Tryz.sizeOf27 (hC.size) (.tmp rfl) ((hB10.up hS.upd).agg)) rfl rfl ?_
       refine HW.p (PEv.loadA Tryz.isAgg24 Tryz.sizeOf24 rfl (.tmp rfl) ((hS.blk 0 rfl).agg)) rfl rfl ?_
       refine HW.qc (ph := .pred fun v w => Sl w v 1 eInt (stopsOf b (actH x y tt))) (fun _ _ _ h u => Sl.up h u) rfl (fun a w hu ha => ⟨_, _, enter_call0 (.cons (.tmp rfl) (.cons (.tmp rfl) .nil)) (Tryz.en12) a ha, (Stops_any bc b (actH x y tt) w (hC.up (hS.upd.trans hu)) (Nat.le_trans (hSh 6) (by decide)) (Nat.lt_of_le_of_lt (hSh 7) (by decide)) (Nat.lt_of_le_of_lt (hSh 3) (by decide))).mono fun v w' h => ⟨h.2, h.1.sl (fun _ => rfl)⟩⟩) rfl ?_
       refine HW.p (PEv.fieldAddr (off := 1) Tryz.underlying35 rfl rfl Tryz.sizeOf3 rfl (.tmp rfl)) rfl rfl ?_
       refine HW.p (PEv.load Tryz.isAgg3 (.tmp rfl) ((hB11.up hS.upd).celln rfl)) rfl rfl ?_
       refine HW.nil ?_
       intro w15 uw15
       have zw15 := uw15.size
       replace hS := hS.up uw15
       refine LW.open (d := 90) rfl fun v90 hS90 => ?_
       refine LW.c (enter_call0 (.cons (.tmp rfl) (.cons (.tmp rfl) .nil)) (Tryz.en25)) rfl rfl rfl rfl (has_any _ (stopsOf b (actH x y tt)) x.ID _ hS90 (by have := stopsOf_len b (actH x y tt); omega)) ?_
       rintro _ w16 ⟨rfl, uw16⟩
       have zw16 := uw16.size
       replace hS := hS.up uw16
       replace hS90 := hS90.up uw16
       obtain ⟨qv, eqv⟩ : ∃ v, v = qH b x tt y := ⟨_, rfl⟩
       rw [show ((stopsOf b (actH x y tt)).any fun z => decide (z = x.ID)) = qv from eqv.symm]
       refine LW.p (PEv.not (.tmp rfl)) rfl rfl rfl ?_
       refine LW.nil (KW.then ?_)
       refine CW.cond (.tmp rfl) (fun h94 => ?_) (fun h94 => ?_)
       ·first | replace h94 := of_decide_eq_true h94 | replace h94 := of_decide_eq_false h94 | skip
        have hqf : qH b x tt y = false := by rw [← eqv]; simpa using h94
        refine CW.exit (KW.then_exit (KW.block_hit (KW.then (CW.region (LW.p (PEv.move (.tmp rfl)) rfl rfl rfl ?_)))))
        refine LW.p (PEv.inc (.tmp rfl) (by omega)) rfl rfl rfl ?_
        refine LW.p (PEv.assign (.tmp rfl)) rfl rfl rfl (LW.nil (KW.round ?_))
        exact ⟨k + 1, ⟨by omega, hS.take 0⟩, ⟨rfl, by first | (rw [filt_yes2 hy hqt]; rfl) | (rw [filt_no2 hy hqf]; rfl), rfl, rfl, rfl, rfl, rfl, rfl, trivial⟩, by first | omega | (dsimp only; omega)⟩
       ·first | replace h94 := of_decide_eq_true h94 | replace h94 := of_decide_eq_false h94 | skip
        have hqt : qH b x tt y = true := by rw [← eqv]; simpa using h94
        have hz := filt_at hy hqt
        rw [← eout] at hz
        have hzl := (List.getElem?_eq_some_iff.1 hz).1
        obtain ⟨Bz, oz, az, hcz0⟩ := hE57 _ _ hz
        have hcl : ((wfs.take k).filter (qH b x tt)).length ≤ k := Nat.le_trans (List.length_filter_le _ _) (by rw [List.length_take]; omega)
        refine CW.skip (KW.then (CW.seq (CW.seq ?_)))
        have hcz := hcz0.up hS.upd
        have hcw := hcw0.up hS.upd
        refine CW.draws (by kernel_rfl) (by kernel_rfl) rfl rfl ?_
        refine HW.p (PEv.move (.tmp rfl)) rfl rfl ?_
        refine HW.p (PEv.move (.tmp rfl)) rfl rfl ?_
        refine HW.p (PEv.lenS Tryz.underlying30 (.tmp rfl)) rfl rfl ?_
        refine HW.p (PEv.fa (PEv.geq (.tmp rfl) (.tmp rfl)) (decide_eq_false (by omega))) rfl rfl ?_
        refine HW.p (PEv.move (.tmp rfl)) rfl rfl ?_
        refine HW.g rfl rfl rfl rfl rfl rfl (fun hc => PEv.move (.tmp rfl)) ?_
        refine HW.g rfl rfl rfl rfl rfl rfl (fun hc => PEv.move (.tmp rfl)) ?_
        refine HW.g rfl rfl rfl rfl rfl rfl (fun hc => PEv.indexAddr' Tryz.underlying30 Tryz.sizeOf3 (by first | exact .tmp rfl | exact .cond rfl (by first | assumption | simp_all)) (by first | exact .tmp rfl | exact .cond rfl (by first | assumption | simp_all)) hzl az) ?_
        refine HW.g rfl rfl rfl rfl rfl rfl (fun hc => PEv.load Tryz.isAgg3 (by first | exact .tmp rfl | exact .cond rfl (by first | assumption | simp_all)) (hcz.nth (j := 0) rfl)) ?_
        refine HW.g rfl rfl rfl rfl rfl rfl (fun hc => PEv.move (.tmp rfl)) ?_
        refine HW.g rfl rfl rfl rfl rfl rfl (fun hc => PEv.move (.tmp rfl)) ?_
        refine HW.g rfl rfl rfl rfl rfl rfl (fun hc => PEv.indexAddr' Tryz.underlying30 Tryz.sizeOf3 (by first | exact .tmp rfl | exact .cond rfl (by first | assumption | simp_all)) (by first | exact .tmp rfl | exact .cond rfl (by first | assumption | simp_all)) hkw rfl) ?_
        refine HW.g rfl rfl rfl rfl rfl rfl (fun hc => PEv.load Tryz.isAgg3 (by first | exact .tmp rfl | exact .cond rfl (by first | assumption | simp_all)) (hcw.nth (j := 0) rfl)) ?_
        refine HW.g rfl rfl rfl rfl rfl rfl (fun hc => PEv.fa (PEv.neq (by first | exact .tmp rfl | exact .cond rfl (by first | assumption | simp_all)) (by first | exact .tmp rfl | exact .cond rfl (by first | assumption | simp_all))) (by simp)) ?_
        refine HW.p (PEv.pick_or (.tmp rfl) (fun hp => (by first | exact .const _ | exact .tmp rfl | exact .cond rfl (by first | assumption | (rw [hp]; rfl) | (rw [hc, hp]; rfl) | simp_all)))) rfl rfl ?_
        refine HW.nil ?_
        intro w17 uw17
        have zw17 := uw17.size
        replace hS := hS.up uw17
        replace hS90 := hS90.up uw17
        refine KW.then ?_
        refine CW.cond_false (.tmp rfl) ?_
        refine CW.skip (KW.then (CW.region (LW.p (PEv.move (.tmp rfl)) rfl rfl rfl ?_)))
        refine LW.p (PEv.inc (.tmp rfl) (by omega)) rfl rfl rfl ?_
        refine LW.p (PEv.assign (.tmp rfl)) rfl rfl rfl (LW.nil (KW.inBlock (KW.then (CW.region (LW.p (PEv.move (.tmp rfl)) rfl rfl rfl ?_)))))
        refine LW.p (PEv.inc (.tmp rfl) (by omega)) rfl rfl rfl ?_
        refine LW.p (PEv.assign (.tmp rfl)) rfl rfl rfl (LW.nil (KW.round ?_))
        exact ⟨k + 1, ⟨by omega, hS.take 0⟩, ⟨rfl, by first | (rw [filt_yes2 hy hqt]; rfl) | (rw [filt_no2 hy hqf]; rfl), rfl, rfl, rfl, rfl, rfl, rfl, trivial⟩, by first | omega | (dsimp only; omega)⟩
     ·first | replace h61 := of_decide_eq_true h61 | replace h61 := of_decide_eq_false h61 | skip
      have hkl : k = wfs.length := by omega
      have hend : ((wfs.take k).filter (qH b x tt)).length = out.length := by rw [hkl, List.take_length, eout]
      refine CW.exit (KW.then_exit (KW.then_exit (KW.block_hit (KW.then (CW.seq (CW.region (LW.p (PEv.move (.tmp rfl)) rfl rfl rfl (LW.p (PEv.move (.tmp rfl)) rfl rfl rfl ?_))))))))
      refine LW.yes rfl rfl rfl rfl rfl rfl ?_
      refine LW.p (PEv.move (.tmp rfl)) rfl rfl rfl ?_
      refine LW.yes rfl rfl rfl rfl rfl rfl ?_
      refine LW.p (PEv.move (.tmp rfl)) rfl rfl rfl ?_
      refine LW.yes rfl rfl rfl rfl rfl rfl ?_
      refine LW.p (PEv.lenS Tryz.underlying30 (.tmp rfl)) rfl rfl rfl ?_
      refine LW.yes rfl rfl rfl rfl rfl rfl ?_
      refine LW.p (PEv.tr (PEv.eql (.tmp rfl) (.tmp rfl)) (decide_eq_true (by rw [hend]))) rfl rfl rfl ?_
      refine LW.p (PEv.pick_and (.tmp rfl) (fun hp => (by first | exact .const _ | exact .tmp rfl | exact .cond rfl (by first | assumption | (rw [hp]; rfl) | (rw [hc, hp]; rfl) | simp_all)))) rfl rfl rfl ?_
      refine LW.p (PEv.assign (.tmp rfl)) rfl rfl rfl (LW.nil (KW.then (CW.ret ?_)))
      refine KW.ret1 rfl rfl ⟨_, rfl, ?_⟩
      first | exact ⟨rfl, hUz.trans hS.upd⟩ | exact ⟨rfl, hS.upd⟩
end Go.Proofs.YtolkipbpklkcnaaGreat
end
