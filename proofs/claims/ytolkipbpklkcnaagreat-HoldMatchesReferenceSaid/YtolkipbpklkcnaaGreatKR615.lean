import Derived.Test.YtolkipbpklkcnaaGreatKR614
import Derived.Sort.OwnSortedInts
section
namespace Go.Wx
theorem flat_int (ks : List Int) : ks.flatMap (fun x => (eInt x).toList) = ks.map vi := by
  induction ks with
  | nil => rfl
  | cons k ks ih => rw [List.flatMap_cons, ih]; rfl
theorem sort_perm {a b : List Int} (h : a.Perm b) : (a.mergeSort fun x y => decide (x ≤ y)) = b.mergeSort fun x y => decide (x ≤ y) :=
  List.Perm.eq_of_pairwise (le := fun x y => decide (x ≤ y) = true) (fun x y _ _ h1 h2 => by have h3 := of_decide_eq_true h1; have h4 := of_decide_eq_true h2; omega)
    (List.pairwise_mergeSort (fun a b c h1 h2 => by have h3 := of_decide_eq_true h1; have h4 := of_decide_eq_true h2; exact decide_eq_true (by omega)) (fun a b => by simp; omega) a)
    (List.pairwise_mergeSort (fun a b c h1 h2 => by have h3 := of_decide_eq_true h1; have h4 := of_decide_eq_true h2; exact decide_eq_true (by omega)) (fun a b => by simp; omega) b)
    ((List.mergeSort_perm a _).trans (h.trans (List.mergeSort_perm b _).symm))
def unitB (k : Int) : Int × Go.Value := (k, .bool true)
def addI (ks : List Int) (k : Int) : List Int := if k ∈ ks then ks else ks ++ [k]
def sortI (ks : List Int) : List Int := ks.mergeSort fun x y => decide (x ≤ y)
theorem unitB_keys (ks : List Int) : (ks.map unitB).map (·.1) = ks := by simp [List.map_map, Function.comp_def, unitB]
theorem mset_unitB (ks : List Int) (k : Int) : mset (ks.map unitB) k (.bool true) = (addI ks k).map unitB := by
  unfold mset addI
  rw [unitB_keys]
  by_cases h : k ∈ ks
  · rw [if_pos h, if_pos h, List.map_map]
    refine List.map_congr_left fun x _ => ?_
    show (if x = k then (k, Go.Value.bool true) else unitB x) = unitB x
    by_cases hx : x = k
    · subst hx; rw [if_pos rfl]; rfl
    · rw [if_neg hx]
  · rw [if_neg h, if_neg h]; simp [unitB]
theorem addI_len (ks : List Int) (k : Int) : (addI ks k).length ≤ ks.length + 1 := by unfold addI; split <;> simp
theorem addI_mem {ks : List Int} {k x : Int} : x ∈ addI ks k ↔ x ∈ ks ∨ x = k := by
  unfold addI
  split
  · exact ⟨.inl, fun h => h.elim id (fun e => by rw [e]; assumption)⟩
  · rw [List.mem_append, List.mem_singleton]
theorem unitB_mem {ks : List Int} {k : Int} {u : Go.Value} (h : (k, u) ∈ ks.map unitB) : k ∈ ks ∧ u = .bool true := by
  obtain ⟨x, hx, e⟩ := List.mem_map.1 h
  cases e
  exact ⟨hx, rfl⟩
theorem foldAdd_len {α : Type} (g : List Int → α → List Int) (hg : ∀ ks x, (g ks x).length ≤ ks.length + 1) : ∀ (l : List α) (ks : List Int), (l.foldl g ks).length ≤ ks.length + l.length
  | [], _ => Nat.le_refl _
  | x :: l, ks => by
    rw [List.foldl_cons, List.length_cons]
    have h1 := foldAdd_len g hg l (g ks x)
    have h2 := hg ks x
    omega
def lotK (l : List Fact) : List Int := l.foldl (fun ks f => addI ks f.Wafer) []
def proK (ss : List Fact) (ks : List Int) (l : List Fact) : List Int := l.foldl (fun ks f => addI ks (whoL ss f.Time f.Wafer)) ks
def wafersL (lots ps ss : List Fact) : List Int := sortI ((proK ss (lotK lots) ps).filter isIDb)
theorem lotK_step {l : List Fact} {k : Nat} {x : Fact} (hx : l[k]? = some x) : lotK (l.take (k + 1)) = addI (lotK (l.take k)) x.Wafer := by rw [take_succ_of hx]; unfold lotK; rw [List.foldl_append]; rfl
theorem proK_step {ss l : List Fact} {ks : List Int} {k : Nat} {x : Fact} (hx : l[k]? = some x) : proK ss ks (l.take (k + 1)) = addI (proK ss ks (l.take k)) (whoL ss x.Time x.Wafer) := by rw [take_succ_of hx]; unfold proK; rw [List.foldl_append]; rfl
theorem lotK_len (l : List Fact) : (lotK l).length ≤ l.length := by have := foldAdd_len (fun ks (f : Fact) => addI ks f.Wafer) (fun _ _ => addI_len _ _) l []; simpa [lotK] using this
theorem proK_len (ss : List Fact) (ks : List Int) (l : List Fact) : (proK ss ks l).length ≤ ks.length + l.length := foldAdd_len (fun ks (f : Fact) => addI ks (whoL ss f.Time f.Wafer)) (fun _ _ => addI_len _ _) l ks
def curW (ks V : List Int) : List Int := ks.filter fun k => isIDb k || !decide (k ∈ V)
theorem curW_nil (ks : List Int) : curW ks [] = ks := List.filter_eq_self.2 fun k _ => by simp
theorem curW_yes (ks V : List Int) {k : Int} (h : isIDb k = true) : curW ks (V ++ [k]) = curW ks V := by
  refine List.filter_congr fun x _ => ?_
  by_cases e : x = k
  · rw [e, h]; rfl
  · simp [e]
theorem curW_no (ks V : List Int) {k : Int} (h : isIDb k = false) : (curW ks (V ++ [k])).map unitB = ((curW ks V).map unitB).filter fun p => !decide (p.1 = k) := by
  rw [List.filter_map, curW, curW, List.filter_filter]
  congr 1
  refine List.filter_congr fun x _ => ?_
  by_cases e : x = k
  · simp [e, h, unitB]
  · simp [e, unitB]
theorem filt_snoc_yes (V : List Int) {k : Int} (h : isIDb k = true) : (V ++ [k]).filter isIDb = V.filter isIDb ++ [k] := by rw [List.filter_append]; simp [h]
theorem filt_snoc_no (V : List Int) {k : Int} (h : isIDb k = false) : (V ++ [k]).filter isIDb = V.filter isIDb := by rw [List.filter_append]; simp [h]
theorem curW_fresh {ks V : List Int} {k : Int} (h : k ∈ curW ks V) (hf : k ∉ V.filter isIDb) : k ∉ V ∧ k ∈ ks := by
  obtain ⟨h1, h2⟩ := List.mem_filter.1 h
  refine ⟨fun hV => ?_, h1⟩
  cases hi : isIDb k with
  | true => exact hf (List.mem_filter.2 ⟨hV, hi⟩)
  | false => rw [hi] at h2; simp [hV] at h2
theorem curW_end {ks V : List Int} (h : (V.filter isIDb).Perm (((curW ks V).map unitB).map (·.1))) : curW ks V = ks.filter isIDb := by
  rw [unitB_keys] at h
  refine List.filter_congr fun k hk => ?_
  cases hi : isIDb k with
  | true => rfl
  | false =>
    cases hc : decide (k ∈ V) with
    | true => rfl
    | false =>
      exfalso
      have h1 : k ∈ curW ks V := List.mem_filter.2 ⟨hk, by rw [hc]; simp⟩
      have := (List.mem_filter.1 (h.symm.subset h1)).2
      rw [hi] at this; cases this
end Go.Wx
namespace Go.Proofs.YtolkipbpklkcnaaGreat
open Go.Wx Go.RowKit
namespace Hs
theorem mapsKeys_any (b : Nat) (w : World) : Ret Tryz.prog 52 #[.map (some b)] w fun r w' => (∃ B, r = .func (.func 94) #[] #[.pointer (some ⟨B, 0, none⟩)] ∧ Blk w' B #[.map (some b)] 92 ∧ w.heap.size ≤ B) ∧ Up w w' := by
  have hW := Up.refl w
  refine Calls_start (n := 4) (m := 9) Tryz.func52 rfl rfl rfl ?_
  refine CW.S ?_
  refine LW.r (REv.box1 (.tmp rfl) rfl) rfl rfl rfl rfl ?_
  rintro _ w1 ⟨B1, rfl, NB1⟩
  have eB1 := NB1.at_
  have zB1 := NB1.size
  replace hW := hW.up NB1.up
  have hB1 := NB1.blk
  refine LW.C (LW.S (CW.region ?_))
  refine LW.pp (PEv.makeFunc (.cons (.tmp rfl) .nil)) ?_
  refine LW.A rfl (LW.T (CW.ret ?_))
  refine KW.ret1 rfl rfl ⟨_, rfl, ?_⟩
  exact ⟨⟨_, rfl, hB1, by omega⟩, hW⟩
theorem mapsKeys_iter (X Y : Nat → Prop) (B1 b : Nat) (kv : List (Int × Value)) (w : World) (hYY : ∀ i, Y i → i < w.heap.size) (hQX : ¬ X B1) (hbY : ¬ Y b) (hQ0 : Blk w B1 #[.map (some b)] 92) (hM0 : IMap w b kv) :
    IterS Tryz.prog 94 #[.pointer (some ⟨B1, 0, none⟩)] eInt X Y (fun ys => ys.Perm (kv.map (·.1))) (fun pre => pre.Nodup ∧ ∀ k ∈ pre, k ∈ kv.map (·.1)) kv.length w := by
  refine IterS.of ?_
  intro lp J Jx w0 hUw _ hY hJ
  obtain ⟨Bd, hBd⟩ : ∃ Bd, Bd = w0.heap.size := ⟨_, rfl⟩
  rw [← hBd] at hJ hY
  have zU := hUw.size
  have hQ := hQ0.up hUw
  have hM := hM0.up hUw
  have zQ0 := hQ.lt
  refine Calls_start (n := 14) (m := 9) Tryz.func94 rfl rfl rfl ?_
  refine CW.S ?_
  refine LW.pp (PEv.load Tryz.isAgg92 (.tmp rfl) (hQ.celln rfl)) ?_
  refine LW.r (REv.range Tryz.underlying92 (.tmp rfl) hM) rfl rfl rfl rfl ?_
  rintro _ w1 ⟨r5, rfl, hR5, uw1, ew1, zw1⟩
  replace hQ := hQ.up uw1
  replace hM := hM.up uw1
  replace hJ := hJ.up uw1
  refine LW.T (CW.block ?_)
  refine CW.loop (σ := List Int) (fun s w => Jw Bd J s w ∧ Blk w B1 #[.map (some b)] 92 ∧ IRng w b r5 kv s) (fun s => [(0, .eq (.func (.yield lp) #[] #[])), (5, .eq (.pointer (some ⟨r5, 0, none⟩)))]) (fun s => kv.length - s.length) [] ?_ ?_ ?_
  ·exact ⟨hJ, hQ, hR5⟩
  ·exact ⟨rfl, rfl, trivial⟩
  ·rintro done w2 ⟨hJ, hQ, hR5⟩
   have zQ := hQ.lt
   refine CW.S ?_
   refine LW.r (REv.next (.tmp rfl) hR5) rfl rfl rfl rfl ?_
   rintro _ w3 (⟨rfl, rfl, hPm⟩ | ⟨k, u, rfl, hNx⟩)
   ·skip
    refine LW.pp (PEv.extract (.tmp rfl) rfl) (LW.S ?_)
    refine CW.cond_false (.tmp rfl) ?_
    refine CW.exit (KW.then_exit (KW.then_exit (KW.block_hit ?_)))
    refine KW.end0 rfl ⟨_, rfl, ?_⟩
    first | exact .inl ⟨_, hPm, hJ.j⟩ | exact .inr ⟨_, hR5.sub, hJx⟩
   ·skip
    obtain ⟨_, ho, hwk⟩ := hNx.walk
    replace hJ := hJ.walk hNx.grown (by omega) ho hwk
    replace hQ := hQ.sto hNx.sto (by omega)
    replace hR5 := hNx.rng
    have zw3 := hNx.size
    refine LW.pp (PEv.extract (.tmp rfl) rfl) (LW.S ?_)
    refine CW.cond_true (.tmp rfl) ?_
    refine CW.skip (KW.then (CW.block (CW.S ?_)))
    refine LW.r (REv.entry (.tmp rfl) hNx.entry) rfl rfl rfl rfl ?_
    rintro _ _ ⟨rfl, rfl⟩
    refine LW.pp (PEv.extract (.tmp rfl) rfl) (LW.A rfl (LW.S (CW.region (LW.M rfl (LW.M rfl ?_)))))
    refine LW.y (.tmp rfl) (.cons (.tmp rfl) .nil) rfl rfl (hY done k _ hJ (by have := hR5.length; simp at this; omega)) ?_
    rintro _ w4 ⟨y, rfl, hcase⟩
    refine LW.pp (PEv.not (.tmp rfl)) ?_
    refine LW.T ?_
    refine CW.cond (.tmp rfl) (fun h13 => ?_) (fun h13 => ?_)
    ·first | replace h13 := dT h13 | replace h13 := dF h13 | skip
     have hy : y = false := by simpa using h13
     subst hy
     obtain ⟨_, hJx⟩ := hcase.resolve_left (by simp)
     refine CW.ret (KW.block_ret (KW.then_ret (KW.block_ret ?_)))
     refine KW.ret0 rfl ⟨_, rfl, ?_⟩
     first | exact .inl ⟨_, hPm, hJ.j⟩ | exact .inr ⟨_, hR5.sub, hJx⟩
    ·first | replace h13 := dT h13 | replace h13 := dF h13 | skip
     have hy : y = true := by simpa using h13
     subst hy
     obtain ⟨_, hJ2, hN⟩ := hcase.resolve_right (by simp)
     replace hQ := hQ.kx hN hQX
     replace hR5 := hR5.kx hN hbY (fun h => by have := hYY _ h; omega)
     refine CW.skip (KW.inBlock (KW.round ?_))
     exact ⟨done ++ [k], ⟨hJ2, hQ, hR5⟩, ⟨rfl, rfl, trivial⟩, by have := hR5.length; simp at this ⊢; omega⟩
theorem appendSeq_any (g : Nat) (lb : Array Go.Value) (S Sp : List Int → Prop) (N : Nat) (w : World) (en : ∀ args w, (callFunc g args).run Tryz.prog w = .ok (.enter g args) w) (hit : ∀ W (X : Nat → Prop), Up w W → (∀ i, X i → w.heap.size ≤ i) → IterS Tryz.prog g lb eInt X (fun _ => False) S Sp N W) (hN0 : N ≤ 1000000000) : Ret Tryz.prog 126 #[.slice none 0 0, .func (.func g) #[] lb] w fun r w' => ∃ ks, S ks ∧ OwnS w' w.heap.size 3 1 eInt r ks ∧ Up w w' := by
  have hW := Up.refl w
  obtain ⟨w0, rfl⟩ : ∃ w0, w0 = w := ⟨_, rfl⟩
  refine Calls_startM (n := 13) Tryz.func126 rfl rfl rfl ?_
  refine CW.S ?_
  refine LW.r (REv.box1 (.tmp rfl) rfl) rfl rfl rfl rfl ?_
  rintro _ w1 ⟨B2, rfl, NB2⟩
  have eB2 := NB2.at_
  have zB2 := NB2.size
  replace hW := hW.up NB2.up
  have hB2 := NB2.blk
  refine LW.C (LW.S (CW.S (LW.M rfl (LW.T (CW.block ?_)))))
  obtain ⟨bq, hbq⟩ : ∃ bq, bq = w1.heap.size := ⟨_, rfl⟩
  refine CW.rangeFunc (fun i => B2 ≤ i) (fun _ => False) (fun pre W => Sz bq W ∧ ∃ v, Blk W B2 #[v] 30 ∧ OwnS W (B2 + 1) 3 1 eInt v pre ∧ Up w0 W) (fun c pre W => Sz bq W ∧ False) (fun x a' W => Ag 13 [] ([(5, .eq (vi x)), (2, .eq (.pointer (some ⟨B2, 0, none⟩)))]) a' W) (.tmp rfl) en (hit _ _ hW (fun i (hi : B2 ≤ i) => by omega)) (fun _ => rfl) rfl ?_ ?_ ?_ ?_ ?_ ?_ ?_ ?_
  ·rw [← hbq]
   intro pre W W' row hs hg hr
   obtain ⟨hZ, v, hB2, hO, hW⟩ := hs
   exact ⟨hZ.ko (Ko.grown hg hr), v, hB2.ko (Ko.grown hg hr), hO.ko (Ko.grown hg hr), hW.ko (Ko.grown hg hr) (by omega)⟩
  ·rw [← hbq]
   intro c pre W W' row hs hg hr
   obtain ⟨hZ, hF⟩ := hs
   exact ⟨hZ.ko (Ko.grown hg hr), hF⟩
  ·intro x a' u W W' row hs hg hr
   exact hs.world rfl _
  ·exact ⟨Nat.le_of_eq hbq, _, hB2, OwnS.nil _ _ _ _ _, hW⟩
  ·rw [← hbq]
   intro lp pre x w2 K hs hk a ha
   obtain ⟨hZ, v, hB2, hO, hW⟩ := hs
   have zq := hZ.le
   have hK := Kf.refl bq w2
   have hN := Kx.refl bq (fun i => B2 ≤ i) (fun _ => False) w2
   revert a
   refine CW.assign1 (p := 7) rfl ?_
   refine CW.region (LW.A rfl (LW.nil ?_))
   exact fun a ha => hk a _ hK hN ⟨hZ, v, hB2, hO, hW⟩ (ha.sub ⟨rfl, rfl, trivial⟩)
  ·rw [← hbq]
   intro lp pre x a' w3 hs hx hlt
   obtain ⟨hZ, v, hB2, hO, hW⟩ := hs
   have ha := hx
   have zq := hZ.le
   have hK := Kf.refl bq w3
   have hN := Kx.refl bq (fun i => B2 ≤ i) (fun _ => False) w3
   refine (show CW (some lp) 8 _ 13 [] _ (ownPostG bq (Kx bq (fun i => B2 ≤ i) (fun _ => False)) _ _ (pre ++ [x]) w3) ([(5, .eq (vi x)), (2, .eq (.pointer (some ⟨B2, 0, none⟩)))]) w3 from ?_) a' ha
   refine CW.block (CW.region ?_)
   refine LW.pp (PEv.load Tryz.isAgg30 (.tmp rfl) (hB2.celln rfl)) ?_
   refine LW.M rfl ?_
   refine LW.r (REv.buildSlice (xs := [x]) (enc := eInt) (mk := vi) Tryz.underlying30 Tryz.sizeOf3 Tryz.zeroValue3 rfl (by decide) (fun _ => rfl) (fun _ => rfl) (.cons (.tmp rfl) .nil) rfl) rfl rfl rfl rfl ?_
   rintro _ w4 ⟨B10, cB10, rfl, NB10, yB10, xB10⟩
   have eB10 := NB10.at_
   have zB10 := NB10.size
   replace hZ := hZ.up NB10.up
   replace hB2 := hB2.up NB10.up
   replace hO := hO.up NB10.up
   replace hW := hW.up NB10.up
   replace hK := hK.up NB10.up
   replace hN := hN.up NB10.up
   have hB10 := NB10.blk
   have hE10 := xB10
   refine LW.r (REv.append (enc := eInt) (base := B2 + 1) (bytes := 8) (i := Tryz.t3) Tryz.underlying30 (by kernel_rfl) rfl rfl rfl rfl (by decide) (fun _ => rfl) eInt_one (.tmp rfl) (.tmp rfl) hO (Sl.of_els hE10) (by simp) (by simp [maxLen]; omega) (by simp; omega) (by omega)) rfl rfl rfl rfl ?_
   rintro v11 w5 ⟨Ow5, Gw5⟩
   have zw5 := Gw5.size
   replace hZ := hZ.gr Gw5 rfl
   replace hB2 := hB2.gr Gw5 (by omega)
   replace hW := hW.gr Gw5 (by omega)
   replace hK := hK.gr Gw5
   replace hN := hN.gr Gw5 (fun i hi => by first | exact .inr (by omega) | exact .inl (by show _ ≤ _; omega))
   replace hO := Ow5
   refine LW.s (SEv.store Tryz.sizeOf30 (.tmp rfl) (.tmp rfl) hO.one hB2 (by simp)) rfl rfl rfl ?_
   intro w6 Nw6
   have zw6 := Nw6.size
   replace hZ := hZ.sto Nw6.sto (by omega)
   replace hO := hO.sto Nw6.sto (by omega)
   replace hW := hW.sto Nw6.sto (by omega)
   replace hK := hK.sto Nw6.sto (.inr (.inr ⟨_, _, hB2⟩))
   replace hN := hN.stoC Nw6.sto (⟨_, _, hB2⟩) (by first | exact .inr (by omega) | exact .inl rfl | exact .inl (by show _ ≤ _; omega))
   replace hB2 := Nw6.blk
   replace hB2 : Blk w6 B2 #[v11] _ := hB2
   refine LW.nil (KW.inBlock ?_)
   exact fun a ha => ⟨hK, hN, hZ, _, hB2, hO, hW⟩
  ·intro D ys w7 hDb hS hs hD
   rw [← hbq] at hDb
   obtain ⟨hZ, v, hB2, hO, hW⟩ := hs
   replace hD : Ob w7 D (.deferred (some [])) := hD
   have zD := hD.lt
   have zq := hZ.le
   refine KW.inBlock (KW.then (CW.S ?_))
   refine LW.pp (PEv.load Tryz.isAgg30 (.tmp rfl) (hB2.celln rfl)) ?_
   refine LW.A rfl (LW.T (CW.ret ?_))
   refine KW.unmark hD rfl ?_
   replace hZ := hZ.ko (Ko.putObj (.deferred none) hD rfl hDb)
   replace hB2 := hB2.ko (Ko.putObj (.deferred none) hD rfl hDb)
   replace hO := hO.ko (Ko.putObj (.deferred none) hD rfl hDb)
   replace hW := hW.putObj (D := D) (.deferred none) (by omega)
   refine KW.ret1 rfl rfl ⟨_, rfl, ?_⟩
   exact ⟨ys, hS, hO.mono (by omega), hW⟩
  ·intro D c pre w8 hDb hpre hs hD
   rw [← hbq] at hDb
   obtain ⟨hZ, hF⟩ := hs
   replace hD : Ob w8 D (.deferred (some [])) := hD
   have zD := hD.lt
   have zq := hZ.le
   exact hF.elim
theorem sort_any (base e : Nat) (v : Value) (ks : List Int) (w : World) (h : OwnS w base e 1 eInt v ks) (hlen : ks.length < 4611686018427387904) : Ret Tryz.prog 84 #[v] w fun r w' => r = .tuple #[] ∧ OwnS w' base e 1 eInt v (ks.mergeSort fun x y => decide (x ≤ y)) ∧ Grew base w w' := by
  have h0 := h
  obtain ⟨h1, ⟨rfl, hn⟩ | ⟨g, cap, cur, rfl, hg, hb, h2, h3, h4, h5⟩⟩ := h
  · have hks : ks = [] := List.eq_nil_of_length_eq_zero hn
    subst hks
    refine Calls.mono (Tryz.slices_Sort_int_none none 0 w) ?_
    rintro e' w' ⟨rfl, rfl⟩
    exact ⟨_, rfl, rfl, by simpa using h0, ⟨rfl, rfl, rfl, Nat.le_refl _, fun _ _ _ => rfl, fun _ _ h _ => h⟩⟩
  · rw [flat_int] at h5
    have hl : g < w.heap.size := lt_of_block hb
    refine Calls.mono (Tryz.slices_Sort_int g 0 cap ks w (holds_of_blockI hb (by simpa using h5)) hl hlen) ?_
    rintro e' w' ⟨rfl, n, os, rfl⟩
    have hg2 := Go.grownBy_sortedI (w := w) (g := g) (n := n) (os := os) (ks.mergeSort fun x y => decide (x ≤ y)).toArray
    have ho := Go.ownsRow_sortedI (w := w) (n := n) (os := os) (ss := ks) (ts := ks.mergeSort fun x y => decide (x ≤ y)) (by simp) hg hb h2 h3 h4
    refine ⟨_, rfl, rfl, ?_, ⟨hg2.os, hg2.tape, hg2.output, hg2.size, fun i hi hi2 => hg2.block i hi (fun e => by cases e; omega), fun i o hi ho => (hg2.block i (lt_of_block hi) (fun e => by cases e; rw [hb] at hi; cases hi; cases ho)).trans hi⟩⟩
    show World.ownsRow _ _ _ _ _ _ _
    rw [flat_int, List.length_mergeSort]
    exact ho
theorem collect_any (g : Nat) (lb : Array Go.Value) (S Sp : List Int → Prop) (N : Nat) (w : World) (en : ∀ args w, (callFunc g args).run Tryz.prog w = .ok (.enter g args) w) (hit : ∀ W (X : Nat → Prop), Up w W → (∀ i, X i → w.heap.size ≤ i) → IterS Tryz.prog g lb eInt X (fun _ => False) S Sp N W) (hN0 : N ≤ 1000000000) : Ret Tryz.prog 83 #[.func (.func g) #[] lb] w fun r w' => ∃ ks, S ks ∧ OwnS w' w.heap.size 3 1 eInt r ks ∧ Up w w' := by
  have hW := Up.refl w
  refine Calls_start (n := 5) (m := 9) Tryz.func83 rfl rfl rfl ?_
  refine CW.S (LW.C (LW.S (CW.region (LW.M rfl ?_))))
  refine LW.c (enter_call0 (.cons (.const _) (.cons (.tmp rfl) .nil)) (Tryz.en126)) rfl rfl rfl rfl (appendSeq_any _ _ _ _ _ _ en hit hN0) ?_
  rintro _ w1 ⟨ks, hS, hO, uw1⟩
  have zw1 := uw1.size
  replace hW := hW.up uw1
  refine LW.A rfl (LW.T (CW.ret ?_))
  refine KW.ret1 rfl rfl ⟨_, rfl, ?_⟩
  exact ⟨ks, hS, hO, hW⟩
theorem sorted_any (g : Nat) (lb : Array Go.Value) (S Sp : List Int → Prop) (N : Nat) (w : World) (en : ∀ args w, (callFunc g args).run Tryz.prog w = .ok (.enter g args) w) (hit : ∀ W (X : Nat → Prop), Up w W → (∀ i, X i → w.heap.size ≤ i) → IterS Tryz.prog g lb eInt X (fun _ => False) S Sp N W) (hN0 : N ≤ 1000000000) (hS0 : ∀ ks, S ks → ks.length ≤ 1000000000) : Ret Tryz.prog 34 #[.func (.func g) #[] lb] w fun r w' => ∃ ks, S ks ∧ OwnS w' w.heap.size 3 1 eInt r (ks.mergeSort fun x y => decide (x ≤ y)) ∧ Up w w' := by
  have hW := Up.refl w
  refine Calls_start (n := 9) (m := 9) Tryz.func34 rfl rfl rfl ?_
  refine CW.S (LW.C (LW.S (CW.region (LW.M rfl ?_))))
  refine LW.c (enter_call0 (.cons (.tmp rfl) .nil) (Tryz.en83)) rfl rfl rfl rfl (collect_any _ _ _ _ _ _ en hit hN0) ?_
  rintro v w1 ⟨ks, hS, hO, uw1⟩
  have zw1 := uw1.size
  replace hW := hW.up uw1
  refine LW.A rfl (LW.S (CW.region (LW.M rfl ?_)))
  refine LW.c (enter_call0 (.cons (.tmp rfl) .nil) (Tryz.en84)) rfl rfl rfl rfl (sort_any _ _ _ _ _ hO (by have := hS0 ks hS; omega)) ?_
  rintro _ w2 ⟨rfl, hO2, uw2⟩
  have zw2 := uw2.size
  replace hW := hW.gr uw2 (by omega)
  replace hO := hO2
  refine LW.S (CW.region (LW.M rfl (LW.A rfl (LW.T (CW.ret ?_)))))
  refine KW.ret1 rfl rfl ⟨_, rfl, ?_⟩
  exact ⟨ks, hS, hO, hW⟩
end Hs
theorem wafDel_any (n : Int) (v : Go.Value) (w : World) : Ret Tryz.prog 51 #[vi n, v] w fun r w' => r = .bool (!isIDb n) ∧ Up w w' := by
  have hW := Up.refl w
  refine Calls_start (n := 8) (m := 9) Tryz.func51 rfl rfl rfl ?_
  refine CW.S (LW.C (LW.S (CW.region (LW.M rfl ?_))))
  refine LW.c (enter_call0 (.cons (.tmp rfl) .nil) (Tryz.en36)) rfl rfl rfl rfl (isID_any _ _) ?_
  rintro _ w1 ⟨rfl, uw1⟩
  have zw1 := uw1.size
  replace hW := hW.up uw1
  refine LW.pp (PEv.not (.tmp rfl)) ?_
  refine LW.A rfl (LW.T (CW.ret ?_))
  refine KW.ret1 rfl rfl ⟨_, rfl, ?_⟩
  exact ⟨rfl, hW⟩
theorem delW_any (b : Nat) (ks : List Int) (w : World) (hM : IMap w b (ks.map unitB)) : Ret Tryz.prog 50 #[.map (some b), .func (.func 51) #[] #[]] w fun r w' => r = .tuple #[] ∧ Stp (aIMap b (ks.map unitB)) (aIMap b ((ks.filter isIDb).map unitB)) w w' := by
  obtain ⟨w0, rfl⟩ : ∃ w0, w0 = w := ⟨_, rfl⟩
  have hS : Wx.Sep (aIMap b (ks.map unitB)).foot w0 w0 [aIMap b (ks.map unitB)] := Sep.cons (A := aIMap b (ks.map unitB)) hM (fun _ h => h) (Sep.start _ _) (by simp)
  refine Calls_start (n := 19) (m := 9) Tryz.func50 rfl rfl rfl ?_
  refine CW.S (LW.M rfl ?_)
  refine LW.r (REv.range Tryz.underlying92 (.tmp rfl) (hS.get 0 rfl)) rfl rfl rfl rfl ?_
  rintro _ w1 ⟨r7, rfl, hR_, uR, eR, zR⟩
  replace hS := hS.stp 0 rfl (stp_range hR_ uR eR)
  change Wx.Sep _ _ _ [_] at hS
  clear hR_
  refine LW.T (CW.block ?_)
  refine CW.loopB (σ := List Int) (fun s w => (s.Nodup ∧ ∀ k ∈ s, k ∈ ks) ∧ (Wx.Sep (aIMap b (ks.map unitB)).foot w0 w [aIRng b r7 ((curW ks s).map unitB) (s.filter isIDb)])) (fun s => []) ([(0, .eq _), (1, .eq _), (7, .eq _)]) (fun s => ks.length - s.length) [] ?_ ⟨rfl, rfl, rfl, trivial⟩ ?_
  ·exact ⟨⟨List.nodup_nil, fun _ h => by cases h⟩, by rw [curW_nil]; exact hS⟩
  ·rintro V w2 ⟨hV, hS⟩
   refine CW.S ?_
   refine LW.r (REv.next (.tmp rfl) (hS.get 0 rfl)) rfl rfl rfl rfl ?_
   rintro _ w3 (⟨rfl, rfl, hPm⟩ | ⟨k0, u0, rfl, hNx⟩)
   ·skip
    refine LW.pp (PEv.extract (.tmp rfl) rfl) (LW.S ?_)
    refine CW.cond_false (.tmp rfl) ?_
    refine CW.exit (KW.then_exit (KW.then_exit (KW.block_hit ?_)))
    refine KW.end0 rfl ⟨_, rfl, ?_⟩
    rw [curW_end hPm] at hS
    have hS2 := hS.stp 0 rfl (stp_rngEnd (hS.get 0 rfl))
    exact ⟨rfl, hS2.fr, hS2.get 0 rfl, fun _ h => .inl h⟩
   ·skip
    have zw3 := hNx.size
    replace hS := hS.stp 0 rfl (stp_next hNx)
    change Wx.Sep _ _ _ [_] at hS
    obtain ⟨hk0c, hu0⟩ := unitB_mem hNx.mem
    subst hu0
    obtain ⟨hk0V, hk0k⟩ := curW_fresh hk0c hNx.fresh
    have hV2 : (V ++ [k0]).Nodup ∧ ∀ k ∈ V ++ [k0], k ∈ ks := ⟨List.nodup_append.2 ⟨hV.1, by simp, fun a ha c hc => by simp at hc; subst hc; exact fun e => hk0V (e ▸ ha)⟩, fun k hk => (List.mem_append.1 hk).elim (hV.2 k) (fun h => by cases List.mem_singleton.1 h; exact hk0k)⟩
    have hVl := hV2.1.length_le_of_subset hV2.2
    rw [List.length_append, List.length_singleton] at hVl
    refine LW.pp (PEv.extract (.tmp rfl) rfl) (LW.S ?_)
    refine CW.cond_true (.tmp rfl) ?_
    refine CW.skip (KW.then (CW.block (CW.S ?_)))
    refine LW.r (REv.entry (.tmp rfl) hNx.entry) rfl rfl rfl rfl ?_
    rintro _ _ ⟨rfl, rfl⟩
    refine LW.pp (PEv.extract (.tmp rfl) rfl) (LW.pp (PEv.extract (.tmp rfl) rfl) (LW.A rfl (LW.A rfl (LW.S (CW.region (LW.M rfl (LW.M rfl (LW.M rfl ?_))))))))
    refine LW.c (enter_callv (.tmp rfl) (.cons (.tmp rfl) (.cons (.tmp rfl) .nil)) (Tryz.en51)) rfl rfl rfl rfl (wafDel_any _ _ _) ?_
    rintro _ w4 ⟨rfl, uw4⟩
    have zw4 := uw4.size
    replace hS := hS.up uw4
    refine LW.T ?_
    refine CW.cond (.tmp rfl) (fun h16 => ?_) (fun h16 => ?_)
    ·first | replace h16 := dT h16 | replace h16 := dF h16 | skip
     have hid : isIDb k0 = false := by simpa using h16
     refine CW.region (LW.M rfl (LW.M rfl ?_))
     refine LW.rn (REv.deleteR Tryz.underlying92 Tryz.underlying3 (.tmp rfl) (.tmp rfl) (hS.get 0 rfl)) rfl rfl rfl ?_
     rintro _ w5 ⟨hR2, Kd, zd⟩
     replace hS := hS.stp 0 rfl (stp_rng hR2 Kd)
     change Wx.Sep _ _ _ [_] at hS
     clear hR2 Kd
     refine LW.nil (KW.inBlock (KW.round ?_))
     exact ⟨V ++ [k0], ⟨hV2, by first | (rw [curW_yes ks V hid, filt_snoc_yes V hid]; exact hS) | (rw [curW_no ks V hid, filt_snoc_no V hid]; exact hS)⟩, ⟨rfl, rfl, rfl, trivial⟩, by rw [List.length_append, List.length_singleton]; omega⟩
    ·first | replace h16 := dT h16 | replace h16 := dF h16 | skip
     have hid : isIDb k0 = true := by simpa using h16
     refine CW.skip (KW.inBlock (KW.round ?_))
     exact ⟨V ++ [k0], ⟨hV2, by first | (rw [curW_yes ks V hid, filt_snoc_yes V hid]; exact hS) | (rw [curW_no ks V hid, filt_snoc_no V hid]; exact hS)⟩, ⟨rfl, rfl, rfl, trivial⟩, by rw [List.length_append, List.length_singleton]; omega⟩
theorem Wafers_any (bc : Array Go.Value) (bs : Base) (w : World) (hC : BaseC w bc bs) (hs : bs.Swaps.length ≤ 1000000000) (hsum : bs.Lots.length + bs.Processes.length ≤ 1000000000) : Ret Tryz.prog 24 #[.agg bc] w fun r w' => OwnS w' w.heap.size 3 1 eInt r (wafersL bs.Lots bs.Processes bs.Swaps) ∧ Up w w' := by
  obtain ⟨w0, rfl⟩ : ∃ w0, w0 = w := ⟨_, rfl⟩
  have hS := Sep.start no w0
  refine Calls_start (n := 40) (m := 9) Tryz.func24 rfl rfl rfl ?_
  refine CW.S ?_
  refine LW.r (REv.boxA (.tmp rfl)) rfl rfl rfl rfl ?_
  rintro _ w1 ⟨B1, rfl, NB1⟩
  have eB1 := NB1.at_
  have zB1 := NB1.size
  replace hS := hS.addB NB1
  change Wx.Sep _ _ _ [_] at hS
  refine LW.C (LW.S (CW.region ?_))
  refine LW.r REv.makeMap rfl rfl rfl rfl ?_
  rintro _ w2 ⟨M8, rfl, hMM8, uw2, eM8, zw2⟩
  replace hS := hS.add uw2 (A' := aIMap M8 (([] : List Int).map unitB)) hMM8 (fun i (h : i = M8) => by omega)
  change Wx.Sep _ _ _ [_, _] at hS
  refine LW.A rfl (LW.S (CW.seq ?_))
  obtain ⟨v3, h3, ad, cp, rfl, hE0⟩ := hC.at3
  refine CW.region ?_
  refine LW.pp (PEv.fieldAddr (off := 3) Tryz.underlying27 rfl rfl Tryz.sizeOf22 rfl (.tmp rfl)) ?_
  refine LW.pp (PEv.load Tryz.isAgg22 (.tmp rfl) ((hS.blk 0 rfl).cell h3)) ?_
  refine LW.pp (PEv.lenS Tryz.underlying22 (.tmp rfl)) ?_
  refine LW.pp (PEv.move (.const _)) ?_
  refine LW.T (CW.block ?_)
  refine CW.loopB (σ := Nat) (fun s w => (s ≤ bs.Lots.length) ∧ (Wx.Sep no w0 w [aBlk B1 bc 27, aIMap M8 ((lotK (bs.Lots.take s)).map unitB)])) (fun s => [(12, .eq (vi (s : Int)))]) ([(1, .eq _), (2, .eq _), (3, .eq _), (10, .eq _), (11, .eq _)]) (fun s => bs.Lots.length - s) 0 ?_ ⟨rfl, rfl, rfl, rfl, rfl, rfl, trivial⟩ ?_
  ·exact ⟨Nat.zero_le _, hS⟩
  ·rintro k w3 ⟨hk, hS⟩
   refine CW.S ?_
   refine LW.pp (PEv.lss (.tmp rfl) (.tmp rfl)) ?_
   refine LW.S ?_
   refine CW.cond (.tmp rfl) (fun h13 => ?_) (fun h13 => ?_)
   ·first | replace h13 := dT h13 | replace h13 := dF h13 | skip
    refine CW.skip (KW.then (CW.seq (CW.block (CW.seq ?_))))
    have hE := Els.up hE0 hS.upd
    refine CW.region ?_
    obtain ⟨x, hx⟩ := getElem?_of_lt (xs := bs.Lots) (i := k) (by omega)
    obtain ⟨Bx, ox, ax, hcx⟩ := hE _ x hx
    refine LW.pp (PEv.indexAddr' Tryz.underlying22 Tryz.sizeOf35 (.tmp rfl) (.tmp rfl) (by omega) ax) ?_
    refine LW.pp (PEv.loadA Tryz.isAgg35 Tryz.sizeOf35 rfl (.tmp rfl) (hcx)) ?_
    refine LW.r (REv.allocA Tryz.zeroValue35) rfl rfl rfl rfl ?_
    rintro _ w4 ⟨B5, rfl, MB5⟩
    refine LW.s (SEv.storeA Tryz.sizeOf35 rfl (.tmp rfl) (.tmp rfl) (Fact.one _) MB5.blk rfl) rfl rfl rfl ?_
    intro w5 LB5
    have NB5 := MB5.set LB5
    clear LB5 MB5
    have eB5 := NB5.at_
    have zB5 := NB5.size
    replace hcx := hcx.up NB5.up
    replace hS := hS.addB NB5
    change Wx.Sep _ _ _ [_, _, _] at hS
    refine LW.T (CW.region (LW.M rfl ?_))
    refine LW.pp (PEv.fieldAddr (off := 7) Tryz.underlying35 rfl rfl Tryz.sizeOf3 rfl (.tmp rfl)) ?_
    refine LW.pp (PEv.load Tryz.isAgg3 (.tmp rfl) ((hS.blk 2 rfl).celln rfl)) ?_
    refine LW.s (SEv.mapUpdate Tryz.underlying92 Tryz.underlying3 (.tmp rfl) (.tmp rfl) (.const _) (hS.get 1 rfl)) rfl rfl rfl ?_
    rintro w6 ⟨Mu, Ku, zu⟩
    rw [mset_unitB] at Mu
    replace hS := hS.stp 1 rfl (stp_set Mu Ku)
    change Wx.Sep _ _ _ [_, _, _] at hS
    clear Mu Ku
    refine LW.nil (KW.inBlock (KW.then (CW.region ?_)))
    refine LW.pp (PEv.inc (.tmp rfl) (by omega)) ?_
    refine LW.M rfl (LW.nil (KW.round ?_))
    exact ⟨k + 1, ⟨by omega, by rw [lotK_step hx]; exact hS.take 2⟩, ⟨rfl, rfl, rfl, rfl, rfl, rfl, trivial⟩, by first | omega | (dsimp only; omega)⟩
   ·first | replace h13 := dT h13 | replace h13 := dF h13 | skip
    refine CW.exit (KW.then_exit (KW.then_exit (KW.block_hit (KW.then (CW.seq (CW.seq ?_))))))
    obtain ⟨v0, h0, ad', cp', rfl, hE1⟩ := hC.at0
    have hkl : k = bs.Lots.length := by omega
    rw [hkl, List.take_length] at hS
    refine CW.region ?_
    refine LW.pp (PEv.fieldAddr (off := 0) Tryz.underlying27 rfl rfl Tryz.sizeOf22 rfl (.tmp rfl)) ?_
    refine LW.pp (PEv.load Tryz.isAgg22 (.tmp rfl) ((hS.blk 0 rfl).cell h0)) ?_
    refine LW.pp (PEv.lenS Tryz.underlying22 (.tmp rfl)) ?_
    refine LW.pp (PEv.move (.const _)) ?_
    refine LW.T (CW.block ?_)
    refine CW.loopB (σ := Nat) (fun s w => (s ≤ bs.Processes.length) ∧ (Wx.Sep no w0 w [aBlk B1 bc 27, aIMap M8 ((proK bs.Swaps (lotK bs.Lots) (bs.Processes.take s)).map unitB)])) (fun s => [(23, .eq (vi (s : Int)))]) ([(1, .eq _), (2, .eq _), (3, .eq _), (21, .eq _), (22, .eq _)]) (fun s => bs.Processes.length - s) 0 ?_ ⟨rfl, rfl, rfl, rfl, rfl, rfl, trivial⟩ ?_
    ·exact ⟨Nat.zero_le _, hS⟩
    ·rintro j w7 ⟨hj, hS⟩
     refine CW.S ?_
     refine LW.pp (PEv.lss (.tmp rfl) (.tmp rfl)) ?_
     refine LW.S ?_
     refine CW.cond (.tmp rfl) (fun h24 => ?_) (fun h24 => ?_)
     ·first | replace h24 := dT h24 | replace h24 := dF h24 | skip
      refine CW.skip (KW.then (CW.seq (CW.block (CW.seq ?_))))
      have hE := Els.up hE1 hS.upd
      refine CW.region ?_
      obtain ⟨x, hx⟩ := getElem?_of_lt (xs := bs.Processes) (i := j) (by omega)
      obtain ⟨Bx, ox, ax, hcx⟩ := hE _ x hx
      refine LW.pp (PEv.indexAddr' Tryz.underlying22 Tryz.sizeOf35 (.tmp rfl) (.tmp rfl) (by omega) ax) ?_
      refine LW.pp (PEv.loadA Tryz.isAgg35 Tryz.sizeOf35 rfl (.tmp rfl) (hcx)) ?_
      refine LW.r (REv.allocA Tryz.zeroValue35) rfl rfl rfl rfl ?_
      rintro _ w8 ⟨B7, rfl, MB7⟩
      refine LW.s (SEv.storeA Tryz.sizeOf35 rfl (.tmp rfl) (.tmp rfl) (Fact.one _) MB7.blk rfl) rfl rfl rfl ?_
      intro w9 LB7
      have NB7 := MB7.set LB7
      clear LB7 MB7
      have eB7 := NB7.at_
      have zB7 := NB7.size
      replace hcx := hcx.up NB7.up
      replace hS := hS.addB NB7
      change Wx.Sep _ _ _ [_, _, _] at hS
      refine LW.T (CW.region (LW.M rfl ?_))
      refine LW.pp (PEv.loadA Tryz.isAgg27 Tryz.sizeOf27 (hC.size) (.tmp rfl) ((hS.blk 0 rfl).agg)) ?_
      refine LW.pp (PEv.fieldAddr (off := 7) Tryz.underlying35 rfl rfl Tryz.sizeOf3 rfl (.tmp rfl)) ?_
      refine LW.pp (PEv.load Tryz.isAgg3 (.tmp rfl) ((hS.blk 2 rfl).celln rfl)) ?_
      refine LW.pp (PEv.fieldAddr (off := 5) Tryz.underlying35 rfl rfl Tryz.sizeOf3 rfl (.tmp rfl)) ?_
      refine LW.pp (PEv.load Tryz.isAgg3 (.tmp rfl) ((hS.blk 2 rfl).celln rfl)) ?_
      refine LW.c (enter_call0 (.cons (.tmp rfl) (.cons (.tmp rfl) (.cons (.tmp rfl) .nil))) (Tryz.en49)) rfl rfl rfl rfl (Who_any bc bs _ _ _ (hC.up hS.upd) hs) ?_
      rintro _ w10 ⟨rfl, uw10⟩
      have zw10 := uw10.size
      replace hS := hS.up uw10
      refine LW.s (SEv.mapUpdate Tryz.underlying92 Tryz.underlying3 (.tmp rfl) (.tmp rfl) (.const _) (hS.get 1 rfl)) rfl rfl rfl ?_
      rintro w11 ⟨Mu, Ku, zu⟩
      rw [mset_unitB] at Mu
      replace hS := hS.stp 1 rfl (stp_set Mu Ku)
      change Wx.Sep _ _ _ [_, _, _] at hS
      clear Mu Ku
      refine LW.nil (KW.inBlock (KW.then (CW.region ?_)))
      refine LW.pp (PEv.inc (.tmp rfl) (by omega)) ?_
      refine LW.M rfl (LW.nil (KW.round ?_))
      exact ⟨j + 1, ⟨by omega, by rw [proK_step hx]; exact hS.take 2⟩, ⟨rfl, rfl, rfl, rfl, rfl, rfl, trivial⟩, by first | omega | (dsimp only; omega)⟩
     ·first | replace h24 := dT h24 | replace h24 := dF h24 | skip
      refine CW.exit (KW.then_exit (KW.then_exit (KW.block_hit (KW.then (CW.seq ?_)))))
      have hjl : j = bs.Processes.length := by omega
      rw [hjl, List.take_length] at hS
      have hml := Nat.le_trans (List.length_filter_le isIDb _) (Nat.le_trans (proK_len bs.Swaps (lotK bs.Lots) bs.Processes) (Nat.add_le_add_right (lotK_len bs.Lots) _))
      refine CW.region (LW.M rfl ?_)
      refine LW.c (enter_call0 (.cons (.tmp rfl) (.cons (.func _) .nil)) (Tryz.en50)) rfl rfl rfl rfl (delW_any M8 _ _ (hS.get 1 rfl)) ?_
      rintro _ w12 ⟨rfl, uw12⟩
      have zw12 := uw12.fr.size
      replace hS := hS.stp 1 rfl uw12
      change Wx.Sep _ _ _ [_, _] at hS
      refine LW.S (CW.region (LW.M rfl ?_))
      refine LW.c (enter_call0 (.cons (.tmp rfl) .nil) (Tryz.en52)) rfl rfl rfl rfl (Hs.mapsKeys_any _ _) ?_
      rintro _ w13 ⟨⟨BK, rfl, hBK, zK⟩, uw13⟩
      have zw13 := uw13.size
      replace hS := hS.up uw13
      have zBK := hBK.lt
      have zz := hS.upd.size
      refine LW.c (enter_call0 (.cons (.tmp rfl) .nil) (Tryz.en34)) rfl rfl rfl rfl (Hs.sorted_any _ _ _ _ _ _ Tryz.en94 (fun W X u hX => Hs.mapsKeys_iter X _ BK M8 _ W (fun i h => h.elim) (fun h => by have := hX _ h; omega) (fun h => h.elim) (hBK.up u) (((hS.get 1 rfl : IMap _ _ _)).up u)) (by rw [List.length_map]; omega) (fun ks h => by have := h.length_eq; rw [unitB_keys] at this; omega)) ?_
      rintro v w14 ⟨ks, hP, hO, uw14⟩
      have zw14 := uw14.size
      replace hS := hS.up uw14
      replace hBK := hBK.up uw14
      rw [unitB_keys] at hP
      rw [sort_perm hP] at hO
      replace hO := hO.mono (show w0.heap.size ≤ _ by omega)
      refine LW.A rfl (LW.T (CW.ret ?_))
      refine KW.ret1 rfl rfl ⟨_, rfl, ?_⟩
      exact ⟨hO, hS.upd⟩
end Go.Proofs.YtolkipbpklkcnaaGreat
end
section
namespace Go.Wx
def unit1 (k : Int) : Int × Value := (k, .agg #[])
def setAdd (ks : List Int) (k : Int) : List Int := if k ∈ ks then ks else ks ++ [k]
theorem mset_unit (ks : List Int) (k : Int) : mset (ks.map unit1) k (.agg #[]) = (setAdd ks k).map unit1 := by
  have e : (ks.map unit1).map (·.1) = ks := by simp [List.map_map, Function.comp_def, unit1]
  unfold mset setAdd
  rw [e]
  by_cases h : k ∈ ks
  · rw [if_pos h, if_pos h, List.map_map]
    refine List.map_congr_left fun x _ => ?_
    show (if x = k then (k, Value.agg #[]) else unit1 x) = unit1 x
    by_cases hx : x = k
    · subst hx; rw [if_pos rfl]; rfl
    · rw [if_neg hx]
  · rw [if_neg h, if_neg h]; simp [unit1]
end Go.Wx
namespace Go.Proofs.YtolkipbpklkcnaaGreat
open Go.Wx Go.RowKit
theorem mapsKeys_any (b : Nat) (w : World) : Ret Tryz.prog 35 #[.map (some b)] w fun r w' => (∃ B, r = .func (.func 85) #[] #[.pointer (some ⟨B, 0, none⟩)] ∧ Blk w' B #[.map (some b)] 69 ∧ w.heap.size ≤ B) ∧ Up w w' := by
  have hW := Up.refl w
  refine Calls_start (n := 4) (m := 9) Tryz.func35 rfl rfl rfl ?_
  refine CW.S ?_
  refine LW.r (REv.box1 (.tmp rfl) rfl) rfl rfl rfl rfl ?_
  rintro _ w1 ⟨B1, rfl, NB1⟩
  have eB1 := NB1.at_
  have zB1 := NB1.size
  replace hW := hW.up NB1.up
  have hB1 := NB1.blk
  refine LW.C (LW.S (CW.region ?_))
  refine LW.pp (PEv.makeFunc (.cons (.tmp rfl) .nil)) ?_
  refine LW.A rfl (LW.T (CW.ret ?_))
  refine KW.ret1 rfl rfl ⟨_, rfl, ?_⟩
  exact ⟨⟨_, rfl, hB1, by omega⟩, hW⟩
theorem mapsKeys_iter (X Y : Nat → Prop) (B1 b : Nat) (kv : List (Int × Value)) (w : World) (hYY : ∀ i, Y i → i < w.heap.size) (hQX : ¬ X B1) (hbY : ¬ Y b) (hQ0 : Blk w B1 #[.map (some b)] 69) (hM0 : IMap w b kv) :
    IterS Tryz.prog 85 #[.pointer (some ⟨B1, 0, none⟩)] eInt X Y (fun ys => ys.Perm (kv.map (·.1))) (fun pre => pre.Nodup ∧ ∀ k ∈ pre, k ∈ kv.map (·.1)) kv.length w := by
  refine IterS.of ?_
  intro lp J Jx w0 hUw _ hY hJ
  obtain ⟨Bd, hBd⟩ : ∃ Bd, Bd = w0.heap.size := ⟨_, rfl⟩
  rw [← hBd] at hJ hY
  have zU := hUw.size
  have hQ := hQ0.up hUw
  have hM := hM0.up hUw
  have zQ0 := hQ.lt
  refine Calls_start (n := 14) (m := 9) Tryz.func85 rfl rfl rfl ?_
  refine CW.S ?_
  refine LW.pp (PEv.load Tryz.isAgg69 (.tmp rfl) (hQ.celln rfl)) ?_
  refine LW.r (REv.range Tryz.underlying69 (.tmp rfl) hM) rfl rfl rfl rfl ?_
  rintro _ w1 ⟨r5, rfl, hR5, uw1, ew1, zw1⟩
  replace hQ := hQ.up uw1
  replace hM := hM.up uw1
  replace hJ := hJ.up uw1
  refine LW.T (CW.block ?_)
  refine CW.loop (σ := List Int) (fun s w => Jw Bd J s w ∧ Blk w B1 #[.map (some b)] 69 ∧ IRng w b r5 kv s) (fun s => [(0, .eq (.func (.yield lp) #[] #[])), (5, .eq (.pointer (some ⟨r5, 0, none⟩)))]) (fun s => kv.length - s.length) [] ?_ ?_ ?_
  ·exact ⟨hJ, hQ, hR5⟩
  ·exact ⟨rfl, rfl, trivial⟩
  ·rintro done w2 ⟨hJ, hQ, hR5⟩
   have zQ := hQ.lt
   refine CW.S ?_
   refine LW.r (REv.next (.tmp rfl) hR5) rfl rfl rfl rfl ?_
   rintro _ w3 (⟨rfl, rfl, hPm⟩ | ⟨k, u, rfl, hNx⟩)
   ·skip
    refine LW.pp (PEv.extract (.tmp rfl) rfl) (LW.S ?_)
    refine CW.cond_false (.tmp rfl) ?_
    refine CW.exit (KW.then_exit (KW.then_exit (KW.block_hit ?_)))
    refine KW.end0 rfl ⟨_, rfl, ?_⟩
    first | exact .inl ⟨_, hPm, hJ.j⟩ | exact .inr ⟨_, hR5.sub, hJx⟩
   ·skip
    obtain ⟨_, ho, hwk⟩ := hNx.walk
    replace hJ := hJ.walk hNx.grown (by omega) ho hwk
    replace hQ := hQ.sto hNx.sto (by omega)
    replace hR5 := hNx.rng
    have zw3 := hNx.size
    refine LW.pp (PEv.extract (.tmp rfl) rfl) (LW.S ?_)
    refine CW.cond_true (.tmp rfl) ?_
    refine CW.skip (KW.then (CW.block (CW.S ?_)))
    refine LW.r (REv.entry (.tmp rfl) hNx.entry) rfl rfl rfl rfl ?_
    rintro _ _ ⟨rfl, rfl⟩
    refine LW.pp (PEv.extract (.tmp rfl) rfl) (LW.A rfl (LW.S (CW.region (LW.M rfl (LW.M rfl ?_)))))
    refine LW.y (.tmp rfl) (.cons (.tmp rfl) .nil) rfl rfl (hY done k _ hJ (by have := hR5.length; simp at this; omega)) ?_
    rintro _ w4 ⟨y, rfl, hcase⟩
    refine LW.pp (PEv.not (.tmp rfl)) ?_
    refine LW.T ?_
    refine CW.cond (.tmp rfl) (fun h13 => ?_) (fun h13 => ?_)
    ·first | replace h13 := dT h13 | replace h13 := dF h13 | skip
     have hy : y = false := by simpa using h13
     subst hy
     obtain ⟨_, hJx⟩ := hcase.resolve_left (by simp)
     refine CW.ret (KW.block_ret (KW.then_ret (KW.block_ret ?_)))
     refine KW.ret0 rfl ⟨_, rfl, ?_⟩
     first | exact .inl ⟨_, hPm, hJ.j⟩ | exact .inr ⟨_, hR5.sub, hJx⟩
    ·first | replace h13 := dT h13 | replace h13 := dF h13 | skip
     have hy : y = true := by simpa using h13
     subst hy
     obtain ⟨_, hJ2, hN⟩ := hcase.resolve_right (by simp)
     replace hQ := hQ.kx hN hQX
     replace hR5 := hR5.kx hN hbY (fun h => by have := hYY _ h; omega)
     refine CW.skip (KW.inBlock (KW.round ?_))
     exact ⟨done ++ [k], ⟨hJ2, hQ, hR5⟩, ⟨rfl, rfl, trivial⟩, by have := hR5.length; simp at this ⊢; omega⟩
end Go.Proofs.YtolkipbpklkcnaaGreat
end
section
namespace Go.Wx
def stopB (b : Base) (a : GAct) (f : Fact) : Bool := namesB f b.Lots a && !overB f b.Releases a.Time
def stopStep (b : Base) (a : GAct) (ks : List Int) (f : Fact) : List Int := if stopB b a f = true then setAdd ks f.ID else ks
def stopKs (b : Base) (a : GAct) (l : List Fact) : List Int := l.foldl (stopStep b a) []
def stopsOf (b : Base) (a : GAct) : List Int := (stopKs b a (b.Holds.filter isHoldB)).mergeSort fun x y => decide (x ≤ y)
theorem stopKs_snoc (b : Base) (a : GAct) (l : List Fact) (f : Fact) : stopKs b a (l ++ [f]) = stopStep b a (stopKs b a l) f := by simp [stopKs]
theorem setAdd_length (ks : List Int) (k : Int) : (setAdd ks k).length ≤ ks.length + 1 := by unfold setAdd; split <;> simp
theorem foldl_length (b : Base) (a : GAct) : ∀ (l : List Fact) (ks : List Int), (l.foldl (stopStep b a) ks).length ≤ ks.length + l.length
  | [], _ => Nat.le_refl _
  | f :: l, ks => by
    rw [List.foldl_cons, List.length_cons]
    have h1 := foldl_length b a l (stopStep b a ks f)
    have h2 : (stopStep b a ks f).length ≤ ks.length + 1 := by unfold stopStep; split; exact setAdd_length _ _; omega
    omega
theorem stopKs_length (b : Base) (a : GAct) (l : List Fact) : (stopKs b a l).length ≤ l.length := by have := foldl_length b a l []; simpa [stopKs] using this
theorem unit1_keys (ks : List Int) : (ks.map unit1).map (·.1) = ks := by simp [List.map_map, Function.comp_def, unit1]
end Go.Wx
namespace Go.Proofs.YtolkipbpklkcnaaGreat
open Go.Wx Go.RowKit
theorem Stops_any (bc : Array Go.Value) (b : Base) (a : GAct) (w : World) (hC : BaseC w bc b) (hH : b.Holds.length ≤ 1000000000) (hR : b.Releases.length < 9223372036854775807) (hL : b.Lots.length < 9223372036854775807) : Ret Tryz.prog 12 #[.agg bc, .agg a.cells] w fun r w' => OwnS w' w.heap.size 3 1 eInt r (stopsOf b a) ∧ Up w w' := by
  have hW := Up.refl w
  obtain ⟨w0, rfl⟩ : ∃ w0, w0 = w := ⟨_, rfl⟩
  refine Calls_startM (n := 28) Tryz.func12 rfl rfl rfl ?_
  refine CW.S ?_
  refine LW.r (REv.boxA (.tmp rfl)) rfl rfl rfl rfl ?_
  rintro _ w1 ⟨B2, rfl, NB2⟩
  have eB2 := NB2.at_
  have zB2 := NB2.size
  replace hC := hC.up NB2.up
  replace hW := hW.up NB2.up
  have hB2 := NB2.blk
  refine LW.r (REv.boxA (.tmp rfl)) rfl rfl rfl rfl ?_
  rintro _ w2 ⟨B3, rfl, NB3⟩
  have eB3 := NB3.at_
  have zB3 := NB3.size
  replace hC := hC.up NB3.up
  replace hW := hW.up NB3.up
  replace hB2 := hB2.up NB3.up
  have hB3 := NB3.blk
  refine LW.C (LW.S ?_)
  have hU1 := Up.refl w2
  have hBs := hB2
  have hCs := hC
  refine CW.region ?_
  refine LW.r REv.makeMap rfl rfl rfl rfl ?_
  rintro _ w3 ⟨B7, rfl, MB7, uB7, eB7, zB7⟩
  replace hW := hW.up uB7
  replace hB3 := hB3.up uB7
  replace hU1 := hU1.up uB7
  have hM7 := MB7
  refine LW.r (REv.alloc1 Tryz.zeroValue69 rfl) rfl rfl rfl rfl ?_
  rintro _ w4 ⟨B5, rfl, MB5⟩
  refine LW.s (SEv.store Tryz.sizeOf69 (.tmp rfl) (.tmp rfl) rfl MB5.blk (by decide)) rfl rfl rfl ?_
  intro w5 LB5
  have NB5 := MB5.set LB5
  clear LB5 MB5
  have eB5 := NB5.at_
  have zB5 := NB5.size
  replace hW := hW.up NB5.up
  replace hB3 := hB3.up NB5.up
  replace hU1 := hU1.up NB5.up
  replace hM7 := hM7.up NB5.up
  have hB5 := NB5.blk
  refine LW.S (CW.S ?_)
  refine LW.c (enter_call0 (.cons (.tmp rfl) .nil) (Tryz.en31)) rfl rfl rfl rfl (all_any _ _) ?_
  rintro _ w6 ⟨⟨BA, rfl, hA, zA⟩, uw6⟩
  have zw6 := uw6.size
  replace hW := hW.up uw6
  replace hB3 := hB3.up uw6
  replace hU1 := hU1.up uw6
  replace hM7 := hM7.up uw6
  replace hB5 := hB5.up uw6
  refine LW.T (CW.block ?_)
  obtain ⟨bq, hbq⟩ : ∃ bq, bq = w6.heap.size := ⟨_, rfl⟩
  refine CW.rangeFunc (fun _ => False) (fun i => i = B7) (fun pre W => Sz bq W ∧ Blk W B3 a.cells 24 ∧ Blk W B5 #[.map (some B7)] 69 ∧ IMap W B7 ((stopKs b a pre).map unit1) ∧ Up w2 W ∧ Up w0 W) (fun c pre W => Sz bq W ∧ False) (fun x a' W => ∃ BX, Ag 28 [] ([(6, .eq (.pointer (some ⟨BX, 0, none⟩))), (3, .eq (.pointer (some ⟨B3, 0, none⟩))), (5, .eq (.pointer (some ⟨B5, 0, none⟩))), (2, .eq (.pointer (some ⟨B2, 0, none⟩)))]) a' W ∧ bq ≤ BX ∧ Blk W BX (holdCells x ⟨B2, 0, none⟩) 74) (.tmp rfl) (fun args w => Tryz.en81 args w) (all_iter _ _ _ _ _ _ _ _ hU1 (fun _ h => h.elim) (fun i h => by omega) (fun h => h.elim) hA hBs hCs (by omega)) (fun _ => rfl) rfl ?_ ?_ ?_ ?_ ?_ ?_ ?_ ?_
  ·rw [← hbq]
   intro pre W W' row hs hg hr
   obtain ⟨hZ, hB3, hB5, hM7, hU1, hW⟩ := hs
   exact ⟨hZ.ko (Ko.grown hg hr), hB3.ko (Ko.grown hg hr), hB5.ko (Ko.grown hg hr), hM7.ko (Ko.grown hg hr) (by omega), hU1.ko (Ko.grown hg hr) (by omega), hW.ko (Ko.grown hg hr) (by omega)⟩
  ·rw [← hbq]
   intro c pre W W' row hs hg hr
   obtain ⟨hZ, hF⟩ := hs
   exact ⟨hZ.ko (Ko.grown hg hr), hF⟩
  ·rw [← hbq]
   intro x a' u W W' row hs hg hr
   obtain ⟨BX, ha, hBX, hBX6⟩ := hs
   exact ⟨BX, ha.world rfl _, hBX, hBX6.ko (Ko.grown hg hr)⟩
  ·exact ⟨Nat.le_of_eq hbq, hB3, hB5, hM7, hU1, hW⟩
  ·rw [← hbq]
   intro lp pre x w7 K hs hk a ha
   obtain ⟨hZ, hB3, hB5, hM7, hU1, hW⟩ := hs
   have zq := hZ.le
   have hK := Kf.refl bq w7
   have hN := Kx.refl bq (fun _ => False) (fun i => i = B7) w7
   revert a
   refine CW.assign1 (p := 9) rfl ?_
   refine CW.region ?_
   refine LW.r (REv.allocA Tryz.zeroValue74) rfl rfl rfl rfl ?_
   rintro _ w8 ⟨B6, rfl, MB6⟩
   refine LW.s (SEv.storeA Tryz.sizeOf74 rfl (.tmp rfl) (.tmp rfl) (by first | rfl | exact Fact.one _ | exact GAct.one _ | exact holdCells_one _ _ | exact hold0_one | (simp [Value.oneCell'])) MB6.blk rfl) rfl rfl rfl ?_
   intro w9 LB6
   have NB6 := MB6.set LB6
   clear LB6 MB6
   have eB6 := NB6.at_
   have zB6 := NB6.size
   replace hZ := hZ.up NB6.up
   replace hB3 := hB3.up NB6.up
   replace hB5 := hB5.up NB6.up
   replace hM7 := hM7.up NB6.up
   replace hU1 := hU1.up NB6.up
   replace hW := hW.up NB6.up
   replace hK := hK.up NB6.up
   replace hN := hN.up NB6.up
   have hB6 := NB6.blk
   refine LW.nil ?_
   exact fun a ha => hk a _ hK hN ⟨hZ, hB3, hB5, hM7, hU1, hW⟩ ⟨_, ha.sub ⟨rfl, rfl, rfl, rfl, trivial⟩, by omega, hB6⟩
  ·rw [← hbq]
   intro lp pre x a' w10 hs hx hlt
   obtain ⟨hZ, hB3, hB5, hM7, hU1, hW⟩ := hs
   obtain ⟨BX, ha, hBX, hBX6⟩ := hx
   have zq := hZ.le
   have hK := Kf.refl bq w10
   have hN := Kx.refl bq (fun _ => False) (fun i => i = B7) w10
   refine (show CW (some lp) 8 _ 28 [] _ (ownPostG bq (Kx bq (fun _ => False) (fun i => i = B7)) _ _ (pre ++ [x]) w10) ([(6, .eq (.pointer (some ⟨BX, 0, none⟩))), (3, .eq (.pointer (some ⟨B3, 0, none⟩))), (5, .eq (.pointer (some ⟨B5, 0, none⟩))), (2, .eq (.pointer (some ⟨B2, 0, none⟩)))]) w10 from ?_) a' ha
   refine CW.block (CW.seq ?_)
   cases hq4 : namesB x b.Lots a with
   | false =>
    refine CW.region ?_
    refine LW.pp (PEv.loadA Tryz.isAgg74 Tryz.sizeOf74 rfl (.tmp rfl) (hBX6.agg)) ?_
    refine LW.pp (PEv.loadA Tryz.isAgg24 Tryz.sizeOf24 rfl (.tmp rfl) (hB3.agg)) ?_
    refine LW.c (enter_call0 (.cons (.tmp rfl) (.cons (.tmp rfl) .nil)) (Tryz.en32)) rfl rfl rfl rfl (names_any _ _ _ _ _ _ (hBs.up hU1) (hCs.up hU1) hL) ?_
    rintro _ w11 ⟨rfl, uw11⟩
    have zw11 := uw11.size
    replace hZ := hZ.up uw11
    replace hB3 := hB3.up uw11
    replace hB5 := hB5.up uw11
    replace hM7 := hM7.up uw11
    replace hU1 := hU1.up uw11
    replace hW := hW.up uw11
    replace hBX6 := hBX6.up uw11
    replace hK := hK.up uw11
    replace hN := hN.up uw11
    rw [hq4]
    refine LW.M rfl ?_
    refine LW.N ?_
    refine LW.N ?_
    refine LW.N ?_
    refine LW.N ?_
    refine LW.N ?_
    refine LW.pp (PEv.pick_and (b := false) (.tmp rfl) (fun hp => absurd (show false = true from hp) (by decide))) ?_
    refine LW.T ?_
    refine CW.cond (.tmp rfl) (fun h19 => ?_) (fun h19 => ?_)
    ·first | replace h19 := dT h19 | replace h19 := dF h19 | skip
     cases h19
    ·first | replace h19 := dT h19 | replace h19 := dF h19 | skip
     have hk : stopKs b a (pre ++ [x]) = stopKs b a pre := by rw [stopKs_snoc]; exact if_neg (by simp [stopB, hq4])
     refine CW.skip (KW.inBlock ?_)
     exact fun a ha => ⟨hK, hN, hZ, hB3, hB5, by rw [hk]; exact hM7, hU1, hW⟩
   | true =>
    refine CW.region ?_
    refine LW.pp (PEv.loadA Tryz.isAgg74 Tryz.sizeOf74 rfl (.tmp rfl) (hBX6.agg)) ?_
    refine LW.pp (PEv.loadA Tryz.isAgg24 Tryz.sizeOf24 rfl (.tmp rfl) (hB3.agg)) ?_
    refine LW.c (enter_call0 (.cons (.tmp rfl) (.cons (.tmp rfl) .nil)) (Tryz.en32)) rfl rfl rfl rfl (names_any _ _ _ _ _ _ (hBs.up hU1) (hCs.up hU1) hL) ?_
    rintro _ w12 ⟨rfl, uw12⟩
    have zw12 := uw12.size
    replace hZ := hZ.up uw12
    replace hB3 := hB3.up uw12
    replace hB5 := hB5.up uw12
    replace hM7 := hM7.up uw12
    replace hU1 := hU1.up uw12
    replace hW := hW.up uw12
    replace hBX6 := hBX6.up uw12
    replace hK := hK.up uw12
    replace hN := hN.up uw12
    rw [hq4]
    refine LW.M rfl ?_
    refine LW.Y ?_
    refine LW.pp (PEv.loadA Tryz.isAgg74 Tryz.sizeOf74 rfl (.tmp rfl) (hBX6.agg)) ?_
    refine LW.Y ?_
    refine LW.pp (PEv.fieldAddr (off := 6) Tryz.underlying24 rfl rfl Tryz.sizeOf3 rfl (.tmp rfl)) ?_
    refine LW.Y ?_
    refine LW.pp (PEv.load Tryz.isAgg3 (.tmp rfl) (hB3.celln rfl)) ?_
    refine LW.Y ?_
    refine LW.c (enter_call0 (.cons (.tmp rfl) (.cons (.tmp rfl) .nil)) (Tryz.en33)) rfl rfl rfl rfl (isOver_any _ _ _ _ _ _ (hBs.up hU1) (hCs.up hU1) hR) ?_
    rintro _ w13 ⟨rfl, uw13⟩
    have zw13 := uw13.size
    replace hZ := hZ.up uw13
    replace hB3 := hB3.up uw13
    replace hB5 := hB5.up uw13
    replace hM7 := hM7.up uw13
    replace hU1 := hU1.up uw13
    replace hW := hW.up uw13
    replace hBX6 := hBX6.up uw13
    replace hK := hK.up uw13
    replace hN := hN.up uw13
    refine LW.Y ?_
    refine LW.pp (PEv.not (.tmp rfl)) ?_
    refine LW.pp (PEv.pick_and (.tmp rfl) (fun hp => (by first | exact .const _ | exact .tmp rfl | exact .cond rfl (by first | assumption | simp_all)))) ?_
    refine LW.T ?_
    refine CW.cond (.tmp rfl) (fun h19 => ?_) (fun h19 => ?_)
    ·first | replace h19 := dT h19 | replace h19 := dF h19 | skip
     have hk : stopKs b a (pre ++ [x]) = setAdd (stopKs b a pre) x.ID := by rw [stopKs_snoc]; exact if_pos (by simpa [stopB, hq4] using h19)
     refine CW.region ?_
     refine LW.pp (PEv.load Tryz.isAgg69 (.tmp rfl) (hB5.celln rfl)) ?_
     refine LW.pp (PEv.fieldAddr (off := 0) Tryz.underlying74 rfl rfl Tryz.sizeOf35 rfl (.tmp rfl)) ?_
     refine LW.pp (PEv.fieldAddr (off := 1) Tryz.underlying35 rfl rfl Tryz.sizeOf3 rfl (.tmp rfl)) ?_
     refine LW.pp (PEv.load Tryz.isAgg3 (.tmp rfl) (hBX6.celln rfl)) ?_
     refine LW.pp (PEv.build (cs := #[]) Tryz.underlying77 Tryz.zeroValue77 Tryz.places77 .nil rfl) ?_
     refine LW.s (SEv.mapUpdate Tryz.underlying69 Tryz.underlying3 (.tmp rfl) (.tmp rfl) (.tmp rfl) hM7) rfl rfl rfl ?_
     rintro w14 ⟨Mw14, Kw14, zw14⟩
     replace hZ := hZ.sto Kw14 (by omega)
     replace hB3 := hB3.sto Kw14 (by omega)
     replace hB5 := hB5.sto Kw14 (by omega)
     replace hU1 := hU1.sto Kw14 (by omega)
     replace hW := hW.sto Kw14 (by omega)
     replace hBX6 := hBX6.sto Kw14 (by omega)
     replace hK := hK.sto Kw14 (.inl (by omega))
     replace hN := hN.stoM Kw14 (hM7.obj) (by first | exact .inr (by omega) | exact .inl rfl | exact .inl (by show _ ≤ _; omega))
     replace hM7 := Mw14
     refine LW.nil ?_
     rw [mset_unit] at hM7
     refine KW.inBlock ?_
     exact fun a ha => ⟨hK, hN, hZ, hB3, hB5, by rw [hk]; exact hM7, hU1, hW⟩
    ·first | replace h19 := dT h19 | replace h19 := dF h19 | skip
     have hk : stopKs b a (pre ++ [x]) = stopKs b a pre := by rw [stopKs_snoc]; exact if_neg (by simpa [stopB, hq4] using h19)
     refine CW.skip (KW.inBlock ?_)
     exact fun a ha => ⟨hK, hN, hZ, hB3, hB5, by rw [hk]; exact hM7, hU1, hW⟩
  ·intro D ys w15 hDb hS hs hD
   rw [← hbq] at hDb
   obtain ⟨hZ, hB3, hB5, hM7, hU1, hW⟩ := hs
   replace hD : Ob w15 D (.deferred (some [])) := hD
   have zD := hD.lt
   have zq := hZ.le
   subst hS
   refine KW.inBlock (KW.then (CW.seq ?_))
   have hKl := stopKs_length b a (b.Holds.filter isHoldB)
   have hFl := List.length_filter_le isHoldB b.Holds
   have zBA := hB5.lt
   refine CW.region ?_
   refine LW.pp (PEv.load Tryz.isAgg69 (.tmp rfl) (hB5.celln rfl)) ?_
   refine LW.c (enter_call0 (.cons (.tmp rfl) .nil) (Tryz.en35)) rfl rfl rfl rfl (mapsKeys_any _ _) ?_
   rintro _ w16 ⟨⟨BK, rfl, hBK, zK⟩, uw16⟩
   have zw16 := uw16.size
   replace hZ := hZ.up uw16
   replace hB3 := hB3.up uw16
   replace hB5 := hB5.up uw16
   replace hM7 := hM7.up uw16
   replace hU1 := hU1.up uw16
   replace hW := hW.up uw16
   replace hD := hD.up uw16
   have zBK := hBK.lt
   refine LW.c (enter_call0 (.cons (.tmp rfl) .nil) (Tryz.en34)) rfl rfl rfl rfl (Hs.sorted_any _ _ _ _ _ _ Tryz.en85 (fun W X u hX => mapsKeys_iter X _ BK B7 _ W (fun i h => h.elim) (fun h => by have := hX _ h; omega) (fun h => h.elim) (hBK.up u) (hM7.up u)) (by rw [List.length_map]; omega) (fun ks h => by have := h.length_eq; rw [unit1_keys] at this; omega)) ?_
   rintro v w17 ⟨ks, hS, hO, uw17⟩
   have zw17 := uw17.size
   replace hZ := hZ.up uw17
   replace hB3 := hB3.up uw17
   replace hB5 := hB5.up uw17
   replace hM7 := hM7.up uw17
   replace hU1 := hU1.up uw17
   replace hW := hW.up uw17
   replace hD := hD.up uw17
   replace hBK := hBK.up uw17
   refine LW.A rfl (LW.T (CW.ret ?_))
   refine KW.unmark hD rfl ?_
   replace hZ := hZ.ko (Ko.putObj (.deferred none) hD rfl hDb)
   replace hB3 := hB3.ko (Ko.putObj (.deferred none) hD rfl hDb)
   replace hB5 := hB5.ko (Ko.putObj (.deferred none) hD rfl hDb)
   replace hM7 := hM7.ko (Ko.putObj (.deferred none) hD rfl hDb) (by omega)
   replace hU1 := hU1.ko (Ko.putObj (.deferred none) hD rfl hDb) (by omega)
   replace hW := hW.putObj (D := D) (.deferred none) (by omega)
   replace hBK := hBK.ko (Ko.putObj (.deferred none) hD rfl hDb)
   replace hO := hO.ko (Ko.putObj (.deferred none) hD rfl hDb)
   refine KW.ret1 rfl rfl ⟨_, rfl, ?_⟩
   have hp : ks.Perm (stopKs b a (b.Holds.filter isHoldB)) := by rw [unit1_keys] at hS; exact hS
   rw [sort_perm hp] at hO
   exact ⟨hO.mono (by omega), hW⟩
  ·intro D c pre w18 hDb hpre hs hD
   rw [← hbq] at hDb
   obtain ⟨hZ, hF⟩ := hs
   replace hD : Ob w18 D (.deferred (some [])) := hD
   have zD := hD.lt
   have zq := hZ.le
   exact hF.elim
end Go.Proofs.YtolkipbpklkcnaaGreat
end
section
namespace Go.Wx
theorem lst_mem {l : List Fact} {d : Int} {j : Nat} (hj : j < 11) {x : Fact} : x ∈ lstOf (ofB l d) j ↔ eff l d x ∧ x.Gone = false ∧ x.Kind = ((j + 1 : Nat) : Int) := by
  rw [lst_ofB l d hj]
  unfold lstAt
  rw [if_pos (List.mem_singleton.2 rfl), (sortK_sts _).same.mem, List.mem_filter, best_eff]
  simp
theorem sorted_eq {α : Type} {key : α → K2} {A B : List α} (hA : srt key A) (hB : srt key B) (hp : A.Perm B) (hd : ∀ x ∈ A, ∀ y ∈ A, key x = key y → x = y) : A = B := by
  rw [(StS.refl hA).eq, (StS.refl hB).eq]
  exact sortK_perm hp hd
end Go.Wx
namespace Go.Proofs.YtolkipbpklkcnaaGreat
open Go.Wx Go.RowKit
end Go.Proofs.YtolkipbpklkcnaaGreat
end
section
namespace Go.Wx
def heldH : Fact := ⟨7, 4, 1, 0, false, 0, 100, 0, 0, 0, 0, 3, 0, 0, 0, 0, 0, 5, ByteArray.empty⟩
def heldR1 : Fact := ⟨8, 0, 1, 0, false, 20, 0, 0, 4, 0, 0, 0, 0, 0, 0, 0, 0, 1, ByteArray.empty⟩
def heldR2 : Fact := ⟨8, 0, 1, 0, false, 50, 0, 0, 4, 0, 0, 0, 0, 0, 0, 0, 0, 4, ByteArray.empty⟩
def heldB : Base := ⟨[], [], [], [], [], [], [heldH], [heldR1, heldR2], [], [], []⟩
def actA : GAct := ⟨1, 0, 2, 1, 1, 1, 30⟩
def actO : GAct := ⟨1, 0, 3, 1, 1, 1, 30⟩
def actL : GAct := ⟨1, 0, 2, 1, 1, 1, 50⟩
theorem sane_p10 : partiesOf heldB.Releases 4 10 = 0 := by decide
theorem sane_p20 : partiesOf heldB.Releases 4 20 = 1 := by decide
theorem sane_p50 : partiesOf heldB.Releases 4 50 = 5 := by decide
theorem sane_r10 : releasedB heldB 4 10 = false := by decide
theorem sane_r20 : releasedB heldB 4 20 = false := by decide
theorem sane_r50 : releasedB heldB 4 50 = true := by decide
theorem sane_nA : namesB heldH heldB.Lots actA = true := by decide
theorem sane_nO : namesB heldH heldB.Lots actO = false := by decide
theorem sane_kA : stopKs heldB actA (heldB.Holds.filter isHoldB) = [4] := by decide
theorem sane_kO : stopKs heldB actO (heldB.Holds.filter isHoldB) = [] := by decide
theorem sane_kL : stopKs heldB actL (heldB.Holds.filter isHoldB) = [] := by decide
theorem sane_sA : stopsOf heldB actA = [4] := by unfold stopsOf; rw [sane_kA]; simp
theorem sane_sO : stopsOf heldB actO = [] := by unfold stopsOf; rw [sane_kO]; simp
theorem sane_sL : stopsOf heldB actL = [] := by unfold stopsOf; rw [sane_kL]; simp
end Go.Wx
namespace Go.Proofs.YtolkipbpklkcnaaGreat
open Go.Wx Go.RowKit
theorem pick_any (c n : Int) (w : World) (hn : n ≠ 0) : Ret Tryz.prog 16 #[vi c, vi n] w fun r w' => r = vi (pickI c n) ∧ Up w w' := by
  have hW := Up.refl w
  refine Calls_start (n := 13) (m := 9) Tryz.func16 rfl rfl rfl ?_
  refine CW.S (LW.C (LW.S (CW.S (LW.M rfl ?_))))
  refine LW.pp (PEv.lss (.tmp rfl) (.const _)) ?_
  refine LW.T ?_
  refine CW.cond (.tmp rfl) (fun h6 => ?_) (fun h6 => ?_)
  ·first | replace h6 := dT h6 | replace h6 := dF h6 | skip
   refine CW.region (LW.M rfl ?_)
   refine LW.pp (PEv.add_w (.tmp rfl) (.const _)) ?_
   refine LW.pp (PEv.neg Tryz.underlying3 (.tmp rfl)) ?_
   refine LW.A rfl (LW.S (CW.region (LW.M rfl (LW.M rfl ?_))))
   refine LW.pp (PEv.rem (.tmp rfl) (.tmp rfl) (by omega)) ?_
   refine LW.A rfl (LW.T (CW.ret ?_))
   refine KW.ret1 rfl rfl ⟨_, rfl, ?_⟩
   exact ⟨by first | (rw [pickI, if_pos h6]) | (rw [pickI, if_neg (by omega)]), hW⟩
  ·first | replace h6 := dT h6 | replace h6 := dF h6 | skip
   refine CW.skip (KW.then (CW.S (LW.M rfl (LW.M rfl ?_))))
   refine LW.pp (PEv.rem (.tmp rfl) (.tmp rfl) (by omega)) ?_
   refine LW.A rfl (LW.T (CW.ret ?_))
   refine KW.ret1 rfl rfl ⟨_, rfl, ?_⟩
   exact ⟨by first | (rw [pickI, if_pos h6]) | (rw [pickI, if_neg (by omega)]), hW⟩
theorem held_any (w : World) : Ret Tryz.prog 26 #[] w fun r w' => (∃ bc, r = .agg bc ∧ BaseC w' bc heldB) ∧ Up w w' := by
  have hW := Up.refl w
  refine Calls_start (n := 7) (m := 9) Tryz.func26 rfl rfl rfl ?_
  refine CW.S ?_
  refine LW.r (REv.allocA Tryz.zeroValue27) rfl rfl rfl rfl ?_
  rintro _ w1 ⟨B0, rfl, NB0⟩
  have eB0 := NB0.at_
  have zB0 := NB0.size
  replace hW := hW.up NB0.up
  have hB0 := NB0.blk
  refine LW.S (CW.region ?_)
  refine LW.pp (PEv.build (cs := heldH.cells) Tryz.underlying35 Tryz.zeroValue35 Tryz.places35 (.cons (.const _) (.cons (.const _) (.cons (.const _) (.cons (.const _) (.cons (.const _) (.cons (.const _) .nil)))))) rfl) ?_
  refine LW.r (REv.buildSlice (xs := [heldH]) (enc := Fact.cells) (mk := fun f => .agg f.cells) Tryz.underlying22 Tryz.sizeOf35 Tryz.zeroValue35 rfl (by decide) (fun _ => rfl) (fun _ => rfl) (.cons (.tmp rfl) .nil) rfl) rfl rfl rfl rfl ?_
  rintro _ w2 ⟨B2, cB2, rfl, NB2, yB2, xB2⟩
  have eB2 := NB2.at_
  have zB2 := NB2.size
  replace hW := hW.up NB2.up
  replace hB0 := hB0.up NB2.up
  have hB2 := NB2.blk
  have hE2 := xB2
  refine LW.pp (PEv.build (cs := heldR1.cells) Tryz.underlying35 Tryz.zeroValue35 Tryz.places35 (.cons (.const _) (.cons (.const _) (.cons (.const _) (.cons (.const _) (.cons (.const _) .nil))))) rfl) ?_
  refine LW.pp (PEv.build (cs := heldR2.cells) Tryz.underlying35 Tryz.zeroValue35 Tryz.places35 (.cons (.const _) (.cons (.const _) (.cons (.const _) (.cons (.const _) (.cons (.const _) .nil))))) rfl) ?_
  refine LW.r (REv.buildSlice (xs := [heldR1, heldR2]) (enc := Fact.cells) (mk := fun f => .agg f.cells) Tryz.underlying22 Tryz.sizeOf35 Tryz.zeroValue35 rfl (by decide) (fun _ => rfl) (fun _ => rfl) (.cons (.tmp rfl) (.cons (.tmp rfl) .nil)) rfl) rfl rfl rfl rfl ?_
  rintro _ w3 ⟨B5, cB5, rfl, NB5, yB5, xB5⟩
  have eB5 := NB5.at_
  have zB5 := NB5.size
  replace hW := hW.up NB5.up
  replace hB0 := hB0.up NB5.up
  replace hB2 := hB2.up NB5.up
  replace hE2 := hE2.up NB5.up
  have hB5 := NB5.blk
  have hE5 := xB5
  refine LW.pp (PEv.build (cs := #[.slice none 0 0, .slice none 0 0, .slice none 0 0, .slice none 0 0, .slice none 0 0, .slice none 0 0, .slice (some ⟨B2, 0, none⟩) 1 1, .slice (some ⟨B5, 0, none⟩) 2 2, .slice none 0 0, .slice none 0 0, .slice none 0 0]) Tryz.underlying27 Tryz.zeroValue27 Tryz.places27 (.cons (.tmp rfl) (.cons (.tmp rfl) .nil)) rfl) ?_
  refine LW.s (SEv.storeA Tryz.sizeOf27 rfl (.tmp rfl) (.tmp rfl) (by first | rfl | exact Fact.one _ | exact GAct.one _ | exact holdCells_one _ _ | exact hold0_one | (simp [Value.oneCell'])) hB0 rfl) rfl rfl rfl ?_
  intro w4 Nw4
  have zw4 := Nw4.size
  replace hW := hW.sto Nw4.sto (by omega)
  replace hB2 := hB2.sto Nw4.sto (by omega)
  replace hE2 := hE2.sto Nw4.sto (by omega)
  replace hB5 := hB5.sto Nw4.sto (by omega)
  replace hE5 := hE5.sto Nw4.sto (by omega)
  replace hB0 := Nw4.blk
  refine LW.T (CW.ret ?_)
  refine KW.retA rfl rfl Tryz.isAgg27 Tryz.sizeOf27 rfl (hB0.agg) ⟨_, rfl, ?_⟩
  exact ⟨⟨_, rfl, _, _, _, _, _, _, _, _, _, _, _, rfl, Sl.nil _ _ _, Sl.nil _ _ _, Sl.nil _ _ _, Sl.nil _ _ _, Sl.nil _ _ _, Sl.nil _ _ _, Sl.of_els hE2, Sl.of_els hE5, Sl.nil _ _ _, Sl.nil _ _ _, Sl.nil _ _ _⟩, hW⟩
end Go.Proofs.YtolkipbpklkcnaaGreat
end
section
namespace Go.Proofs.YtolkipbpklkcnaaGreat
open Go.Wx Go.RowKit
theorem sameInts_any (v1 v2 : Value) (xs ys : List Int) (w : World) (h1 : Sl w v1 1 eInt xs) (h2 : Sl w v2 1 eInt ys) (hx0 : xs.length ≤ 1000000000) (hy0 : ys.length ≤ 1000000000) : Ret Tryz.prog 20 #[v1, v2] w fun r w' => r = .bool (decide (xs = ys)) ∧ Up w w' := by
  have hW := Up.refl w
  obtain ⟨w0, rfl⟩ : ∃ w0, w0 = w := ⟨_, rfl⟩
  obtain ⟨ad, cp, rfl, hE1⟩ := h1
  obtain ⟨ad', cp', rfl, hE2⟩ := h2
  refine Calls_start (n := 26) (m := 9) Tryz.func20 rfl rfl rfl ?_
  refine CW.S (LW.C (LW.S (CW.S (LW.M rfl ?_))))
  refine LW.pp (PEv.lenS Tryz.underlying30 (.tmp rfl)) ?_
  refine LW.M rfl ?_
  refine LW.pp (PEv.lenS Tryz.underlying30 (.tmp rfl)) ?_
  refine LW.pp (PEv.neq (.tmp rfl) (.tmp rfl)) ?_
  refine LW.T ?_
  refine CW.cond (.tmp rfl) (fun h10 => ?_) (fun h10 => ?_)
  ·first | replace h10 := dT h10 | replace h10 := dF h10 | skip
   have hr : decide (xs = ys) = false := decide_eq_false (fun h => by subst h; simp at h10)
   refine CW.S (LW.C (LW.T (CW.ret (KW.then_ret ?_))))
   refine KW.ret1 rfl rfl ⟨_, rfl, ?_⟩
   exact ⟨by rw [hr], hW⟩
  ·first | replace h10 := dT h10 | replace h10 := dF h10 | skip
   have hlen : xs.length = ys.length := Int.ofNat.inj (show Int.ofNat _ = Int.ofNat _ from (by simpa using h10 : (xs.length : Int) = ys.length))
   refine CW.skip (KW.then (CW.seq (CW.S (LW.C (LW.T (CW.block ?_))))))
   refine CW.loop (σ := Nat) (fun s w => (s ≤ xs.length ∧ xs.take s = ys.take s) ∧ Els w ad 1 eInt xs ∧ Els w ad' 1 eInt ys ∧ Up w0 w) (fun s => [(0, .eq (.slice ad xs.length cp)), (1, .eq (.slice ad' ys.length cp')), (5, .eq (vi (s : Int)))]) (fun s => xs.length - s) 0 ?_ ?_ ?_
   ·exact ⟨⟨Nat.zero_le _, rfl⟩, hE1, hE2, hW⟩
   ·exact ⟨rfl, rfl, rfl, trivial⟩
   ·rintro k w1 ⟨⟨hk, hT⟩, hE1, hE2, hW⟩
    refine CW.seq (CW.S (LW.M rfl (LW.M rfl ?_)))
    refine LW.pp (PEv.lenS Tryz.underlying30 (.tmp rfl)) ?_
    refine LW.pp (PEv.lss (.tmp rfl) (.tmp rfl)) ?_
    refine LW.T ?_
    refine CW.cond (.tmp rfl) (fun h14 => ?_) (fun h14 => ?_)
    ·first | replace h14 := dT h14 | replace h14 := dF h14 | skip
     refine CW.skip (KW.then (CW.seq (CW.block (CW.seq ?_))))
     obtain ⟨x, hx⟩ := getElem?_of_lt (xs := xs) (i := k) (by omega)
     obtain ⟨y, hy⟩ := getElem?_of_lt (xs := ys) (i := k) (by omega)
     obtain ⟨B, o, had, hcell⟩ := hE1 k x hx
     obtain ⟨B', o', had', hcell'⟩ := hE2 k y hy
     refine CW.draws (by kernel_rfl) (by kernel_rfl) rfl rfl ?_
     refine HW.pp (PEv.move (.tmp rfl)) ?_
     refine HW.pp (PEv.move (.tmp rfl)) ?_
     refine HW.pp (PEv.indexAddr' Tryz.underlying30 Tryz.sizeOf3 (.tmp rfl) (.tmp rfl) (by omega) had) ?_
     refine HW.pp (PEv.load Tryz.isAgg3 (.tmp rfl) (hcell.nth (j := 0) rfl)) ?_
     refine HW.pp (PEv.move (.tmp rfl)) ?_
     refine HW.pp (PEv.move (.tmp rfl)) ?_
     refine HW.pp (PEv.indexAddr' Tryz.underlying30 Tryz.sizeOf3 (.tmp rfl) (.tmp rfl) (by omega) had') ?_
     refine HW.pp (PEv.load Tryz.isAgg3 (.tmp rfl) (hcell'.nth (j := 0) rfl)) ?_
     refine HW.pp (PEv.neq (.tmp rfl) (.tmp rfl)) ?_
     refine HW.nil ?_
     intro w2 uw2
     have zw2 := uw2.size
     replace hE1 := hE1.up uw2
     replace hE2 := hE2.up uw2
     replace hW := hW.up uw2
     refine KW.then ?_
     refine CW.cond (.tmp rfl) (fun h25 => ?_) (fun h25 => ?_)
     ·first | replace h25 := dT h25 | replace h25 := dF h25 | skip
      have hr : decide (xs = ys) = false := decide_eq_false (ne_of_at hx hy (by simpa using h25))
      refine CW.S (LW.C (LW.T (CW.ret (KW.block_ret (KW.then_ret (KW.then_ret (KW.block_ret (KW.then_ret ?_))))))))
      refine KW.ret1 rfl rfl ⟨_, rfl, ?_⟩
      exact ⟨by rw [hr], hW⟩
     ·first | replace h25 := dT h25 | replace h25 := dF h25 | skip
      refine CW.skip (KW.inBlock (KW.then (CW.region (LW.M rfl ?_))))
      refine LW.pp (PEv.inc (.tmp rfl) (by omega)) ?_
      refine LW.A rfl (LW.nil (KW.round ?_))
      exact ⟨k + 1, ⟨⟨by omega, take_eq_step hT hx hy (by simpa using h25)⟩, hE1, hE2, hW⟩, ⟨rfl, rfl, rfl, trivial⟩, by omega⟩
    ·first | replace h14 := dT h14 | replace h14 := dF h14 | skip
     have hr : decide (xs = ys) = true := decide_eq_true (by have := hT; rw [show k = xs.length by omega, List.take_length, hlen, List.take_length] at this; exact this)
     refine CW.exit (KW.then_exit (KW.then_exit (KW.block_hit (KW.then (CW.S (LW.C (LW.T (CW.ret ?_))))))))
     refine KW.ret1 rfl rfl ⟨_, rfl, ?_⟩
     exact ⟨by rw [hr], hW⟩
end Go.Proofs.YtolkipbpklkcnaaGreat
end
section
namespace Go.Wx
theorem same44 : Value.bool (decide (([4] : List Int) = [4])) = .bool true := by simp
end Go.Wx
namespace Go.Proofs.YtolkipbpklkcnaaGreat
open Go.Wx Go.RowKit
set_option maxHeartbeats 4000000 in
theorem sane_any (w : World) : Ret Tryz.prog 9 #[] w fun r w' => r = .bool true ∧ Up w w' := by
  have hW := Up.refl w
  refine Calls_start (n := 93) (m := 9) Tryz.func9 rfl rfl rfl ?_
  refine CW.S (LW.C (LW.S (CW.region ?_)))
  refine LW.c (enter_call0 .nil (Tryz.en26)) rfl rfl rfl rfl (held_any _) ?_
  rintro _ w1 ⟨⟨bc, rfl, hC⟩, uw1⟩
  have zw1 := uw1.size
  replace hW := hW.up uw1
  refine LW.r (REv.allocA Tryz.zeroValue27) rfl rfl rfl rfl ?_
  rintro _ w2 ⟨B1, rfl, MB1⟩
  refine LW.s (SEv.storeA Tryz.sizeOf27 hC.size (.tmp rfl) (.tmp rfl) hC.one MB1.blk rfl) rfl rfl rfl ?_
  intro w3 LB1
  have NB1 := MB1.set LB1
  clear LB1 MB1
  have eB1 := NB1.at_
  have zB1 := NB1.size
  replace hW := hW.up NB1.up
  replace hC := hC.up NB1.up
  have hB1 := NB1.blk
  refine LW.S ?_
  have hU1 := Up.refl w3
  have hCs := hC
  refine CW.region ?_
  refine LW.pp (PEv.build (cs := actA.cells) Tryz.underlying24 Tryz.zeroValue24 Tryz.places24 (.cons (.const _) (.cons (.const _) (.cons (.const _) (.cons (.const _) (.cons (.const _) (.cons (.const _) .nil)))))) rfl) ?_
  refine LW.r (REv.allocA Tryz.zeroValue24) rfl rfl rfl rfl ?_
  rintro _ w4 ⟨B2, rfl, MB2⟩
  refine LW.s (SEv.storeA Tryz.sizeOf24 rfl (.tmp rfl) (.tmp rfl) (by first | rfl | exact Fact.one _ | exact GAct.one _ | exact holdCells_one _ _ | exact hold0_one | (simp [Value.oneCell'])) MB2.blk rfl) rfl rfl rfl ?_
  intro w5 LB2
  have NB2 := MB2.set LB2
  clear LB2 MB2
  have eB2 := NB2.at_
  have zB2 := NB2.size
  replace hW := hW.up NB2.up
  replace hB1 := hB1.up NB2.up
  replace hU1 := hU1.up NB2.up
  have hB2 := NB2.blk
  refine LW.S (CW.region ?_)
  refine LW.pp (PEv.loadA Tryz.isAgg24 Tryz.sizeOf24 rfl (.tmp rfl) (hB2.agg)) ?_
  refine LW.r (REv.allocA Tryz.zeroValue24) rfl rfl rfl rfl ?_
  rintro _ w6 ⟨B3, rfl, MB3⟩
  refine LW.s (SEv.storeA Tryz.sizeOf24 rfl (.tmp rfl) (.tmp rfl) (by first | rfl | exact Fact.one _ | exact GAct.one _ | exact holdCells_one _ _ | exact hold0_one | (simp [Value.oneCell'])) MB3.blk rfl) rfl rfl rfl ?_
  intro w7 LB3
  have NB3 := MB3.set LB3
  clear LB3 MB3
  have eB3 := NB3.at_
  have zB3 := NB3.size
  replace hW := hW.up NB3.up
  replace hB1 := hB1.up NB3.up
  replace hU1 := hU1.up NB3.up
  replace hB2 := hB2.up NB3.up
  have hB3 := NB3.blk
  refine LW.S (CW.region ?_)
  refine LW.pp (PEv.fieldAddr (off := 2) Tryz.underlying24 rfl rfl Tryz.sizeOf3 rfl (.tmp rfl)) ?_
  refine LW.s (SEv.store Tryz.sizeOf3 (.tmp rfl) (.const _) rfl hB3 (Nat.le_of_ble_eq_true rfl)) rfl rfl rfl ?_
  intro w8 Nw8
  have zw8 := Nw8.size
  replace hW := hW.sto Nw8.sto (by omega)
  replace hB1 := hB1.sto Nw8.sto (by omega)
  replace hU1 := hU1.sto Nw8.sto (by omega)
  replace hB2 := hB2.sto Nw8.sto (by omega)
  replace hB3 := Nw8.blk
  replace hB3 : Blk w8 B3 actO.cells _ := hB3
  refine LW.S (CW.region ?_)
  refine LW.pp (PEv.loadA Tryz.isAgg24 Tryz.sizeOf24 rfl (.tmp rfl) (hB2.agg)) ?_
  refine LW.r (REv.allocA Tryz.zeroValue24) rfl rfl rfl rfl ?_
  rintro _ w9 ⟨B4, rfl, MB4⟩
  refine LW.s (SEv.storeA Tryz.sizeOf24 rfl (.tmp rfl) (.tmp rfl) (by first | rfl | exact Fact.one _ | exact GAct.one _ | exact holdCells_one _ _ | exact hold0_one | (simp [Value.oneCell'])) MB4.blk rfl) rfl rfl rfl ?_
  intro w10 LB4
  have NB4 := MB4.set LB4
  clear LB4 MB4
  have eB4 := NB4.at_
  have zB4 := NB4.size
  replace hW := hW.up NB4.up
  replace hB1 := hB1.up NB4.up
  replace hU1 := hU1.up NB4.up
  replace hB2 := hB2.up NB4.up
  replace hB3 := hB3.up NB4.up
  have hB4 := NB4.blk
  refine LW.S (CW.region ?_)
  refine LW.pp (PEv.fieldAddr (off := 6) Tryz.underlying24 rfl rfl Tryz.sizeOf3 rfl (.tmp rfl)) ?_
  refine LW.s (SEv.store Tryz.sizeOf3 (.tmp rfl) (.const _) rfl hB4 (Nat.le_of_ble_eq_true rfl)) rfl rfl rfl ?_
  intro w11 Nw11
  have zw11 := Nw11.size
  replace hW := hW.sto Nw11.sto (by omega)
  replace hB1 := hB1.sto Nw11.sto (by omega)
  replace hU1 := hU1.sto Nw11.sto (by omega)
  replace hB2 := hB2.sto Nw11.sto (by omega)
  replace hB3 := hB3.sto Nw11.sto (by omega)
  replace hB4 := Nw11.blk
  replace hB4 : Blk w11 B4 actL.cells _ := hB4
  refine LW.S (CW.region ?_)
  refine LW.pp (PEv.loadA Tryz.isAgg27 Tryz.sizeOf27 (hCs.size) (.tmp rfl) (hB1.agg)) ?_
  refine LW.c (enter_call0 (.cons (.tmp rfl) (.cons (.const _) (.cons (.const _) .nil))) (Tryz.en14)) rfl rfl rfl rfl (Released_any _ _ 4 10 _ (hCs.up hU1) (by decide) (by decide)) ?_
  rintro _ w12 ⟨rfl, uw12⟩
  have zw12 := uw12.size
  replace hW := hW.up uw12
  replace hB1 := hB1.up uw12
  replace hU1 := hU1.up uw12
  replace hB2 := hB2.up uw12
  replace hB3 := hB3.up uw12
  replace hB4 := hB4.up uw12
  rw [sane_p10, sane_r10]
  refine LW.M rfl (LW.pp (PEv.extract (.tmp rfl) rfl) (LW.pp (PEv.extract (.tmp rfl) rfl) (LW.A rfl (LW.A rfl (LW.S (CW.region ?_))))))
  refine LW.pp (PEv.loadA Tryz.isAgg27 Tryz.sizeOf27 (hCs.size) (.tmp rfl) (hB1.agg)) ?_
  refine LW.c (enter_call0 (.cons (.tmp rfl) (.cons (.const _) (.cons (.const _) .nil))) (Tryz.en14)) rfl rfl rfl rfl (Released_any _ _ 4 20 _ (hCs.up hU1) (by decide) (by decide)) ?_
  rintro _ w13 ⟨rfl, uw13⟩
  have zw13 := uw13.size
  replace hW := hW.up uw13
  replace hB1 := hB1.up uw13
  replace hU1 := hU1.up uw13
  replace hB2 := hB2.up uw13
  replace hB3 := hB3.up uw13
  replace hB4 := hB4.up uw13
  rw [sane_p20, sane_r20]
  refine LW.M rfl (LW.pp (PEv.extract (.tmp rfl) rfl) (LW.pp (PEv.extract (.tmp rfl) rfl) (LW.A rfl (LW.A rfl (LW.S (CW.region ?_))))))
  refine LW.pp (PEv.loadA Tryz.isAgg27 Tryz.sizeOf27 (hCs.size) (.tmp rfl) (hB1.agg)) ?_
  refine LW.c (enter_call0 (.cons (.tmp rfl) (.cons (.const _) (.cons (.const _) .nil))) (Tryz.en14)) rfl rfl rfl rfl (Released_any _ _ 4 50 _ (hCs.up hU1) (by decide) (by decide)) ?_
  rintro _ w14 ⟨rfl, uw14⟩
  have zw14 := uw14.size
  replace hW := hW.up uw14
  replace hB1 := hB1.up uw14
  replace hU1 := hU1.up uw14
  replace hB2 := hB2.up uw14
  replace hB3 := hB3.up uw14
  replace hB4 := hB4.up uw14
  rw [sane_p50, sane_r50]
  refine LW.M rfl (LW.pp (PEv.extract (.tmp rfl) rfl) (LW.pp (PEv.extract (.tmp rfl) rfl) (LW.A rfl (LW.A rfl (LW.S ?_)))))
  obtain ⟨v6, h6, hr⟩ := hCs.at6
  obtain ⟨ad, cp, rfl, hE⟩ := hr
  obtain ⟨BH, oH, rfl, hcH⟩ := hE 0 heldH rfl
  refine CW.draws (by kernel_rfl) (by kernel_rfl) rfl rfl ?_
  refine HW.pp (PEv.loadA Tryz.isAgg27 Tryz.sizeOf27 (hCs.size) (.tmp rfl) (hB1.agg)) ?_
  refine HW.pp (PEv.fieldAddr (off := 6) Tryz.underlying27 rfl rfl Tryz.sizeOf22 rfl (.tmp rfl)) ?_
  refine HW.pp (PEv.load Tryz.isAgg22 (.tmp rfl) (hB1.cell h6)) ?_
  refine HW.pp (PEv.indexAddr (j := 0) Tryz.underlying22 Tryz.sizeOf35 (.tmp rfl) (.const _) (by decide)) ?_
  refine HW.pp (PEv.loadA Tryz.isAgg35 Tryz.sizeOf35 rfl (.tmp rfl) (hcH.up hU1)) ?_
  refine HW.pp (PEv.loadA Tryz.isAgg24 Tryz.sizeOf24 rfl (.tmp rfl) (hB2.agg)) ?_
  refine HW.c (fun a w _ ha => enter_call0 (.cons (.tmp rfl) (.cons (.tmp rfl) (.cons (.tmp rfl) .nil))) (Tryz.en15) a ha) rfl rfl (fun w hu => (Names_any _ _ heldH actA _ ((hCs.up hU1).up hu) (by decide)).mono fun _ _ h => ⟨h.1.trans (congrArg Go.Value.bool sane_nA), h.2⟩) ?_
  refine HW.pp (PEv.move (.tmp rfl)) ?_
  refine HW.yp rfl rfl rfl rfl rfl (PEv.loadA Tryz.isAgg27 Tryz.sizeOf27 (hCs.size) (.tmp rfl) (hB1.agg)) rfl ?_
  refine HW.yp rfl rfl rfl rfl rfl (PEv.fieldAddr (off := 6) Tryz.underlying27 rfl rfl Tryz.sizeOf22 rfl (.tmp rfl)) rfl ?_
  refine HW.yp rfl rfl rfl rfl rfl (PEv.load Tryz.isAgg22 (.tmp rfl) (hB1.cell h6)) rfl ?_
  refine HW.yp rfl rfl rfl rfl rfl (PEv.indexAddr (j := 0) Tryz.underlying22 Tryz.sizeOf35 (.tmp rfl) (.const _) (by decide)) rfl ?_
  refine HW.yp rfl rfl rfl rfl rfl (PEv.loadA Tryz.isAgg35 Tryz.sizeOf35 rfl (.tmp rfl) (hcH.up hU1)) rfl ?_
  refine HW.yp rfl rfl rfl rfl rfl (PEv.loadA Tryz.isAgg24 Tryz.sizeOf24 rfl (.tmp rfl) (hB3.agg)) rfl ?_
  refine HW.yc rfl rfl rfl rfl rfl (fun a w _ ha => enter_call0 (.cons (.tmp rfl) (.cons (.tmp rfl) (.cons (.tmp rfl) .nil))) (Tryz.en15) a ha) rfl (fun w hu => (Names_any _ _ heldH actO _ ((hCs.up hU1).up hu) (by decide)).mono fun _ _ h => ⟨h.1.trans (congrArg Go.Value.bool sane_nO), h.2⟩) ?_
  refine HW.yp rfl rfl rfl rfl rfl (PEv.not (.tmp rfl)) rfl ?_
  refine HW.pp (PEv.pick_and (.tmp rfl) (fun hp => (by first | exact .const _ | exact .tmp rfl | exact .cond rfl (by first | assumption | simp_all)))) ?_
  refine HW.pp (PEv.move (.tmp rfl)) ?_
  refine HW.yp rfl rfl rfl rfl rfl (PEv.move (.tmp rfl)) rfl ?_
  refine HW.yp rfl rfl rfl rfl rfl (PEv.eql (.tmp rfl) (.const _)) rfl ?_
  refine HW.pp (PEv.pick_and (.tmp rfl) (fun hp => (by first | exact .const _ | exact .tmp rfl | exact .cond rfl (by first | assumption | simp_all)))) ?_
  refine HW.pp (PEv.move (.tmp rfl)) ?_
  refine HW.yp rfl rfl rfl rfl rfl (PEv.move (.tmp rfl)) rfl ?_
  refine HW.yp rfl rfl rfl rfl rfl (PEv.not (.tmp rfl)) rfl ?_
  refine HW.pp (PEv.pick_and (.tmp rfl) (fun hp => (by first | exact .const _ | exact .tmp rfl | exact .cond rfl (by first | assumption | simp_all)))) ?_
  refine HW.pp (PEv.move (.tmp rfl)) ?_
  refine HW.yp rfl rfl rfl rfl rfl (PEv.move (.tmp rfl)) rfl ?_
  refine HW.yp rfl rfl rfl rfl rfl (PEv.eql (.tmp rfl) (.const _)) rfl ?_
  refine HW.pp (PEv.pick_and (.tmp rfl) (fun hp => (by first | exact .const _ | exact .tmp rfl | exact .cond rfl (by first | assumption | simp_all)))) ?_
  refine HW.pp (PEv.move (.tmp rfl)) ?_
  refine HW.yp rfl rfl rfl rfl rfl (PEv.move (.tmp rfl)) rfl ?_
  refine HW.yp rfl rfl rfl rfl rfl (PEv.not (.tmp rfl)) rfl ?_
  refine HW.pp (PEv.pick_and (.tmp rfl) (fun hp => (by first | exact .const _ | exact .tmp rfl | exact .cond rfl (by first | assumption | simp_all)))) ?_
  refine HW.pp (PEv.move (.tmp rfl)) ?_
  refine HW.yp rfl rfl rfl rfl rfl (PEv.move (.tmp rfl)) rfl ?_
  refine HW.yp rfl rfl rfl rfl rfl (PEv.eql (.tmp rfl) (.const _)) rfl ?_
  refine HW.pp (PEv.pick_and (.tmp rfl) (fun hp => (by first | exact .const _ | exact .tmp rfl | exact .cond rfl (by first | assumption | simp_all)))) ?_
  refine HW.pp (PEv.move (.tmp rfl)) ?_
  refine HW.yp rfl rfl rfl rfl rfl (PEv.move (.tmp rfl)) rfl ?_
  refine HW.pp (PEv.pick_and (.tmp rfl) (fun hp => (by first | exact .const _ | exact .tmp rfl | exact .cond rfl (by first | assumption | simp_all)))) ?_
  refine HW.pp (PEv.move (.tmp rfl)) ?_
  refine HW.yp rfl rfl rfl rfl rfl (PEv.loadA Tryz.isAgg27 Tryz.sizeOf27 (hCs.size) (.tmp rfl) (hB1.agg)) rfl ?_
  refine HW.yp rfl rfl rfl rfl rfl (PEv.loadA Tryz.isAgg24 Tryz.sizeOf24 rfl (.tmp rfl) (hB2.agg)) rfl ?_
  refine HW.yqc (ph := .pred fun v w => Sl w v 1 eInt [4]) (fun _ _ _ h u => Sl.up h u) rfl rfl rfl rfl rfl (fun a w hu ha => ⟨_, _, enter_call0 (.cons (.tmp rfl) (.cons (.tmp rfl) .nil)) (Tryz.en12) a ha, (Stops_any _ _ actA _ ((hCs.up hU1).up hu) (by decide) (by decide) (by decide)).mono fun v w' h => ⟨h.2, sane_sA ▸ h.1.sl (fun _ => rfl)⟩⟩) rfl ?_
  refine HW.yqr (p := fun v w => Sl w v 1 eInt [4]) (fun _ _ _ h u => Sl.up h u) rfl rfl rfl rfl rfl (fun w hu a ha => let ⟨v, w', h1, h2⟩ := REv.buildSlice (xs := [4]) (enc := eInt) (mk := vi) Tryz.underlying30 Tryz.sizeOf3 Tryz.zeroValue3 rfl (by decide) (fun _ => rfl) (fun _ => rfl) (.cons (.const _) .nil) rfl a ha; ⟨v, w', h1, h2.q⟩) rfl ?_
  refine HW.yqc (ph := .eq (.bool true)) (phUp.eq _) rfl rfl rfl rfl rfl (fun a w hu ha => ⟨_, _, enter_any2 Tryz.en20 a w, (sameInts_any (a.eval (.tmp 75)) (a.eval (.tmp 76)) [4] [4] w (ha.known (p := fun v w => Sl w v 1 eInt [4]) rfl) (ha.known (p := fun v w => Sl w v 1 eInt [4]) rfl) (by decide) (by decide)).mono fun _ _ h => ⟨h.2, h.1.trans same44⟩⟩) rfl ?_
  refine HW.pp (PEv.pick_and (.tmp rfl) (fun hp => (by first | exact .const _ | exact .tmp rfl | exact .cond rfl (by first | assumption | simp_all)))) ?_
  refine HW.pp (PEv.move (.tmp rfl)) ?_
  refine HW.yp rfl rfl rfl rfl rfl (PEv.loadA Tryz.isAgg27 Tryz.sizeOf27 (hCs.size) (.tmp rfl) (hB1.agg)) rfl ?_
  refine HW.yp rfl rfl rfl rfl rfl (PEv.loadA Tryz.isAgg24 Tryz.sizeOf24 rfl (.tmp rfl) (hB4.agg)) rfl ?_
  refine HW.yqc (ph := .pred fun v w => Sl w v 1 eInt []) (fun _ _ _ h u => Sl.up h u) rfl rfl rfl rfl rfl (fun a w hu ha => ⟨_, _, enter_call0 (.cons (.tmp rfl) (.cons (.tmp rfl) .nil)) (Tryz.en12) a ha, (Stops_any _ _ actL _ ((hCs.up hU1).up hu) (by decide) (by decide) (by decide)).mono fun v w' h => ⟨h.2, sane_sL ▸ h.1.sl (fun _ => rfl)⟩⟩) rfl ?_
  refine HW.yp rfl rfl rfl rfl rfl (PEv.lenQ Tryz.underlying30 rfl (fun v w h => let ⟨ad, c, e, _⟩ := h; ⟨ad, c, e⟩)) rfl ?_
  refine HW.yp rfl rfl rfl rfl rfl (PEv.eql (.tmp rfl) (.const _)) rfl ?_
  refine HW.pp (PEv.pick_and (.tmp rfl) (fun hp => (by first | exact .const _ | exact .tmp rfl | exact .cond rfl (by first | assumption | simp_all)))) ?_
  refine HW.pp (PEv.move (.tmp rfl)) ?_
  refine HW.yp rfl rfl rfl rfl rfl (PEv.loadA Tryz.isAgg27 Tryz.sizeOf27 (hCs.size) (.tmp rfl) (hB1.agg)) rfl ?_
  refine HW.yp rfl rfl rfl rfl rfl (PEv.loadA Tryz.isAgg24 Tryz.sizeOf24 rfl (.tmp rfl) (hB3.agg)) rfl ?_
  refine HW.yqc (ph := .pred fun v w => Sl w v 1 eInt []) (fun _ _ _ h u => Sl.up h u) rfl rfl rfl rfl rfl (fun a w hu ha => ⟨_, _, enter_call0 (.cons (.tmp rfl) (.cons (.tmp rfl) .nil)) (Tryz.en12) a ha, (Stops_any _ _ actO _ ((hCs.up hU1).up hu) (by decide) (by decide) (by decide)).mono fun v w' h => ⟨h.2, sane_sO ▸ h.1.sl (fun _ => rfl)⟩⟩) rfl ?_
  refine HW.yp rfl rfl rfl rfl rfl (PEv.lenQ Tryz.underlying30 rfl (fun v w h => let ⟨ad, c, e, _⟩ := h; ⟨ad, c, e⟩)) rfl ?_
  refine HW.yp rfl rfl rfl rfl rfl (PEv.eql (.tmp rfl) (.const _)) rfl ?_
  refine HW.pp (PEv.pick_and (.tmp rfl) (fun hp => (by first | exact .const _ | exact .tmp rfl | exact .cond rfl (by first | assumption | simp_all)))) ?_
  refine HW.pp (PEv.assign (.tmp rfl)) ?_
  refine HW.nil ?_
  intro w15 uw15
  have zw15 := uw15.size
  replace hW := hW.up uw15
  replace hB1 := hB1.up uw15
  replace hU1 := hU1.up uw15
  replace hB2 := hB2.up uw15
  replace hB3 := hB3.up uw15
  replace hB4 := hB4.up uw15
  refine KW.then (CW.ret ?_)
  refine KW.ret1 rfl rfl ⟨_, rfl, ?_⟩
  exact ⟨rfl, hW⟩
end Go.Proofs.YtolkipbpklkcnaaGreat
end
section
namespace Go.Wx
open Go.RowKit
theorem OwnS.rebase {α : Type} {enc : α → Array Value} {b e k : Nat} {w : World} {v : Value} {xs : List α} (h : OwnS w 0 e k enc v xs) (hb : ∀ i, (aOwn e k enc v xs).foot i → b ≤ i) : OwnS w b e k enc v xs := by
  obtain ⟨h1, h2⟩ := h
  refine ⟨h1, ?_⟩
  rcases h2 with h2 | ⟨g, cap, cur, e, _, rest⟩
  · exact .inl h2
  · exact .inr ⟨g, cap, cur, e, hb g (by rw [e]; rfl), rest⟩
end Go.Wx
end
section
namespace Go.Wx
section
variable {P : Program} {n : Nat} {ds : List Deferred} {ops : Array Oper}
theorem HW.qc {base done : Env} {w0 : World} {o : Oper} {rest : List Oper} {K : Env → Prop} {d : Nat} {ph : Ph} (hp : phUp ph) (hg : o.guard = none)
    (h : ∀ a w, Up w0 w → Ag n ds (keepSlots (o.looksAt ops) done ++ base) a w → ∃ f args, (execOp a.eval o).run P w = .ok (.enter f args) w ∧ Ret P f args w fun v w' => Up w w' ∧ ph.holds v w') (hd : o.dst = some d) (k : HW P n ds ops base w0 ((d, ph) :: done) rest K) : HW P n ds ops base w0 done (o :: rest) K :=
  ⟨ph, d, hd, hp, fun a w hu ha => by
    rw [if_pos (by simp [Region.wanted, hg])]
    obtain ⟨f, args, e, r⟩ := h a w hu ha
    exact .inr ⟨f, args, w, e, r⟩, k⟩
end
end Go.Wx
namespace Go.Proofs.YtolkipbpklkcnaaGreat
open Go.Wx Go.RowKit
end Go.Proofs.YtolkipbpklkcnaaGreat
end
section
namespace Go.Wx
theorem snocI {α : Type} {M : List α → Prop} (nil : M []) (snoc : ∀ l x, M l → M (l ++ [x])) (l : List α) : M l := by
  have h : ∀ r : List α, M r.reverse := fun r => by
    induction r with
    | nil => exact nil
    | cons x r ih => rw [List.reverse_cons]; exact snoc _ _ ih
  have := h l.reverse
  rwa [List.reverse_reverse] at this
end Go.Wx
namespace Go.Proofs.YtolkipbpklkcnaaGreat
open Go.Wx Go.RowKit
end Go.Proofs.YtolkipbpklkcnaaGreat
end
section
namespace Go.Wx
theorem flat_size {α : Type} {enc : α → Array Go.Value} {k : Nat} (hk : ∀ x, (enc x).size = k) : ∀ xs : List α, (xs.flatMap fun x => (enc x).toList).length = xs.length * k
  | [] => by simp
  | x :: xs => by rw [List.flatMap_cons, List.length_append, flat_size hk xs, Array.length_toList, hk, List.length_cons, Nat.add_mul]; omega
theorem flat_take {α : Type} {enc : α → Array Go.Value} {k i : Nat} (hk : ∀ x, (enc x).size = k) {xs : List α} (hi : i ≤ xs.length) : (xs.flatMap fun x => (enc x).toList).take (i * k) = (xs.take i).flatMap fun x => (enc x).toList := by
  have e : xs = xs.take i ++ xs.drop i := (List.take_append_drop i xs).symm
  have hl : ((xs.take i).flatMap fun x => (enc x).toList).length = i * k := by rw [flat_size hk, List.length_take, Nat.min_eq_left hi]
  rw [show (xs.flatMap fun x => (enc x).toList) = ((xs.take i).flatMap fun x => (enc x).toList) ++ ((xs.drop i).flatMap fun x => (enc x).toList) by rw [← List.flatMap_append, List.take_append_drop], ← hl, List.take_left']
  rfl
section
variable {P : Program} {n : Nat} {ds : List Deferred} {l : Env} {w : World} {d : Option Tmp} {ty : TypeId} {ps : String} {af : Array Edge} {g : Option (Nat × Bool)}
theorem REv.clearTail {α : Type} {enc : α → Array Go.Value} {T e : TypeId} {k i cp : Nat} {x : Operand} {z : Go.Value} {ad : Option Addr} {xs : List α} (hT : P.underlying T = some (.slice e)) (hz : ∀ w, (zeroValue e).run P w = .ok z w) (hzs : z.cells.size = k) (h1 : z.cells.all (·.oneCell') = true) (hk : ∀ x, (enc x).size = k)
    (hx : Val l x (.slice (if cp = i then ad else ad.map (·.add (i * k))) (xs.length - i) (cp - i))) (hi : i ≤ xs.length) (ho : OwnS w 0 e k enc (.slice ad xs.length cp) xs) :
    REv P n ds l w ⟨d, .call { callee := .builtin .clear, args := #[x], argTypes := #[T] }, ty, ps, af, g⟩ (fun _ w' => Stp (aOwn e k enc (.slice ad xs.length cp) xs) (aOwn e k enc (.slice ad i cp) (xs.take i)) w w') := fun a ha => by
  by_cases h0 : xs.length - i = 0
  · have hie : i = xs.length := by omega
    subst hie
    refine ⟨.tuple #[], w, ?_, Fr.refl _ _, (show OwnS w 0 e k enc (.slice ad xs.length cp) (xs.take xs.length) by rw [List.take_length]; exact ho), fun i h => .inl h⟩
    have hx' := ha.ev hx
    rw [h0] at hx'
    simp only [execOp, resolve, invoke, builtin, Builtin.clear_]
    split at hx' <;> (try cases ad) <;> simp [hx', run_underlying hT, Result.andThen]
  · obtain ⟨hlen, ⟨he, hn⟩ | ⟨g', cap', cur, he, _, hg, hcap, hcm, hcs, htake⟩⟩ := ho
    · exact absurd hn (by omega)
    · cases he
      rw [if_neg (show ¬ cp = i by omega)] at hx
      have hzc : (Builtin.zeroCells z.cells (xs.length - i)).size = (xs.length - i) * k := by rw [← hzs]; simp [Builtin.zeroCells]
      have hle : xs.length * k ≤ cur.size := by rw [hcs]; exact Nat.mul_le_mul_right k hcap
      have hsum : i * k + (xs.length - i) * k = xs.length * k := by rw [← Nat.add_mul]; congr 1; omega
      have hst := run_storeCells_at P g' (i * k) e (Builtin.zeroCells z.cells (xs.length - i)).toList 0 cur w hg (by rw [Array.length_toList, hzc]; omega) (fun u hu => by
        simp only [Builtin.zeroCells, Array.toList_map, List.mem_map] at hu
        obtain ⟨i, _, rfl⟩ := hu
        by_cases hk : z.cells.size = 0
        · have : z.cells = #[] := Array.eq_empty_of_size_eq_zero hk
          simp [this] at *
        · have hlt : i % z.cells.size < z.cells.size := Nat.mod_lt _ (by omega)
          rw [getElem!_pos z.cells _ hlt]
          exact Array.all_eq_true_iff_forall_mem.1 h1 _ (Array.getElem_mem hlt))
      refine ⟨.tuple #[], w.setRow g' (cur.toList.take (i * k + 0) ++ (Builtin.zeroCells z.cells (xs.length - i)).toList ++ cur.toList.drop (i * k + 0 + (Builtin.zeroCells z.cells (xs.length - i)).toList.length)).toArray, ?_, ⟨rfl, rfl, rfl, by simp, fun i hi hne => setRow_other w g' i _ (fun e => hne (by rw [e]; rfl))⟩, ?_, fun i h => .inl h⟩
      · obtain ⟨m, hm⟩ : ∃ m, xs.length - i = m + 1 := ⟨xs.length - i - 1, by omega⟩
        rw [hm] at hst hx ⊢
        have ead : (⟨g', 0, none⟩ : Addr).add (i * k) = ⟨g', i * k, none⟩ := by
          unfold Addr.add
          by_cases h : i * k = 0 <;> simp [h]
        simp only [Option.map_some] at hx
        rw [ead] at hx
        simp [execOp, resolve, invoke, builtin, ha.ev hx, Builtin.clear_, run_underlying hT, Result.andThen, hz]
        rw [hst]
        simp
      · show OwnS _ 0 e k enc (.slice (some ⟨g', 0, none⟩) i cp) (xs.take i)
        have hf := flat_take hk hi
        refine ⟨by rw [flat_size hk, List.length_take, Nat.min_eq_left hi], .inr ⟨g', cp, _, by rw [List.length_take, Nat.min_eq_left hi], Nat.zero_le _, setRow_heap w g' cur _ e (0, 0) hg, by rw [List.length_take]; omega, hcm, ?_, ?_⟩⟩
        · simp only [List.size_toArray, List.length_append, List.length_take, List.length_drop, Array.length_toList, hzc]
          omega
        · rw [List.length_take, Nat.min_eq_left hi, ← hf, ← htake]
          simp only [Nat.add_zero, List.append_assoc]
          rw [List.take_append_of_le_length (by rw [List.length_take, Array.length_toList]; omega), List.take_take, List.take_take]
          congr 1
          omega
end
section
variable {P : Program} {n : Nat} {ds : List Deferred} {l : Env} {w : World} {d : Option Tmp} {ty : TypeId} {ps : String} {af : Array Edge} {g : Option (Nat × Bool)}
theorem PEv.eqlNilS {T T' e : TypeId} {x : Operand} {ad : Option Addr} {m c : Nat} (hT : P.underlying T = some (.slice e)) (hx : Val l x (.slice ad m c)) : PEv P n ds l w ⟨d, .binOp .eql T x (.const (.slice none 0 0)) T', ty, ps, af, g⟩ (.bool ad.isNone) := fun a w' ha _ => by
  refine run_v ?_
  have e1 : a.eval (.const (.slice none 0 0)) = .slice none 0 0 := rfl
  rw [ha.ev hx, e1, Sem.run_bind]
  have : (eqGuard .eql T x (.const (.slice none 0 0)) (.slice ad m c) (.slice none 0 0)).run P w' = .ok () w' := by unfold eqGuard; rfl
  rw [this]
  exact Lib.run_eql_slice_nil w' T e ad m c 0 0 hT
end
def IdxI (p : Int → Bool) (l : List Int) (i : Int) : Prop := (∃ (k : Nat) (x : Int), i = (k : Int) ∧ l[k]? = some x ∧ p x = true ∧ ∀ y ∈ l.take k, p y = false) ∨ (i = -1 ∧ ∀ y ∈ l, p y = false)
theorem take_noneI {p : Int → Bool} {l : List Int} {k : Nat} {x : Int} (hx : l[k]? = some x) (hn : ∀ y ∈ l.take k, p y = false) (h : p x = false) : ∀ y ∈ l.take (k + 1), p y = false := fun y hy => by
  rw [take_succ_of hx] at hy
  rcases List.mem_append.1 hy with hy | hy
  · exact hn y hy
  · rw [List.mem_singleton.1 hy]; exact h
def keepI (p : Int → Bool) (l : List Int) (j : Nat) : List Int := (l.take j).filter fun x => !p x
theorem keepI_len (p : Int → Bool) (l : List Int) (j : Nat) : (keepI p l j).length ≤ j := Nat.le_trans (List.length_filter_le _ _) (by rw [List.length_take]; omega)
theorem keepI_first {p : Int → Bool} {l : List Int} {k : Nat} {x : Int} (hx : l[k]? = some x) (hp : p x = true) (hn : ∀ y ∈ l.take k, p y = false) : keepI p l (k + 1) = l.take k := by
  unfold keepI
  rw [take_succ_of hx, List.filter_append, List.filter_cons_of_neg (by rw [hp]; decide), List.filter_nil, List.append_nil]
  exact List.filter_eq_self.2 fun y hy => by rw [hn y hy]; rfl
theorem keepI_yes {p : Int → Bool} {l : List Int} {k : Nat} {x : Int} (hx : l[k]? = some x) (hp : p x = false) : keepI p l (k + 1) = keepI p l k ++ [x] := by
  unfold keepI
  rw [take_succ_of hx, List.filter_append, List.filter_cons_of_pos (by rw [hp]; rfl), List.filter_nil]
theorem keepI_no {p : Int → Bool} {l : List Int} {k : Nat} {x : Int} (hx : l[k]? = some x) (hp : p x = true) : keepI p l (k + 1) = keepI p l k := by
  unfold keepI
  rw [take_succ_of hx, List.filter_append, List.filter_cons_of_neg (by rw [hp]; decide), List.filter_nil, List.append_nil]
theorem keepI_none {p : Int → Bool} {l : List Int} (hn : ∀ y ∈ l, p y = false) : (l.filter fun x => !p x) = l := List.filter_eq_self.2 fun y hy => by rw [hn y hy]; rfl
structure DelI (p : Int → Bool) (l M : List Int) (j : Nat) : Prop where
  len : M.length = l.length
  kept : M.take (keepI p l j).length = keepI p l j
  rest : ∀ m, j ≤ m → M[m]? = l[m]?
theorem DelI.start {p : Int → Bool} {l : List Int} {k : Nat} {x : Int} (hx : l[k]? = some x) (hp : p x = true) (hn : ∀ y ∈ l.take k, p y = false) : DelI p l l (k + 1) := by
  have hk : k < l.length := (List.getElem?_eq_some_iff.1 hx).1
  refine ⟨rfl, ?_, fun _ _ => rfl⟩
  rw [keepI_first hx hp hn, List.length_take, Nat.min_eq_left (by omega)]
theorem DelI.no {p : Int → Bool} {l M : List Int} {j : Nat} {x : Int} (h : DelI p l M j) (hx : l[j]? = some x) (hp : p x = true) : DelI p l M (j + 1) :=
  ⟨h.len, by rw [keepI_no hx hp]; exact h.kept, fun m hm => h.rest m (by omega)⟩
theorem DelI.yes {p : Int → Bool} {l M : List Int} {j : Nat} {x : Int} (h : DelI p l M j) (hx : l[j]? = some x) (hp : p x = false) : DelI p l (M.set (keepI p l j).length x) (j + 1) := by
  have hj : j < l.length := (List.getElem?_eq_some_iff.1 hx).1
  have hk := keepI_len p l j
  have hM := h.len
  refine ⟨by rw [List.length_set, hM], ?_, fun m hm => ?_⟩
  · rw [keepI_yes hx hp, List.length_append, List.length_singleton, List.take_succ_eq_append_getElem (by rw [List.length_set]; omega), List.getElem_set_self, List.take_set_of_le (Nat.le_refl _), h.kept]
  · rw [List.getElem?_set_ne (by omega)]
    exact h.rest m (by omega)
theorem keepI_all {p : Int → Bool} {l : List Int} : keepI p l l.length = l.filter fun x => !p x := by unfold keepI; rw [List.take_length]
theorem OwnS.lcp {α : Type} {enc : α → Array Go.Value} {b k m cp : Nat} {e : TypeId} {w : World} {ad : Option Addr} {xs : List α} (h : OwnS w b e k enc (.slice ad m cp) xs) : xs.length ≤ cp := by
  obtain ⟨_, ⟨he, hn⟩ | ⟨g', cap, cur, he, _, _, hcap, _⟩⟩ := h
  · cases he; omega
  · cases he; exact hcap
end Go.Wx
namespace Go.Proofs.YtolkipbpklkcnaaGreat
open Go.Wx Go.RowKit
theorem indexI_any (cf : Nat) (lb : Array Go.Value) (p : Int → Bool) (hen : ∀ args w, (callFunc cf args).run Tryz.prog w = .ok (.enter cf args) w) (ad : Option Addr) (cp : Nat) (l : List Int) (w : World) (hE0 : Els w ad 1 eInt l) (hl : l.length ≤ 1000000000) (hp : ∀ W, Up w W → ∀ x, Ret Tryz.prog cf (#[vi x] ++ lb) W fun r W' => r = .bool (p x) ∧ Up W W') : Ret Tryz.prog 87 #[.slice ad l.length cp, .func (.func cf) #[] lb] w fun r w' => ∃ i, r = vi i ∧ IdxI p l i ∧ Up w w' := by
  have hW := Up.refl w
  obtain ⟨w0, rfl⟩ : ∃ w0, w0 = w := ⟨_, rfl⟩
  refine Calls_start (n := 19) (m := 9) Tryz.func87 rfl rfl rfl ?_
  refine CW.S (LW.C (LW.S (CW.S (LW.M rfl ?_))))
  refine LW.pp (PEv.lenS Tryz.underlying30 (.tmp rfl)) ?_
  refine LW.pp (PEv.move (.const _)) ?_
  refine LW.T (CW.block ?_)
  refine CW.loopB (σ := Nat) (fun s w => (s ≤ l.length) ∧ (∀ y ∈ l.take s, p y = false) ∧ (Up w0 w)) (fun s => [(8, .eq (vi (s : Int)))]) ([(0, .eq _), (1, .eq _), (7, .eq _)]) (fun s => l.length - s) 0 ?_ ⟨rfl, rfl, rfl, rfl, trivial⟩ ?_
  ·exact ⟨Nat.zero_le _, by simp, hW⟩
  ·rintro k w1 ⟨hk, hn, hW⟩
   refine CW.S ?_
   refine LW.pp (PEv.lss (.tmp rfl) (.tmp rfl)) ?_
   refine LW.S ?_
   refine CW.cond (.tmp rfl) (fun h9 => ?_) (fun h9 => ?_)
   ·first | replace h9 := dT h9 | replace h9 := dF h9 | skip
    refine CW.skip (KW.then (CW.seq (CW.block (CW.S (LW.M rfl (LW.A rfl (LW.S ?_)))))))
    have hE := Els.up hE0 hW
    refine CW.region (LW.M rfl (LW.M rfl (LW.M rfl ?_)))
    obtain ⟨x, hx⟩ := getElem?_of_lt (xs := l) (i := k) (by omega)
    obtain ⟨Bx, ox, ax, hcx⟩ := hE _ x hx
    refine LW.pp (PEv.indexAddr' Tryz.underlying30 Tryz.sizeOf3 (.tmp rfl) (.tmp rfl) (by omega) ax) ?_
    refine LW.pp (PEv.load Tryz.isAgg3 (.tmp rfl) (hcx.nth (j := 0) rfl)) ?_
    refine LW.c (enter_call (.tmp rfl) (.cons (.tmp rfl) .nil) (hen)) rfl rfl rfl rfl (hp _ hW x) ?_
    rintro _ w2 ⟨rfl, uw2⟩
    have zw2 := uw2.size
    replace hW := hW.up uw2
    replace hcx := hcx.up uw2
    refine LW.T ?_
    refine CW.cond (.tmp rfl) (fun h16 => ?_) (fun h16 => ?_)
    ·first | replace h16 := dT h16 | replace h16 := dF h16 | skip
     refine CW.S (LW.M rfl (LW.A rfl (LW.T (CW.ret (KW.block_ret (KW.then_ret (KW.then_ret (KW.block_ret (KW.then_ret ?_)))))))))
     refine KW.ret1 rfl rfl ⟨_, rfl, ?_⟩
     first | exact ⟨_, rfl, .inl ⟨k, x, rfl, hx, by simpa using h16, hn⟩, hW⟩ | exact ⟨-1, rfl, .inr ⟨rfl, by rw [show k = l.length by omega, List.take_length] at hn; exact hn⟩, hW⟩
    ·first | replace h16 := dT h16 | replace h16 := dF h16 | skip
     refine CW.skip (KW.inBlock (KW.then (CW.region ?_)))
     refine LW.pp (PEv.inc (.tmp rfl) (by omega)) ?_
     refine LW.M rfl (LW.nil (KW.round ?_))
     exact ⟨k + 1, ⟨by omega, take_noneI hx hn (by simpa using h16), hW⟩, ⟨rfl, rfl, rfl, rfl, trivial⟩, by first | omega | (dsimp only; omega)⟩
   ·first | replace h9 := dT h9 | replace h9 := dF h9 | skip
    refine CW.exit (KW.then_exit (KW.then_exit (KW.block_hit (KW.then (CW.S (LW.C (LW.T (CW.ret ?_))))))))
    refine KW.ret1 rfl rfl ⟨_, rfl, ?_⟩
    first | exact ⟨_, rfl, .inl ⟨k, x, rfl, hx, by simpa using h16, hn⟩, hW⟩ | exact ⟨-1, rfl, .inr ⟨rfl, by rw [show k = l.length by omega, List.take_length] at hn; exact hn⟩, hW⟩
theorem deleteI_any (cf : Nat) (lb : Array Go.Value) (p : Int → Bool) (hen : ∀ args w, (callFunc cf args).run Tryz.prog w = .ok (.enter cf args) w) (ad : Option Addr) (cp : Nat) (l : List Int) (w : World) (ho : OwnS w 0 3 1 eInt (.slice ad l.length cp) l) (hl : l.length ≤ 1000000000) (hp : ∀ W, Fr (aOwn 3 1 eInt (.slice ad l.length cp) (l)).foot w W → ∀ x, Ret Tryz.prog cf (#[vi x] ++ lb) W fun r W' => r = .bool (p x) ∧ Up W W') : Ret Tryz.prog 44 #[.slice ad l.length cp, .func (.func cf) #[] lb] w fun r w' => Stp (aOwn 3 1 eInt (.slice ad l.length cp) (l)) (aOwn 3 1 eInt (r) (l.filter fun x => !p x)) w w' := by
  obtain ⟨w0, rfl⟩ : ∃ w0, w0 = w := ⟨_, rfl⟩
  have hS : Wx.Sep (aOwn 3 1 eInt (.slice ad l.length cp) (l)).foot w0 w0 [aOwn 3 1 eInt (.slice ad l.length cp) (l)] := Sep.cons ho (fun _ h => h) (Sep.start _ _) (by simp)
  refine Calls_start (n := 42) (m := 9) Tryz.func44 rfl rfl rfl ?_
  refine CW.S (LW.C (LW.S (CW.region (LW.M rfl (LW.M rfl ?_)))))
  refine LW.c (enter_call0 (.cons (.tmp rfl) (.cons (.tmp rfl) .nil)) (Tryz.en87)) rfl rfl rfl rfl (indexI_any cf lb p hen ad cp l _ ((hS.own 0 rfl).els (fun _ => rfl)) hl (fun W u x => hp W (hS.fr.trans (u.fr _)) x)) ?_
  rintro _ w1 ⟨i, rfl, hi, uw1⟩
  have zw1 := uw1.size
  replace hS := hS.up uw1
  refine LW.A rfl (LW.S (CW.S (LW.M rfl ?_)))
  refine LW.pp (PEv.eql (.tmp rfl) (.const _)) ?_
  refine LW.T ?_
  refine CW.cond (.tmp rfl) (fun h12 => ?_) (fun h12 => ?_)
  ·first | replace h12 := dT h12 | replace h12 := dF h12 | skip
   have hn := (hi.resolve_left (fun ⟨k, x, e, _⟩ => by omega)).2
   refine CW.S (LW.M rfl (LW.A rfl (LW.T (CW.ret (KW.then_ret ?_)))))
   refine KW.ret1 rfl rfl ⟨_, rfl, ?_⟩
   first | exact ⟨hS.fr, by rw [keepI_none hn]; exact hS.get 0 rfl, fun _ h => .inl h⟩ | exact ⟨hS.fr, by rw [← keepI_all, ← hjl, ← hD.kept, ← hi2]; exact hS.get 0 rfl, fun _ h => .inl h⟩
  ·first | replace h12 := dT h12 | replace h12 := dF h12 | skip
   refine CW.skip (KW.then (CW.seq (CW.seq ?_)))
   obtain ⟨k, x, rfl, hx, hpx, hn⟩ := hi.resolve_right (fun ⟨e, _⟩ => h12 e)
   have hkl := (List.getElem?_eq_some_iff.1 hx).1
   obtain ⟨g, rfl⟩ := (hS.own 0 rfl).adr (by omega)
   have hD0 := DelI.start hx hpx hn
   have hk0 : k = (keepI p l (k + 1)).length := by rw [keepI_first hx hpx hn, List.length_take]; omega
   refine CW.region (LW.M rfl ?_)
   refine LW.pp (PEv.inc (.tmp rfl) (by omega)) ?_
   refine LW.A rfl (LW.T (CW.block ?_))
   refine CW.loopB (σ := Nat × Nat × List Int) (fun s w => (s.1 ≤ l.length) ∧ (s.2.1 = (keepI p l s.1).length) ∧ (DelI p l s.2.2 s.1) ∧ (Wx.Sep (aOwn 3 1 eInt (.slice (some ⟨g, 0, none⟩) l.length cp) l).foot w0 w [aOwn 3 1 eInt (.slice (some ⟨g, 0, none⟩) l.length cp) s.2.2])) (fun s => [(6, .eq (vi (s.1 : Int))), (5, .eq (vi (s.2.1 : Int)))]) ([(0, .eq _), (1, .eq _), (4, .eq _)]) (fun s => l.length - s.1) (k + 1, k, l) ?_ ⟨rfl, rfl, rfl, rfl, rfl, trivial⟩ ?_
   ·exact ⟨by show k + 1 ≤ _; omega, hk0, hD0, hS⟩
   ·rintro ⟨j, i, M⟩ w2 ⟨hj, hi2, hD, hS⟩
    dsimp only at hj hi2 hD hS
    change CW _ _ _ _ _ _ _ ([(6, .eq (vi (j : Int))), (5, .eq (vi (i : Int)))] ++ _) _
    refine CW.seq (CW.S (LW.M rfl (LW.M rfl ?_)))
    refine LW.pp (PEv.lenS Tryz.underlying30 (.tmp rfl)) ?_
    refine LW.pp (PEv.lss (.tmp rfl) (.tmp rfl)) ?_
    refine LW.T ?_
    refine CW.cond (.tmp rfl) (fun h19 => ?_) (fun h19 => ?_)
    ·first | replace h19 := dT h19 | replace h19 := dF h19 | skip
     refine CW.skip (KW.then (CW.seq (CW.block (CW.seq ?_))))
     have hjl : j < l.length := by omega
     obtain ⟨x, hx⟩ := getElem?_of_lt (xs := l) (i := j) hjl
     have hxM := (hD.rest j (Nat.le_refl _)).trans hx
     obtain ⟨Bx, ox, ax, hcx⟩ := ((hS.own 0 rfl).els (fun _ => rfl)) j x hxM
     cases ax
     refine CW.region (LW.M rfl (LW.M rfl ?_))
     refine LW.pp (PEv.indexAddr' Tryz.underlying30 Tryz.sizeOf3 (.tmp rfl) (.tmp rfl) (by omega) rfl) ?_
     refine LW.pp (PEv.load Tryz.isAgg3 (.tmp rfl) (hcx.nth (j := 0) rfl)) ?_
     refine LW.A rfl (LW.S (CW.region (LW.M rfl (LW.M rfl ?_))))
     refine LW.c (enter_call (.tmp rfl) (.cons (.tmp rfl) .nil) (hen)) rfl rfl rfl rfl (hp _ hS.fr x) ?_
     rintro _ w3 ⟨rfl, uw3⟩
     have zw3 := uw3.size
     replace hS := hS.up uw3
     refine LW.pp (PEv.not (.tmp rfl)) ?_
     refine LW.T ?_
     refine CW.cond (.tmp rfl) (fun h29 => ?_) (fun h29 => ?_)
     ·first | replace h29 := dT h29 | replace h29 := dF h29 | skip
      refine CW.seq ?_
      have hkj := keepI_len p l j
      have hMl := hD.len
      obtain ⟨y, hy⟩ := getElem?_of_lt (xs := M) (i := i) (by omega)
      have hpn : p x = false := by simpa using h29
      have hky := keepI_yes hx hpn
      refine CW.region (LW.M rfl (LW.M rfl (LW.M rfl ?_)))
      refine LW.pp (PEv.indexAddr' Tryz.underlying30 Tryz.sizeOf3 (.tmp rfl) (.tmp rfl) (by omega) rfl) ?_
      refine LW.s (SEv.storeOwnF (enc := eInt) (k := 1) (z := x) (i := i) (j := 0) Tryz.sizeOf3 (fun _ => rfl) rfl (.tmp rfl) (.tmp rfl) (hS.own 0 rfl) hy (by decide) rfl) rfl rfl rfl ?_
      intro w4 Gw4
      have zw4 := Gw4.fr.size
      replace hS := hS.stp 0 rfl Gw4
      change Wx.Sep _ _ _ [_] at hS
      refine LW.T (CW.region (LW.M rfl ?_))
      refine LW.pp (PEv.inc (.tmp rfl) (by omega)) ?_
      refine LW.A rfl (LW.nil (KW.inBlock (KW.then (CW.region (LW.M rfl ?_)))))
      refine LW.pp (PEv.inc (.tmp rfl) (by omega)) ?_
      refine LW.A rfl (LW.nil (KW.round ?_))
      first | exact ⟨(j + 1, i + 1, M.set i x), ⟨by show j + 1 ≤ _; omega, by show i + 1 = _; rw [hky, hi2]; simp, by show DelI p l (M.set i x) (j + 1); rw [hi2]; exact hD.yes hx hpn, hS⟩, ⟨rfl, rfl, rfl, rfl, rfl, trivial⟩, by show l.length - (j + 1) < l.length - j; omega⟩ | exact ⟨(j + 1, i, M), ⟨by show j + 1 ≤ _; omega, by show i = _; rw [keepI_no hx (by simpa using h29)]; exact hi2, hD.no hx (by simpa using h29), hS⟩, ⟨rfl, rfl, rfl, rfl, rfl, trivial⟩, by show l.length - (j + 1) < l.length - j; omega⟩
     ·first | replace h29 := dT h29 | replace h29 := dF h29 | skip
      refine CW.skip (KW.inBlock (KW.then (CW.region (LW.M rfl ?_))))
      refine LW.pp (PEv.inc (.tmp rfl) (by omega)) ?_
      refine LW.A rfl (LW.nil (KW.round ?_))
      first | exact ⟨(j + 1, i + 1, M.set i x), ⟨by show j + 1 ≤ _; omega, by show i + 1 = _; rw [hky, hi2]; simp, by show DelI p l (M.set i x) (j + 1); rw [hi2]; exact hD.yes hx hpn, hS⟩, ⟨rfl, rfl, rfl, rfl, rfl, trivial⟩, by show l.length - (j + 1) < l.length - j; omega⟩ | exact ⟨(j + 1, i, M), ⟨by show j + 1 ≤ _; omega, by show i = _; rw [keepI_no hx (by simpa using h29)]; exact hi2, hD.no hx (by simpa using h29), hS⟩, ⟨rfl, rfl, rfl, rfl, rfl, trivial⟩, by show l.length - (j + 1) < l.length - j; omega⟩
    ·first | replace h19 := dT h19 | replace h19 := dF h19 | skip
     refine CW.exit (KW.then_exit (KW.then_exit (KW.block_hit (KW.then (CW.seq ?_)))))
     have hjl : j = l.length := by omega
     have hkj := keepI_len p l j
     have hMl := hD.len
     have hcl := (hS.own 0 rfl).lcp
     refine CW.region (LW.M rfl (LW.M rfl ?_))
     refine LW.pp (PEv.sliceFrom Tryz.underlying30 Tryz.sizeOf3 (.tmp rfl) (.tmp rfl) (by omega)) ?_
     refine LW.rn (REv.clearTail (enc := eInt) (k := 1) Tryz.underlying30 Tryz.zeroValue3 rfl (by simp [Value.cells, Value.oneCell']) (fun _ => rfl) (xs := M) (i := i) (by rw [hD.len]; exact .tmp rfl) (by omega) (by rw [hD.len]; exact hS.own 0 rfl)) rfl rfl rfl ?_
     intro v_ w5 Gw5
     rw [hD.len] at Gw5
     have zw5 := Gw5.fr.size
     replace hS := hS.stp 0 rfl Gw5
     change Wx.Sep _ _ _ [_] at hS
     refine LW.S (CW.region (LW.M rfl (LW.M rfl ?_)))
     refine LW.pp (PEv.sliceHi Tryz.underlying30 Tryz.sizeOf3 (.tmp rfl) (.tmp rfl) (by omega)) ?_
     refine LW.A rfl (LW.T (CW.ret ?_))
     refine KW.ret1 rfl rfl ⟨_, rfl, ?_⟩
     first | exact ⟨hS.fr, by rw [keepI_none hn]; exact hS.get 0 rfl, fun _ h => .inl h⟩ | exact ⟨hS.fr, by rw [← keepI_all, ← hjl, ← hD.kept, ← hi2]; exact hS.get 0 rfl, fun _ h => .inl h⟩
theorem cloneI_any (ad : Option Addr) (cp : Nat) (l : List Int) (w : World) (hE0 : Els w ad 1 eInt l) (hl : l.length ≤ 1000000000) : Ret Tryz.prog 45 #[.slice ad l.length cp] w fun r w' => OwnS w' w.heap.size 3 1 eInt r l ∧ Up w w' := by
  obtain ⟨w0, rfl⟩ : ∃ w0, w0 = w := ⟨_, rfl⟩
  have hS := Sep.start no w0
  refine Calls_start (n := 8) (m := 9) Tryz.func45 rfl rfl rfl ?_
  refine CW.S (LW.C (LW.S (CW.S (LW.M rfl ?_))))
  refine LW.pp (PEv.eqlNilS Tryz.underlying30 (.tmp rfl)) ?_
  refine LW.T ?_
  refine CW.cond (.tmp rfl) (fun h4 => ?_) (fun h4 => ?_)
  ·first | replace h4 := dT h4 | replace h4 := dF h4 | skip
   have hnil : l = [] := by cases l with | nil => rfl | cons x r => (obtain ⟨B, o, e, _⟩ := hE0 0 x rfl; rw [e] at h4; cases h4)
   refine CW.S (LW.C (LW.T (CW.ret (KW.then_ret ?_))))
   refine KW.ret1 rfl rfl ⟨_, rfl, ?_⟩
   first | (subst hnil; exact ⟨OwnS.nil _ _ _ _ _, hS.upd⟩) | exact ⟨(hS.own 0 rfl).rebase (fun i h => (hS.foot 0 rfl i h).resolve_left (fun h => h)), hS.upd⟩
  ·first | replace h4 := dT h4 | replace h4 := dF h4 | skip
   refine CW.skip (KW.then (CW.S ?_))
   refine LW.r (REv.buildSlice (xs := ([] : List Int)) (enc := eInt) (mk := vi) Tryz.underlying30 Tryz.sizeOf3 Tryz.zeroValue3 rfl (by decide) (fun _ => rfl) (fun _ => rfl) .nil rfl) rfl rfl rfl rfl ?_
   intro v5 w1 hN5
   obtain ⟨uw1, B5, rfl, hO5⟩ := NewSl.own0 hN5 (Nat.le_refl _)
   have zw1 := uw1.size
   replace hS := hS.add uw1 (A' := aOwn 3 1 eInt (.slice (some ⟨B5, 0, none⟩) 0 0) ([] : List Int)) (hO5.mono (Nat.zero_le _)) (fun i h => hO5.base i h)
   clear hN5 hO5
   change Wx.Sep _ _ _ [_] at hS
   refine LW.M rfl ?_
   refine LW.r (REv.appendF (enc := eInt) (bytes := 8) (i := Tryz.t3) Tryz.underlying30 (by kernel_rfl) rfl rfl rfl rfl (by decide) (fun _ => rfl) eInt_one (.tmp rfl) (.tmp rfl) (hS.own 0 rfl) (Sl.of_els (Els.up hE0 hS.upd)) (by simp [maxLen]; omega) (by simp; omega)) rfl rfl rfl rfl ?_
   intro v7 w2 Gw2
   have zw2 := Gw2.fr.size
   replace hS := hS.stp 0 rfl Gw2
   change Wx.Sep _ _ _ [_] at hS
   refine LW.A rfl (LW.T (CW.ret ?_))
   refine KW.ret1 rfl rfl ⟨_, rfl, ?_⟩
   first | (subst hnil; exact ⟨OwnS.nil _ _ _ _ _, hS.upd⟩) | exact ⟨(hS.own 0 rfl).rebase (fun i h => (hS.foot 0 rfl i h).resolve_left (fun h => h)), hS.upd⟩
end Go.Proofs.YtolkipbpklkcnaaGreat
end
section
namespace Go.Wx
theorem sortI_len (ks : List Int) : (sortI ks).length = ks.length := List.length_mergeSort _
theorem wafersL_len (ls ps ss : List Fact) : (wafersL ls ps ss).length ≤ ls.length + ps.length := by
  unfold wafersL
  rw [sortI_len]
  exact Nat.le_trans (List.length_filter_le isIDb _) (Nat.le_trans (proK_len ss (lotK ls) ps) (Nat.add_le_add_right (lotK_len ls) _))
def heldL (b : Base) (id t : Int) : List Int := match findB b.Holds id with
  | none => []
  | some f => if overB f b.Releases t = true then [] else (wafersL b.Lots b.Processes b.Swaps).filter fun x => aboutB f b.Lots x t
theorem heldL_none {b : Base} {id t : Int} (h : findB b.Holds id = none) : heldL b id t = [] := by unfold heldL; rw [h]
theorem heldL_over {b : Base} {id t : Int} {f : Fact} (h : findB b.Holds id = some f) (h2 : overB f b.Releases t = true) : heldL b id t = [] := by unfold heldL; rw [h]; exact if_pos h2
theorem heldL_some {b : Base} {id t : Int} {f : Fact} (h : findB b.Holds id = some f) (h2 : overB f b.Releases t = false) : heldL b id t = (wafersL b.Lots b.Processes b.Swaps).filter fun x => !(!aboutB f b.Lots x t) := by
  unfold heldL; rw [h]
  refine (if_neg (by rw [h2]; decide)).trans ?_
  simp only [Bool.not_not]
end Go.Wx
namespace Go.Proofs.YtolkipbpklkcnaaGreat
open Go.Wx Go.RowKit
theorem heldOut_any (x : Int) (f : Fact) (B7 B5 Bb : Nat) (bc : Array Go.Value) (b : Base) (t : Int) (w : World) (hB7 : Blk w B7 (holdCells f ⟨Bb, 0, none⟩) 74) (hB5 : Blk w B5 #[vi t] 3) (hb : Blk w Bb bc 27) (hC : BaseC w bc b) (hlen : b.Lots.length < 9223372036854775807) : Ret Tryz.prog 46 #[vi x, .pointer (some ⟨B7, 0, none⟩), .pointer (some ⟨B5, 0, none⟩)] w fun r w' => r = .bool (!aboutB f b.Lots x t) ∧ Up w w' := by
  have hW := Up.refl w
  refine Calls_start (n := 10) (m := 9) Tryz.func46 rfl rfl rfl ?_
  refine CW.S (LW.C (LW.S (CW.region ?_)))
  refine LW.pp (PEv.loadA Tryz.isAgg74 Tryz.sizeOf74 rfl (.tmp rfl) (hB7.agg)) ?_
  refine LW.M rfl ?_
  refine LW.pp (PEv.load Tryz.isAgg3 (.tmp rfl) (hB5.celln rfl)) ?_
  refine LW.c (enter_call0 (.cons (.tmp rfl) (.cons (.tmp rfl) (.cons (.tmp rfl) .nil))) (Tryz.en47)) rfl rfl rfl rfl (isAbout_any f Bb bc b x t _ hb hC hlen) ?_
  rintro _ w1 ⟨rfl, uw1⟩
  have zw1 := uw1.size
  replace hB7 := hB7.up uw1
  replace hB5 := hB5.up uw1
  replace hb := hb.up uw1
  replace hC := hC.up uw1
  replace hW := hW.up uw1
  refine LW.pp (PEv.not (.tmp rfl)) ?_
  refine LW.A rfl (LW.T (CW.ret ?_))
  refine KW.ret1 rfl rfl ⟨_, rfl, ?_⟩
  exact ⟨rfl, hW⟩
theorem Held_any (bc : Array Go.Value) (b : Base) (id t : Int) (w : World) (hC : BaseC w bc b) (hH : b.Holds.length < 9223372036854775807) (hR : b.Releases.length < 9223372036854775807) (hL : b.Lots.length < 9223372036854775807) (hs : b.Swaps.length ≤ 1000000000) (hsum : b.Lots.length + b.Processes.length ≤ 500000000) : Ret Tryz.prog 21 #[.agg bc, vi id, vi t] w fun r w' => OwnS w' w.heap.size 3 1 eInt r (heldL b id t) ∧ Up w w' := by
  obtain ⟨w0, rfl⟩ : ∃ w0, w0 = w := ⟨_, rfl⟩
  have hS := Sep.start no w0
  refine Calls_start (n := 26) (m := 9) Tryz.func21 rfl rfl rfl ?_
  refine CW.S ?_
  refine LW.r (REv.boxA (.tmp rfl)) rfl rfl rfl rfl ?_
  rintro _ w1 ⟨B3, rfl, NB3⟩
  have eB3 := NB3.at_
  have zB3 := NB3.size
  replace hS := hS.addB NB3
  change Wx.Sep _ _ _ [_] at hS
  refine LW.r (REv.box1 (.tmp rfl) rfl) rfl rfl rfl rfl ?_
  rintro _ w2 ⟨B5, rfl, NB5⟩
  have eB5 := NB5.at_
  have zB5 := NB5.size
  replace hS := hS.addB NB5
  change Wx.Sep _ _ _ [_, _] at hS
  refine LW.C (LW.S ?_)
  cases hq1 : findB b.Holds id with
  | none =>
   refine CW.region (LW.M rfl ?_)
   refine LW.c (enter_call0 (.cons (.tmp rfl) (.cons (.tmp rfl) .nil)) (Tryz.en37)) rfl rfl rfl rfl (find_any B3 bc b id _ (hS.blk 0 rfl) (hC.up hS.upd) hH) ?_
   rintro _ w3 ⟨rfl, uw3⟩
   have zw3 := uw3.size
   replace hS := hS.up uw3
   rw [hq1]
   refine LW.M rfl (LW.pp (PEv.extract (.tmp rfl) rfl) (LW.pp (PEv.extract (.tmp rfl) rfl) ?_))
   refine LW.r (REv.allocA Tryz.zeroValue74) rfl rfl rfl rfl ?_
   rintro _ w4 ⟨B7, rfl, MB7⟩
   refine LW.s (SEv.storeA Tryz.sizeOf74 rfl (.tmp rfl) (.tmp rfl) (by first | exact hold0_one | exact holdCells_one _ _) MB7.blk rfl) rfl rfl rfl ?_
   intro w5 LB7
   have NB7 := MB7.set LB7
   clear LB7 MB7
   have eB7 := NB7.at_
   have zB7 := NB7.size
   replace hS := hS.addB NB7
   change Wx.Sep _ _ _ [_, _, _] at hS
   refine LW.A rfl (LW.S (CW.S (LW.M rfl ?_)))
   refine LW.pp (PEv.not (.tmp rfl)) ?_
   refine LW.M rfl ?_
   refine LW.N ?_
   refine LW.N ?_
   refine LW.N ?_
   refine LW.pp (PEv.pick_or (b := false) (.tmp rfl) (fun hp => absurd (show true = false from hp) (by decide))) ?_
   refine LW.T ?_
   refine CW.cond_true (.tmp rfl) ?_
   refine CW.S (LW.C (LW.T (CW.ret (KW.then_ret ?_))))
   refine KW.ret1 rfl rfl ⟨_, rfl, ?_⟩
   exact ⟨by rw [heldL_none hq1]; exact OwnS.nil _ _ _ _ _, hS.upd⟩
  | some f =>
   refine CW.region (LW.M rfl ?_)
   refine LW.c (enter_call0 (.cons (.tmp rfl) (.cons (.tmp rfl) .nil)) (Tryz.en37)) rfl rfl rfl rfl (find_any B3 bc b id _ (hS.blk 0 rfl) (hC.up hS.upd) hH) ?_
   rintro _ w6 ⟨rfl, uw6⟩
   have zw6 := uw6.size
   replace hS := hS.up uw6
   rw [hq1]
   refine LW.M rfl (LW.pp (PEv.extract (.tmp rfl) rfl) (LW.pp (PEv.extract (.tmp rfl) rfl) ?_))
   refine LW.r (REv.allocA Tryz.zeroValue74) rfl rfl rfl rfl ?_
   rintro _ w7 ⟨B7, rfl, MB7⟩
   refine LW.s (SEv.storeA Tryz.sizeOf74 rfl (.tmp rfl) (.tmp rfl) (by first | exact hold0_one | exact holdCells_one _ _) MB7.blk rfl) rfl rfl rfl ?_
   intro w8 LB7
   have NB7 := MB7.set LB7
   clear LB7 MB7
   have eB7 := NB7.at_
   have zB7 := NB7.size
   replace hS := hS.addB NB7
   change Wx.Sep _ _ _ [_, _, _] at hS
   refine LW.A rfl (LW.S (CW.S (LW.M rfl ?_)))
   refine LW.pp (PEv.not (.tmp rfl)) ?_
   refine LW.M rfl ?_
   refine LW.Y ?_
   refine LW.pp (PEv.loadA Tryz.isAgg74 Tryz.sizeOf74 rfl (.tmp rfl) ((hS.blk 2 rfl).agg)) ?_
   refine LW.Y ?_
   refine LW.pp (PEv.load Tryz.isAgg3 (.tmp rfl) ((hS.blk 1 rfl).celln rfl)) ?_
   refine LW.Y ?_
   refine LW.c (enter_call0 (.cons (.tmp rfl) (.cons (.tmp rfl) .nil)) (Tryz.en33)) rfl rfl rfl rfl (isOver_any f B3 bc b t _ (hS.blk 0 rfl) (hC.up hS.upd) hR) ?_
   rintro _ w9 ⟨rfl, uw9⟩
   have zw9 := uw9.size
   replace hS := hS.up uw9
   refine LW.pp (PEv.pick_or (.tmp rfl) (fun hp => (by first | exact .const _ | exact .tmp rfl | exact .cond rfl (by first | assumption | simp_all)))) ?_
   refine LW.T ?_
   refine CW.cond (.tmp rfl) (fun h20 => ?_) (fun h20 => ?_)
   ·first | replace h20 := dT h20 | replace h20 := dF h20 | skip
    have hov := h20
    refine CW.S (LW.C (LW.T (CW.ret (KW.then_ret ?_))))
    refine KW.ret1 rfl rfl ⟨_, rfl, ?_⟩
    first | exact ⟨by rw [heldL_over hq1 (decide_eq_true hov)]; exact OwnS.nil _ _ _ _ _, hS.upd⟩ | exact ⟨by rw [heldL_some hq1 (decide_eq_false hov)]; exact (hS.own 3 rfl).rebase (fun i h => (hS.foot 3 rfl i h).resolve_left (fun h => h)), hS.upd⟩
   ·first | replace h20 := dT h20 | replace h20 := dF h20 | skip
    have hov := h20
    refine CW.skip (KW.then (CW.S ?_))
    refine LW.pp (PEv.loadA Tryz.isAgg27 Tryz.sizeOf27 (hC.size) (.tmp rfl) ((hS.blk 0 rfl).agg)) ?_
    refine LW.c (enter_call0 (.cons (.tmp rfl) .nil) (Tryz.en24)) rfl rfl rfl rfl (Wafers_any bc b _ (hC.up hS.upd) hs (Nat.le_trans hsum (by decide))) ?_
    rintro v22 w10 ⟨hO22, uw10⟩
    have zw10 := uw10.size
    replace hS := hS.up uw10
    have hwl := wafersL_len b.Lots b.Processes b.Swaps
    obtain ⟨ad22, cp22, rfl, hE22⟩ := hO22.sl (fun _ => rfl)
    clear hO22
    refine LW.c (enter_call0 (.cons (.tmp rfl) .nil) (Tryz.en45)) rfl rfl rfl rfl (cloneI_any ad22 cp22 (wafersL b.Lots b.Processes b.Swaps) _ hE22 (by omega)) ?_
    rintro v23 w11 ⟨hO23, uw11⟩
    have zw11 := uw11.size
    replace hS := hS.add uw11 (A' := aOwn 3 1 eInt v23 (wafersL b.Lots b.Processes b.Swaps)) (hO23.mono (Nat.zero_le _)) (fun i h => (hO23.base i h))
    change Wx.Sep _ _ _ [_, _, _, _] at hS
    clear hO23
    obtain ⟨ad23, cp23, rfl, _⟩ := (hS.own 3 rfl).sl (fun _ => rfl)
    refine LW.pp (PEv.makeFunc (.cons (.tmp rfl) (.cons (.tmp rfl) .nil))) ?_
    refine LW.c (enter_call0 (.cons (.tmp rfl) (.cons (.tmp rfl) .nil)) (Tryz.en44)) rfl rfl rfl rfl (deleteI_any 46 #[.pointer (some ⟨B7, 0, none⟩), .pointer (some ⟨B5, 0, none⟩)] (fun x => !aboutB f b.Lots x t) Tryz.en46 ad23 cp23 (wafersL b.Lots b.Processes b.Swaps) _ (hS.own 3 rfl) (by omega) (fun W hfr x => heldOut_any x f B7 B5 B3 bc b t W ((hfr.block B7 (hS.blk 2 rfl).lt (hS.ne (i := 2) (j := 3) (by decide) rfl rfl B7 rfl)).trans (hS.blk 2 rfl)) ((hfr.block B5 (hS.blk 1 rfl).lt (hS.ne (i := 1) (j := 3) (by decide) rfl rfl B5 rfl)).trans (hS.blk 1 rfl)) ((hfr.block B3 (hS.blk 0 rfl).lt (hS.ne (i := 0) (j := 3) (by decide) rfl rfl B3 rfl)).trans (hS.blk 0 rfl)) (hC.up ((hS.fr.next hfr (hS.foot 3 rfl)).toUp (fun _ h => h))) hL)) ?_
    rintro v25 w12 uw12
    have zw12 := uw12.fr.size
    replace hS := hS.stp 3 rfl uw12
    change Wx.Sep _ _ _ [_, _, _, _] at hS
    refine LW.A rfl (LW.T (CW.ret ?_))
    refine KW.ret1 rfl rfl ⟨_, rfl, ?_⟩
    first | exact ⟨by rw [heldL_over hq1 (decide_eq_true hov)]; exact OwnS.nil _ _ _ _ _, hS.upd⟩ | exact ⟨by rw [heldL_some hq1 (decide_eq_false hov)]; exact (hS.own 3 rfl).rebase (fun i h => (hS.foot 3 rfl i h).resolve_left (fun h => h)), hS.upd⟩
end Go.Proofs.YtolkipbpklkcnaaGreat
end
section
namespace Go.Wx
theorem stopsOf_len (b : Base) (a : GAct) : (stopsOf b a).length ≤ b.Holds.length := by
  unfold stopsOf
  rw [List.length_mergeSort]
  exact Nat.le_trans (stopKs_length _ _ _) (List.length_filter_le _ _)
end Go.Wx
namespace Go.Proofs.YtolkipbpklkcnaaGreat
open Go.Wx Go.RowKit
end Go.Proofs.YtolkipbpklkcnaaGreat
end
section
namespace Go.Wx
theorem addI_nodup {ks : List Int} {k : Int} (h : ks.Nodup) : (addI ks k).Nodup := by
  unfold addI
  split
  · exact h
  · rename_i e
    exact List.nodup_append.2 ⟨h, by simp, fun a ha c hc => by rw [List.mem_singleton] at hc; subst hc; exact fun e2 => e (e2 ▸ ha)⟩
theorem foldAdd {α : Type} (g : α → Int) : ∀ (l : List α) (ks : List Int), (ks.Nodup → (l.foldl (fun ks x => addI ks (g x)) ks).Nodup) ∧ ∀ k, k ∈ l.foldl (fun ks x => addI ks (g x)) ks ↔ k ∈ ks ∨ ∃ x ∈ l, g x = k
  | [], ks => ⟨fun h => h, fun k => by simp⟩
  | x :: l, ks => by
    have ih := foldAdd g l (addI ks (g x))
    rw [List.foldl_cons]
    refine ⟨fun h => ih.1 (addI_nodup h), fun k => ?_⟩
    rw [ih.2 k, addI_mem]
    constructor
    · rintro ((h | h) | ⟨y, hy, e⟩)
      · exact .inl h
      · exact .inr ⟨x, List.mem_cons_self, h.symm⟩
      · exact .inr ⟨y, List.mem_cons_of_mem _ hy, e⟩
    · rintro (h | ⟨y, hy, e⟩)
      · exact .inl (.inl h)
      · rcases List.mem_cons.1 hy with rfl | hy
        · exact .inl (.inr e.symm)
        · exact .inr ⟨y, hy, e⟩
theorem sortI_mem {ks : List Int} {k : Int} : k ∈ sortI ks ↔ k ∈ ks := (List.mergeSort_perm ks _).mem_iff
theorem sortI_lt {ks : List Int} (h : ks.Nodup) : (sortI ks).Pairwise (· < ·) := by
  have h1 : (sortI ks).Pairwise fun x y => decide (x ≤ y) = true := List.pairwise_mergeSort (fun a b c h1 h2 => by simp at h1 h2 ⊢; omega) (fun a b => by simp; omega) ks
  have h2 : (sortI ks).Pairwise (· ≠ ·) := ((List.mergeSort_perm ks _).nodup_iff).2 h
  exact (h1.and h2).imp fun {a b} h => by have := of_decide_eq_true h.1; have := h.2; omega
theorem own_take {w : World} {b e c n : Nat} {ad : Option Addr} {l : List Fact} {u : Nat} (h : OwnS w b e 19 Fact.cells (.slice ad u c) l) (hn : n ≤ l.length) : Sl w (.slice ad n c) 19 Fact.cells (l.take n) := by
  have hE := h.elB (fun _ => rfl)
  refine ⟨ad, c, by rw [List.length_take, Nat.min_eq_left hn], fun i x hx => hE i x ?_⟩
  rw [List.getElem?_take] at hx
  split at hx
  · exact hx
  · cases hx
theorem ltTI_ne {a b : Fact} (h : a.Time ≠ b.Time) : ltK (keyTI a) (keyTI b) = decide (a.Time < b.Time) := by show (decide (a.Time < b.Time) || (decide (a.Time = b.Time) && decide (a.ID < b.ID))) = _; rw [decide_eq_false h]; simp
theorem ltTI_eq {a b : Fact} (h : a.Time = b.Time) : ltK (keyTI a) (keyTI b) = decide (a.ID < b.ID) := by show (decide (a.Time < b.Time) || (decide (a.Time = b.Time) && decide (a.ID < b.ID))) = _; rw [decide_eq_true h, decide_eq_false (show ¬ a.Time < b.Time by omega)]; simp
theorem ord_step {L : List Fact} {i k : Nat} {x : Fact} (hx : L[i]? = some x) (hk : k ≤ (sortK keyTI (L.take i)).length) (hgt : ∀ y ∈ (sortK keyTI (L.take i)).drop k, ltK (keyTI x) (keyTI y) = true) (hle : k = 0 ∨ ∃ y, (sortK keyTI (L.take i))[k - 1]? = some y ∧ ltK (keyTI x) (keyTI y) = false) :
    sortK keyTI (L.take (i + 1)) = ((sortK keyTI (L.take i)).take k ++ [x]) ++ (sortK keyTI (L.take i)).drop k := by
  have h := (StS.snoc (sortK_sts (key := keyTI) (L.take i)) hk hgt hle).eq
  rw [take_succ_of hx, ← h]
  unfold insAt
  simp
theorem dropP {α : Type} {l : List α} {k : Nat} {u : α} (hk : 0 < k) (hu : l[k - 1]? = some u) : l.drop (k - 1) = u :: l.drop k := by
  have h := (List.getElem?_eq_some_iff.1 hu)
  obtain ⟨h1, h2⟩ := h
  rw [List.drop_eq_getElem_cons h1, h2]
  congr 2
  omega
theorem sortK_len (l : List Fact) : (sortK keyTI l).length = l.length := (sortK_sts l).same.length
theorem ordG_def (p : Fact → Bool) (l : List Fact) : ordG p l = sortK keyTI (l.filter p) := rfl
theorem prev_elem {w : World} {b e c u : Nat} {ad : Option Addr} {l : List Fact} (h : OwnS w b e 19 Fact.cells (.slice ad u c) l) {k : Nat} (hk : k ≤ l.length) : ∃ x B o, 0 < k → l[k - 1]? = some x ∧ ad = some ⟨B, o, none⟩ ∧ AggAt w B (o + (k - 1) * 19) x.cells := by
  by_cases h0 : 0 < k
  · obtain ⟨x, hx⟩ := getElem?_of_lt (xs := l) (i := k - 1) (by omega)
    obtain ⟨B, o, h1, h2⟩ := h.elB (fun _ => rfl) (k - 1) x hx
    exact ⟨x, B, o, fun _ => ⟨hx, h1, h2⟩⟩
  · exact ⟨zeroF, 0, 0, fun h => absurd h h0⟩
theorem whoF_pred {L : List Fact} {k : Nat} {x : Fact} (hk : 0 < k) (hx : L[k - 1]? = some x) (m : Int) : whoF (L.drop (k - 1)) m = tau x (whoF (L.drop k) m) := by rw [dropP hk hx]; rfl
theorem tau_w {x : Fact} {k : Int} (h : k = x.Wafer) : tau x k = x.Other := if_pos h
theorem tau_o {x : Fact} {k : Int} (h : ¬ k = x.Wafer) (h2 : k = x.Other) : tau x k = x.Wafer := (if_neg h).trans (if_pos h2)
theorem tau_n {x : Fact} {k : Int} (h : ¬ k = x.Wafer) (h2 : ¬ k = x.Other) : tau x k = k := (if_neg h).trans (if_neg h2)
theorem lot_takes (w t : Int) (o : Option Fact) (x : Fact) : (((isIDb w && decide (x.Wafer = w)) && decide (x.Time ≤ t)) && (!o.isSome || decide ((o.getD zeroF).Time < x.Time))) = lotTakes w t o x := by
  unfold lotTakes
  cases o <;> rfl
theorem lotBest_step {l : List Fact} {w t : Int} {k : Nat} {x : Fact} (hx : l[k]? = some x) : lotBest (l.take (k + 1)) w t = if lotTakes w t (lotBest (l.take k) w t) x = true then some x else lotBest (l.take k) w t := by rw [take_succ_of hx, lotBest_snoc]; rfl
theorem lotOf_def (l : List Fact) (w t : Int) : lotOf l w t = (((lotBest l w t).getD zeroF).Lot, ((lotBest l w t).getD zeroF).Product) := by
  unfold lotOf
  cases lotBest l w t <;> rfl
def SlC (w : World) (v : Go.Value) (xs : List Int) : Prop := ∃ ad cp, v = .slice ad xs.length cp ∧ Els w ad 1 eInt xs ∧ xs.length ≤ cp
theorem SlC.up {w w' : World} {v : Go.Value} {xs : List Int} (h : SlC w v xs) (u : Up w w') : SlC w' v xs := let ⟨ad, c, e, hE, hc⟩ := h; ⟨ad, c, e, Els.up hE u, hc⟩
theorem SlC.sl {w : World} {v : Go.Value} {xs : List Int} (h : SlC w v xs) : Sl w v 1 eInt xs := let ⟨ad, c, e, hE, _⟩ := h; ⟨ad, c, e, hE⟩
theorem SlC.nil (w : World) : SlC w (.slice none 0 0) [] := ⟨none, 0, rfl, fun i x h => by simp at h, Nat.le_refl _⟩
theorem SlC.nil0 (w : World) : SlC w (.slice none 0 0) (sortI []) := by rw [show sortI [] = [] by simp [sortI]]; exact SlC.nil w
theorem OwnS.slc {w : World} {b e : Nat} {v : Go.Value} {xs : List Int} (h : OwnS w b e 1 eInt v xs) : SlC w v xs := by
  obtain ⟨ad, cp, rfl, hE⟩ := h.sl (fun _ => rfl)
  exact ⟨ad, cp, rfl, hE, own_cap h⟩
def keyN (n : Int) : K2 := (n, 0)
theorem lt_uniq {A B : List Int} (hA : A.Pairwise (· < ·)) (hB : B.Pairwise (· < ·)) (h : ∀ k, k ∈ A ↔ k ∈ B) : A = B := by
  have nA : A.Nodup := hA.imp fun {a b} h e => by omega
  have nB : B.Nodup := hB.imp fun {a b} h e => by omega
  refine sorted_eq (key := keyN) (hA.imp fun {a b} h => ?_) (hB.imp fun {a b} h => ?_) ((List.perm_ext_iff_of_nodup nA nB).2 h) fun x _ y _ e => (Prod.mk.inj e).1
  · rw [ltK_not]; show ¬ (b < a ∨ (b = a ∧ (0 : Int) < 0)); omega
  · rw [ltK_not]; show ¬ (b < a ∨ (b = a ∧ (0 : Int) < 0)); omega
theorem nodupLt {ks : List Int} (h : ks.Pairwise (· < ·)) : ks.Nodup := h.imp fun {a b} h e => by omega
theorem add_found {ks : List Int} (h : ks.Pairwise (· < ·)) {n : Int} (hn : n ∈ ks) : ks = sortI (addI ks n) := lt_uniq h (sortI_lt (addI_nodup (nodupLt h))) fun k => by rw [sortI_mem, addI_mem]; exact ⟨.inl, fun h => h.elim id fun e => e ▸ hn⟩
theorem add_new {ks : List Int} (h : ks.Pairwise (· < ·)) {n : Int} {k : Nat} (h1 : ∀ y ∈ ks.take k, y < n) (h2 : ∀ y ∈ ks.drop k, n < y) : (ks.take k ++ [n]) ++ ks.drop k = sortI (addI ks n) := by
  refine lt_uniq ?_ (sortI_lt (addI_nodup (nodupLt h))) fun j => ?_
  · rw [List.append_assoc]
    refine List.pairwise_append.2 ⟨h.sublist (List.take_sublist _ _), List.pairwise_cons.2 ⟨h2, h.sublist (List.drop_sublist _ _)⟩, fun a ha b hb => ?_⟩
    have := h1 a ha
    rcases List.mem_cons.1 hb with rfl | hb
    · exact this
    · have := h2 b hb; omega
  · rw [sortI_mem, addI_mem, List.mem_append, List.mem_append, List.mem_singleton]
    have e : j ∈ ks ↔ j ∈ ks.take k ∨ j ∈ ks.drop k := by rw [← List.mem_append, List.take_append_drop]
    rw [e]
    constructor
    · rintro ((h | h) | h)
      · exact .inl (.inl h)
      · exact .inr h
      · exact .inl (.inr h)
    · rintro ((h | h) | h)
      · exact .inl (.inl h)
      · exact .inr h
      · exact .inl (.inr h)
theorem drop_gt {ks : List Int} (h : ks.Pairwise (· < ·)) {n : Int} {k : Nat} (hk : k < ks.length → ∃ u, ks[k]? = some u ∧ n < u) : ∀ y ∈ ks.drop k, n < y := fun y hy => by
  obtain ⟨j, hj⟩ := List.mem_iff_getElem?.1 hy
  rw [List.getElem?_drop] at hj
  have hlt := (List.getElem?_eq_some_iff.1 hj).1
  obtain ⟨u, hu, hnu⟩ := hk (by omega)
  by_cases e : j = 0
  · subst e
    rw [Nat.add_zero, hu] at hj
    cases hj; exact hnu
  · obtain ⟨l1, e1⟩ := List.getElem?_eq_some_iff.1 hu
    obtain ⟨l2, e2⟩ := List.getElem?_eq_some_iff.1 hj
    have := List.pairwise_iff_getElem.1 h k (k + j) l1 l2 (by omega)
    rw [e1, e2] at this
    omega
theorem at_elem {w : World} {ad : Option Addr} {ks : List Int} (hE : Els w ad 1 eInt ks) (k : Nat) : ∃ u B o, k < ks.length → ks[k]? = some u ∧ ad = some ⟨B, o, none⟩ ∧ AggAt w B (o + k * 1) (eInt u) := by
  by_cases h0 : k < ks.length
  · obtain ⟨x, hx⟩ := getElem?_of_lt (xs := ks) (i := k) h0
    obtain ⟨B, o, h1, h2⟩ := hE k x hx
    exact ⟨x, B, o, fun _ => ⟨hx, h1, h2⟩⟩
  · exact ⟨0, 0, 0, fun h => absurd h h0⟩
theorem sortI_addI (X : List Int) (n : Int) : sortI (addI (sortI X) n) = sortI (addI X n) := by
  unfold sortI
  refine sort_perm ?_
  have hp : (X.mergeSort fun x y => decide (x ≤ y)).Perm X := List.mergeSort_perm X _
  unfold addI
  by_cases h : n ∈ X
  · rw [if_pos h, if_pos (hp.mem_iff.2 h)]; exact hp
  · rw [if_neg h, if_neg (fun e => h (hp.mem_iff.1 e))]; exact hp.append_right _
theorem filt_add_yes (X : List Int) {n : Int} (h : isIDb n = true) : (addI X n).filter isIDb = addI (X.filter isIDb) n := by
  unfold addI
  by_cases e : n ∈ X
  · rw [if_pos e, if_pos (List.mem_filter.2 ⟨e, h⟩)]
  · rw [if_neg e, if_neg (fun h2 => e (List.mem_filter.1 h2).1), List.filter_append]
    congr 1
    exact List.filter_cons_of_pos h
theorem filt_add_no (X : List Int) {n : Int} (h : isIDb n = false) : (addI X n).filter isIDb = X.filter isIDb := by
  unfold addI
  by_cases e : n ∈ X
  · rw [if_pos e]
  · rw [if_neg e, List.filter_append, List.filter_cons_of_neg (by rw [h]; exact Bool.false_ne_true), List.filter_nil, List.append_nil]
theorem lotK_nodup (l : List Fact) : (lotK l).Nodup := (foldAdd (fun f : Fact => f.Wafer) l []).1 List.nodup_nil
theorem proK_nodup (ss ps : List Fact) {ks : List Int} (h : ks.Nodup) : (proK ss ks ps).Nodup := (foldAdd (fun f : Fact => whoL ss f.Time f.Wafer) ps ks).1 h
end Go.Wx
namespace Go.Proofs.YtolkipbpklkcnaaGreat
open Go.Wx Go.RowKit
theorem rid_any (n : Int) (w : World) : Ret Tryz.prog 89 #[vi n] w fun r w' => r = .bool (isIDb n) ∧ Up w w' := by
  have hW := Up.refl w
  refine Calls_start (n := 9) (m := 9) Tryz.func89 rfl rfl rfl ?_
  refine CW.S (LW.C (LW.S (CW.region (LW.M rfl ?_))))
  refine LW.pp (PEv.geq (.tmp rfl) (.const _)) ?_
  refine LW.M rfl ?_
  refine LW.g rfl rfl rfl rfl rfl rfl rfl (fun hc => PEv.move (.tmp rfl)) ?_
  refine LW.g rfl rfl rfl rfl rfl rfl rfl (fun hc => PEv.leq (by first | exact .tmp rfl | exact .cond rfl (by first | assumption | simp_all)) (.const _)) ?_
  refine LW.pp (PEv.pick_and (.tmp rfl) (fun hp => (by first | exact .const _ | exact .tmp rfl | exact .cond rfl (by first | assumption | simp_all)))) ?_
  refine LW.A rfl (LW.T (CW.ret ?_))
  refine KW.ret1 rfl rfl ⟨_, rfl, ?_⟩
  exact ⟨rfl, hW⟩
theorem rBefore_any (a b : Fact) (w : World) : Ret Tryz.prog 168 #[.agg a.cells, .agg b.cells] w fun r w' => r = .bool (ltK (keyTI a) (keyTI b)) ∧ Up w w' := by
  have hW := Up.refl w
  refine Calls_start (n := 20) (m := 9) Tryz.func168 rfl rfl rfl ?_
  refine CW.S ?_
  refine LW.r (REv.boxA (.tmp rfl)) rfl rfl rfl rfl ?_
  rintro _ w1 ⟨B2, rfl, NB2⟩
  have eB2 := NB2.at_
  have zB2 := NB2.size
  replace hW := hW.up NB2.up
  have hB2 := NB2.blk
  refine LW.r (REv.boxA (.tmp rfl)) rfl rfl rfl rfl ?_
  rintro _ w2 ⟨B3, rfl, NB3⟩
  have eB3 := NB3.at_
  have zB3 := NB3.size
  replace hW := hW.up NB3.up
  replace hB2 := hB2.up NB3.up
  have hB3 := NB3.blk
  refine LW.C (LW.S (CW.S ?_))
  refine LW.pp (PEv.fieldAddr (off := 5) Tryz.underlying35 rfl rfl Tryz.sizeOf3 rfl (.tmp rfl)) ?_
  refine LW.pp (PEv.load Tryz.isAgg3 (.tmp rfl) (hB2.celln rfl)) ?_
  refine LW.pp (PEv.fieldAddr (off := 5) Tryz.underlying35 rfl rfl Tryz.sizeOf3 rfl (.tmp rfl)) ?_
  refine LW.pp (PEv.load Tryz.isAgg3 (.tmp rfl) (hB3.celln rfl)) ?_
  refine LW.pp (PEv.neq (.tmp rfl) (.tmp rfl)) ?_
  refine LW.T ?_
  refine CW.cond (.tmp rfl) (fun h9 => ?_) (fun h9 => ?_)
  ·first | replace h9 := dT h9 | replace h9 := dF h9 | skip
   have hne : a.Time ≠ b.Time := by simpa using h9
   refine CW.S ?_
   refine LW.pp (PEv.fieldAddr (off := 5) Tryz.underlying35 rfl rfl Tryz.sizeOf3 rfl (.tmp rfl)) ?_
   refine LW.pp (PEv.load Tryz.isAgg3 (.tmp rfl) (hB2.celln rfl)) ?_
   refine LW.pp (PEv.fieldAddr (off := 5) Tryz.underlying35 rfl rfl Tryz.sizeOf3 rfl (.tmp rfl)) ?_
   refine LW.pp (PEv.load Tryz.isAgg3 (.tmp rfl) (hB3.celln rfl)) ?_
   refine LW.pp (PEv.lss (.tmp rfl) (.tmp rfl)) ?_
   refine LW.A rfl (LW.T (CW.ret (KW.then_ret ?_)))
   refine KW.ret1 rfl rfl ⟨_, rfl, ?_⟩
   first | exact ⟨by rw [ltTI_ne hne], hW⟩ | exact ⟨by rw [ltTI_eq heq], hW⟩
  ·first | replace h9 := dT h9 | replace h9 := dF h9 | skip
   have heq : a.Time = b.Time := by simpa using h9
   refine CW.skip (KW.then (CW.S ?_))
   refine LW.pp (PEv.fieldAddr (off := 1) Tryz.underlying35 rfl rfl Tryz.sizeOf3 rfl (.tmp rfl)) ?_
   refine LW.pp (PEv.load Tryz.isAgg3 (.tmp rfl) (hB2.celln rfl)) ?_
   refine LW.pp (PEv.fieldAddr (off := 1) Tryz.underlying35 rfl rfl Tryz.sizeOf3 rfl (.tmp rfl)) ?_
   refine LW.pp (PEv.load Tryz.isAgg3 (.tmp rfl) (hB3.celln rfl)) ?_
   refine LW.pp (PEv.lss (.tmp rfl) (.tmp rfl)) ?_
   refine LW.A rfl (LW.T (CW.ret ?_))
   refine KW.ret1 rfl rfl ⟨_, rfl, ?_⟩
   first | exact ⟨by rw [ltTI_ne hne], hW⟩ | exact ⟨by rw [ltTI_eq heq], hW⟩
set_option maxHeartbeats 1000000 in
theorem rOrdered_any (ad : Option Addr) (cp : Nat) (l : List Fact) (w : World) (hE0 : Els w ad 19 Fact.cells l) (hl : l.length ≤ 1000000000) : Ret Tryz.prog 152 #[.slice ad l.length cp] w fun r w' => OwnS w' w.heap.size 35 19 Fact.cells r (sortK keyTI l) ∧ Up w w' := by
  obtain ⟨w0, rfl⟩ : ∃ w0, w0 = w := ⟨_, rfl⟩
  have hS := Sep.start no w0
  refine Calls_start (n := 49) (m := 9) Tryz.func152 rfl rfl rfl ?_
  refine CW.S (LW.C (LW.S (CW.region (LW.C (LW.S (CW.seq ?_))))))
  replace hS := hS.addn (OwnS.nil _ 0 35 19 Fact.cells)
  change Wx.Sep _ _ _ [_] at hS
  refine CW.region (LW.C (LW.T (CW.block ?_)))
  refine CW.loopB (σ := Nat × Go.Value) (fun s w => (s.1 ≤ l.length) ∧ (Wx.Sep no w0 w [aOwn 35 19 Fact.cells s.2 (sortK keyTI (l.take s.1))])) (fun s => [(4, .eq (vi (s.1 : Int))), (3, .eq (s.2))]) ([(0, .eq _), (2, .eq _)]) (fun s => l.length - s.1) (0, .slice none 0 0) ?_ ⟨rfl, rfl, rfl, rfl, trivial⟩ ?_
  ·exact ⟨Nat.zero_le _, hS⟩
  ·rintro ⟨i, v⟩ w1 ⟨hi, hS⟩
   dsimp only at hi hS
   change CW _ _ _ _ _ _ _ ([(4, .eq (vi (i : Int))), (3, .eq (v))] ++ _) _
   refine CW.seq (CW.S (LW.M rfl (LW.M rfl ?_)))
   refine LW.pp (PEv.lenS Tryz.underlying22 (.tmp rfl)) ?_
   refine LW.pp (PEv.lss (.tmp rfl) (.tmp rfl)) ?_
   refine LW.T ?_
   refine CW.cond (.tmp rfl) (fun h10 => ?_) (fun h10 => ?_)
   ·first | replace h10 := dT h10 | replace h10 := dF h10 | skip
    refine CW.skip (KW.then (CW.seq (CW.block (CW.seq ?_))))
    obtain ⟨x, hx⟩ := getElem?_of_lt (xs := l) (i := i) (by omega)
    obtain ⟨adv, cpv, rfl, _⟩ := (hS.own 0 rfl).sl (fun _ => rfl)
    have hSl := sortK_len (l.take i)
    have hil : (l.take i).length = i ∧ i < l.length := by rw [List.length_take]; omega
    refine CW.region (LW.M rfl ?_)
    refine LW.pp (PEv.lenS Tryz.underlying22 (.tmp rfl)) ?_
    refine LW.A rfl (LW.S (CW.block ?_))
    refine CW.loopB (σ := Nat) (fun s w => (s ≤ (sortK keyTI (l.take i)).length) ∧ (∀ y ∈ (sortK keyTI (l.take i)).drop s, ltK (keyTI x) (keyTI y) = true) ∧ (Wx.Sep no w0 w [aOwn 35 19 Fact.cells (.slice adv (sortK keyTI (l.take i)).length cpv) ((sortK keyTI (l.take i)))])) (fun s => [(5, .eq (vi (s : Int)))]) ([(0, .eq _), (2, .eq _), (3, .eq _), (4, .eq _)]) (fun s => s) (sortK keyTI (l.take i)).length ?_ ⟨rfl, rfl, rfl, rfl, rfl, trivial⟩ ?_
    ·exact ⟨Nat.le_refl _, (fun y hy => by rw [List.drop_length] at hy; cases hy), hS⟩
    ·rintro k w2 ⟨hk, hgt, hS⟩
     refine CW.seq (CW.seq ?_)
     obtain ⟨Bx, ox, ax, hcx⟩ := (Els.up hE0 hS.upd) i x hx
     obtain ⟨u, Bu, ou, hau⟩ := prev_elem (hS.own 0 rfl) hk
     refine CW.draws (by kernel_rfl) (by kernel_rfl) rfl rfl ?_
     refine HW.pp (PEv.move (.tmp rfl)) ?_
     refine HW.pp (PEv.gtr (.tmp rfl) (.const _)) ?_
     refine HW.pp (PEv.move (.tmp rfl)) ?_
     refine HW.g rfl rfl rfl rfl rfl rfl (fun hc => PEv.move (.tmp rfl)) ?_
     refine HW.g rfl rfl rfl rfl rfl rfl (fun hc => PEv.move (.tmp rfl)) ?_
     refine HW.g rfl rfl rfl rfl rfl rfl (fun hc => PEv.indexAddr' Tryz.underlying22 Tryz.sizeOf35 (by first | exact .tmp rfl | exact .cond rfl (by first | assumption | simp_all)) (by first | exact .tmp rfl | exact .cond rfl (by first | assumption | simp_all)) (by omega) ax) ?_
     refine HW.g rfl rfl rfl rfl rfl rfl (fun hc => PEv.loadA Tryz.isAgg35 Tryz.sizeOf35 rfl (by first | exact .tmp rfl | exact .cond rfl (by first | assumption | simp_all)) (hcx)) ?_
     refine HW.g rfl rfl rfl rfl rfl rfl (fun hc => PEv.move (.tmp rfl)) ?_
     refine HW.g rfl rfl rfl rfl rfl rfl (fun hc => PEv.move (.tmp rfl)) ?_
     refine HW.g rfl rfl rfl rfl rfl rfl (fun hc => PEv.val (v' := vi ((k - 1 : Nat) : Int)) (PEv.sub (by first | exact .tmp rfl | exact .cond rfl (by first | assumption | simp_all)) (.const _) (by omega) (by omega)) (by have h0 := (show 0 < k by simp at hc; omega); congr 1; omega)) ?_
     refine HW.g rfl rfl rfl rfl rfl rfl (fun hc => PEv.indexAddr' Tryz.underlying22 Tryz.sizeOf35 (by first | exact .tmp rfl | exact .cond rfl (by first | assumption | simp_all)) (by first | exact .tmp rfl | exact .cond rfl (by first | assumption | simp_all)) (by have h0 := (show 0 < k by simp at hc; omega); omega) (hau (show 0 < k by simp at hc; omega)).2.1) ?_
     refine HW.g rfl rfl rfl rfl rfl rfl (fun hc => PEv.loadA Tryz.isAgg35 Tryz.sizeOf35 rfl (by first | exact .tmp rfl | exact .cond rfl (by first | assumption | simp_all)) ((hau (show 0 < k by simp at hc; omega)).2.2)) ?_
     refine HW.gc rfl rfl rfl rfl rfl rfl (fun hc a w _ ha => enter_call0 (.cons (by first | exact .tmp rfl | exact .cond rfl (by first | assumption | simp_all)) (.cons (by first | exact .tmp rfl | exact .cond rfl (by first | assumption | simp_all)) .nil)) (Tryz.en168) a ha) (fun hc w hu => rBefore_any x u w) ?_
     refine HW.pp (PEv.pick_and (.tmp rfl) (fun hp => (by first | exact .const _ | exact .tmp rfl | exact .cond rfl (by first | assumption | (rw [hp]; rfl) | (rw [hc, hp]; rfl) | simp_all)))) ?_
     refine HW.nil ?_
     intro w3 uw3
     have zw3 := uw3.size
     replace hS := hS.up uw3
     refine KW.then ?_
     refine CW.cond (.tmp rfl) (fun h28 => ?_) (fun h28 => ?_)
     ·first | replace h28 := dT h28 | replace h28 := dF h28 | skip
      have h28k : 0 < k ∧ ltK (keyTI x) (keyTI u) = true := by simp only [Bool.and_eq_true, decide_eq_true_eq] at h28; exact ⟨by omega, h28.2⟩
      have hu := (hau h28k.1).1
      refine CW.skip (KW.then (CW.block (CW.region (LW.M rfl ?_))))
      refine LW.pp (PEv.sub (.tmp rfl) (.const _) (by omega) (by omega)) ?_
      refine LW.A rfl (LW.nil (KW.inBlock (KW.round ?_)))
      exact ⟨k - 1, ⟨by omega, (fun y hy => by rw [dropP h28k.1 hu] at hy; exact (List.mem_cons.1 hy).elim (fun e => e ▸ h28k.2) (hgt y)), hS⟩, ⟨by have h0 := h28k.1; rw [show ((k - 1 : Nat) : Int) = (k : Int) - 1 by omega]; rfl, rfl, rfl, rfl, rfl, trivial⟩, by first | omega | (dsimp only; omega)⟩
     ·first | replace h28 := dT h28 | replace h28 := dF h28 | skip
      have hle : k = 0 ∨ ∃ y, (sortK keyTI (l.take i))[k - 1]? = some y ∧ ltK (keyTI x) (keyTI y) = false := by
       by_cases h0 : 0 < k
       · refine .inr ⟨u, (hau h0).1, ?_⟩
         rw [decide_eq_true (show (0 : Int) < (k : Int) by omega), Bool.true_and] at h28
         exact h28
       · exact .inl (by omega)
      refine CW.exit (KW.then_exit (KW.then_exit (KW.block_hit (KW.then (CW.S (LW.C (LW.S ?_)))))))
      replace hS := hS.addn (OwnS.nil _ 0 35 19 Fact.cells)
      change Wx.Sep _ _ _ [_, _] at hS
      refine CW.region (LW.M rfl (LW.M rfl (LW.M rfl ?_)))
      refine LW.pp (PEv.sliceHi Tryz.underlying22 Tryz.sizeOf35 (.tmp rfl) (.tmp rfl) (by have := own_cap (hS.own 0 rfl); omega)) ?_
      refine LW.r (REv.appendF (enc := Fact.cells) (bytes := 160) (i := Tryz.t35) Tryz.underlying22 (by kernel_rfl) rfl rfl rfl rfl (by decide) (fun _ => rfl) Fact.one (.tmp rfl) (.tmp rfl) (hS.own 1 rfl) (own_take (hS.own 0 rfl) (by omega)) (by have := And.intro hSl hil; simp [maxLen]; omega) (by have := And.intro hSl hil; simp; omega)) rfl rfl rfl rfl ?_
      intro v35 w4 Gw4
      have zw4 := Gw4.fr.size
      replace hS := hS.stp 1 rfl Gw4
      change Wx.Sep _ _ _ [_, _] at hS
      refine LW.A rfl (LW.S ?_)
      obtain ⟨Bx, ox, ax, hcx⟩ := (Els.up hE0 hS.upd) i x hx
      refine CW.region (LW.M rfl (LW.M rfl (LW.M rfl ?_)))
      refine LW.pp (PEv.indexAddr' Tryz.underlying22 Tryz.sizeOf35 (.tmp rfl) (.tmp rfl) (by omega) ax) ?_
      refine LW.pp (PEv.loadA Tryz.isAgg35 Tryz.sizeOf35 rfl (.tmp rfl) (hcx)) ?_
      refine LW.r (REv.buildSlice (xs := [x]) (enc := Fact.cells) (mk := fun f : Fact => .agg f.cells) Tryz.underlying22 Tryz.sizeOf35 Tryz.zeroValue35 rfl (by decide) (fun _ => rfl) (fun _ => rfl) (.cons (.tmp rfl) .nil) rfl) rfl rfl rfl rfl ?_
      rintro _ w5 ⟨B41, cB41, rfl, NB41, yB41, xB41⟩
      have eB41 := NB41.at_
      have zB41 := NB41.size
      replace hS := hS.up NB41.up
      have hE41 := xB41
      refine LW.r (REv.appendF (enc := Fact.cells) (bytes := 160) (i := Tryz.t35) Tryz.underlying22 (by kernel_rfl) rfl rfl rfl rfl (by decide) (fun _ => rfl) Fact.one (.tmp rfl) (.tmp rfl) (hS.own 1 rfl) (Sl.of_els hE41) (by have := And.intro hSl hil; simp [maxLen]; omega) (by have := And.intro hSl hil; simp; omega)) rfl rfl rfl rfl ?_
      intro v42 w6 Gw6
      have zw6 := Gw6.fr.size
      replace hS := hS.stp 1 rfl Gw6
      change Wx.Sep _ _ _ [_, _] at hS
      refine LW.A rfl (LW.T (CW.region (LW.M rfl (LW.M rfl (LW.M rfl ?_)))))
      refine LW.pp (PEv.sliceFrom Tryz.underlying22 Tryz.sizeOf35 (.tmp rfl) (.tmp rfl) (by omega)) ?_
      refine LW.r (REv.appendF (enc := Fact.cells) (bytes := 160) (i := Tryz.t35) Tryz.underlying22 (by kernel_rfl) rfl rfl rfl rfl (by decide) (fun _ => rfl) Fact.one (.tmp rfl) (.tmp rfl) (hS.own 1 rfl) (Els.drop ((hS.own 0 rfl).elB (fun _ => rfl)) (own_cap (hS.own 0 rfl))) (by have := And.intro hSl hil; simp [maxLen]; omega) (by have := And.intro hSl hil; simp; omega)) rfl rfl rfl rfl ?_
      intro v47 w7 Gw7
      have zw7 := Gw7.fr.size
      replace hS := hS.stp 1 rfl Gw7
      change Wx.Sep _ _ _ [_, _] at hS
      refine LW.A rfl (LW.nil (KW.inBlock (KW.then (CW.region (LW.M rfl ?_)))))
      refine LW.pp (PEv.inc (.tmp rfl) (by omega)) ?_
      refine LW.A rfl (LW.nil (KW.round ?_))
      exact ⟨(i + 1, v47), ⟨by show i + 1 ≤ _; omega, by rw [ord_step hx hk hgt hle]; exact hS.sub (List.sublist_cons_self _ _)⟩, ⟨rfl, rfl, rfl, rfl, trivial⟩, by show l.length - (i + 1) < l.length - i; omega⟩
   ·first | replace h10 := dT h10 | replace h10 := dF h10 | skip
    refine CW.exit (KW.then_exit (KW.then_exit (KW.block_hit (KW.then (CW.S (LW.M rfl (LW.A rfl (LW.T (CW.ret ?_)))))))))
    refine KW.ret1 rfl rfl ⟨_, rfl, ?_⟩
    have hil : i = l.length := by omega
    rw [hil, List.take_length] at hS
    exact ⟨OwnS.ofSep hS, hS.upd⟩
theorem rswaps_any (bc : Array Go.Value) (b : Base) (time : Int) (w : World) (hC : BaseC w bc b) (hl : b.Swaps.length ≤ 1000000000) : Ret Tryz.prog 129 #[.agg bc, vi time] w fun r w' => OwnS w' w.heap.size 35 19 Fact.cells r (ordG (swOk time) b.Swaps) ∧ Up w w' := by
  obtain ⟨w0, rfl⟩ : ∃ w0, w0 = w := ⟨_, rfl⟩
  have hS := Sep.start no w0
  refine Calls_start (n := 40) (m := 9) Tryz.func129 rfl rfl rfl ?_
  refine CW.S ?_
  refine LW.r (REv.boxA (.tmp rfl)) rfl rfl rfl rfl ?_
  rintro _ w1 ⟨B2, rfl, NB2⟩
  have eB2 := NB2.at_
  have zB2 := NB2.size
  replace hS := hS.addB NB2
  change Wx.Sep _ _ _ [_] at hS
  refine LW.C (LW.S ?_)
  obtain ⟨v2, h2, ad, cp, rfl, hE0⟩ := hC.at2
  refine CW.region (LW.C (LW.S (CW.seq ?_)))
  replace hS := hS.addn (OwnS.nil _ 0 35 19 Fact.cells)
  change Wx.Sep _ _ _ [_, _] at hS
  have hzz := hS.upd.size
  refine CW.region (LW.C (LW.T (CW.block ?_)))
  refine CW.loopB (σ := Nat × Go.Value) (fun s w => (s.1 ≤ b.Swaps.length) ∧ (Wx.Sep no w0 w [aBlk B2 bc 27, aOwn 35 19 Fact.cells s.2 ((b.Swaps.take s.1).filter (swOk time))])) (fun s => [(6, .eq (vi (s.1 : Int))), (5, .eq (s.2))]) ([(1, .eq _), (2, .eq _), (4, .eq _)]) (fun s => b.Swaps.length - s.1) (0, .slice none 0 0) ?_ ⟨rfl, rfl, rfl, rfl, rfl, trivial⟩ ?_
  ·exact ⟨Nat.zero_le _, hS⟩
  ·rintro ⟨k, v⟩ w2 ⟨hk, hS⟩
   dsimp only at hk hS
   change CW _ _ _ _ _ _ _ ([(6, .eq (vi (k : Int))), (5, .eq (v))] ++ _) _
   refine CW.seq (CW.S (LW.M rfl ?_))
   refine LW.pp (PEv.fieldAddr (off := 2) Tryz.underlying27 rfl rfl Tryz.sizeOf22 rfl (.tmp rfl)) ?_
   refine LW.pp (PEv.load Tryz.isAgg22 (.tmp rfl) ((hS.blk 0 rfl).cell h2)) ?_
   refine LW.pp (PEv.lenS Tryz.underlying22 (.tmp rfl)) ?_
   refine LW.pp (PEv.lss (.tmp rfl) (.tmp rfl)) ?_
   refine LW.T ?_
   refine CW.cond (.tmp rfl) (fun h12 => ?_) (fun h12 => ?_)
   ·first | replace h12 := dT h12 | replace h12 := dF h12 | skip
    refine CW.skip (KW.then (CW.seq (CW.block (CW.seq ?_))))
    have hE := Els.up hE0 hS.upd
    refine CW.region ?_
    refine LW.pp (PEv.fieldAddr (off := 2) Tryz.underlying27 rfl rfl Tryz.sizeOf22 rfl (.tmp rfl)) ?_
    refine LW.pp (PEv.load Tryz.isAgg22 (.tmp rfl) ((hS.blk 0 rfl).cell h2)) ?_
    refine LW.M rfl ?_
    obtain ⟨x, hx⟩ := getElem?_of_lt (xs := b.Swaps) (i := k) (by omega)
    obtain ⟨Bx, ox, ax, hcx⟩ := hE _ x hx
    refine LW.pp (PEv.indexAddr' Tryz.underlying22 Tryz.sizeOf35 (.tmp rfl) (.tmp rfl) (by omega) ax) ?_
    refine LW.pp (PEv.loadA Tryz.isAgg35 Tryz.sizeOf35 rfl (.tmp rfl) (hcx)) ?_
    refine LW.r (REv.allocA Tryz.zeroValue35) rfl rfl rfl rfl ?_
    rintro _ w3 ⟨B7, rfl, MB7⟩
    refine LW.s (SEv.storeA Tryz.sizeOf35 rfl (.tmp rfl) (.tmp rfl) (Fact.one _) MB7.blk rfl) rfl rfl rfl ?_
    intro w4 LB7
    have NB7 := MB7.set LB7
    clear LB7 MB7
    have eB7 := NB7.at_
    have zB7 := NB7.size
    replace hcx := hcx.up NB7.up
    replace hS := hS.addB NB7
    change Wx.Sep _ _ _ [_, _, _] at hS
    refine LW.S (CW.region ?_)
    refine LW.pp (PEv.fieldAddr (off := 7) Tryz.underlying35 rfl rfl Tryz.sizeOf3 rfl (.tmp rfl)) ?_
    refine LW.pp (PEv.load Tryz.isAgg3 (.tmp rfl) ((hS.blk 2 rfl).celln rfl)) ?_
    refine LW.c (enter_call0 (.cons (.tmp rfl) .nil) (Tryz.en89)) rfl rfl rfl rfl (rid_any _ _) ?_
    rintro _ w5 ⟨rfl, uw5⟩
    have zw5 := uw5.size
    replace hS := hS.up uw5
    refine LW.M rfl ?_
    refine LW.g rfl rfl rfl rfl rfl rfl rfl (fun hc => PEv.fieldAddr (off := 8) Tryz.underlying35 rfl rfl Tryz.sizeOf3 rfl (.tmp rfl)) ?_
    refine LW.g rfl rfl rfl rfl rfl rfl rfl (fun hc => PEv.load Tryz.isAgg3 (by first | exact .tmp rfl | exact .cond rfl (by first | assumption | simp_all)) ((hS.blk 2 rfl).celln rfl)) ?_
    refine LW.gc rfl rfl rfl rfl rfl rfl rfl rfl (fun hc => enter_call0 (.cons (by first | exact .tmp rfl | exact .cond rfl (by first | assumption | simp_all)) .nil) (Tryz.en89)) (fun hc => rid_any _ _) ?_
    intro w6 uw6
    have zw6 := uw6.size
    replace hS := hS.up uw6
    refine LW.pp (PEv.pick_and (.tmp rfl) (fun hp => (by first | exact .const _ | exact .tmp rfl | exact .cond rfl (by first | assumption | (rw [hp]; rfl) | (rw [hc, hp]; rfl) | simp_all)))) ?_
    refine LW.M rfl ?_
    refine LW.g rfl rfl rfl rfl rfl rfl rfl (fun hc => PEv.fieldAddr (off := 5) Tryz.underlying35 rfl rfl Tryz.sizeOf3 rfl (.tmp rfl)) ?_
    refine LW.g rfl rfl rfl rfl rfl rfl rfl (fun hc => PEv.load Tryz.isAgg3 (by first | exact .tmp rfl | exact .cond rfl (by first | assumption | simp_all)) ((hS.blk 2 rfl).celln rfl)) ?_
    refine LW.g rfl rfl rfl rfl rfl rfl rfl (fun hc => PEv.move (.tmp rfl)) ?_
    refine LW.g rfl rfl rfl rfl rfl rfl rfl (fun hc => PEv.leq (by first | exact .tmp rfl | exact .cond rfl (by first | assumption | simp_all)) (by first | exact .tmp rfl | exact .cond rfl (by first | assumption | simp_all))) ?_
    refine LW.pp (PEv.pick_and (.tmp rfl) (fun hp => (by first | exact .const _ | exact .tmp rfl | exact .cond rfl (by first | assumption | (rw [hp]; rfl) | (rw [hc, hp]; rfl) | simp_all)))) ?_
    refine LW.T ?_
    refine CW.cond (.tmp rfl) (fun h33 => ?_) (fun h33 => ?_)
    ·first | replace h33 := dT h33 | replace h33 := dF h33 | skip
     have hfl := filt_len (swOk time) b.Swaps k
     refine CW.region (LW.M rfl ?_)
     refine LW.pp (PEv.loadA Tryz.isAgg35 Tryz.sizeOf35 rfl (.tmp rfl) ((hS.blk 2 rfl).agg)) ?_
     refine LW.r (REv.buildSlice (xs := [x]) (enc := Fact.cells) (mk := fun f : Fact => .agg f.cells) Tryz.underlying22 Tryz.sizeOf35 Tryz.zeroValue35 rfl (by decide) (fun _ => rfl) (fun _ => rfl) (.cons (.tmp rfl) .nil) rfl) rfl rfl rfl rfl ?_
     rintro _ w7 ⟨B36, cB36, rfl, NB36, yB36, xB36⟩
     have eB36 := NB36.at_
     have zB36 := NB36.size
     replace hS := hS.up NB36.up
     have hE36 := xB36
     refine LW.r (REv.appendF (enc := Fact.cells) (bytes := 160) (i := Tryz.t35) Tryz.underlying22 (by kernel_rfl) rfl rfl rfl rfl (by decide) (fun _ => rfl) Fact.one (.tmp rfl) (.tmp rfl) (hS.own 1 rfl) (Sl.of_els hE36) (by have := hfl; simp [maxLen]; omega) (by have := hfl; simp; omega)) rfl rfl rfl rfl ?_
     intro v37 w8 Gw8
     have zw8 := Gw8.fr.size
     replace hS := hS.stp 1 rfl Gw8
     change Wx.Sep _ _ _ [_, _, _] at hS
     refine LW.A rfl (LW.nil (KW.inBlock (KW.then (CW.region (LW.M rfl ?_)))))
     refine LW.pp (PEv.inc (.tmp rfl) (by omega)) ?_
     refine LW.A rfl (LW.nil (KW.round ?_))
     first | exact ⟨(k + 1, v37), ⟨by show k + 1 ≤ _; omega, by first | (rw [fp_yes hx (show swOk time x = true from h33)]; exact hS.take 2) | (rw [fp_no hx (show swOk time x = false from h33)]; exact hS.take 2)⟩, ⟨rfl, rfl, rfl, rfl, rfl, trivial⟩, by show b.Swaps.length - (k + 1) < b.Swaps.length - k; omega⟩ | exact ⟨(k + 1, v), ⟨by show k + 1 ≤ _; omega, by first | (rw [fp_yes hx (show swOk time x = true from h33)]; exact hS.take 2) | (rw [fp_no hx (show swOk time x = false from h33)]; exact hS.take 2)⟩, ⟨rfl, rfl, rfl, rfl, rfl, trivial⟩, by show b.Swaps.length - (k + 1) < b.Swaps.length - k; omega⟩
    ·first | replace h33 := dT h33 | replace h33 := dF h33 | skip
     refine CW.skip (KW.inBlock (KW.then (CW.region (LW.M rfl ?_))))
     refine LW.pp (PEv.inc (.tmp rfl) (by omega)) ?_
     refine LW.A rfl (LW.nil (KW.round ?_))
     first | exact ⟨(k + 1, v37), ⟨by show k + 1 ≤ _; omega, by first | (rw [fp_yes hx (show swOk time x = true from h33)]; exact hS.take 2) | (rw [fp_no hx (show swOk time x = false from h33)]; exact hS.take 2)⟩, ⟨rfl, rfl, rfl, rfl, rfl, trivial⟩, by show b.Swaps.length - (k + 1) < b.Swaps.length - k; omega⟩ | exact ⟨(k + 1, v), ⟨by show k + 1 ≤ _; omega, by first | (rw [fp_yes hx (show swOk time x = true from h33)]; exact hS.take 2) | (rw [fp_no hx (show swOk time x = false from h33)]; exact hS.take 2)⟩, ⟨rfl, rfl, rfl, rfl, rfl, trivial⟩, by show b.Swaps.length - (k + 1) < b.Swaps.length - k; omega⟩
   ·first | replace h12 := dT h12 | replace h12 := dF h12 | skip
    refine CW.exit (KW.then_exit (KW.then_exit (KW.block_hit (KW.then (CW.seq ?_)))))
    have hkl : k = b.Swaps.length := by omega
    rw [hkl, List.take_length] at hS
    have hzz := hS.upd.size
    obtain ⟨adv, cpv, rfl, _⟩ := (hS.own 1 rfl).sl (fun _ => rfl)
    refine CW.region (LW.M rfl ?_)
    refine LW.c (enter_call0 (.cons (.tmp rfl) .nil) (Tryz.en152)) rfl rfl rfl rfl (rOrdered_any adv cpv (b.Swaps.filter (swOk time)) _ ((hS.own 1 rfl).els (fun _ => rfl)) (Nat.le_trans (List.length_filter_le _ _) hl)) ?_
    rintro v39 w9 ⟨hO39, uw9⟩
    have zw9 := uw9.size
    replace hS := hS.up uw9
    rw [← ordG_def] at hO39
    replace hO39 := hO39.mono (show w0.heap.size ≤ _ by omega)
    refine LW.A rfl (LW.T (CW.ret ?_))
    refine KW.ret1 rfl rfl ⟨_, rfl, ?_⟩
    exact ⟨hO39, hS.upd⟩
theorem rWho_any (bc : Array Go.Value) (b : Base) (mark time : Int) (w : World) (hC : BaseC w bc b) (hl : b.Swaps.length ≤ 1000000000) : Ret Tryz.prog 91 #[.agg bc, vi mark, vi time] w fun r w' => r = vi (whoL b.Swaps time mark) ∧ Up w w' := by
  have hW := Up.refl w
  obtain ⟨w0, rfl⟩ : ∃ w0, w0 = w := ⟨_, rfl⟩
  refine Calls_start (n := 47) (m := 9) Tryz.func91 rfl rfl rfl ?_
  refine CW.S ?_
  refine LW.r (REv.boxA (.tmp rfl)) rfl rfl rfl rfl ?_
  rintro _ w1 ⟨B3, rfl, NB3⟩
  have eB3 := NB3.at_
  have zB3 := NB3.size
  replace hC := hC.up NB3.up
  replace hW := hW.up NB3.up
  have hB3 := NB3.blk
  refine LW.C (LW.S (CW.S (LW.M rfl ?_)))
  refine LW.c (enter_call0 (.cons (.tmp rfl) .nil) (Tryz.en89)) rfl rfl rfl rfl (rid_any _ _) ?_
  rintro _ w2 ⟨rfl, uw2⟩
  have zw2 := uw2.size
  replace hC := hC.up uw2
  replace hW := hW.up uw2
  replace hB3 := hB3.up uw2
  refine LW.pp (PEv.not (.tmp rfl)) ?_
  refine LW.T ?_
  refine CW.cond (.tmp rfl) (fun h11 => ?_) (fun h11 => ?_)
  ·first | replace h11 := dT h11 | replace h11 := dF h11 | skip
   have hi : isIDb mark = false := by simpa using h11
   refine CW.S (LW.C (LW.T (CW.ret (KW.then_ret ?_))))
   refine KW.ret1 rfl rfl ⟨_, rfl, ?_⟩
   first | exact ⟨by rw [whoL_eq, if_neg (by rw [hi]; exact Bool.false_ne_true)], hW⟩ | exact ⟨by rw [whoL_eq, if_pos hi, hm, show k = 0 by omega]; rfl, hW⟩
  ·first | replace h11 := dT h11 | replace h11 := dF h11 | skip
   have hi : isIDb mark = true := by simpa using h11
   refine CW.skip (KW.then (CW.S ?_))
   refine LW.pp (PEv.loadA Tryz.isAgg27 Tryz.sizeOf27 (hC.size) (.tmp rfl) (hB3.agg)) ?_
   refine LW.M rfl ?_
   refine LW.c (enter_call0 (.cons (.tmp rfl) (.cons (.tmp rfl) .nil)) (Tryz.en129)) rfl rfl rfl rfl (rswaps_any bc b time _ hC hl) ?_
   rintro v14 w3 ⟨hO14, uw3⟩
   have zw3 := uw3.size
   replace hC := hC.up uw3
   replace hW := hW.up uw3
   replace hB3 := hB3.up uw3
   obtain ⟨adL, cpL, rfl, hEL⟩ := hO14.sl (fun _ => rfl)
   replace hEL : Els w3 adL 19 Fact.cells (ordG (swOk time) b.Swaps) := hEL
   clear hO14
   have hoL := ordG_len (swOk time) b.Swaps
   refine LW.A rfl (LW.S (CW.S (LW.M rfl ?_)))
   refine LW.pp (PEv.lenS Tryz.underlying22 (.tmp rfl)) ?_
   refine LW.pp (PEv.sub (.tmp rfl) (.const _) (by omega) (by omega)) ?_
   refine LW.A rfl (LW.T (CW.block ?_))
   refine CW.loopB (σ := Nat × Int) (fun s w => (s.1 ≤ (ordG (swOk time) b.Swaps).length) ∧ (s.2 = whoF ((ordG (swOk time) b.Swaps).drop s.1) mark) ∧ (Up w3 w)) (fun s => [(8, .eq (vi ((s.1 : Int) - 1))), (1, .eq (vi s.2))]) ([(6, .eq _), (7, .eq _)]) (fun s => s.1) ((ordG (swOk time) b.Swaps).length, mark) ?_ ⟨rfl, rfl, rfl, rfl, trivial⟩ ?_
   ·exact ⟨Nat.le_refl _, by rw [List.drop_length]; rfl, Up.refl _⟩
   ·rintro ⟨k, m⟩ w4 ⟨hk, hm, hL1⟩
    dsimp only at hk hm
    change CW _ _ _ _ _ _ _ ([(8, .eq (vi ((k : Int) - 1))), (1, .eq (vi m))] ++ _) _
    have zzw4 := hL1.size
    replace hC := hC.up hL1
    replace hW := hW.up hL1
    replace hB3 := hB3.up hL1
    replace hEL := hEL.up hL1
    refine CW.seq (CW.S (LW.M rfl ?_))
    refine LW.pp (PEv.geq (.tmp rfl) (.const _)) ?_
    refine LW.T ?_
    refine CW.cond (.tmp rfl) (fun h19 => ?_) (fun h19 => ?_)
    ·first | replace h19 := dT h19 | replace h19 := dF h19 | skip
     refine CW.skip (KW.then (CW.seq (CW.block (CW.seq ?_))))
     have h0 : 0 < k := by omega
     obtain ⟨x, hx⟩ := getElem?_of_lt (xs := (ordG (swOk time) b.Swaps)) (i := k - 1) (by omega)
     obtain ⟨Bx, ox, ax, hcx⟩ := hEL (k - 1) x hx
     rw [show ((k : Int) - 1) = ((k - 1 : Nat) : Int) by omega]
     refine CW.region (LW.M rfl (LW.M rfl (LW.M rfl ?_)))
     refine LW.pp (PEv.indexAddr' Tryz.underlying22 Tryz.sizeOf35 (.tmp rfl) (.tmp rfl) (by omega) ax) ?_
     refine LW.pp (PEv.fieldAddr (off := 7) Tryz.underlying35 rfl rfl Tryz.sizeOf3 rfl (.tmp rfl)) ?_
     refine LW.pp (PEv.load Tryz.isAgg3 (.tmp rfl) (hcx.nth (j := 7) rfl)) ?_
     refine LW.pp (PEv.eql (.tmp rfl) (.tmp rfl)) ?_
     refine LW.T ?_
     refine CW.cond (.tmp rfl) (fun h28 => ?_) (fun h28 => ?_)
     ·first | replace h28 := dT h28 | replace h28 := dF h28 | skip
      refine CW.region (LW.M rfl (LW.M rfl ?_))
      refine LW.pp (PEv.indexAddr' Tryz.underlying22 Tryz.sizeOf35 (.tmp rfl) (.tmp rfl) (by omega) ax) ?_
      refine LW.pp (PEv.fieldAddr (off := 8) Tryz.underlying35 rfl rfl Tryz.sizeOf3 rfl (.tmp rfl)) ?_
      refine LW.pp (PEv.load Tryz.isAgg3 (.tmp rfl) (hcx.nth (j := 8) rfl)) ?_
      refine LW.A rfl (LW.nil (KW.inBlock (KW.then (CW.region (LW.M rfl ?_)))))
      refine LW.pp (PEv.sub (.tmp rfl) (.const _) (by omega) (by omega)) ?_
      refine LW.A rfl (LW.nil (KW.round ?_))
      first | exact ⟨(k - 1, x.Other), ⟨by show k - 1 ≤ _; omega, by rw [whoF_pred h0 hx, ← hm, tau_w h28], hL1⟩, ⟨rfl, rfl, rfl, rfl, trivial⟩, by show k - 1 < k; omega⟩ | exact ⟨(k - 1, x.Wafer), ⟨by show k - 1 ≤ _; omega, by rw [whoF_pred h0 hx, ← hm, tau_o h28 h40], hL1⟩, ⟨rfl, rfl, rfl, rfl, trivial⟩, by show k - 1 < k; omega⟩ | exact ⟨(k - 1, m), ⟨by show k - 1 ≤ _; omega, by rw [whoF_pred h0 hx, ← hm, tau_n h28 h40], hL1⟩, ⟨rfl, rfl, rfl, rfl, trivial⟩, by show k - 1 < k; omega⟩
     ·first | replace h28 := dT h28 | replace h28 := dF h28 | skip
      refine CW.S (LW.M rfl (LW.M rfl (LW.M rfl ?_)))
      refine LW.pp (PEv.indexAddr' Tryz.underlying22 Tryz.sizeOf35 (.tmp rfl) (.tmp rfl) (by omega) ax) ?_
      refine LW.pp (PEv.fieldAddr (off := 8) Tryz.underlying35 rfl rfl Tryz.sizeOf3 rfl (.tmp rfl)) ?_
      refine LW.pp (PEv.load Tryz.isAgg3 (.tmp rfl) (hcx.nth (j := 8) rfl)) ?_
      refine LW.pp (PEv.eql (.tmp rfl) (.tmp rfl)) ?_
      refine LW.T ?_
      refine CW.cond (.tmp rfl) (fun h40 => ?_) (fun h40 => ?_)
      ·first | replace h40 := dT h40 | replace h40 := dF h40 | skip
       refine CW.region (LW.M rfl (LW.M rfl ?_))
       refine LW.pp (PEv.indexAddr' Tryz.underlying22 Tryz.sizeOf35 (.tmp rfl) (.tmp rfl) (by omega) ax) ?_
       refine LW.pp (PEv.fieldAddr (off := 7) Tryz.underlying35 rfl rfl Tryz.sizeOf3 rfl (.tmp rfl)) ?_
       refine LW.pp (PEv.load Tryz.isAgg3 (.tmp rfl) (hcx.nth (j := 7) rfl)) ?_
       refine LW.A rfl (LW.nil (KW.inBlock (KW.then (CW.region (LW.M rfl ?_)))))
       refine LW.pp (PEv.sub (.tmp rfl) (.const _) (by omega) (by omega)) ?_
       refine LW.A rfl (LW.nil (KW.round ?_))
       first | exact ⟨(k - 1, x.Other), ⟨by show k - 1 ≤ _; omega, by rw [whoF_pred h0 hx, ← hm, tau_w h28], hL1⟩, ⟨rfl, rfl, rfl, rfl, trivial⟩, by show k - 1 < k; omega⟩ | exact ⟨(k - 1, x.Wafer), ⟨by show k - 1 ≤ _; omega, by rw [whoF_pred h0 hx, ← hm, tau_o h28 h40], hL1⟩, ⟨rfl, rfl, rfl, rfl, trivial⟩, by show k - 1 < k; omega⟩ | exact ⟨(k - 1, m), ⟨by show k - 1 ≤ _; omega, by rw [whoF_pred h0 hx, ← hm, tau_n h28 h40], hL1⟩, ⟨rfl, rfl, rfl, rfl, trivial⟩, by show k - 1 < k; omega⟩
      ·first | replace h40 := dT h40 | replace h40 := dF h40 | skip
       refine CW.skip (KW.inBlock (KW.then (CW.region (LW.M rfl ?_))))
       refine LW.pp (PEv.sub (.tmp rfl) (.const _) (by omega) (by omega)) ?_
       refine LW.A rfl (LW.nil (KW.round ?_))
       first | exact ⟨(k - 1, x.Other), ⟨by show k - 1 ≤ _; omega, by rw [whoF_pred h0 hx, ← hm, tau_w h28], hL1⟩, ⟨rfl, rfl, rfl, rfl, trivial⟩, by show k - 1 < k; omega⟩ | exact ⟨(k - 1, x.Wafer), ⟨by show k - 1 ≤ _; omega, by rw [whoF_pred h0 hx, ← hm, tau_o h28 h40], hL1⟩, ⟨rfl, rfl, rfl, rfl, trivial⟩, by show k - 1 < k; omega⟩ | exact ⟨(k - 1, m), ⟨by show k - 1 ≤ _; omega, by rw [whoF_pred h0 hx, ← hm, tau_n h28 h40], hL1⟩, ⟨rfl, rfl, rfl, rfl, trivial⟩, by show k - 1 < k; omega⟩
    ·first | replace h19 := dT h19 | replace h19 := dF h19 | skip
     refine CW.exit (KW.then_exit (KW.then_exit (KW.block_hit (KW.then (CW.S (LW.M rfl (LW.A rfl (LW.T (CW.ret ?_)))))))))
     refine KW.ret1 rfl rfl ⟨_, rfl, ?_⟩
     first | exact ⟨by rw [whoL_eq, if_neg (by rw [hi]; exact Bool.false_ne_true)], hW⟩ | exact ⟨by rw [whoL_eq, if_pos hi, hm, show k = 0 by omega]; rfl, hW⟩
theorem rlot_any (bc : Array Go.Value) (b : Base) (wafer time : Int) (w : World) (hC : BaseC w bc b) (hl : b.Lots.length ≤ 1000000000) : Ret Tryz.prog 86 #[.agg bc, vi wafer, vi time] w fun r w' => r = .tuple #[vi (lotOf b.Lots wafer time).1, vi (lotOf b.Lots wafer time).2] ∧ Up w w' := by
  obtain ⟨w0, rfl⟩ : ∃ w0, w0 = w := ⟨_, rfl⟩
  have hS := Sep.start no w0
  refine Calls_start (n := 55) (m := 9) Tryz.func86 rfl rfl rfl ?_
  refine CW.S ?_
  refine LW.r (REv.boxA (.tmp rfl)) rfl rfl rfl rfl ?_
  rintro _ w1 ⟨B3, rfl, NB3⟩
  have eB3 := NB3.at_
  have zB3 := NB3.size
  replace hS := hS.addB NB3
  change Wx.Sep _ _ _ [_] at hS
  refine LW.C (LW.C (LW.S (CW.region ?_)))
  refine LW.pp (PEv.build (cs := zeroF.cells) Tryz.underlying35 Tryz.zeroValue35 Tryz.places35 .nil rfl) ?_
  refine LW.r (REv.allocA Tryz.zeroValue35) rfl rfl rfl rfl ?_
  rintro _ w2 ⟨B8, rfl, MB8⟩
  refine LW.s (SEv.storeA Tryz.sizeOf35 rfl (.tmp rfl) (.tmp rfl) (Fact.one _) MB8.blk rfl) rfl rfl rfl ?_
  intro w3 LB8
  have NB8 := MB8.set LB8
  clear LB8 MB8
  have eB8 := NB8.at_
  have zB8 := NB8.size
  replace hS := hS.addB NB8
  change Wx.Sep _ _ _ [_, _] at hS
  refine LW.S (CW.region (LW.C (LW.S (CW.S (LW.C (LW.T (CW.block ?_)))))))
  refine CW.loopB (σ := Nat × Option Fact) (fun s w => (s.1 ≤ b.Lots.length) ∧ (s.2 = lotBest (b.Lots.take s.1) wafer time) ∧ (Wx.Sep no w0 w [aBlk B3 bc 27, aBlk B8 (s.2.getD zeroF).cells 35])) (fun s => [(10, .eq (vi (s.1 : Int))), (9, .eq (.bool s.2.isSome))]) ([(1, .eq _), (2, .eq _), (3, .eq _), (6, .eq _), (7, .eq _), (8, .eq _)]) (fun s => b.Lots.length - s.1) (0, none) ?_ ⟨rfl, rfl, rfl, rfl, rfl, rfl, rfl, rfl, trivial⟩ ?_
  ·exact ⟨Nat.zero_le _, rfl, hS⟩
  ·rintro ⟨k, ob⟩ w4 ⟨hk, ho, hS⟩
   dsimp only at hk ho hS
   change CW _ _ _ _ _ _ _ ([(10, .eq (vi (k : Int))), (9, .eq (.bool ob.isSome))] ++ _) _
   refine CW.seq (CW.seq ?_)
   obtain ⟨v3, h3, ad, cp, rfl, hE0⟩ := hC.at3
   refine CW.region (LW.M rfl ?_)
   refine LW.pp (PEv.fieldAddr (off := 3) Tryz.underlying27 rfl rfl Tryz.sizeOf22 rfl (.tmp rfl)) ?_
   refine LW.pp (PEv.load Tryz.isAgg22 (.tmp rfl) ((hS.blk 0 rfl).cell h3)) ?_
   refine LW.pp (PEv.lenS Tryz.underlying22 (.tmp rfl)) ?_
   refine LW.pp (PEv.lss (.tmp rfl) (.tmp rfl)) ?_
   refine LW.T ?_
   refine CW.cond (.tmp rfl) (fun h17 => ?_) (fun h17 => ?_)
   ·first | replace h17 := dT h17 | replace h17 := dF h17 | skip
    refine CW.skip (KW.then (CW.seq (CW.block (CW.seq ?_))))
    have hE := Els.up hE0 hS.upd
    refine CW.region ?_
    refine LW.pp (PEv.fieldAddr (off := 3) Tryz.underlying27 rfl rfl Tryz.sizeOf22 rfl (.tmp rfl)) ?_
    refine LW.pp (PEv.load Tryz.isAgg22 (.tmp rfl) ((hS.blk 0 rfl).cell h3)) ?_
    refine LW.M rfl ?_
    obtain ⟨x, hx⟩ := getElem?_of_lt (xs := b.Lots) (i := k) (by omega)
    obtain ⟨Bx, ox, ax, hcx⟩ := hE _ x hx
    refine LW.pp (PEv.indexAddr' Tryz.underlying22 Tryz.sizeOf35 (.tmp rfl) (.tmp rfl) (by omega) ax) ?_
    refine LW.pp (PEv.loadA Tryz.isAgg35 Tryz.sizeOf35 rfl (.tmp rfl) (hcx)) ?_
    refine LW.r (REv.allocA Tryz.zeroValue35) rfl rfl rfl rfl ?_
    rintro _ w5 ⟨B11, rfl, MB11⟩
    refine LW.s (SEv.storeA Tryz.sizeOf35 rfl (.tmp rfl) (.tmp rfl) (Fact.one _) MB11.blk rfl) rfl rfl rfl ?_
    intro w6 LB11
    have NB11 := MB11.set LB11
    clear LB11 MB11
    have eB11 := NB11.at_
    have zB11 := NB11.size
    replace hcx := hcx.up NB11.up
    replace hS := hS.addB NB11
    change Wx.Sep _ _ _ [_, _, _] at hS
    refine LW.S (CW.region (LW.M rfl ?_))
    refine LW.c (enter_call0 (.cons (.tmp rfl) .nil) (Tryz.en89)) rfl rfl rfl rfl (rid_any _ _) ?_
    rintro _ w7 ⟨rfl, uw7⟩
    have zw7 := uw7.size
    replace hS := hS.up uw7
    refine LW.M rfl ?_
    refine LW.g rfl rfl rfl rfl rfl rfl rfl (fun hc => PEv.fieldAddr (off := 7) Tryz.underlying35 rfl rfl Tryz.sizeOf3 rfl (.tmp rfl)) ?_
    refine LW.g rfl rfl rfl rfl rfl rfl rfl (fun hc => PEv.load Tryz.isAgg3 (by first | exact .tmp rfl | exact .cond rfl (by first | assumption | simp_all)) ((hS.blk 2 rfl).celln rfl)) ?_
    refine LW.g rfl rfl rfl rfl rfl rfl rfl (fun hc => PEv.move (.tmp rfl)) ?_
    refine LW.g rfl rfl rfl rfl rfl rfl rfl (fun hc => PEv.eql (by first | exact .tmp rfl | exact .cond rfl (by first | assumption | simp_all)) (by first | exact .tmp rfl | exact .cond rfl (by first | assumption | simp_all))) ?_
    refine LW.pp (PEv.pick_and (.tmp rfl) (fun hp => (by first | exact .const _ | exact .tmp rfl | exact .cond rfl (by first | assumption | (rw [hp]; rfl) | (rw [hc, hp]; rfl) | simp_all)))) ?_
    refine LW.M rfl ?_
    refine LW.g rfl rfl rfl rfl rfl rfl rfl (fun hc => PEv.fieldAddr (off := 5) Tryz.underlying35 rfl rfl Tryz.sizeOf3 rfl (.tmp rfl)) ?_
    refine LW.g rfl rfl rfl rfl rfl rfl rfl (fun hc => PEv.load Tryz.isAgg3 (by first | exact .tmp rfl | exact .cond rfl (by first | assumption | simp_all)) ((hS.blk 2 rfl).celln rfl)) ?_
    refine LW.g rfl rfl rfl rfl rfl rfl rfl (fun hc => PEv.move (.tmp rfl)) ?_
    refine LW.g rfl rfl rfl rfl rfl rfl rfl (fun hc => PEv.leq (by first | exact .tmp rfl | exact .cond rfl (by first | assumption | simp_all)) (by first | exact .tmp rfl | exact .cond rfl (by first | assumption | simp_all))) ?_
    refine LW.pp (PEv.pick_and (.tmp rfl) (fun hp => (by first | exact .const _ | exact .tmp rfl | exact .cond rfl (by first | assumption | (rw [hp]; rfl) | (rw [hc, hp]; rfl) | simp_all)))) ?_
    refine LW.M rfl ?_
    refine LW.g rfl rfl rfl rfl rfl rfl rfl (fun hc => PEv.move (.tmp rfl)) ?_
    refine LW.g rfl rfl rfl rfl rfl rfl rfl (fun hc => PEv.not (by first | exact .tmp rfl | exact .cond rfl (by first | assumption | simp_all))) ?_
    refine LW.g rfl rfl rfl rfl rfl rfl rfl (fun hc => PEv.move (by first | exact .tmp rfl | exact .cond rfl (by first | assumption | simp_all))) ?_
    refine LW.gg rfl rfl rfl rfl rfl rfl rfl (fun hc => PEv.fieldAddr (off := 5) Tryz.underlying35 rfl rfl Tryz.sizeOf3 rfl (.tmp rfl)) ?_
    refine LW.gg rfl rfl rfl rfl rfl rfl rfl (fun hc => PEv.load Tryz.isAgg3 (by first | exact .tmp rfl | exact .cond rfl (by first | assumption | simp_all)) ((hS.blk 2 rfl).celln rfl)) ?_
    refine LW.gg rfl rfl rfl rfl rfl rfl rfl (fun hc => PEv.fieldAddr (off := 5) Tryz.underlying35 rfl rfl Tryz.sizeOf3 rfl (.tmp rfl)) ?_
    refine LW.gg rfl rfl rfl rfl rfl rfl rfl (fun hc => PEv.load Tryz.isAgg3 (by first | exact .tmp rfl | exact .cond rfl (by first | assumption | simp_all)) ((hS.blk 1 rfl).celln rfl)) ?_
    refine LW.gg rfl rfl rfl rfl rfl rfl rfl (fun hc => PEv.gtr (by first | exact .tmp rfl | exact .cond rfl (by first | assumption | simp_all)) (by first | exact .tmp rfl | exact .cond rfl (by first | assumption | simp_all))) ?_
    refine LW.g rfl rfl rfl rfl rfl rfl rfl (fun hc => PEv.pick_or (by first | exact .tmp rfl | exact .cond rfl (by first | assumption | simp_all)) (fun hp => (by first | exact .const _ | exact .tmp rfl | exact .cond rfl (by first | assumption | (rw [hp]; rfl) | (rw [hc, hp]; rfl) | simp_all)))) ?_
    refine LW.pp (PEv.pick_and (.tmp rfl) (fun hp => (by first | exact .const _ | exact .tmp rfl | exact .cond rfl (by first | assumption | (rw [hp]; rfl) | (rw [hc, hp]; rfl) | simp_all)))) ?_
    refine LW.T ?_
    refine CW.cond (.tmp rfl) (fun h49 => ?_) (fun h49 => ?_)
    ·first | replace h49 := dT h49 | replace h49 := dF h49 | skip
     rw [lot_takes] at h49
     refine CW.S ?_
     refine LW.pp (PEv.loadA Tryz.isAgg35 Tryz.sizeOf35 rfl (.tmp rfl) ((hS.blk 2 rfl).agg)) ?_
     refine LW.s (SEv.storeA Tryz.sizeOf35 rfl (.tmp rfl) (.tmp rfl) (Fact.one _) (hS.blk 1 rfl) rfl) rfl rfl rfl ?_
     intro w8 Nw8
     have zw8 := Nw8.size
     replace hS := hS.putB 1 rfl (show Set_ _ w8 _ (((some x).getD zeroF).cells) _ from Nw8)
     change Wx.Sep _ _ _ [_, _, _] at hS
     refine LW.T (CW.region (LW.C (LW.nil (KW.inBlock (KW.then (CW.region (LW.M rfl ?_)))))))
     refine LW.pp (PEv.inc (.tmp rfl) (by omega)) ?_
     refine LW.A rfl (LW.nil (KW.round ?_))
     first | exact ⟨(k + 1, some x), ⟨by show k + 1 ≤ _; omega, by rw [lotBest_step hx, ← ho, if_pos h49], hS.take 2⟩, ⟨rfl, rfl, rfl, rfl, rfl, rfl, rfl, rfl, trivial⟩, by show b.Lots.length - (k + 1) < b.Lots.length - k; omega⟩ | exact ⟨(k + 1, ob), ⟨by show k + 1 ≤ _; omega, by rw [lotBest_step hx, ← ho, if_neg (by rw [h49]; exact Bool.false_ne_true)], hS.take 2⟩, ⟨rfl, rfl, rfl, rfl, rfl, rfl, rfl, rfl, trivial⟩, by show b.Lots.length - (k + 1) < b.Lots.length - k; omega⟩
    ·first | replace h49 := dT h49 | replace h49 := dF h49 | skip
     rw [lot_takes] at h49
     refine CW.skip (KW.inBlock (KW.then (CW.region (LW.M rfl ?_))))
     refine LW.pp (PEv.inc (.tmp rfl) (by omega)) ?_
     refine LW.A rfl (LW.nil (KW.round ?_))
     first | exact ⟨(k + 1, some x), ⟨by show k + 1 ≤ _; omega, by rw [lotBest_step hx, ← ho, if_pos h49], hS.take 2⟩, ⟨rfl, rfl, rfl, rfl, rfl, rfl, rfl, rfl, trivial⟩, by show b.Lots.length - (k + 1) < b.Lots.length - k; omega⟩ | exact ⟨(k + 1, ob), ⟨by show k + 1 ≤ _; omega, by rw [lotBest_step hx, ← ho, if_neg (by rw [h49]; exact Bool.false_ne_true)], hS.take 2⟩, ⟨rfl, rfl, rfl, rfl, rfl, rfl, rfl, rfl, trivial⟩, by show b.Lots.length - (k + 1) < b.Lots.length - k; omega⟩
   ·first | replace h17 := dT h17 | replace h17 := dF h17 | skip
    refine CW.exit (KW.then_exit (KW.then_exit (KW.block_hit (KW.then (CW.seq ?_)))))
    have hkl : k = b.Lots.length := by omega
    rw [hkl, List.take_length] at ho
    refine CW.draws (by kernel_rfl) (by kernel_rfl) rfl rfl ?_
    refine HW.pp (PEv.fieldAddr (off := 9) Tryz.underlying35 rfl rfl Tryz.sizeOf3 rfl (.tmp rfl)) ?_
    refine HW.pp (PEv.load Tryz.isAgg3 (.tmp rfl) ((hS.blk 1 rfl).celln rfl)) ?_
    refine HW.pp (PEv.fieldAddr (off := 10) Tryz.underlying35 rfl rfl Tryz.sizeOf3 rfl (.tmp rfl)) ?_
    refine HW.pp (PEv.load Tryz.isAgg3 (.tmp rfl) ((hS.blk 1 rfl).celln rfl)) ?_
    refine HW.pp (PEv.assign (.tmp rfl)) ?_
    refine HW.pp (PEv.assign (.tmp rfl)) ?_
    refine HW.nil ?_
    intro w9 uw9
    have zw9 := uw9.size
    replace hS := hS.up uw9
    refine KW.then (CW.ret ?_)
    refine KW.ret2 rfl rfl rfl ⟨_, rfl, ?_⟩
    exact ⟨by rw [lotOf_def, ← ho], hS.upd⟩
theorem radd_any (ad : Option Addr) (cp : Nat) (ks : List Int) (n : Int) (w : World) (hE : Els w ad 1 eInt ks) (hcp : ks.length ≤ cp) (hks : ks.length ≤ 10000000) (hlt : ks.Pairwise (· < ·)) : Ret Tryz.prog 90 #[.slice ad ks.length cp, vi n] w fun r w' => SlC w' r (sortI (addI ks n)) ∧ Up w w' := by
  obtain ⟨w0, rfl⟩ : ∃ w0, w0 = w := ⟨_, rfl⟩
  have hS := Sep.start no w0
  refine Calls_start (n := 48) (m := 9) Tryz.func90 rfl rfl rfl ?_
  refine CW.S (LW.C (LW.S (CW.region (LW.C (LW.S (CW.block ?_))))))
  refine CW.loopB (σ := Nat) (fun s w => (s ≤ ks.length) ∧ (∀ y ∈ ks.take s, y < n) ∧ (Wx.Sep no w0 w [])) (fun s => [(5, .eq (vi (s : Int)))]) ([(0, .eq _), (1, .eq _), (4, .eq _)]) (fun s => ks.length - s) 0 ?_ ⟨rfl, rfl, rfl, rfl, trivial⟩ ?_
  ·exact ⟨Nat.zero_le _, (fun y hy => by cases hy), hS⟩
  ·rintro k w1 ⟨hk, hlo, hS⟩
   refine CW.seq (CW.seq ?_)
   obtain ⟨u, Bu, ou, hau⟩ := at_elem (Els.up hE hS.upd) k
   refine CW.region (LW.M rfl (LW.M rfl ?_))
   refine LW.pp (PEv.lenS Tryz.underlying30 (.tmp rfl)) ?_
   refine LW.pp (PEv.lss (.tmp rfl) (.tmp rfl)) ?_
   refine LW.M rfl ?_
   refine LW.g rfl rfl rfl rfl rfl rfl rfl (fun hc => PEv.move (.tmp rfl)) ?_
   refine LW.g rfl rfl rfl rfl rfl rfl rfl (fun hc => PEv.move (.tmp rfl)) ?_
   refine LW.g rfl rfl rfl rfl rfl rfl rfl (fun hc => PEv.indexAddr' Tryz.underlying30 Tryz.sizeOf3 (by first | exact .tmp rfl | exact .cond rfl (by first | assumption | simp_all)) (by first | exact .tmp rfl | exact .cond rfl (by first | assumption | simp_all)) (by have h0 := (show k < ks.length by simp at hc; omega); omega) (hau (show k < ks.length by simp at hc; omega)).2.1) ?_
   refine LW.g rfl rfl rfl rfl rfl rfl rfl (fun hc => PEv.load Tryz.isAgg3 (by first | exact .tmp rfl | exact .cond rfl (by first | assumption | simp_all)) (((hau (show k < ks.length by simp at hc; omega)).2.2).nth (j := 0) rfl)) ?_
   refine LW.g rfl rfl rfl rfl rfl rfl rfl (fun hc => PEv.move (.tmp rfl)) ?_
   refine LW.g rfl rfl rfl rfl rfl rfl rfl (fun hc => PEv.lss (by first | exact .tmp rfl | exact .cond rfl (by first | assumption | simp_all)) (by first | exact .tmp rfl | exact .cond rfl (by first | assumption | simp_all))) ?_
   refine LW.pp (PEv.pick_and (.tmp rfl) (fun hp => (by first | exact .const _ | exact .tmp rfl | exact .cond rfl (by first | assumption | (rw [hp]; rfl) | (rw [hc, hp]; rfl) | simp_all)))) ?_
   refine LW.T ?_
   refine CW.cond (.tmp rfl) (fun h18 => ?_) (fun h18 => ?_)
   ·first | replace h18 := dT h18 | replace h18 := dF h18 | skip
    have h18k : k < ks.length ∧ u < n := by simp only [Bool.and_eq_true, decide_eq_true_eq] at h18; omega
    have hu := (hau h18k.1).1
    refine CW.skip (KW.then (CW.block (CW.region (LW.M rfl ?_))))
    refine LW.pp (PEv.inc (.tmp rfl) (by omega)) ?_
    refine LW.A rfl (LW.nil (KW.inBlock (KW.round ?_)))
    exact ⟨k + 1, ⟨by omega, (fun y hy => by rw [take_succ_of hu, List.mem_append, List.mem_singleton] at hy; exact hy.elim (hlo y) (fun e => by rw [e]; exact h18k.2)), hS⟩, ⟨rfl, rfl, rfl, rfl, trivial⟩, by first | omega | (dsimp only; omega)⟩
   ·first | replace h18 := dT h18 | replace h18 := dF h18 | skip
    have h18k : k < ks.length → ¬ u < n := fun h h2 => by rw [decide_eq_true (show (k : Int) < (ks.length : Int) by omega), decide_eq_true h2] at h18; cases h18
    refine CW.exit (KW.then_exit (KW.then_exit (KW.block_hit (KW.then (CW.seq (CW.S (LW.M rfl (LW.M rfl ?_))))))))
    refine LW.pp (PEv.lenS Tryz.underlying30 (.tmp rfl)) ?_
    refine LW.pp (PEv.lss (.tmp rfl) (.tmp rfl)) ?_
    refine LW.M rfl ?_
    refine LW.g rfl rfl rfl rfl rfl rfl rfl (fun hc => PEv.move (.tmp rfl)) ?_
    refine LW.g rfl rfl rfl rfl rfl rfl rfl (fun hc => PEv.move (.tmp rfl)) ?_
    refine LW.g rfl rfl rfl rfl rfl rfl rfl (fun hc => PEv.indexAddr' Tryz.underlying30 Tryz.sizeOf3 (by first | exact .tmp rfl | exact .cond rfl (by first | assumption | simp_all)) (by first | exact .tmp rfl | exact .cond rfl (by first | assumption | simp_all)) (by have h0 := (show k < ks.length by simp at hc; omega); omega) (hau (show k < ks.length by simp at hc; omega)).2.1) ?_
    refine LW.g rfl rfl rfl rfl rfl rfl rfl (fun hc => PEv.load Tryz.isAgg3 (by first | exact .tmp rfl | exact .cond rfl (by first | assumption | simp_all)) (((hau (show k < ks.length by simp at hc; omega)).2.2).nth (j := 0) rfl)) ?_
    refine LW.g rfl rfl rfl rfl rfl rfl rfl (fun hc => PEv.move (.tmp rfl)) ?_
    refine LW.g rfl rfl rfl rfl rfl rfl rfl (fun hc => PEv.eql (by first | exact .tmp rfl | exact .cond rfl (by first | assumption | simp_all)) (by first | exact .tmp rfl | exact .cond rfl (by first | assumption | simp_all))) ?_
    refine LW.pp (PEv.pick_and (.tmp rfl) (fun hp => (by first | exact .const _ | exact .tmp rfl | exact .cond rfl (by first | assumption | (rw [hp]; rfl) | (rw [hc, hp]; rfl) | simp_all)))) ?_
    refine LW.T ?_
    refine CW.cond (.tmp rfl) (fun h32 => ?_) (fun h32 => ?_)
    ·first | replace h32 := dT h32 | replace h32 := dF h32 | skip
     have h32k : k < ks.length ∧ u = n := by simp only [Bool.and_eq_true, decide_eq_true_eq] at h32; omega
     have hu := (hau h32k.1).1
     refine CW.S (LW.M rfl (LW.A rfl (LW.T (CW.ret (KW.then_ret ?_)))))
     refine KW.ret1 rfl rfl ⟨_, rfl, ?_⟩
     first | exact ⟨by rw [← add_found hlt (List.mem_of_getElem? (h32k.2 ▸ hu))]; exact ⟨ad, cp, rfl, Els.up hE hS.upd, hcp⟩, hS.upd⟩ | exact ⟨by rw [← add_new hlt hlo hdg]; exact OwnS.slc (hS.own 0 rfl), hS.upd⟩
    ·first | replace h32 := dT h32 | replace h32 := dF h32 | skip
     have hk2 : k < ks.length → ∃ u, ks[k]? = some u ∧ n < u := fun h => ⟨u, (hau h).1, by
      have h2 : ¬ u = n := fun e => by rw [decide_eq_true (show (k : Int) < (ks.length : Int) by omega), decide_eq_true e] at h32; cases h32
      have := h18k h
      omega⟩
     refine CW.skip (KW.then (CW.S (LW.C (LW.S ?_))))
     replace hS := hS.addn (OwnS.nil _ 0 3 1 eInt)
     change Wx.Sep _ _ _ [_] at hS
     have hdg := drop_gt hlt hk2
     refine CW.region (LW.M rfl (LW.M rfl (LW.M rfl ?_)))
     refine LW.pp (PEv.sliceHi Tryz.underlying30 Tryz.sizeOf3 (.tmp rfl) (.tmp rfl) (by omega)) ?_
     refine LW.r (REv.appendF (enc := eInt) (bytes := 8) (i := Tryz.t3) Tryz.underlying30 (by kernel_rfl) rfl rfl rfl rfl (by decide) (fun _ => rfl) eInt_one (.tmp rfl) (.tmp rfl) (hS.own 0 rfl) (by have := (Els.take (j := k) hE); exact ⟨ad, cp, by rw [List.length_take, Nat.min_eq_left hk], Els.up this hS.upd⟩) (by have := hks; simp [maxLen]; omega) (by have := hks; simp; omega)) rfl rfl rfl rfl ?_
     intro v38 w2 Gw2
     have zw2 := Gw2.fr.size
     replace hS := hS.stp 0 rfl Gw2
     change Wx.Sep _ _ _ [_] at hS
     refine LW.A rfl (LW.S (CW.region (LW.M rfl (LW.M rfl ?_))))
     refine LW.r (REv.buildSlice (xs := [n]) (enc := eInt) (mk := vi) Tryz.underlying30 Tryz.sizeOf3 Tryz.zeroValue3 rfl (by decide) (fun _ => rfl) (fun _ => rfl) (.cons (.tmp rfl) .nil) rfl) rfl rfl rfl rfl ?_
     rintro _ w3 ⟨B41, cB41, rfl, NB41, yB41, xB41⟩
     have eB41 := NB41.at_
     have zB41 := NB41.size
     replace hS := hS.up NB41.up
     have hE41 := xB41
     refine LW.r (REv.appendF (enc := eInt) (bytes := 8) (i := Tryz.t3) Tryz.underlying30 (by kernel_rfl) rfl rfl rfl rfl (by decide) (fun _ => rfl) eInt_one (.tmp rfl) (.tmp rfl) (hS.own 0 rfl) (Sl.of_els hE41) (by have := hks; simp [maxLen]; omega) (by have := hks; simp; omega)) rfl rfl rfl rfl ?_
     intro v42 w4 Gw4
     have zw4 := Gw4.fr.size
     replace hS := hS.stp 0 rfl Gw4
     change Wx.Sep _ _ _ [_] at hS
     refine LW.A rfl (LW.S (CW.region (LW.M rfl (LW.M rfl (LW.M rfl ?_)))))
     refine LW.pp (PEv.sliceFrom Tryz.underlying30 Tryz.sizeOf3 (.tmp rfl) (.tmp rfl) (by omega)) ?_
     refine LW.r (REv.appendF (enc := eInt) (bytes := 8) (i := Tryz.t3) Tryz.underlying30 (by kernel_rfl) rfl rfl rfl rfl (by decide) (fun _ => rfl) eInt_one (.tmp rfl) (.tmp rfl) (hS.own 0 rfl) (Els.drop (Els.up hE hS.upd) hcp) (by have := hks; simp [maxLen]; omega) (by have := hks; simp; omega)) rfl rfl rfl rfl ?_
     intro v47 w5 Gw5
     have zw5 := Gw5.fr.size
     replace hS := hS.stp 0 rfl Gw5
     change Wx.Sep _ _ _ [_] at hS
     refine LW.A rfl (LW.T (CW.ret ?_))
     refine KW.ret1 rfl rfl ⟨_, rfl, ?_⟩
     first | exact ⟨by rw [← add_found hlt (List.mem_of_getElem? (h32k.2 ▸ hu))]; exact ⟨ad, cp, rfl, Els.up hE hS.upd, hcp⟩, hS.upd⟩ | exact ⟨by rw [← add_new hlt hlo hdg]; exact OwnS.slc (hS.own 0 rfl), hS.upd⟩
theorem rWafers_any (bc : Array Go.Value) (b : Base) (w : World) (hC : BaseC w bc b) (hs : b.Swaps.length ≤ 1000000000) (hl : b.Lots.length ≤ 1000000) (hp : b.Processes.length ≤ 1000000) : Ret Tryz.prog 48 #[.agg bc] w fun r w' => Sl w' r 1 eInt (wafersL b.Lots b.Processes b.Swaps) ∧ Up w w' := by
  have hW := Up.refl w
  obtain ⟨w0, rfl⟩ : ∃ w0, w0 = w := ⟨_, rfl⟩
  refine Calls_start (n := 56) (m := 9) Tryz.func48 rfl rfl rfl ?_
  refine CW.S ?_
  refine LW.r (REv.boxA (.tmp rfl)) rfl rfl rfl rfl ?_
  rintro _ w1 ⟨B1, rfl, NB1⟩
  have eB1 := NB1.at_
  have zB1 := NB1.size
  replace hC := hC.up NB1.up
  replace hW := hW.up NB1.up
  have hB1 := NB1.blk
  refine LW.C (LW.S (CW.region (LW.C (LW.S (CW.S (LW.C (LW.T ?_)))))))
  refine CW.block ?_
  refine CW.loopB (σ := Nat × Go.Value) (fun s w => (s.1 ≤ b.Lots.length) ∧ (Up w0 w) ∧ (Blk w B1 bc 27) ∧ (BaseC w bc b) ∧ (SlC w s.2 (sortI ((lotK (b.Lots.take s.1)).filter isIDb)))) (fun s => [(4, .eq (vi (s.1 : Int))), (3, .eq (s.2))]) ([(1, .eq _), (2, .eq _)]) (fun s => b.Lots.length - s.1) (0, .slice none 0 0) ?_ ⟨rfl, rfl, rfl, rfl, trivial⟩ ?_
  ·exact ⟨Nat.zero_le _, hW, hB1, hC, SlC.nil0 _⟩
  ·rintro ⟨k, v⟩ w2 ⟨hk, hW, hB1, hC, hV⟩
   dsimp only at hk hV
   change CW _ _ _ _ _ _ _ ([(4, .eq (vi (k : Int))), (3, .eq (v))] ++ _) _
   refine CW.seq (CW.seq ?_)
   obtain ⟨v3, h3, ad, cp, rfl, hE⟩ := hC.at3
   refine CW.region (LW.M rfl ?_)
   refine LW.pp (PEv.fieldAddr (off := 3) Tryz.underlying27 rfl rfl Tryz.sizeOf22 rfl (.tmp rfl)) ?_
   refine LW.pp (PEv.load Tryz.isAgg22 (.tmp rfl) (hB1.cell h3)) ?_
   refine LW.pp (PEv.lenS Tryz.underlying22 (.tmp rfl)) ?_
   refine LW.pp (PEv.lss (.tmp rfl) (.tmp rfl)) ?_
   refine LW.T ?_
   refine CW.cond (.tmp rfl) (fun h11 => ?_) (fun h11 => ?_)
   ·first | replace h11 := dT h11 | replace h11 := dF h11 | skip
    refine CW.skip (KW.then (CW.seq (CW.block (CW.seq ?_))))
    obtain ⟨x, hx⟩ := getElem?_of_lt (xs := b.Lots) (i := k) (by omega)
    obtain ⟨Bx, ox, ax, hcx⟩ := hE k x hx
    have hlk := Nat.le_trans (List.length_filter_le isIDb _) (lotK_len (b.Lots.take k))
    have hlk2 : (b.Lots.take k).length ≤ k := by rw [List.length_take]; omega
    refine CW.region ?_
    refine LW.pp (PEv.fieldAddr (off := 3) Tryz.underlying27 rfl rfl Tryz.sizeOf22 rfl (.tmp rfl)) ?_
    refine LW.pp (PEv.load Tryz.isAgg22 (.tmp rfl) (hB1.cell h3)) ?_
    refine LW.M rfl ?_
    refine LW.pp (PEv.indexAddr' Tryz.underlying22 Tryz.sizeOf35 (.tmp rfl) (.tmp rfl) (by omega) ax) ?_
    refine LW.pp (PEv.fieldAddr (off := 7) Tryz.underlying35 rfl rfl Tryz.sizeOf3 rfl (.tmp rfl)) ?_
    refine LW.pp (PEv.load Tryz.isAgg3 (.tmp rfl) (hcx.nth (j := 7) rfl)) ?_
    refine LW.c (enter_call0 (.cons (.tmp rfl) .nil) (Tryz.en89)) rfl rfl rfl rfl (rid_any _ _) ?_
    rintro _ w3 ⟨rfl, uw3⟩
    have zw3 := uw3.size
    replace hW := hW.up uw3
    replace hB1 := hB1.up uw3
    replace hC := hC.up uw3
    replace hV := hV.up uw3
    refine LW.T ?_
    refine CW.cond (.tmp rfl) (fun h20 => ?_) (fun h20 => ?_)
    ·first | replace h20 := dT h20 | replace h20 := dF h20 | skip
     have hid := h20
     obtain ⟨v3, h3, ad, cp, rfl, hE⟩ := hC.at3
     obtain ⟨Bx, ox, ax, hcx⟩ := hE k x hx
     obtain ⟨adv, cpv, rfl, hEv, hcv⟩ := hV
     refine CW.region (LW.M rfl ?_)
     refine LW.pp (PEv.fieldAddr (off := 3) Tryz.underlying27 rfl rfl Tryz.sizeOf22 rfl (.tmp rfl)) ?_
     refine LW.pp (PEv.load Tryz.isAgg22 (.tmp rfl) (hB1.cell h3)) ?_
     refine LW.M rfl ?_
     refine LW.pp (PEv.indexAddr' Tryz.underlying22 Tryz.sizeOf35 (.tmp rfl) (.tmp rfl) (by omega) ax) ?_
     refine LW.pp (PEv.fieldAddr (off := 7) Tryz.underlying35 rfl rfl Tryz.sizeOf3 rfl (.tmp rfl)) ?_
     refine LW.pp (PEv.load Tryz.isAgg3 (.tmp rfl) (hcx.nth (j := 7) rfl)) ?_
     refine LW.c (enter_call0 (.cons (.tmp rfl) (.cons (.tmp rfl) .nil)) (Tryz.en90)) rfl rfl rfl rfl (radd_any adv cpv (sortI ((lotK (b.Lots.take k)).filter isIDb)) x.Wafer _ hEv hcv (by rw [sortI_len]; omega) (sortI_lt ((lotK_nodup _).filter _))) ?_
     rintro v28 w4 ⟨hV2, uw4⟩
     have zw4 := uw4.size
     replace hW := hW.up uw4
     replace hB1 := hB1.up uw4
     replace hC := hC.up uw4
     rw [sortI_addI, ← filt_add_yes _ hid] at hV2
     refine LW.A rfl (LW.nil (KW.inBlock (KW.then (CW.region (LW.M rfl ?_)))))
     refine LW.pp (PEv.inc (.tmp rfl) (by omega)) ?_
     refine LW.A rfl (LW.nil (KW.round ?_))
     first | exact ⟨(k + 1, v28), ⟨by show k + 1 ≤ _; omega, hW, hB1, hC, by rw [lotK_step hx]; first | exact hV2 | (rw [filt_add_no _ hid]; exact hV)⟩, ⟨rfl, rfl, rfl, rfl, trivial⟩, by show b.Lots.length - (k + 1) < b.Lots.length - k; omega⟩ | exact ⟨(k + 1, v), ⟨by show k + 1 ≤ _; omega, hW, hB1, hC, by rw [lotK_step hx]; first | exact hV2 | (rw [filt_add_no _ hid]; exact hV)⟩, ⟨rfl, rfl, rfl, rfl, trivial⟩, by show b.Lots.length - (k + 1) < b.Lots.length - k; omega⟩
    ·first | replace h20 := dT h20 | replace h20 := dF h20 | skip
     have hid := h20
     refine CW.skip (KW.inBlock (KW.then (CW.region (LW.M rfl ?_))))
     refine LW.pp (PEv.inc (.tmp rfl) (by omega)) ?_
     refine LW.A rfl (LW.nil (KW.round ?_))
     first | exact ⟨(k + 1, v28), ⟨by show k + 1 ≤ _; omega, hW, hB1, hC, by rw [lotK_step hx]; first | exact hV2 | (rw [filt_add_no _ hid]; exact hV)⟩, ⟨rfl, rfl, rfl, rfl, trivial⟩, by show b.Lots.length - (k + 1) < b.Lots.length - k; omega⟩ | exact ⟨(k + 1, v), ⟨by show k + 1 ≤ _; omega, hW, hB1, hC, by rw [lotK_step hx]; first | exact hV2 | (rw [filt_add_no _ hid]; exact hV)⟩, ⟨rfl, rfl, rfl, rfl, trivial⟩, by show b.Lots.length - (k + 1) < b.Lots.length - k; omega⟩
   ·first | replace h11 := dT h11 | replace h11 := dF h11 | skip
    refine CW.exit (KW.then_exit (KW.then_exit (KW.block_hit (KW.then (CW.seq (CW.seq ?_))))))
    have hkl : k = b.Lots.length := by omega
    rw [hkl, List.take_length] at hV
    refine CW.region (LW.C (LW.T (CW.block ?_)))
    refine CW.loopB (σ := Nat × Go.Value) (fun s w => (s.1 ≤ b.Processes.length) ∧ (Up w0 w) ∧ (Blk w B1 bc 27) ∧ (BaseC w bc b) ∧ (SlC w s.2 (sortI ((proK b.Swaps (lotK b.Lots) (b.Processes.take s.1)).filter isIDb)))) (fun s => [(5, .eq (vi (s.1 : Int))), (3, .eq (s.2))]) ([(1, .eq _), (2, .eq _)]) (fun s => b.Processes.length - s.1) (0, v) ?_ ⟨rfl, rfl, rfl, rfl, trivial⟩ ?_
    ·exact ⟨Nat.zero_le _, hW, hB1, hC, hV⟩
    ·rintro ⟨j, v⟩ w5 ⟨hj, hW, hB1, hC, hV⟩
     dsimp only at hj hV
     change CW _ _ _ _ _ _ _ ([(5, .eq (vi (j : Int))), (3, .eq (v))] ++ _) _
     refine CW.seq (CW.seq ?_)
     obtain ⟨v0, h0, ad0, cp0, rfl, hEp⟩ := hC.at0
     refine CW.region (LW.M rfl ?_)
     refine LW.pp (PEv.fieldAddr (off := 0) Tryz.underlying27 rfl rfl Tryz.sizeOf22 rfl (.tmp rfl)) ?_
     refine LW.pp (PEv.load Tryz.isAgg22 (.tmp rfl) (hB1.cell h0)) ?_
     refine LW.pp (PEv.lenS Tryz.underlying22 (.tmp rfl)) ?_
     refine LW.pp (PEv.lss (.tmp rfl) (.tmp rfl)) ?_
     refine LW.T ?_
     refine CW.cond (.tmp rfl) (fun h33 => ?_) (fun h33 => ?_)
     ·first | replace h33 := dT h33 | replace h33 := dF h33 | skip
      refine CW.skip (KW.then (CW.seq (CW.block (CW.seq ?_))))
      obtain ⟨y, hy⟩ := getElem?_of_lt (xs := b.Processes) (i := j) (by omega)
      obtain ⟨By, oy, ay, hcy⟩ := hEp j y hy
      have hlk := Nat.le_trans (List.length_filter_le isIDb _) (proK_len b.Swaps (lotK b.Lots) (b.Processes.take j))
      have hlk2 : (b.Processes.take j).length ≤ j := by rw [List.length_take]; omega
      have hlk3 := lotK_len b.Lots
      refine CW.draws_then 13 (by kernel_rfl) (by kernel_rfl) (by kernel_rfl) (by kernel_rfl) (by kernel_rfl) rfl rfl ?_
      refine HW.pp (PEv.loadA Tryz.isAgg27 Tryz.sizeOf27 (hC.size) (.tmp rfl) (hB1.agg)) ?_
      refine HW.pp (PEv.fieldAddr (off := 0) Tryz.underlying27 rfl rfl Tryz.sizeOf22 rfl (.tmp rfl)) ?_
      refine HW.pp (PEv.load Tryz.isAgg22 (.tmp rfl) (hB1.cell h0)) ?_
      refine HW.pp (PEv.move (.tmp rfl)) ?_
      refine HW.pp (PEv.indexAddr' Tryz.underlying22 Tryz.sizeOf35 (.tmp rfl) (.tmp rfl) (by omega) ay) ?_
      refine HW.pp (PEv.fieldAddr (off := 7) Tryz.underlying35 rfl rfl Tryz.sizeOf3 rfl (.tmp rfl)) ?_
      refine HW.pp (PEv.load Tryz.isAgg3 (.tmp rfl) (hcy.nth (j := 7) rfl)) ?_
      refine HW.pp (PEv.fieldAddr (off := 0) Tryz.underlying27 rfl rfl Tryz.sizeOf22 rfl (.tmp rfl)) ?_
      refine HW.pp (PEv.load Tryz.isAgg22 (.tmp rfl) (hB1.cell h0)) ?_
      refine HW.pp (PEv.move (.tmp rfl)) ?_
      refine HW.pp (PEv.indexAddr' Tryz.underlying22 Tryz.sizeOf35 (.tmp rfl) (.tmp rfl) (by omega) ay) ?_
      refine HW.pp (PEv.fieldAddr (off := 5) Tryz.underlying35 rfl rfl Tryz.sizeOf3 rfl (.tmp rfl)) ?_
      refine HW.pp (PEv.load Tryz.isAgg3 (.tmp rfl) (hcy.nth (j := 5) rfl)) ?_
      refine HW.nil ?_
      intro w6 uw6
      have zw6 := uw6.size
      replace hW := hW.up uw6
      replace hB1 := hB1.up uw6
      replace hC := hC.up uw6
      replace hV := hV.up uw6
      refine LW.c (enter_call0 (.cons (.tmp rfl) (.cons (.tmp rfl) (.cons (.tmp rfl) .nil))) (Tryz.en91)) rfl rfl rfl rfl (rWho_any bc b y.Wafer y.Time _ hC hs) ?_
      rintro _ w7 ⟨rfl, uw7⟩
      have zw7 := uw7.size
      replace hW := hW.up uw7
      replace hB1 := hB1.up uw7
      replace hC := hC.up uw7
      replace hV := hV.up uw7
      refine LW.A rfl (LW.S (CW.region (LW.M rfl ?_)))
      refine LW.c (enter_call0 (.cons (.tmp rfl) .nil) (Tryz.en89)) rfl rfl rfl rfl (rid_any _ _) ?_
      rintro _ w8 ⟨rfl, uw8⟩
      have zw8 := uw8.size
      replace hW := hW.up uw8
      replace hB1 := hB1.up uw8
      replace hC := hC.up uw8
      replace hV := hV.up uw8
      refine LW.T ?_
      refine CW.cond (.tmp rfl) (fun h51 => ?_) (fun h51 => ?_)
      ·first | replace h51 := dT h51 | replace h51 := dF h51 | skip
       have hid := h51
       obtain ⟨adv, cpv, rfl, hEv, hcv⟩ := hV
       refine CW.region (LW.M rfl (LW.M rfl ?_))
       refine LW.c (enter_call0 (.cons (.tmp rfl) (.cons (.tmp rfl) .nil)) (Tryz.en90)) rfl rfl rfl rfl (radd_any adv cpv (sortI ((proK b.Swaps (lotK b.Lots) (b.Processes.take j)).filter isIDb)) (whoL b.Swaps y.Time y.Wafer) _ hEv hcv (by rw [sortI_len]; omega) (sortI_lt ((proK_nodup _ _ (lotK_nodup _)).filter _))) ?_
       rintro v54 w9 ⟨hV2, uw9⟩
       have zw9 := uw9.size
       replace hW := hW.up uw9
       replace hB1 := hB1.up uw9
       replace hC := hC.up uw9
       rw [sortI_addI, ← filt_add_yes _ hid] at hV2
       refine LW.A rfl (LW.nil (KW.inBlock (KW.then (CW.region (LW.M rfl ?_)))))
       refine LW.pp (PEv.inc (.tmp rfl) (by omega)) ?_
       refine LW.A rfl (LW.nil (KW.round ?_))
       first | exact ⟨(j + 1, v54), ⟨by show j + 1 ≤ _; omega, hW, hB1, hC, by rw [proK_step hy]; first | exact hV2 | (rw [filt_add_no _ hid]; exact hV)⟩, ⟨rfl, rfl, rfl, rfl, trivial⟩, by show b.Processes.length - (j + 1) < b.Processes.length - j; omega⟩ | exact ⟨(j + 1, v), ⟨by show j + 1 ≤ _; omega, hW, hB1, hC, by rw [proK_step hy]; first | exact hV2 | (rw [filt_add_no _ hid]; exact hV)⟩, ⟨rfl, rfl, rfl, rfl, trivial⟩, by show b.Processes.length - (j + 1) < b.Processes.length - j; omega⟩
      ·first | replace h51 := dT h51 | replace h51 := dF h51 | skip
       have hid := h51
       refine CW.skip (KW.inBlock (KW.then (CW.region (LW.M rfl ?_))))
       refine LW.pp (PEv.inc (.tmp rfl) (by omega)) ?_
       refine LW.A rfl (LW.nil (KW.round ?_))
       first | exact ⟨(j + 1, v54), ⟨by show j + 1 ≤ _; omega, hW, hB1, hC, by rw [proK_step hy]; first | exact hV2 | (rw [filt_add_no _ hid]; exact hV)⟩, ⟨rfl, rfl, rfl, rfl, trivial⟩, by show b.Processes.length - (j + 1) < b.Processes.length - j; omega⟩ | exact ⟨(j + 1, v), ⟨by show j + 1 ≤ _; omega, hW, hB1, hC, by rw [proK_step hy]; first | exact hV2 | (rw [filt_add_no _ hid]; exact hV)⟩, ⟨rfl, rfl, rfl, rfl, trivial⟩, by show b.Processes.length - (j + 1) < b.Processes.length - j; omega⟩
     ·first | replace h33 := dT h33 | replace h33 := dF h33 | skip
      refine CW.exit (KW.then_exit (KW.then_exit (KW.block_hit (KW.then (CW.S (LW.M rfl (LW.A rfl (LW.T (CW.ret ?_)))))))))
      refine KW.ret1 rfl rfl ⟨_, rfl, ?_⟩
      have hjl : j = b.Processes.length := by omega
      rw [hjl, List.take_length] at hV
      exact ⟨hV.sl, hW⟩
end Go.Proofs.YtolkipbpklkcnaaGreat
end
section
namespace Go.Wx
def plainB (c n : Int) : Bool := decide (c = 0) || decide (c = n)
def shiftB (c n : Int) : Bool := decide (c = 0) || (decide (n < c) && decide (IntKind.i64.wrap (c - 1) = n))
theorem met_plain {c n : Int} (hc : inI c) : (Cond.mk c 0 n).met = plainB c n := by
  unfold Cond.met plainB
  rw [show IntKind.i64.wrap (c - 0) = c from by rw [Int.sub_zero]; exact wrap_i64_in hc.1 (by have := hc.2; omega)]
  by_cases h : c = n
  · rw [decide_eq_true h, decide_eq_true (show n ≤ c by omega)]; rfl
  · rw [decide_eq_false h, Bool.and_false]
theorem met_shift {c n : Int} (hc : inI c) (hn : inI n) : (Cond.mk c 1 n).met = shiftB c n := by
  unfold Cond.met shiftB
  congr 1
  obtain ⟨h1, h2⟩ := hc
  obtain ⟨h3, h4⟩ := hn
  by_cases h : c = -9223372036854775808
  · rw [decide_eq_false (show ¬ n < c by omega), Bool.false_and]
    by_cases e : n ≤ c
    · have : n = -9223372036854775808 := by omega
      subst this; subst h
      decide
    · rw [decide_eq_false e, Bool.false_and]
  · rw [show IntKind.i64.wrap (c - 1) = c - 1 from wrap_i64_in (by omega) (by omega)]
    by_cases e : c - 1 = n
    · rw [decide_eq_true e, decide_eq_true (show n ≤ c by omega), decide_eq_true (show n < c by omega)]
    · rw [decide_eq_false e, Bool.and_false, Bool.and_false]
def aboutR (f : Fact) (lots : List Fact) (x t : Int) : Bool := decide (f.Time ≤ t) && decide (t ≤ f.Until) && plainB f.Wafer x && plainB f.Lot (lotOf lots x t).1
def namesR (f : Fact) (lots : List Fact) (a : GAct) : Bool := decide (f.Kind = 7) && aboutR f lots a.Wafer a.Time && plainB f.Recipe a.Recipe && plainB f.Revision a.Revision && shiftB f.Tool a.Tool && shiftB f.Chamber a.Chamber && shiftB f.Step a.Step
theorem about_eq {f : Fact} (hf : FOk f) (lots : List Fact) (x t : Int) : aboutB f lots x t = (decide (f.Kind = 7) && aboutR f lots x t) := by
  unfold aboutB aboutR spansB
  simp only [List.all_cons, List.all_nil, met_plain hf.Wafer, met_plain hf.Lot, Bool.and_true, Bool.and_assoc]
theorem names_eq {f : Fact} (hf : FOk f) {a : GAct} (ha : AOk a) (lots : List Fact) : namesB f lots a = namesR f lots a := by
  unfold namesB namesR
  rw [about_eq hf]
  simp only [List.all_cons, List.all_nil, met_plain hf.Recipe, met_plain hf.Revision, met_shift hf.Tool ha.Tool, met_shift hf.Chamber ha.Chamber, met_shift hf.Step ha.Step, Bool.and_true]
  cases decide (f.Kind = 7) <;> cases aboutR f lots a.Wafer a.Time <;> cases plainB f.Recipe a.Recipe <;> cases plainB f.Revision a.Revision <;> cases shiftB f.Tool a.Tool <;> cases shiftB f.Chamber a.Chamber <;> cases shiftB f.Step a.Step <;> rfl
def andI (x y : Int) : Int := IntKind.i64.wrap (BitVec.ofInt 64 x &&& BitVec.ofInt 64 y).toNat
theorem wrap_bv (b : BitVec 64) : IntKind.i64.wrap (b.toNat : Int) = b.toInt := by
  rw [IntKind.wrap_i64]
  have := b.isLt
  rw [BitVec.toInt_eq_toNat_cond]
  split <;> omega
theorem and_over {p n : Int} (hp : inI p) : decide (andI p n = p) = decide (andNotI p n = 0) := by
  refine decide_eq_decide.2 ?_
  have e : BitVec.ofInt 64 p = (BitVec.ofInt 64 p &&& BitVec.ofInt 64 n) ↔ BitVec.ofInt 64 p &&& ~~~BitVec.ofInt 64 n = 0#64 := by
    constructor
    · intro h
      refine BitVec.eq_of_getLsbD_eq fun i hi => ?_
      have h1 := congrArg (fun b => b.getLsbD i) h
      clear h
      simp only [BitVec.getLsbD_and, BitVec.getLsbD_not, BitVec.getLsbD_zero] at h1 ⊢
      cases h2 : (BitVec.ofInt 64 p).getLsbD i <;> cases h3 : (BitVec.ofInt 64 n).getLsbD i <;> simp_all
    · intro h
      refine BitVec.eq_of_getLsbD_eq fun i hi => ?_
      have h1 := congrArg (fun b => b.getLsbD i) h
      clear h
      simp only [BitVec.getLsbD_and, BitVec.getLsbD_not, BitVec.getLsbD_zero] at h1 ⊢
      cases h2 : (BitVec.ofInt 64 p).getLsbD i <;> cases h3 : (BitVec.ofInt 64 n).getLsbD i <;> simp_all
  have w : IntKind.i64.wrap ((BitVec.ofInt 64 p &&& BitVec.ofInt 64 n).toNat : Int) = (BitVec.ofInt 64 p &&& BitVec.ofInt 64 n).toInt := wrap_bv _
  have hpi : (BitVec.ofInt 64 p).toInt = p := by
    rw [BitVec.toInt_ofInt]
    obtain ⟨h1, h2⟩ := hp
    exact Int.bmod_eq_of_le (by omega) (by omega)
  rw [show (andNotI p n = 0) ↔ BitVec.ofInt 64 p &&& ~~~BitVec.ofInt 64 n = 0#64 from by
    unfold andNotI
    have w2 : IntKind.i64.wrap ((BitVec.ofInt 64 p &&& ~~~BitVec.ofInt 64 n).toNat : Int) = (BitVec.ofInt 64 p &&& ~~~BitVec.ofInt 64 n).toInt := wrap_bv _
    rw [w2]
    exact ⟨fun h => BitVec.eq_of_toInt_eq (h.trans (by decide)), fun h => (congrArg BitVec.toInt h).trans (by decide)⟩, ← e]
  unfold andI
  rw [w]
  constructor
  · intro h
    exact BitVec.eq_of_toInt_eq (by rw [h, hpi])
  · intro h
    rw [← h, hpi]
def bOk (b : Base) : Prop := ∀ f ∈ b.Holds, FOk f
theorem find_step {l : List Fact} {k : Nat} {x : Fact} {id : Int} (hx : l[k]? = some x) (h : (decide (x.ID = id) && decide (x.Kind = 7)) = false) (hn : findB (l.take k) id = none) : findB (l.take (k + 1)) id = none := by
  unfold findB at hn ⊢
  rw [take_succ_of hx, List.filter_append, List.find?_append, hn]
  by_cases hk : x.Kind = 7
  · rw [List.filter_cons_of_pos (by simpa [isHoldB] using hk)]
    have : ¬ x.ID = id := fun e => by rw [decide_eq_true e, decide_eq_true hk] at h; cases h
    simp [this]
  · rw [List.filter_cons_of_neg (by simpa [isHoldB] using hk)]; rfl
theorem find_hit {l : List Fact} {k : Nat} {x : Fact} {id : Int} (hx : l[k]? = some x) (h : (decide (x.ID = id) && decide (x.Kind = 7)) = true) (hn : findB (l.take k) id = none) : findB l id = some x := by
  rw [Bool.and_eq_true, decide_eq_true_eq, decide_eq_true_eq] at h
  obtain ⟨hk, e⟩ := List.getElem?_eq_some_iff.1 hx
  unfold findB at hn ⊢
  have hl : l = l.take k ++ x :: l.drop (k + 1) := by rw [← e, ← List.drop_eq_getElem_cons hk, List.take_append_drop]
  rw [hl, List.filter_append, List.find?_append, hn, List.filter_cons_of_pos (by simpa [isHoldB] using h.2), List.find?_cons_of_pos (by simpa using h.1)]
  rfl
theorem find_mem {l : List Fact} {id : Int} {x : Fact} (h : findB l id = some x) : x ∈ l ∧ x.Kind = 7 := by
  unfold findB at h
  have := List.mem_of_find?_eq_some h
  rw [List.mem_filter] at this
  exact ⟨this.1, of_decide_eq_true this.2⟩
theorem stopKs_all (b : Base) (a : GAct) (l : List Fact) : stopKs b a (l.filter isHoldB) = stopKs b a l := by
  induction l using snocI with
  | nil => rfl
  | snoc l x ih =>
    rw [List.filter_append, stopKs_snoc]
    by_cases hk : isHoldB x = true
    · rw [List.filter_cons_of_pos hk, List.filter_nil, stopKs_snoc, ih]
    · rw [List.filter_cons_of_neg hk, List.filter_nil, List.append_nil, ih]
      unfold stopStep
      rw [if_neg]
      intro h
      unfold stopB namesB aboutB spansB at h
      simp only [Bool.and_eq_true] at h
      exact hk h.1.1.1.1.1
theorem stopsOf_sort (b : Base) (a : GAct) : stopsOf b a = sortI (stopKs b a b.Holds) := by unfold stopsOf; rw [stopKs_all]; rfl
theorem stopKs_step {b : Base} {a : GAct} {k : Nat} {x : Fact} (hx : b.Holds[k]? = some x) : stopKs b a (b.Holds.take (k + 1)) = if stopB b a x = true then addI (stopKs b a (b.Holds.take k)) x.ID else stopKs b a (b.Holds.take k) := by
  rw [take_succ_of hx, stopKs_snoc]; rfl
theorem stopKs_nodup (b : Base) (a : GAct) (l : List Fact) : (stopKs b a l).Nodup := by
  induction l using snocI with
  | nil => exact List.nodup_nil
  | snoc l x ih =>
    rw [stopKs_snoc]
    unfold stopStep
    split
    · exact addI_nodup ih
    · exact ih
theorem held_step {b : Base} {f : Fact} {t : Int} (hf : FOk f) (hk : f.Kind = 7) (x : Int) : aboutB f b.Lots x t = aboutR f b.Lots x t := by rw [about_eq hf, decide_eq_true hk, Bool.true_and]
theorem over_of {b : Base} {id t : Int} {f : Fact} (h : findB b.Holds id = some f) (hf : FOk f) : overB f b.Releases t = decide (andI f.Parties (partiesOf b.Releases id t) = f.Parties) := by
  have hid : f.ID = id := by have := List.find?_some h; simpa using this
  rw [and_over hf.Parties, ← hid]; rfl
theorem heldR_over {b : Base} {id t : Int} {f : Fact} (h : findB b.Holds id = some f) (hf : FOk f) (h2 : decide (andI f.Parties (partiesOf b.Releases id t) = f.Parties) = true) : heldL b id t = [] := heldL_over h (by rw [over_of h hf]; exact h2)
theorem heldR {b : Base} {id t : Int} {f : Fact} (h : findB b.Holds id = some f) (hf : FOk f) (h2 : decide (andI f.Parties (partiesOf b.Releases id t) = f.Parties) = false) : heldL b id t = (wafersL b.Lots b.Processes b.Swaps).filter fun x => aboutR f b.Lots x t := by
  rw [heldL_some h (by rw [over_of h hf]; exact h2)]
  refine List.filter_congr fun x _ => ?_
  rw [Bool.not_not, held_step hf (find_mem h).2]
theorem stopR {b : Base} {a : GAct} {f : Fact} (hf : FOk f) (ha : AOk a) : stopB b a f = (namesR f b.Lots a && !decide (andI f.Parties (partiesOf b.Releases f.ID a.Time) = f.Parties)) := by
  unfold stopB
  rw [names_eq hf ha, and_over hf.Parties]; rfl
theorem stopKs_len (b : Base) (a : GAct) (k : Nat) : (sortI (stopKs b a (b.Holds.take k))).length ≤ k := by
  rw [sortI_len]
  exact Nat.le_trans (stopKs_length _ _ _) (by rw [List.length_take]; omega)
theorem stopR_no {b : Base} {a : GAct} {f : Fact} (hf : FOk f) (ha : AOk a) (h : (!namesR f b.Lots a || decide (andI f.Parties (partiesOf b.Releases f.ID a.Time) = f.Parties)) = true) : stopB b a f = false := by
  rw [stopR hf ha]
  cases h1 : namesR f b.Lots a <;> cases h2 : decide (andI f.Parties (partiesOf b.Releases f.ID a.Time) = f.Parties) <;> simp_all
theorem stopR_yes {b : Base} {a : GAct} {f : Fact} (hf : FOk f) (ha : AOk a) (h : (!namesR f b.Lots a || decide (andI f.Parties (partiesOf b.Releases f.ID a.Time) = f.Parties)) = false) : stopB b a f = true := by
  rw [stopR hf ha]
  cases h1 : namesR f b.Lots a <;> cases h2 : decide (andI f.Parties (partiesOf b.Releases f.ID a.Time) = f.Parties) <;> simp_all
end Go.Wx
namespace Go.Proofs.YtolkipbpklkcnaaGreat
open Go.Wx Go.RowKit
end Go.Proofs.YtolkipbpklkcnaaGreat
end
