import Derived.Test.YtdkfjllchhoojaaHo4
namespace Go.Wx

def stopB (b : Base) (a : GAct) (f : Fact) : Bool := namesB f b.Lots a && !overB f b.Releases a.Time
def stopStep (b : Base) (a : GAct) (ks : List Int) (f : Fact) : List Int := if stopB b a f = true then setAdd ks f.ID else ks
def stopKs (b : Base) (a : GAct) (l : List Fact) : List Int := l.foldl (stopStep b a) []
def stopsOf (b : Base) (a : GAct) : List Int := (stopKs b a (b.Holds.filter isHoldB)).mergeSort fun x y => decide (x ≤ y)
theorem stopKs_snoc (b : Base) (a : GAct) (l : List Fact) (f : Fact) : stopKs b a (l ++ [f]) = stopStep b a (stopKs b a l) f := by simp [stopKs]
theorem setAdd_length (ks : List Int) (k : Int) : (setAdd ks k).length ≤ ks.length + 1 := by unfold setAdd; split <;> simp
theorem foldl_length (b : Base) (a : GAct) : ∀ (l : List Fact) (ks : List Int), (l.foldl (stopStep b a) ks).length ≤ ks.length + l.length
  | [], _ => Nat.le_refl _
  | f :: l, ks => by
    rw [List.foldl_cons, List.length_cons]
    have h1 := foldl_length b a l (stopStep b a ks f)
    have h2 : (stopStep b a ks f).length ≤ ks.length + 1 := by unfold stopStep; split; exact setAdd_length _ _; omega
    omega
theorem stopKs_length (b : Base) (a : GAct) (l : List Fact) : (stopKs b a l).length ≤ l.length := by have := foldl_length b a l []; simpa [stopKs] using this
theorem unit1_keys (ks : List Int) : (ks.map unit1).map (·.1) = ks := by simp [List.map_map, Function.comp_def, unit1]
theorem sort_perm {a b : List Int} (h : a.Perm b) : (a.mergeSort fun x y => decide (x ≤ y)) = b.mergeSort fun x y => decide (x ≤ y) :=
  List.Perm.eq_of_pairwise (le := fun x y => decide (x ≤ y) = true) (fun x y _ _ h1 h2 => by have h3 := of_decide_eq_true h1; have h4 := of_decide_eq_true h2; omega)
    (List.pairwise_mergeSort (fun a b c h1 h2 => by have h3 := of_decide_eq_true h1; have h4 := of_decide_eq_true h2; exact decide_eq_true (by omega)) (fun a b => by simp; omega) a)
    (List.pairwise_mergeSort (fun a b c h1 h2 => by have h3 := of_decide_eq_true h1; have h4 := of_decide_eq_true h2; exact decide_eq_true (by omega)) (fun a b => by simp; omega) b)
    ((List.mergeSort_perm a _).trans (h.trans (List.mergeSort_perm b _).symm))

end Go.Wx
namespace Go.Proofs.Ytdkfjllchhoojaa
open Go.Wx Go.RowKit
theorem Stops_any (bc : Array Go.Value) (b : Base) (a : GAct) (w : World) (hC : BaseC w bc b) (hH : b.Holds.length ≤ 1000000000) (hR : b.Releases.length < 9223372036854775807) (hL : b.Lots.length < 9223372036854775807) : Ret Try.prog 10 #[.agg bc, .agg a.cells] w fun r w' => OwnS w' w.heap.size 3 1 eInt r (stopsOf b a) ∧ Up w w' := by
  have hW := Up.refl w
  obtain ⟨w0, rfl⟩ : ∃ w0, w0 = w := ⟨_, rfl⟩
  refine Calls_startM (n := 28) Try.func10 rfl rfl rfl ?_
  refine CW.seq ?_
  -- region 0
  refine CW.region ?_
  refine LW.r (REv.boxA (.tmp rfl)) rfl rfl rfl rfl ?_
  rintro _ w1 ⟨B2, rfl, NB2⟩
  have eB2 := NB2.at_
  have zB2 := NB2.size
  replace hC := hC.up NB2.up
  replace hW := hW.up NB2.up
  have hB2 := NB2.blk
  refine LW.r (REv.boxA (.tmp rfl)) rfl rfl rfl rfl ?_
  rintro _ w2 ⟨B3, rfl, NB3⟩
  have eB3 := NB3.at_
  have zB3 := NB3.size
  replace hC := hC.up NB3.up
  replace hW := hW.up NB3.up
  replace hB2 := hB2.up NB3.up
  have hB3 := NB3.blk
  refine LW.p (PEv.assign (.const _)) rfl rfl rfl ?_
  refine LW.nil ?_
  refine KW.then ?_
  refine CW.seq ?_
  have hU1 := Up.refl w2
  have hBs := hB2
  have hCs := hC
  -- region 1
  refine CW.region ?_
  refine LW.r REv.makeMap rfl rfl rfl rfl ?_
  rintro _ w3 ⟨B7, rfl, MB7, uB7, eB7, zB7⟩
  replace hW := hW.up uB7
  replace hB3 := hB3.up uB7
  replace hU1 := hU1.up uB7
  have hM7 := MB7
  refine LW.r (REv.alloc1 Try.zeroValue47 rfl) rfl rfl rfl rfl ?_
  rintro _ w4 ⟨B5, rfl, MB5⟩
  refine LW.s (SEv.store Try.sizeOf47 (.tmp rfl) (.tmp rfl) rfl MB5.blk (by decide)) rfl rfl rfl ?_
  intro w5 LB5
  have NB5 := MB5.set LB5
  clear LB5 MB5
  have eB5 := NB5.at_
  have zB5 := NB5.size
  replace hW := hW.up NB5.up
  replace hB3 := hB3.up NB5.up
  replace hU1 := hU1.up NB5.up
  replace hM7 := hM7.up NB5.up
  have hB5 := NB5.blk
  refine LW.nil ?_
  refine KW.then ?_
  refine CW.seq ?_
  refine CW.seq ?_
  -- region 2
  refine CW.region ?_
  refine LW.c (enter_call0 (.cons (.tmp rfl) .nil) (Try.en16)) rfl rfl rfl rfl (all_any _ _) ?_
  rintro _ w6 ⟨⟨BA, rfl, hA, zA⟩, uw6⟩
  have zw6 := uw6.size
  replace hW := hW.up uw6
  replace hB3 := hB3.up uw6
  replace hU1 := hU1.up uw6
  replace hM7 := hM7.up uw6
  replace hB5 := hB5.up uw6
  refine LW.nil ?_
  refine KW.then ?_
  refine CW.block ?_
  obtain ⟨bq, hbq⟩ : ∃ bq, bq = w6.heap.size := ⟨_, rfl⟩
  refine CW.rangeFunc (fun _ => False) (fun i => i = B7) (fun pre W => Sz bq W ∧ Blk W B3 a.cells 25 ∧ Blk W B5 #[.map (some B7)] 47 ∧ IMap W B7 ((stopKs b a pre).map unit1) ∧ Up w2 W ∧ Up w0 W) (fun c pre W => Sz bq W ∧ False) (fun x a' W => ∃ BX, Ag 28 [] ([(6, .eq (.pointer (some ⟨BX, 0, none⟩))), (3, .eq (.pointer (some ⟨B3, 0, none⟩))), (5, .eq (.pointer (some ⟨B5, 0, none⟩))), (2, .eq (.pointer (some ⟨B2, 0, none⟩)))]) a' W ∧ bq ≤ BX ∧ Blk W BX (holdCells x ⟨B2, 0, none⟩) 45) (.tmp rfl) (fun args w => Try.en24 args w) (all_iter _ _ _ _ _ _ _ _ hU1 (fun _ h => h.elim) (fun i h => by omega) (fun h => h.elim) hA hBs hCs (by omega)) (fun _ => rfl) rfl ?_ ?_ ?_ ?_ ?_ ?_ ?_ ?_
  · rw [← hbq]
    intro pre W W' row hs hg hr
    obtain ⟨hZ, hB3, hB5, hM7, hU1, hW⟩ := hs
    exact ⟨hZ.ko (Ko.grown hg hr), hB3.ko (Ko.grown hg hr), hB5.ko (Ko.grown hg hr), hM7.ko (Ko.grown hg hr) (by omega), hU1.ko (Ko.grown hg hr) (by omega), hW.ko (Ko.grown hg hr) (by omega)⟩
  · rw [← hbq]
    intro c pre W W' row hs hg hr
    obtain ⟨hZ, hF⟩ := hs
    exact ⟨hZ.ko (Ko.grown hg hr), hF⟩
  · rw [← hbq]
    intro x a' u W W' row hs hg hr
    obtain ⟨BX, ha, hBX, hBX6⟩ := hs
    exact ⟨BX, ha.world rfl _, hBX, hBX6.ko (Ko.grown hg hr)⟩
  · exact ⟨Nat.le_of_eq hbq, hB3, hB5, hM7, hU1, hW⟩
  · rw [← hbq]
    intro lp pre x w7 K hs hk a ha
    obtain ⟨hZ, hB3, hB5, hM7, hU1, hW⟩ := hs
    have zq := hZ.le
    have hK := Kf.refl bq w7
    have hN := Kx.refl bq (fun _ => False) (fun i => i = B7) w7
    revert a
    refine CW.assign1 (p := 9) rfl ?_
    -- region 3
    refine CW.region ?_
    refine LW.r (REv.allocA Try.zeroValue45) rfl rfl rfl rfl ?_
    rintro _ w8 ⟨B6, rfl, MB6⟩
    refine LW.s (SEv.storeA Try.sizeOf45 rfl (.tmp rfl) (.tmp rfl) (by first | rfl | exact Fact.one _ | exact GAct.one _ | exact holdCells_one _ _ | exact hold0_one | (simp [Value.oneCell'])) MB6.blk rfl) rfl rfl rfl ?_
    intro w9 LB6
    have NB6 := MB6.set LB6
    clear LB6 MB6
    have eB6 := NB6.at_
    have zB6 := NB6.size
    replace hZ := hZ.up NB6.up
    replace hB3 := hB3.up NB6.up
    replace hB5 := hB5.up NB6.up
    replace hM7 := hM7.up NB6.up
    replace hU1 := hU1.up NB6.up
    replace hW := hW.up NB6.up
    replace hK := hK.up NB6.up
    replace hN := hN.up NB6.up
    have hB6 := NB6.blk
    refine LW.nil ?_
    exact fun a ha => hk a _ hK hN ⟨hZ, hB3, hB5, hM7, hU1, hW⟩ ⟨_, ha.sub ⟨rfl, rfl, rfl, rfl, trivial⟩, by omega, hB6⟩
  · rw [← hbq]
    intro lp pre x a' w10 hs hx hlt
    obtain ⟨hZ, hB3, hB5, hM7, hU1, hW⟩ := hs
    obtain ⟨BX, ha, hBX, hBX6⟩ := hx
    have zq := hZ.le
    have hK := Kf.refl bq w10
    have hN := Kx.refl bq (fun _ => False) (fun i => i = B7) w10
    refine (show CW (some lp) 8 _ 28 [] _ (ownPostG bq (Kx bq (fun _ => False) (fun i => i = B7)) _ _ (pre ++ [x]) w10) ([(6, .eq (.pointer (some ⟨BX, 0, none⟩))), (3, .eq (.pointer (some ⟨B3, 0, none⟩))), (5, .eq (.pointer (some ⟨B5, 0, none⟩))), (2, .eq (.pointer (some ⟨B2, 0, none⟩)))]) w10 from ?_) a' ha
    refine CW.block ?_
    refine CW.seq ?_
    cases hq4 : namesB x b.Lots a with
    | false =>
      -- region 4
      refine CW.region ?_
      refine LW.p (PEv.loadA Try.isAgg45 Try.sizeOf45 rfl (.tmp rfl) (hBX6.agg)) rfl rfl rfl ?_
      refine LW.p (PEv.loadA Try.isAgg25 Try.sizeOf25 rfl (.tmp rfl) (hB3.agg)) rfl rfl rfl ?_
      refine LW.c (enter_call0 (.cons (.tmp rfl) (.cons (.tmp rfl) .nil)) (Try.en15)) rfl rfl rfl rfl (names_any _ _ _ _ _ _ (hBs.up hU1) (hCs.up hU1) hL) ?_
      rintro _ w11 ⟨rfl, uw11⟩
      have zw11 := uw11.size
      replace hZ := hZ.up uw11
      replace hB3 := hB3.up uw11
      replace hB5 := hB5.up uw11
      replace hM7 := hM7.up uw11
      replace hU1 := hU1.up uw11
      replace hW := hW.up uw11
      replace hBX6 := hBX6.up uw11
      replace hK := hK.up uw11
      replace hN := hN.up uw11
      rw [hq4]
      refine LW.p (PEv.move (.tmp rfl)) rfl rfl rfl ?_
      refine LW.no rfl rfl rfl rfl rfl rfl rfl rfl ?_
      refine LW.no rfl rfl rfl rfl rfl rfl rfl rfl ?_
      refine LW.no rfl rfl rfl rfl rfl rfl rfl rfl ?_
      refine LW.no rfl rfl rfl rfl rfl rfl rfl rfl ?_
      refine LW.no rfl rfl rfl rfl rfl rfl rfl rfl ?_
      refine LW.p (PEv.pick_and (b := false) (.tmp rfl) (fun hp => absurd (show false = true from hp) (by decide))) rfl rfl rfl ?_
      refine LW.nil ?_
      refine KW.then ?_
      refine CW.cond (.tmp rfl) (fun h19 => ?_) (fun h19 => ?_)
      · first | replace h19 := of_decide_eq_true h19 | replace h19 := of_decide_eq_false h19 | skip
        cases h19
      · first | replace h19 := of_decide_eq_true h19 | replace h19 := of_decide_eq_false h19 | skip
        have hk : stopKs b a (pre ++ [x]) = stopKs b a pre := by rw [stopKs_snoc]; exact if_neg (by simp [stopB, hq4])
        refine CW.skip ?_
        refine KW.inBlock ?_
        exact fun a ha => ⟨hK, hN, hZ, hB3, hB5, by rw [hk]; exact hM7, hU1, hW⟩
    | true =>
      -- region 4
      refine CW.region ?_
      refine LW.p (PEv.loadA Try.isAgg45 Try.sizeOf45 rfl (.tmp rfl) (hBX6.agg)) rfl rfl rfl ?_
      refine LW.p (PEv.loadA Try.isAgg25 Try.sizeOf25 rfl (.tmp rfl) (hB3.agg)) rfl rfl rfl ?_
      refine LW.c (enter_call0 (.cons (.tmp rfl) (.cons (.tmp rfl) .nil)) (Try.en15)) rfl rfl rfl rfl (names_any _ _ _ _ _ _ (hBs.up hU1) (hCs.up hU1) hL) ?_
      rintro _ w12 ⟨rfl, uw12⟩
      have zw12 := uw12.size
      replace hZ := hZ.up uw12
      replace hB3 := hB3.up uw12
      replace hB5 := hB5.up uw12
      replace hM7 := hM7.up uw12
      replace hU1 := hU1.up uw12
      replace hW := hW.up uw12
      replace hBX6 := hBX6.up uw12
      replace hK := hK.up uw12
      replace hN := hN.up uw12
      rw [hq4]
      refine LW.p (PEv.move (.tmp rfl)) rfl rfl rfl ?_
      refine LW.yes rfl rfl rfl rfl rfl rfl ?_
      refine LW.p (PEv.loadA Try.isAgg45 Try.sizeOf45 rfl (.tmp rfl) (hBX6.agg)) rfl rfl rfl ?_
      refine LW.yes rfl rfl rfl rfl rfl rfl ?_
      refine LW.p (PEv.fieldAddr (off := 6) Try.underlying25 rfl rfl Try.sizeOf3 rfl (.tmp rfl)) rfl rfl rfl ?_
      refine LW.yes rfl rfl rfl rfl rfl rfl ?_
      refine LW.p (PEv.load Try.isAgg3 (.tmp rfl) (hB3.celln rfl)) rfl rfl rfl ?_
      refine LW.yes rfl rfl rfl rfl rfl rfl ?_
      refine LW.c (enter_call0 (.cons (.tmp rfl) (.cons (.tmp rfl) .nil)) (Try.en17)) rfl rfl rfl rfl (isOver_any _ _ _ _ _ _ (hBs.up hU1) (hCs.up hU1) hR) ?_
      rintro _ w13 ⟨rfl, uw13⟩
      have zw13 := uw13.size
      replace hZ := hZ.up uw13
      replace hB3 := hB3.up uw13
      replace hB5 := hB5.up uw13
      replace hM7 := hM7.up uw13
      replace hU1 := hU1.up uw13
      replace hW := hW.up uw13
      replace hBX6 := hBX6.up uw13
      replace hK := hK.up uw13
      replace hN := hN.up uw13
      refine LW.yes rfl rfl rfl rfl rfl rfl ?_
      refine LW.p (PEv.not (.tmp rfl)) rfl rfl rfl ?_
      refine LW.p (PEv.pick_and (.tmp rfl) (fun hp => (by first | exact .const _ | exact .tmp rfl | exact .cond rfl (by first | assumption | simp_all)))) rfl rfl rfl ?_
      refine LW.nil ?_
      refine KW.then ?_
      refine CW.cond (.tmp rfl) (fun h19 => ?_) (fun h19 => ?_)
      · first | replace h19 := of_decide_eq_true h19 | replace h19 := of_decide_eq_false h19 | skip
        have hk : stopKs b a (pre ++ [x]) = setAdd (stopKs b a pre) x.ID := by rw [stopKs_snoc]; exact if_pos (by simpa [stopB, hq4] using h19)
        -- region 5
        refine CW.region ?_
        refine LW.p (PEv.load Try.isAgg47 (.tmp rfl) (hB5.celln rfl)) rfl rfl rfl ?_
        refine LW.p (PEv.fieldAddr (off := 0) Try.underlying45 rfl rfl Try.sizeOf23 rfl (.tmp rfl)) rfl rfl rfl ?_
        refine LW.p (PEv.fieldAddr (off := 1) Try.underlying23 rfl rfl Try.sizeOf3 rfl (.tmp rfl)) rfl rfl rfl ?_
        refine LW.p (PEv.load Try.isAgg3 (.tmp rfl) (hBX6.celln rfl)) rfl rfl rfl ?_
        refine LW.p (PEv.build (cs := #[]) Try.underlying52 Try.zeroValue52 Try.places52 .nil rfl) rfl rfl rfl ?_
        refine LW.s (SEv.mapUpdate Try.underlying47 Try.underlying3 (.tmp rfl) (.tmp rfl) (.tmp rfl) hM7) rfl rfl rfl ?_
        rintro w14 ⟨Mw14, Kw14, zw14⟩
        replace hZ := hZ.sto Kw14 (by omega)
        replace hB3 := hB3.sto Kw14 (by omega)
        replace hB5 := hB5.sto Kw14 (by omega)
        replace hU1 := hU1.sto Kw14 (by omega)
        replace hW := hW.sto Kw14 (by omega)
        replace hBX6 := hBX6.sto Kw14 (by omega)
        replace hK := hK.sto Kw14 (.inl (by omega))
        replace hN := hN.stoM Kw14 (hM7.obj) (by first | exact .inr (by omega) | exact .inl rfl | exact .inl (by show _ ≤ _; omega))
        replace hM7 := Mw14
        refine LW.nil ?_
        rw [mset_unit] at hM7
        refine KW.inBlock ?_
        exact fun a ha => ⟨hK, hN, hZ, hB3, hB5, by rw [hk]; exact hM7, hU1, hW⟩
      · first | replace h19 := of_decide_eq_true h19 | replace h19 := of_decide_eq_false h19 | skip
        have hk : stopKs b a (pre ++ [x]) = stopKs b a pre := by rw [stopKs_snoc]; exact if_neg (by simpa [stopB, hq4] using h19)
        refine CW.skip ?_
        refine KW.inBlock ?_
        exact fun a ha => ⟨hK, hN, hZ, hB3, hB5, by rw [hk]; exact hM7, hU1, hW⟩
  · intro D ys w15 hDb hS hs hD
    rw [← hbq] at hDb
    obtain ⟨hZ, hB3, hB5, hM7, hU1, hW⟩ := hs
    replace hD : Ob w15 D (.deferred (some [])) := hD
    have zD := hD.lt
    have zq := hZ.le
    subst hS
    refine KW.inBlock ?_
    refine KW.then ?_
    refine CW.seq ?_
    have hKl := stopKs_length b a (b.Holds.filter isHoldB)
    have hFl := List.length_filter_le isHoldB b.Holds
    have zBA := hB5.lt
    -- region 6
    refine CW.region ?_
    refine LW.p (PEv.load Try.isAgg47 (.tmp rfl) (hB5.celln rfl)) rfl rfl rfl ?_
    refine LW.c (enter_call0 (.cons (.tmp rfl) .nil) (Try.en19)) rfl rfl rfl rfl (mapsKeys_any _ _) ?_
    rintro _ w16 ⟨⟨BK, rfl, hBK, zK⟩, uw16⟩
    have zw16 := uw16.size
    replace hZ := hZ.up uw16
    replace hB3 := hB3.up uw16
    replace hB5 := hB5.up uw16
    replace hM7 := hM7.up uw16
    replace hU1 := hU1.up uw16
    replace hW := hW.up uw16
    replace hD := hD.up uw16
    have zBK := hBK.lt
    refine LW.c (enter_call0 (.cons (.tmp rfl) .nil) (Try.en18)) rfl rfl rfl rfl (sorted_any _ _ _ _ _ _ Try.en27 (fun W X u hX => mapsKeys_iter X _ BK B7 _ W (fun i h => h.elim) (fun h => by have := hX _ h; omega) (fun h => h.elim) (hBK.up u) (hM7.up u)) (by rw [List.length_map]; omega) (fun ks h => by have := h.length_eq; rw [unit1_keys] at this; omega)) ?_
    rintro v w17 ⟨ks, hS, hO, uw17⟩
    have zw17 := uw17.size
    replace hZ := hZ.up uw17
    replace hB3 := hB3.up uw17
    replace hB5 := hB5.up uw17
    replace hM7 := hM7.up uw17
    replace hU1 := hU1.up uw17
    replace hW := hW.up uw17
    replace hD := hD.up uw17
    replace hBK := hBK.up uw17
    refine LW.p (PEv.assign (.tmp rfl)) rfl rfl rfl ?_
    refine LW.nil ?_
    refine KW.then ?_
    refine CW.ret ?_
    refine KW.unmark hD rfl ?_
    replace hZ := hZ.ko (Ko.putObj (.deferred none) hD rfl hDb)
    replace hB3 := hB3.ko (Ko.putObj (.deferred none) hD rfl hDb)
    replace hB5 := hB5.ko (Ko.putObj (.deferred none) hD rfl hDb)
    replace hM7 := hM7.ko (Ko.putObj (.deferred none) hD rfl hDb) (by omega)
    replace hU1 := hU1.ko (Ko.putObj (.deferred none) hD rfl hDb) (by omega)
    replace hW := hW.putObj (D := D) (.deferred none) (by omega)
    replace hBK := hBK.ko (Ko.putObj (.deferred none) hD rfl hDb)
    replace hO := hO.ko (Ko.putObj (.deferred none) hD rfl hDb)
    refine KW.ret1 rfl rfl ⟨_, rfl, ?_⟩
    have hp : ks.Perm (stopKs b a (b.Holds.filter isHoldB)) := by rw [unit1_keys] at hS; exact hS
    rw [sort_perm hp] at hO
    exact ⟨hO.mono (by omega), hW⟩
  · intro D c pre w18 hDb hpre hs hD
    rw [← hbq] at hDb
    obtain ⟨hZ, hF⟩ := hs
    replace hD : Ob w18 D (.deferred (some [])) := hD
    have zD := hD.lt
    have zq := hZ.le
    exact hF.elim

end Go.Proofs.Ytdkfjllchhoojaa
