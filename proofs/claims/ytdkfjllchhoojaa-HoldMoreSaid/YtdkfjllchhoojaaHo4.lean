import Derived.Test.YtdkfjllchhoojaaHo3
import Derived.Test.YtdkfjllchhoojaaSh
import Derived.Sort.OwnSortedInts
namespace Go.Wx

def unit1 (k : Int) : Int × Value := (k, .agg #[])
def setAdd (ks : List Int) (k : Int) : List Int := if k ∈ ks then ks else ks ++ [k]
theorem flat_int (ks : List Int) : ks.flatMap (fun x => (eInt x).toList) = ks.map vi := by
  induction ks with
  | nil => rfl
  | cons k ks ih => rw [List.flatMap_cons, ih]; rfl
theorem mset_unit (ks : List Int) (k : Int) : mset (ks.map unit1) k (.agg #[]) = (setAdd ks k).map unit1 := by
  have e : (ks.map unit1).map (·.1) = ks := by simp [List.map_map, Function.comp_def, unit1]
  unfold mset setAdd
  rw [e]
  by_cases h : k ∈ ks
  · rw [if_pos h, if_pos h, List.map_map]
    refine List.map_congr_left fun x _ => ?_
    show (if x = k then (k, Value.agg #[]) else unit1 x) = unit1 x
    by_cases hx : x = k
    · subst hx; rw [if_pos rfl]; rfl
    · rw [if_neg hx]
  · rw [if_neg h, if_neg h]; simp [unit1]

end Go.Wx
namespace Go.Proofs.Ytdkfjllchhoojaa
open Go.Wx Go.RowKit
theorem mapsKeys_any (b : Nat) (w : World) : Ret Try.prog 19 #[.map (some b)] w fun r w' => (∃ B, r = .func (.func 27) #[] #[.pointer (some ⟨B, 0, none⟩)] ∧ Blk w' B #[.map (some b)] 47 ∧ w.heap.size ≤ B) ∧ Up w w' := by
  have hW := Up.refl w
  refine Calls_start (n := 4) (m := 9) Try.func19 rfl rfl rfl ?_
  refine CW.seq ?_
  -- region 0
  refine CW.region ?_
  refine LW.r (REv.box1 (.tmp rfl) rfl) rfl rfl rfl rfl ?_
  rintro _ w1 ⟨B1, rfl, NB1⟩
  have eB1 := NB1.at_
  have zB1 := NB1.size
  replace hW := hW.up NB1.up
  have hB1 := NB1.blk
  refine LW.p (PEv.assign (.const _)) rfl rfl rfl ?_
  refine LW.nil ?_
  refine KW.then ?_
  refine CW.seq ?_
  -- region 1
  refine CW.region ?_
  refine LW.p (PEv.makeFunc (.cons (.tmp rfl) .nil)) rfl rfl rfl ?_
  refine LW.p (PEv.assign (.tmp rfl)) rfl rfl rfl ?_
  refine LW.nil ?_
  refine KW.then ?_
  refine CW.ret ?_
  refine KW.ret1 rfl rfl ⟨_, rfl, ?_⟩
  exact ⟨⟨_, rfl, hB1, by omega⟩, hW⟩

theorem mapsKeys_iter (X Y : Nat → Prop) (B1 b : Nat) (kv : List (Int × Value)) (w : World) (hYY : ∀ i, Y i → i < w.heap.size) (hQX : ¬ X B1) (hbY : ¬ Y b) (hQ0 : Blk w B1 #[.map (some b)] 47) (hM0 : IMap w b kv) :
    IterS Try.prog 27 #[.pointer (some ⟨B1, 0, none⟩)] eInt X Y (fun ys => ys.Perm (kv.map (·.1))) (fun pre => pre.Nodup ∧ ∀ k ∈ pre, k ∈ kv.map (·.1)) kv.length w := by
  refine IterS.of ?_
  intro lp J Jx w0 hUw _ hY hJ
  obtain ⟨Bd, hBd⟩ : ∃ Bd, Bd = w0.heap.size := ⟨_, rfl⟩
  rw [← hBd] at hJ hY
  have zU := hUw.size
  have hQ := hQ0.up hUw
  have hM := hM0.up hUw
  have zQ0 := hQ.lt
  refine Calls_start (n := 14) (m := 9) Try.func27 rfl rfl rfl ?_
  refine CW.seq ?_
  -- region 0
  refine CW.region ?_
  refine LW.p (PEv.load Try.isAgg47 (.tmp rfl) (hQ.celln rfl)) rfl rfl rfl ?_
  refine LW.r (REv.range Try.underlying47 (.tmp rfl) hM) rfl rfl rfl rfl ?_
  rintro _ w1 ⟨r5, rfl, hR5, uw1, ew1, zw1⟩
  replace hQ := hQ.up uw1
  replace hM := hM.up uw1
  replace hJ := hJ.up uw1
  refine LW.nil ?_
  refine KW.then ?_
  refine CW.block ?_
  refine CW.loop (σ := List Int) (fun s w => Jw Bd J s w ∧ Blk w B1 #[.map (some b)] 47 ∧ IRng w b r5 kv s) (fun s => [(0, .eq (.func (.yield lp) #[] #[])), (5, .eq (.pointer (some ⟨r5, 0, none⟩)))]) (fun s => kv.length - s.length) [] ?_ ?_ ?_
  · exact ⟨hJ, hQ, hR5⟩
  · exact ⟨rfl, rfl, trivial⟩
  · rintro done w2 ⟨hJ, hQ, hR5⟩
    have zQ := hQ.lt
    refine CW.seq ?_
    -- region 1
    refine CW.region ?_
    refine LW.r (REv.next (.tmp rfl) hR5) rfl rfl rfl rfl ?_
    rintro _ w3 (⟨rfl, rfl, hPm⟩ | ⟨k, u, rfl, hNx⟩)
    · skip
      refine LW.p (PEv.extract (.tmp rfl) rfl) rfl rfl rfl ?_
      refine LW.nil ?_
      refine KW.then ?_
      refine CW.seq ?_
      refine CW.cond_false (.tmp rfl) ?_
      refine CW.exit ?_
      refine KW.then_exit ?_
      refine KW.then_exit ?_
      refine KW.block_hit ?_
      refine KW.end0 rfl ⟨_, rfl, ?_⟩
      first | exact .inl ⟨_, hPm, hJ.j⟩ | exact .inr ⟨_, hR5.sub, hJx⟩
    · skip
      obtain ⟨_, ho, hwk⟩ := hNx.walk
      replace hJ := hJ.walk hNx.grown (by omega) ho hwk
      replace hQ := hQ.sto hNx.sto (by omega)
      replace hR5 := hNx.rng
      have zw3 := hNx.size
      refine LW.p (PEv.extract (.tmp rfl) rfl) rfl rfl rfl ?_
      refine LW.nil ?_
      refine KW.then ?_
      refine CW.seq ?_
      refine CW.cond_true (.tmp rfl) ?_
      refine CW.skip ?_
      refine KW.then ?_
      refine CW.block ?_
      refine CW.seq ?_
      -- region 2
      refine CW.region ?_
      refine LW.r (REv.entry (.tmp rfl) hNx.entry) rfl rfl rfl rfl ?_
      rintro _ _ ⟨rfl, rfl⟩
      refine LW.p (PEv.extract (.tmp rfl) rfl) rfl rfl rfl ?_
      refine LW.p (PEv.assign (.tmp rfl)) rfl rfl rfl ?_
      refine LW.nil ?_
      refine KW.then ?_
      refine CW.seq ?_
      -- region 3
      refine CW.region ?_
      refine LW.p (PEv.move (.tmp rfl)) rfl rfl rfl ?_
      refine LW.p (PEv.move (.tmp rfl)) rfl rfl rfl ?_
      refine LW.y (.tmp rfl) (.cons (.tmp rfl) .nil) rfl rfl (hY done k _ hJ (by have := hR5.length; simp at this; omega)) ?_
      rintro _ w4 ⟨y, rfl, hcase⟩
      refine LW.p (PEv.not (.tmp rfl)) rfl rfl rfl ?_
      refine LW.nil ?_
      refine KW.then ?_
      refine CW.cond (.tmp rfl) (fun h13 => ?_) (fun h13 => ?_)
      · first | replace h13 := of_decide_eq_true h13 | replace h13 := of_decide_eq_false h13 | skip
        have hy : y = false := by simpa using h13
        subst hy
        obtain ⟨_, hJx⟩ := hcase.resolve_left (by simp)
        refine CW.ret ?_
        refine KW.block_ret ?_
        refine KW.then_ret ?_
        refine KW.block_ret ?_
        refine KW.ret0 rfl ⟨_, rfl, ?_⟩
        first | exact .inl ⟨_, hPm, hJ.j⟩ | exact .inr ⟨_, hR5.sub, hJx⟩
      · first | replace h13 := of_decide_eq_true h13 | replace h13 := of_decide_eq_false h13 | skip
        have hy : y = true := by simpa using h13
        subst hy
        obtain ⟨_, hJ2, hN⟩ := hcase.resolve_right (by simp)
        replace hQ := hQ.kx hN hQX
        replace hR5 := hR5.kx hN hbY (fun h => by have := hYY _ h; omega)
        refine CW.skip ?_
        refine KW.inBlock ?_
        refine KW.round ?_
        exact ⟨done ++ [k], ⟨hJ2, hQ, hR5⟩, ⟨rfl, rfl, trivial⟩, by have := hR5.length; simp at this ⊢; omega⟩

theorem appendSeq_any (g : Nat) (lb : Array Go.Value) (S Sp : List Int → Prop) (N : Nat) (w : World) (en : ∀ args w, (callFunc g args).run Try.prog w = .ok (.enter g args) w) (hit : ∀ W (X : Nat → Prop), Up w W → (∀ i, X i → w.heap.size ≤ i) → IterS Try.prog g lb eInt X (fun _ => False) S Sp N W) (hN0 : N ≤ 1000000000) : Ret Try.prog 33 #[.slice none 0 0, .func (.func g) #[] lb] w fun r w' => ∃ ks, S ks ∧ OwnS w' w.heap.size 3 1 eInt r ks ∧ Up w w' := by
  have hW := Up.refl w
  obtain ⟨w0, rfl⟩ : ∃ w0, w0 = w := ⟨_, rfl⟩
  refine Calls_startM (n := 13) Try.func33 rfl rfl rfl ?_
  refine CW.seq ?_
  -- region 0
  refine CW.region ?_
  refine LW.r (REv.box1 (.tmp rfl) rfl) rfl rfl rfl rfl ?_
  rintro _ w1 ⟨B2, rfl, NB2⟩
  have eB2 := NB2.at_
  have zB2 := NB2.size
  replace hW := hW.up NB2.up
  have hB2 := NB2.blk
  refine LW.p (PEv.assign (.const _)) rfl rfl rfl ?_
  refine LW.nil ?_
  refine KW.then ?_
  refine CW.seq ?_
  refine CW.seq ?_
  -- region 1
  refine CW.region ?_
  refine LW.p (PEv.move (.tmp rfl)) rfl rfl rfl ?_
  refine LW.nil ?_
  refine KW.then ?_
  refine CW.block ?_
  obtain ⟨bq, hbq⟩ : ∃ bq, bq = w1.heap.size := ⟨_, rfl⟩
  refine CW.rangeFunc (fun i => B2 ≤ i) (fun _ => False) (fun pre W => Sz bq W ∧ ∃ v, Blk W B2 #[v] 35 ∧ OwnS W (B2 + 1) 3 1 eInt v pre ∧ Up w0 W) (fun c pre W => Sz bq W ∧ False) (fun x a' W => Ag 13 [] ([(5, .eq (vi x)), (2, .eq (.pointer (some ⟨B2, 0, none⟩)))]) a' W) (.tmp rfl) en (hit _ _ hW (fun i (hi : B2 ≤ i) => by omega)) (fun _ => rfl) rfl ?_ ?_ ?_ ?_ ?_ ?_ ?_ ?_
  · rw [← hbq]
    intro pre W W' row hs hg hr
    obtain ⟨hZ, v, hB2, hO, hW⟩ := hs
    exact ⟨hZ.ko (Ko.grown hg hr), v, hB2.ko (Ko.grown hg hr), hO.ko (Ko.grown hg hr), hW.ko (Ko.grown hg hr) (by omega)⟩
  · rw [← hbq]
    intro c pre W W' row hs hg hr
    obtain ⟨hZ, hF⟩ := hs
    exact ⟨hZ.ko (Ko.grown hg hr), hF⟩
  · intro x a' u W W' row hs hg hr
    exact hs.world rfl _
  · exact ⟨Nat.le_of_eq hbq, _, hB2, OwnS.nil _ _ _ _ _, hW⟩
  · rw [← hbq]
    intro lp pre x w2 K hs hk a ha
    obtain ⟨hZ, v, hB2, hO, hW⟩ := hs
    have zq := hZ.le
    have hK := Kf.refl bq w2
    have hN := Kx.refl bq (fun i => B2 ≤ i) (fun _ => False) w2
    revert a
    refine CW.assign1 (p := 7) rfl ?_
    -- region 2
    refine CW.region ?_
    refine LW.p (PEv.assign (.tmp rfl)) rfl rfl rfl ?_
    refine LW.nil ?_
    exact fun a ha => hk a _ hK hN ⟨hZ, v, hB2, hO, hW⟩ (ha.sub ⟨rfl, rfl, trivial⟩)
  · rw [← hbq]
    intro lp pre x a' w3 hs hx hlt
    obtain ⟨hZ, v, hB2, hO, hW⟩ := hs
    have ha := hx
    have zq := hZ.le
    have hK := Kf.refl bq w3
    have hN := Kx.refl bq (fun i => B2 ≤ i) (fun _ => False) w3
    refine (show CW (some lp) 8 _ 13 [] _ (ownPostG bq (Kx bq (fun i => B2 ≤ i) (fun _ => False)) _ _ (pre ++ [x]) w3) ([(5, .eq (vi x)), (2, .eq (.pointer (some ⟨B2, 0, none⟩)))]) w3 from ?_) a' ha
    refine CW.block ?_
    -- region 3
    refine CW.region ?_
    refine LW.p (PEv.load Try.isAgg35 (.tmp rfl) (hB2.celln rfl)) rfl rfl rfl ?_
    refine LW.p (PEv.move (.tmp rfl)) rfl rfl rfl ?_
    refine LW.r (REv.buildSlice (xs := [x]) (enc := eInt) (mk := vi) Try.underlying35 Try.sizeOf3 Try.zeroValue3 rfl (by decide) (fun _ => rfl) (fun _ => rfl) (.cons (.tmp rfl) .nil) rfl) rfl rfl rfl rfl ?_
    rintro _ w4 ⟨B10, cB10, rfl, NB10, yB10, xB10⟩
    have eB10 := NB10.at_
    have zB10 := NB10.size
    replace hZ := hZ.up NB10.up
    replace hB2 := hB2.up NB10.up
    replace hO := hO.up NB10.up
    replace hW := hW.up NB10.up
    replace hK := hK.up NB10.up
    replace hN := hN.up NB10.up
    have hB10 := NB10.blk
    have hE10 := xB10
    refine LW.r (REv.append (enc := eInt) (base := B2 + 1) (bytes := 8) (i := Try.t3) Try.underlying35 (by kernel_rfl) rfl rfl rfl rfl (by decide) (fun _ => rfl) eInt_one (.tmp rfl) (.tmp rfl) hO (Sl.of_els hE10) (by simp) (by simp [maxLen]; omega) (by simp; omega) (by omega)) rfl rfl rfl rfl ?_
    rintro v11 w5 ⟨Ow5, Gw5⟩
    have zw5 := Gw5.size
    replace hZ := hZ.gr Gw5 rfl
    replace hB2 := hB2.gr Gw5 (by omega)
    replace hW := hW.gr Gw5 (by omega)
    replace hK := hK.gr Gw5
    replace hN := hN.gr Gw5 (fun i hi => by first | exact .inr (by omega) | exact .inl (by show _ ≤ _; omega))
    replace hO := Ow5
    refine LW.s (SEv.store Try.sizeOf35 (.tmp rfl) (.tmp rfl) hO.one hB2 (by simp)) rfl rfl rfl ?_
    intro w6 Nw6
    have zw6 := Nw6.size
    replace hZ := hZ.sto Nw6.sto (by omega)
    replace hO := hO.sto Nw6.sto (by omega)
    replace hW := hW.sto Nw6.sto (by omega)
    replace hK := hK.sto Nw6.sto (.inr (.inr ⟨_, _, hB2⟩))
    replace hN := hN.stoC Nw6.sto (⟨_, _, hB2⟩) (by first | exact .inr (by omega) | exact .inl rfl | exact .inl (by show _ ≤ _; omega))
    replace hB2 := Nw6.blk
    replace hB2 : Blk w6 B2 #[v11] _ := hB2
    refine LW.nil ?_
    refine KW.inBlock ?_
    exact fun a ha => ⟨hK, hN, hZ, _, hB2, hO, hW⟩
  · intro D ys w7 hDb hS hs hD
    rw [← hbq] at hDb
    obtain ⟨hZ, v, hB2, hO, hW⟩ := hs
    replace hD : Ob w7 D (.deferred (some [])) := hD
    have zD := hD.lt
    have zq := hZ.le
    refine KW.inBlock ?_
    refine KW.then ?_
    refine CW.seq ?_
    -- region 4
    refine CW.region ?_
    refine LW.p (PEv.load Try.isAgg35 (.tmp rfl) (hB2.celln rfl)) rfl rfl rfl ?_
    refine LW.p (PEv.assign (.tmp rfl)) rfl rfl rfl ?_
    refine LW.nil ?_
    refine KW.then ?_
    refine CW.ret ?_
    refine KW.unmark hD rfl ?_
    replace hZ := hZ.ko (Ko.putObj (.deferred none) hD rfl hDb)
    replace hB2 := hB2.ko (Ko.putObj (.deferred none) hD rfl hDb)
    replace hO := hO.ko (Ko.putObj (.deferred none) hD rfl hDb)
    replace hW := hW.putObj (D := D) (.deferred none) (by omega)
    refine KW.ret1 rfl rfl ⟨_, rfl, ?_⟩
    exact ⟨ys, hS, hO.mono (by omega), hW⟩
  · intro D c pre w8 hDb hpre hs hD
    rw [← hbq] at hDb
    obtain ⟨hZ, hF⟩ := hs
    replace hD : Ob w8 D (.deferred (some [])) := hD
    have zD := hD.lt
    have zq := hZ.le
    exact hF.elim

theorem sort_any (base e : Nat) (v : Value) (ks : List Int) (w : World) (h : OwnS w base e 1 eInt v ks) (hlen : ks.length < 4611686018427387904) : Ret Try.prog 26 #[v] w fun r w' => r = .tuple #[] ∧ OwnS w' base e 1 eInt v (ks.mergeSort fun x y => decide (x ≤ y)) ∧ Grew base w w' := by
  have h0 := h
  obtain ⟨h1, ⟨rfl, hn⟩ | ⟨g, cap, cur, rfl, hg, hb, h2, h3, h4, h5⟩⟩ := h
  · have hks : ks = [] := List.eq_nil_of_length_eq_zero hn
    subst hks
    refine Calls.mono (Try.slices_Sort_int_none none 0 w) ?_
    rintro e' w' ⟨rfl, rfl⟩
    exact ⟨_, rfl, rfl, by simpa using h0, ⟨rfl, rfl, rfl, Nat.le_refl _, fun _ _ _ => rfl, fun _ _ h _ => h⟩⟩
  · rw [flat_int] at h5
    have hl : g < w.heap.size := lt_of_block hb
    refine Calls.mono (Try.slices_Sort_int g 0 cap ks w (holds_of_blockI hb (by simpa using h5)) hl hlen) ?_
    rintro e' w' ⟨rfl, n, os, rfl⟩
    have hg2 := Go.grownBy_sortedI (w := w) (g := g) (n := n) (os := os) (ks.mergeSort fun x y => decide (x ≤ y)).toArray
    have ho := Go.ownsRow_sortedI (w := w) (n := n) (os := os) (ss := ks) (ts := ks.mergeSort fun x y => decide (x ≤ y)) (by simp) hg hb h2 h3 h4
    refine ⟨_, rfl, rfl, ?_, ⟨hg2.os, hg2.tape, hg2.output, hg2.size, fun i hi hi2 => hg2.block i hi (fun e => by cases e; omega), fun i o hi ho => (hg2.block i (lt_of_block hi) (fun e => by cases e; rw [hb] at hi; cases hi; cases ho)).trans hi⟩⟩
    show World.ownsRow _ _ _ _ _ _ _
    rw [flat_int, List.length_mergeSort]
    exact ho

theorem collect_any (g : Nat) (lb : Array Go.Value) (S Sp : List Int → Prop) (N : Nat) (w : World) (en : ∀ args w, (callFunc g args).run Try.prog w = .ok (.enter g args) w) (hit : ∀ W (X : Nat → Prop), Up w W → (∀ i, X i → w.heap.size ≤ i) → IterS Try.prog g lb eInt X (fun _ => False) S Sp N W) (hN0 : N ≤ 1000000000) : Ret Try.prog 25 #[.func (.func g) #[] lb] w fun r w' => ∃ ks, S ks ∧ OwnS w' w.heap.size 3 1 eInt r ks ∧ Up w w' := by
  have hW := Up.refl w
  refine Calls_start (n := 5) (m := 9) Try.func25 rfl rfl rfl ?_
  refine CW.seq ?_
  -- region 0
  refine CW.region ?_
  refine LW.p (PEv.assign (.const _)) rfl rfl rfl ?_
  refine LW.nil ?_
  refine KW.then ?_
  refine CW.seq ?_
  -- region 1
  refine CW.region ?_
  refine LW.p (PEv.move (.tmp rfl)) rfl rfl rfl ?_
  refine LW.c (enter_call0 (.cons (.const _) (.cons (.tmp rfl) .nil)) (Try.en33)) rfl rfl rfl rfl (appendSeq_any _ _ _ _ _ _ en hit hN0) ?_
  rintro _ w1 ⟨ks, hS, hO, uw1⟩
  have zw1 := uw1.size
  replace hW := hW.up uw1
  refine LW.p (PEv.assign (.tmp rfl)) rfl rfl rfl ?_
  refine LW.nil ?_
  refine KW.then ?_
  refine CW.ret ?_
  refine KW.ret1 rfl rfl ⟨_, rfl, ?_⟩
  exact ⟨ks, hS, hO, hW⟩

theorem sorted_any (g : Nat) (lb : Array Go.Value) (S Sp : List Int → Prop) (N : Nat) (w : World) (en : ∀ args w, (callFunc g args).run Try.prog w = .ok (.enter g args) w) (hit : ∀ W (X : Nat → Prop), Up w W → (∀ i, X i → w.heap.size ≤ i) → IterS Try.prog g lb eInt X (fun _ => False) S Sp N W) (hN0 : N ≤ 1000000000) (hS0 : ∀ ks, S ks → ks.length ≤ 1000000000) : Ret Try.prog 18 #[.func (.func g) #[] lb] w fun r w' => ∃ ks, S ks ∧ OwnS w' w.heap.size 3 1 eInt r (ks.mergeSort fun x y => decide (x ≤ y)) ∧ Up w w' := by
  have hW := Up.refl w
  refine Calls_start (n := 9) (m := 9) Try.func18 rfl rfl rfl ?_
  refine CW.seq ?_
  -- region 0
  refine CW.region ?_
  refine LW.p (PEv.assign (.const _)) rfl rfl rfl ?_
  refine LW.nil ?_
  refine KW.then ?_
  refine CW.seq ?_
  -- region 1
  refine CW.region ?_
  refine LW.p (PEv.move (.tmp rfl)) rfl rfl rfl ?_
  refine LW.c (enter_call0 (.cons (.tmp rfl) .nil) (Try.en25)) rfl rfl rfl rfl (collect_any _ _ _ _ _ _ en hit hN0) ?_
  rintro v w1 ⟨ks, hS, hO, uw1⟩
  have zw1 := uw1.size
  replace hW := hW.up uw1
  refine LW.p (PEv.assign (.tmp rfl)) rfl rfl rfl ?_
  refine LW.nil ?_
  refine KW.then ?_
  refine CW.seq ?_
  -- region 2
  refine CW.region ?_
  refine LW.p (PEv.move (.tmp rfl)) rfl rfl rfl ?_
  refine LW.c (enter_call0 (.cons (.tmp rfl) .nil) (Try.en26)) rfl rfl rfl rfl (sort_any _ _ _ _ _ hO (by have := hS0 ks hS; omega)) ?_
  rintro _ w2 ⟨rfl, hO2, uw2⟩
  have zw2 := uw2.size
  replace hW := hW.gr uw2 (by omega)
  replace hO := hO2
  refine LW.nil ?_
  refine KW.then ?_
  refine CW.seq ?_
  -- region 3
  refine CW.region ?_
  refine LW.p (PEv.move (.tmp rfl)) rfl rfl rfl ?_
  refine LW.p (PEv.assign (.tmp rfl)) rfl rfl rfl ?_
  refine LW.nil ?_
  refine KW.then ?_
  refine CW.ret ?_
  refine KW.ret1 rfl rfl ⟨_, rfl, ?_⟩
  exact ⟨ks, hS, hO, hW⟩

end Go.Proofs.Ytdkfjllchhoojaa
