import Derived.Test.YtkpkljbmbmjadaaDi2
import Derived.Test.YtkpkljbmbmjadaaSh
import Derived.Sort.OwnSortedInts
namespace Go.Wx

theorem flat_int (ks : List Int) : ks.flatMap (fun x => (eInt x).toList) = ks.map vi := by
  induction ks with
  | nil => rfl
  | cons k ks ih => rw [List.flatMap_cons, ih]; rfl
theorem OwnS.shape {α : Type} {enc : α → Array Go.Value} {w : World} {b k : Nat} {e : TypeId} {v : Go.Value} {xs : List α} (h : OwnS w b e k enc v xs) : (v = .slice none 0 0 ∧ xs = []) ∨ ∃ g cap, v = .slice (some ⟨g, 0, none⟩) xs.length cap ∧ xs.length ≤ cap := by
  obtain ⟨_, ⟨rfl, hn⟩ | ⟨g, cap, cur, rfl, _, _, hc, _⟩⟩ := h
  · exact .inl ⟨rfl, List.eq_nil_of_length_eq_zero hn⟩
  · exact .inr ⟨g, cap, rfl, hc⟩
/-- the row of an owned slice of ints, written anew by the library, and its head -/
theorem ownRow {w : World} {g cap q b : Nat} {e : TypeId} {ks ts : List Int} (h : OwnS w b e 1 eInt (.slice (some ⟨g, 0, none⟩) ks.length cap) ks) (ht : ts.length ≤ ks.length) :
    Stp (aOwn e 1 eInt (.slice (some ⟨g, 0, none⟩) ks.length cap) ks) (aOwn e 1 eInt (.slice (some ⟨g, 0, none⟩) ts.length cap) ts) w (Go.Sort.putRow (Value.int .i64) (Go.Sort.ahead w q) g 0 (ts ++ List.replicate (ks.length - ts.length) 0).toArray) := by
  obtain ⟨h1, ⟨hn, _⟩ | ⟨g', cap', cur, hv, hb, hg, hc, hm, hs, htk⟩⟩ := h
  · cases hn
  · cases hv
    have hlen : (ts ++ List.replicate (ks.length - ts.length) (0 : Int)).length = ks.length := by simp; omega
    have h0 := Go.ownsRow_sortedI (w := w) (base := 0) (g := g) (cap := cap) (n := q) (os := #[]) (ss := ks) (ts := ts ++ List.replicate (ks.length - ts.length) 0) hlen (Nat.zero_le _) hg hc hm hs
    have hgr := Go.grownBy_sortedI (w := w) (g := g) (n := q) (os := #[]) (ts ++ List.replicate (ks.length - ts.length) 0).toArray
    have e0 : ∀ W : World, Go.Sort.grow W #[] = W := fun W => by simp [Go.Sort.grow]
    rw [e0] at h0 hgr
    refine ⟨⟨hgr.os, hgr.tape, hgr.output, hgr.size, fun i hi hne => hgr.block i hi (fun e => hne e.symm)⟩, ?_, fun i hi => .inl hi⟩
    obtain ⟨_, ⟨hn, _⟩ | ⟨g', cap', cur', hv, _, hg', _, _, hs', ht'⟩⟩ := h0
    · cases hn
    · cases hv
      show OwnS _ 0 e 1 eInt _ ts
      refine ⟨by rw [flat_int]; simp, .inr ⟨g, cap, cur', rfl, Nat.zero_le _, hg', by omega, hm, hs', ?_⟩⟩
      rw [Nat.mul_one] at ht' ⊢
      have : cur'.toList.take ts.length = (cur'.toList.take ks.length).take ts.length := by rw [List.take_take]; congr 1; omega
      rw [this, ht', flat_int, List.map_append, List.take_left' (by simp)]
theorem ownHolds {w : World} {g cap b : Nat} {e : TypeId} {ks : List Int} (h : OwnS w b e 1 eInt (.slice (some ⟨g, 0, none⟩) ks.length cap) ks) : Go.Sort.Holds (Value.int .i64) w g 0 ks.toArray := by
  obtain ⟨_, ⟨hn, _⟩ | ⟨g', cap', cur, hv, hb, hg, hc, hm, hs, htk⟩⟩ := h
  · cases hn
  · cases hv
    rw [flat_int, Nat.mul_one] at htk
    exact Go.holds_of_blockI hg htk
theorem compact_le (ks : List Int) : (Go.Lib.compact ks).length ≤ ks.length := by
  unfold Go.Lib.compact Go.Lib.compactUpTo
  rw [List.length_map]
  exact Nat.le_trans (List.length_filter_le _ _) (by simp)

end Go.Wx
namespace Go.Proofs.Ytkpkljbmbmjadaa
open Go.Wx Go.RowKit
theorem values_any (v : Go.Value) (h1 : v.oneCell' = true) (w : World) : Ret Try.prog 40 #[v] w fun r w' => (∃ B, r = .func (.func 47) #[] #[.pointer (some ⟨B, 0, none⟩)] ∧ Blk w' B #[v] 37 ∧ w.heap.size ≤ B) ∧ Up w w' := by
  have hW := Up.refl w
  refine Calls_start (n := 4) (m := 9) Try.func40 rfl rfl rfl ?_
  refine CW.seq (CW.region ?_)
  refine LW.r (REv.box1 (.tmp rfl) h1) rfl rfl rfl rfl ?_
  rintro _ w1 ⟨B1, rfl, NB1⟩
  have eB1 := NB1.at_
  have zB1 := NB1.size
  replace hW := hW.up NB1.up
  have hB1 := NB1.blk
  refine LW.p (PEv.assign (.const _)) rfl rfl rfl (LW.nil (KW.then (CW.seq (CW.region ?_))))
  refine LW.p (PEv.makeFunc (.cons (.tmp rfl) .nil)) rfl rfl rfl ?_
  refine LW.p (PEv.assign (.tmp rfl)) rfl rfl rfl (LW.nil (KW.then (CW.ret ?_)))
  refine KW.ret1 rfl rfl ⟨_, rfl, ?_⟩
  exact ⟨⟨_, rfl, hB1, by omega⟩, hW⟩

theorem values_iter (X Y : Nat → Prop) (B1 : Nat) (ad : Option Addr) (cp : Nat) (xs : List Int) (w1 w : World) (hU0 : Up w1 w) (hX : ∀ i, X i → w1.heap.size ≤ i) (hYY : ∀ i, Y i → w1.heap.size ≤ i) (hQX : ¬ X B1) (hQ0 : Blk w B1 #[.slice ad xs.length cp] 37) (hE1 : Els w1 ad 1 eInt xs) (hlen : xs.length < 9223372036854775807) :
    IterS Try.prog 47 #[.pointer (some ⟨B1, 0, none⟩)] eInt X Y (fun ys => ys = xs) (fun pre => pre <+: xs) xs.length w := by
  have z1 := hU0.size
  refine IterS.of ?_
  intro lp J Jx w0 hUw _ hY hJ
  obtain ⟨Bd, hBd⟩ : ∃ Bd, Bd = w0.heap.size := ⟨_, rfl⟩
  rw [← hBd] at hJ hY
  clear hBd
  have hQ := hQ0.up hUw
  have hU := hU0.trans hUw
  refine Calls_start (n := 16) (m := 9) Try.func47 rfl rfl rfl ?_
  refine CW.seq (CW.region ?_)
  refine LW.p (PEv.load Try.isAgg37 (.tmp rfl) (hQ.celln rfl)) rfl rfl rfl ?_
  refine LW.p (PEv.lenS Try.underlying37 (.tmp rfl)) rfl rfl rfl ?_
  refine LW.p (PEv.move (.const _)) rfl rfl rfl ?_
  refine LW.nil (KW.then (CW.block ?_))
  refine CW.loop (σ := Nat) (fun s w => s ≤ xs.length ∧ Jw Bd J (xs.take s) w ∧ Up w1 w ∧ Blk w B1 #[.slice ad xs.length cp] 37) (fun s => [(0, .eq (.func (.yield lp) #[] #[])), (1, .eq (.pointer (some ⟨B1, 0, none⟩))), (5, .eq (.slice ad xs.length cp)), (6, .eq (vi (xs.length : Int))), (7, .eq (vi (s : Int)))]) (fun s => xs.length - s) 0 ?_ ?_ ?_
  ·exact ⟨Nat.zero_le _, hJ, hU, hQ⟩
  ·exact ⟨rfl, rfl, rfl, rfl, rfl, trivial⟩
  ·rintro k w1 ⟨hk, hJ, hU, hQ⟩
   refine CW.seq (CW.region ?_)
   refine LW.p (PEv.lss (.tmp rfl) (.tmp rfl)) rfl rfl rfl ?_
   refine LW.nil (KW.then (CW.seq ?_))
   refine CW.cond (.tmp rfl) (fun h8 => ?_) (fun h8 => ?_)
   ·first | replace h8 := of_decide_eq_true h8 | replace h8 := of_decide_eq_false h8 | skip
    refine CW.skip (KW.then (CW.seq (CW.block (CW.seq ?_))))
    obtain ⟨x, hx⟩ := getElem?_of_lt (xs := xs) (i := k) (by omega)
    obtain ⟨B, o, had, hc1⟩ := hE1 k x hx
    have hcell := hc1.up hU
    refine CW.region ?_
    refine LW.p (PEv.indexAddr' Try.underlying37 Try.sizeOf3 (.tmp rfl) (.tmp rfl) (by omega) had) rfl rfl rfl ?_
    refine LW.p (PEv.load Try.isAgg3 (.tmp rfl) (hcell.nth (j := 0) rfl)) rfl rfl rfl ?_
    refine LW.p (PEv.assign (.tmp rfl)) rfl rfl rfl (LW.nil (KW.then (CW.seq (CW.region (LW.p (PEv.move (.tmp rfl)) rfl rfl rfl (LW.p (PEv.move (.tmp rfl)) rfl rfl rfl ?_))))))
    refine LW.y (.tmp rfl) (.cons (.tmp rfl) .nil) rfl rfl (hY _ x _ hJ (by rw [List.length_take]; omega)) ?_
    rintro _ w2 ⟨y, rfl, hcase⟩
    refine LW.p (PEv.not (.tmp rfl)) rfl rfl rfl ?_
    refine LW.nil (KW.then ?_)
    refine CW.cond (.tmp rfl) (fun h14 => ?_) (fun h14 => ?_)
    ·first | replace h14 := of_decide_eq_true h14 | replace h14 := of_decide_eq_false h14 | skip
     have hy : y = false := by simpa using h14
     subst hy
     obtain ⟨_, hJx⟩ := hcase.resolve_left (by simp)
     refine CW.ret (KW.block_ret (KW.then_ret (KW.then_ret (KW.block_ret ?_))))
     refine KW.ret0 rfl ⟨_, rfl, ?_⟩
     first | exact .inl ⟨_, rfl, by rw [hkk, List.take_length] at hJ; exact hJ.j⟩ | exact .inr ⟨_, by rw [← take_succ_of hx]; exact List.take_prefix _ _, hJx⟩
    ·first | replace h14 := of_decide_eq_true h14 | replace h14 := of_decide_eq_false h14 | skip
     have hy : y = true := by simpa using h14
     subst hy
     obtain ⟨_, hJ2, hN⟩ := hcase.resolve_right (by simp)
     replace hU := hU.kx hN hX hYY z1
     replace hQ := hQ.kx hN hQX
     rw [← take_succ_of hx] at hJ2
     refine CW.skip (KW.inBlock (KW.then (CW.region ?_)))
     refine LW.p (PEv.inc (.tmp rfl) (by omega)) rfl rfl rfl ?_
     refine LW.p (PEv.move (.tmp rfl)) rfl rfl rfl (LW.nil (KW.round ?_))
     exact ⟨k + 1, ⟨by omega, hJ2, hU, hQ⟩, ⟨rfl, rfl, rfl, rfl, rfl, trivial⟩, by omega⟩
   ·first | replace h8 := of_decide_eq_true h8 | replace h8 := of_decide_eq_false h8 | skip
    have hkk : k = xs.length := by omega
    refine CW.exit (KW.then_exit (KW.then_exit (KW.block_hit ?_)))
    refine KW.end0 rfl ⟨_, rfl, ?_⟩
    first | exact .inl ⟨_, rfl, by rw [hkk, List.take_length] at hJ; exact hJ.j⟩ | exact .inr ⟨_, by rw [← take_succ_of hx]; exact List.take_prefix _ _, hJx⟩

theorem appendSeq_any (g : Nat) (lb : Array Go.Value) (S Sp : List Int → Prop) (N : Nat) (w : World) (en : ∀ args w, (callFunc g args).run Try.prog w = .ok (.enter g args) w) (hit : ∀ W (X : Nat → Prop), Up w W → (∀ i, X i → w.heap.size ≤ i) → IterS Try.prog g lb eInt X (fun _ => False) S Sp N W) (hN0 : N ≤ 1000000000) : Ret Try.prog 49 #[.slice none 0 0, .func (.func g) #[] lb] w fun r w' => ∃ ks, S ks ∧ OwnS w' w.heap.size 3 1 eInt r ks ∧ Up w w' := by
  have hW := Up.refl w
  obtain ⟨w0, rfl⟩ : ∃ w0, w0 = w := ⟨_, rfl⟩
  refine Calls_startM (n := 13) Try.func49 rfl rfl rfl ?_
  refine CW.seq (CW.region ?_)
  refine LW.r (REv.box1 (.tmp rfl) rfl) rfl rfl rfl rfl ?_
  rintro _ w1 ⟨B2, rfl, NB2⟩
  have eB2 := NB2.at_
  have zB2 := NB2.size
  replace hW := hW.up NB2.up
  have hB2 := NB2.blk
  refine LW.p (PEv.assign (.const _)) rfl rfl rfl (LW.nil (KW.then (CW.seq (CW.seq (CW.region (LW.p (PEv.move (.tmp rfl)) rfl rfl rfl (LW.nil (KW.then (CW.block ?_)))))))))
  obtain ⟨bq, hbq⟩ : ∃ bq, bq = w1.heap.size := ⟨_, rfl⟩
  refine CW.rangeFunc (fun i => B2 ≤ i) (fun _ => False) (fun pre W => Sz bq W ∧ ∃ v, Blk W B2 #[v] 37 ∧ OwnS W (B2 + 1) 3 1 eInt v pre ∧ Up w0 W) (fun c pre W => Sz bq W ∧ False) (fun x a' W => Ag 13 [] ([(5, .eq (vi x)), (2, .eq (.pointer (some ⟨B2, 0, none⟩)))]) a' W) (.tmp rfl) en (hit _ _ hW (fun i (hi : B2 ≤ i) => by omega)) (fun _ => rfl) rfl ?_ ?_ ?_ ?_ ?_ ?_ ?_ ?_
  ·rw [← hbq]
   intro pre W W' row hs hg hr
   obtain ⟨hZ, v, hB2, hO, hW⟩ := hs
   exact ⟨hZ.ko (Ko.grown hg hr), v, hB2.ko (Ko.grown hg hr), hO.ko (Ko.grown hg hr), hW.ko (Ko.grown hg hr) (by omega)⟩
  ·rw [← hbq]
   intro c pre W W' row hs hg hr
   obtain ⟨hZ, hF⟩ := hs
   exact ⟨hZ.ko (Ko.grown hg hr), hF⟩
  ·intro x a' u W W' row hs hg hr
   exact hs.world rfl _
  ·exact ⟨Nat.le_of_eq hbq, _, hB2, OwnS.nil _ _ _ _ _, hW⟩
  ·rw [← hbq]
   intro lp pre x w2 K hs hk a ha
   obtain ⟨hZ, v, hB2, hO, hW⟩ := hs
   have zq := hZ.le
   have hK := Kf.refl bq w2
   have hN := Kx.refl bq (fun i => B2 ≤ i) (fun _ => False) w2
   revert a
   refine CW.assign1 (p := 7) rfl ?_
   refine CW.region (LW.p (PEv.assign (.tmp rfl)) rfl rfl rfl (LW.nil ?_))
   exact fun a ha => hk a _ hK hN ⟨hZ, v, hB2, hO, hW⟩ (ha.sub ⟨rfl, rfl, trivial⟩)
  ·rw [← hbq]
   intro lp pre x a' w3 hs hx hlt
   obtain ⟨hZ, v, hB2, hO, hW⟩ := hs
   have ha := hx
   have zq := hZ.le
   have hK := Kf.refl bq w3
   have hN := Kx.refl bq (fun i => B2 ≤ i) (fun _ => False) w3
   refine (show CW (some lp) 8 _ 13 [] _ (ownPostG bq (Kx bq (fun i => B2 ≤ i) (fun _ => False)) _ _ (pre ++ [x]) w3) ([(5, .eq (vi x)), (2, .eq (.pointer (some ⟨B2, 0, none⟩)))]) w3 from ?_) a' ha
   refine CW.block (CW.region ?_)
   refine LW.p (PEv.load Try.isAgg37 (.tmp rfl) (hB2.celln rfl)) rfl rfl rfl ?_
   refine LW.p (PEv.move (.tmp rfl)) rfl rfl rfl ?_
   refine LW.r (REv.buildSlice (xs := [x]) (enc := eInt) (mk := vi) Try.underlying37 Try.sizeOf3 Try.zeroValue3 rfl (by decide) (fun _ => rfl) (fun _ => rfl) (.cons (.tmp rfl) .nil) rfl) rfl rfl rfl rfl ?_
   rintro _ w4 ⟨B10, cB10, rfl, NB10, yB10, xB10⟩
   have eB10 := NB10.at_
   have zB10 := NB10.size
   replace hZ := hZ.up NB10.up
   replace hB2 := hB2.up NB10.up
   replace hO := hO.up NB10.up
   replace hW := hW.up NB10.up
   replace hK := hK.up NB10.up
   replace hN := hN.up NB10.up
   have hB10 := NB10.blk
   have hE10 := xB10
   refine LW.r (REv.append (enc := eInt) (base := B2 + 1) (bytes := 8) (i := Try.t3) Try.underlying37 (by kernel_rfl) rfl rfl rfl rfl (by decide) (fun _ => rfl) eInt_one (.tmp rfl) (.tmp rfl) hO (Sl.of_els hE10) (by simp) (by simp [maxLen]; omega) (by simp; omega) (by omega)) rfl rfl rfl rfl ?_
   rintro v11 w5 ⟨Ow5, Gw5⟩
   have zw5 := Gw5.size
   replace hZ := hZ.gr Gw5 rfl
   replace hB2 := hB2.gr Gw5 (by omega)
   replace hW := hW.gr Gw5 (by omega)
   replace hK := hK.gr Gw5
   replace hN := hN.gr Gw5 (fun i hi => by first | exact .inr (by omega) | exact .inl (by show _ ≤ _; omega))
   replace hO := Ow5
   refine LW.s (SEv.store Try.sizeOf37 (.tmp rfl) (.tmp rfl) hO.one hB2 (by simp)) rfl rfl rfl ?_
   intro w6 Nw6
   have zw6 := Nw6.size
   replace hZ := hZ.sto Nw6.sto (by omega)
   replace hO := hO.sto Nw6.sto (by omega)
   replace hW := hW.sto Nw6.sto (by omega)
   replace hK := hK.sto Nw6.sto (.inr (.inr ⟨_, _, hB2⟩))
   replace hN := hN.stoC Nw6.sto (⟨_, _, hB2⟩) (by first | exact .inr (by omega) | exact .inl rfl | exact .inl (by show _ ≤ _; omega))
   replace hB2 := Nw6.blk
   replace hB2 : Blk w6 B2 #[v11] _ := hB2
   refine LW.nil (KW.inBlock ?_)
   exact fun a ha => ⟨hK, hN, hZ, _, hB2, hO, hW⟩
  ·intro D ys w7 hDb hS hs hD
   rw [← hbq] at hDb
   obtain ⟨hZ, v, hB2, hO, hW⟩ := hs
   replace hD : Ob w7 D (.deferred (some [])) := hD
   have zD := hD.lt
   have zq := hZ.le
   refine KW.inBlock (KW.then (CW.seq (CW.region ?_)))
   refine LW.p (PEv.load Try.isAgg37 (.tmp rfl) (hB2.celln rfl)) rfl rfl rfl ?_
   refine LW.p (PEv.assign (.tmp rfl)) rfl rfl rfl (LW.nil (KW.then (CW.ret ?_)))
   refine KW.unmark hD rfl ?_
   replace hZ := hZ.ko (Ko.putObj (.deferred none) hD rfl hDb)
   replace hB2 := hB2.ko (Ko.putObj (.deferred none) hD rfl hDb)
   replace hO := hO.ko (Ko.putObj (.deferred none) hD rfl hDb)
   replace hW := hW.putObj (D := D) (.deferred none) (by omega)
   refine KW.ret1 rfl rfl ⟨_, rfl, ?_⟩
   exact ⟨ys, hS, hO.mono (by omega), hW⟩
  ·intro D c pre w8 hDb hpre hs hD
   rw [← hbq] at hDb
   obtain ⟨hZ, hF⟩ := hs
   replace hD : Ob w8 D (.deferred (some [])) := hD
   have zD := hD.lt
   have zq := hZ.le
   exact hF.elim

theorem sort_any (base e : Nat) (v : Value) (ks : List Int) (w : World) (h : OwnS w base e 1 eInt v ks) (hlen : ks.length < 4611686018427387904) : Ret Try.prog 46 #[v] w fun r w' => r = .tuple #[] ∧ OwnS w' base e 1 eInt v (ks.mergeSort fun x y => decide (x ≤ y)) ∧ Grew base w w' := by
  have h0 := h
  obtain ⟨h1, ⟨rfl, hn⟩ | ⟨g, cap, cur, rfl, hg, hb, h2, h3, h4, h5⟩⟩ := h
  · have hks : ks = [] := List.eq_nil_of_length_eq_zero hn
    subst hks
    refine Calls.mono (Try.slices_Sort_int_none none 0 w) ?_
    rintro e' w' ⟨rfl, rfl⟩
    exact ⟨_, rfl, rfl, by simpa using h0, ⟨rfl, rfl, rfl, Nat.le_refl _, fun _ _ _ => rfl, fun _ _ h _ => h⟩⟩
  · rw [flat_int] at h5
    have hl : g < w.heap.size := lt_of_block hb
    refine Calls.mono (Try.slices_Sort_int g 0 cap ks w (holds_of_blockI hb (by simpa using h5)) hl hlen) ?_
    rintro e' w' ⟨rfl, n, os, rfl⟩
    have hg2 := Go.grownBy_sortedI (w := w) (g := g) (n := n) (os := os) (ks.mergeSort fun x y => decide (x ≤ y)).toArray
    have ho := Go.ownsRow_sortedI (w := w) (n := n) (os := os) (ss := ks) (ts := ks.mergeSort fun x y => decide (x ≤ y)) (by simp) hg hb h2 h3 h4
    refine ⟨_, rfl, rfl, ?_, ⟨hg2.os, hg2.tape, hg2.output, hg2.size, fun i hi hi2 => hg2.block i hi (fun e => by cases e; omega), fun i o hi ho => (hg2.block i (lt_of_block hi) (fun e => by cases e; rw [hb] at hi; cases hi; cases ho)).trans hi⟩⟩
    show World.ownsRow _ _ _ _ _ _ _
    rw [flat_int, List.length_mergeSort]
    exact ho

theorem collect_any (g : Nat) (lb : Array Go.Value) (S Sp : List Int → Prop) (N : Nat) (w : World) (en : ∀ args w, (callFunc g args).run Try.prog w = .ok (.enter g args) w) (hit : ∀ W (X : Nat → Prop), Up w W → (∀ i, X i → w.heap.size ≤ i) → IterS Try.prog g lb eInt X (fun _ => False) S Sp N W) (hN0 : N ≤ 1000000000) : Ret Try.prog 45 #[.func (.func g) #[] lb] w fun r w' => ∃ ks, S ks ∧ OwnS w' w.heap.size 3 1 eInt r ks ∧ Up w w' := by
  have hW := Up.refl w
  refine Calls_start (n := 5) (m := 9) Try.func45 rfl rfl rfl ?_
  refine CW.seq (CW.region (LW.p (PEv.assign (.const _)) rfl rfl rfl (LW.nil (KW.then (CW.seq (CW.region (LW.p (PEv.move (.tmp rfl)) rfl rfl rfl ?_)))))))
  refine LW.c (enter_call0 (.cons (.const _) (.cons (.tmp rfl) .nil)) (Try.en49)) rfl rfl rfl rfl (appendSeq_any _ _ _ _ _ _ en hit hN0) ?_
  rintro _ w1 ⟨ks, hS, hO, uw1⟩
  have zw1 := uw1.size
  replace hW := hW.up uw1
  refine LW.p (PEv.assign (.tmp rfl)) rfl rfl rfl (LW.nil (KW.then (CW.ret ?_)))
  refine KW.ret1 rfl rfl ⟨_, rfl, ?_⟩
  exact ⟨ks, hS, hO, hW⟩

theorem sorted_any (g : Nat) (lb : Array Go.Value) (S Sp : List Int → Prop) (N : Nat) (w : World) (en : ∀ args w, (callFunc g args).run Try.prog w = .ok (.enter g args) w) (hit : ∀ W (X : Nat → Prop), Up w W → (∀ i, X i → w.heap.size ≤ i) → IterS Try.prog g lb eInt X (fun _ => False) S Sp N W) (hN0 : N ≤ 1000000000) (hS0 : ∀ ks, S ks → ks.length ≤ 1000000000) : Ret Try.prog 39 #[.func (.func g) #[] lb] w fun r w' => ∃ ks, S ks ∧ OwnS w' w.heap.size 3 1 eInt r (ks.mergeSort fun x y => decide (x ≤ y)) ∧ Up w w' := by
  have hW := Up.refl w
  refine Calls_start (n := 9) (m := 9) Try.func39 rfl rfl rfl ?_
  refine CW.seq (CW.region (LW.p (PEv.assign (.const _)) rfl rfl rfl (LW.nil (KW.then (CW.seq (CW.region (LW.p (PEv.move (.tmp rfl)) rfl rfl rfl ?_)))))))
  refine LW.c (enter_call0 (.cons (.tmp rfl) .nil) (Try.en45)) rfl rfl rfl rfl (collect_any _ _ _ _ _ _ en hit hN0) ?_
  rintro v w1 ⟨ks, hS, hO, uw1⟩
  have zw1 := uw1.size
  replace hW := hW.up uw1
  refine LW.p (PEv.assign (.tmp rfl)) rfl rfl rfl (LW.nil (KW.then (CW.seq (CW.region (LW.p (PEv.move (.tmp rfl)) rfl rfl rfl ?_)))))
  refine LW.c (enter_call0 (.cons (.tmp rfl) .nil) (Try.en46)) rfl rfl rfl rfl (sort_any _ _ _ _ _ hO (by have := hS0 ks hS; omega)) ?_
  rintro _ w2 ⟨rfl, hO2, uw2⟩
  have zw2 := uw2.size
  replace hW := hW.gr uw2 (by omega)
  replace hO := hO2
  refine LW.nil (KW.then (CW.seq (CW.region (LW.p (PEv.move (.tmp rfl)) rfl rfl rfl (LW.p (PEv.assign (.tmp rfl)) rfl rfl rfl (LW.nil (KW.then (CW.ret ?_))))))))
  refine KW.ret1 rfl rfl ⟨_, rfl, ?_⟩
  exact ⟨ks, hS, hO, hW⟩

theorem compact_any (v : Go.Value) (ks : List Int) (w : World) (h : OwnS w 0 3 1 eInt v ks) (hlen : ks.length ≤ 9223372036854775807) : Ret Try.prog 38 #[v] w fun r w' => Stp (aOwn 3 1 eInt v ks) (aOwn 3 1 eInt r (Go.Lib.compact ks)) w w' := by
  rcases h.shape with ⟨rfl, rfl⟩ | ⟨g, cap, rfl, hc⟩
  · refine Calls.mono (Try.slices_Compact_int_empty none 0 w) ?_
    rintro e w' ⟨rfl, rfl⟩
    exact ⟨_, rfl, Stp.refl h⟩
  · refine Calls.mono (Try.slices_Compact_int g 0 cap ks w (ownHolds h) hlen hc) ?_
    rintro e w' ⟨rfl, q, rfl⟩
    exact ⟨_, rfl, ownRow h (compact_le ks)⟩

theorem indexFunc_nil (f : Go.Value) (w : World) : Ret Try.prog 48 #[.slice none 0 0, f] w fun r w' => r = vi (-1) ∧ w' = w := by
  have hW := Up.refl w
  obtain ⟨w0, hw0⟩ : ∃ w0, w0 = w := ⟨_, rfl⟩
  subst hw0
  refine Calls_start (n := 19) (m := 9) Try.func48 rfl rfl rfl ?_
  refine CW.seq (CW.region (LW.p (PEv.assign (.const _)) rfl rfl rfl (LW.nil (KW.then (CW.seq (CW.seq (CW.region (LW.p (PEv.move (.tmp rfl)) rfl rfl rfl ?_))))))))
  refine LW.p (PEv.lenS Try.underlying37 (.tmp rfl)) rfl rfl rfl ?_
  refine LW.p (PEv.move (.const _)) rfl rfl rfl ?_
  refine LW.nil (KW.then (CW.block ?_))
  refine CW.loop (σ := Unit) (fun s w => w = w0) (fun s => [(8, .eq (vi ((0 : Nat) : Int))), (7, .eq (vi ((0 : Nat) : Int))), (0, .eq (.slice none 0 0)), (1, .eq f)]) (fun s => 0) () ?_ ?_ ?_
  ·rfl
  ·exact ⟨rfl, rfl, rfl, rfl, trivial⟩
  ·rintro _ _ rfl
   refine CW.seq (CW.region ?_)
   refine LW.p (PEv.lss (.tmp rfl) (.tmp rfl)) rfl rfl rfl ?_
   refine LW.nil (KW.then (CW.seq ?_))
   refine CW.cond (.tmp rfl) (fun h9 => ?_) (fun h9 => ?_)
   ·first | replace h9 := of_decide_eq_true h9 | replace h9 := of_decide_eq_false h9 | skip
    exact absurd h9 (by omega)
   ·first | replace h9 := of_decide_eq_true h9 | replace h9 := of_decide_eq_false h9 | skip
    refine CW.exit (KW.then_exit (KW.then_exit (KW.block_hit (KW.then (CW.seq (CW.region (LW.p (PEv.assign (.const _)) rfl rfl rfl (LW.nil (KW.then (CW.ret ?_))))))))))
    refine KW.ret1 rfl rfl ⟨_, rfl, ?_⟩
    exact ⟨rfl, rfl⟩

theorem deleteFunc_nil (f : Go.Value) (w : World) : Ret Try.prog 41 #[.slice none 0 0, f] w fun r w' => r = .slice none 0 0 ∧ w' = w := by
  have hW := Up.refl w
  refine Calls_start (n := 42) (m := 9) Try.func41 rfl rfl rfl ?_
  refine CW.seq (CW.region (LW.p (PEv.assign (.const _)) rfl rfl rfl (LW.nil (KW.then (CW.seq (CW.region (LW.p (PEv.move (.tmp rfl)) rfl rfl rfl (LW.p (PEv.move (.tmp rfl)) rfl rfl rfl ?_))))))))
  refine LW.c (enter_call0 (.cons (.tmp rfl) (.cons (.tmp rfl) .nil)) (Try.en48)) rfl rfl rfl rfl (indexFunc_nil _ _) ?_
  rintro _ w1 ⟨rfl, hw⟩
  refine LW.p (PEv.assign (.tmp rfl)) rfl rfl rfl (LW.nil (KW.then (CW.seq (CW.seq (CW.region (LW.p (PEv.move (.tmp rfl)) rfl rfl rfl ?_))))))
  refine LW.p (PEv.eql (.tmp rfl) (.const _)) rfl rfl rfl ?_
  refine LW.nil (KW.then ?_)
  refine CW.cond_true (.tmp rfl) ?_
  refine CW.seq (CW.region (LW.p (PEv.move (.tmp rfl)) rfl rfl rfl (LW.p (PEv.assign (.tmp rfl)) rfl rfl rfl (LW.nil (KW.then (CW.ret (KW.then_ret ?_)))))))
  refine KW.ret1 rfl rfl ⟨_, rfl, ?_⟩
  exact ⟨rfl, hw⟩

theorem crashIs_any (i : Int) (Bx B T : Nat) (a b c d : Go.Value) (ad : Option Addr) (n cp : Nat) (w : World) (hBx : Blk w Bx #[.pointer (some ⟨B, 0, none⟩)] 23) (hB : Blk w B #[a, b, c, d, .slice ad n cp] T) : Ret Try.prog 42 #[vi i, .pointer (some ⟨Bx, 0, none⟩)] w fun r w' => r = .bool (decide (i < 0) || decide ((n : Int) ≤ i)) ∧ w' = w := by
  have hW := Up.refl w
  refine Calls_start (n := 15) (m := 9) Try.func42 rfl rfl rfl ?_
  refine CW.seq (CW.region (LW.p (PEv.assign (.const _)) rfl rfl rfl (LW.nil (KW.then (CW.seq (CW.region (LW.p (PEv.move (.tmp rfl)) rfl rfl rfl ?_)))))))
  refine LW.p (PEv.lss (.tmp rfl) (.const _)) rfl rfl rfl ?_
  refine LW.p (PEv.move (.tmp rfl)) rfl rfl rfl ?_
  refine LW.g rfl rfl rfl rfl rfl rfl rfl (fun hc => PEv.move (.tmp rfl)) ?_
  refine LW.g rfl rfl rfl rfl rfl rfl rfl (fun hc => PEv.load Try.isAgg23 (.tmp rfl) (hBx.celln rfl)) ?_
  refine LW.g rfl rfl rfl rfl rfl rfl rfl (fun hc => PEv.nilCheck (by first | exact .tmp rfl | exact .cond rfl (by first | assumption | simp_all))) ?_
  refine LW.g rfl rfl rfl rfl rfl rfl rfl (fun hc => PEv.fieldAddr (off := 4) Try.underlying65 rfl rfl Try.sizeOf63 rfl (by first | exact .tmp rfl | exact .cond rfl (by first | assumption | simp_all))) ?_
  refine LW.g rfl rfl rfl rfl rfl rfl rfl (fun hc => PEv.load Try.isAgg63 (by first | exact .tmp rfl | exact .cond rfl (by first | assumption | simp_all)) (hB.celln rfl)) ?_
  refine LW.g rfl rfl rfl rfl rfl rfl rfl (fun hc => PEv.lenS Try.underlying63 (by first | exact .tmp rfl | exact .cond rfl (by first | assumption | simp_all))) ?_
  refine LW.g rfl rfl rfl rfl rfl rfl rfl (fun hc => PEv.geq (by first | exact .tmp rfl | exact .cond rfl (by first | assumption | simp_all)) (by first | exact .tmp rfl | exact .cond rfl (by first | assumption | simp_all))) ?_
  refine LW.p (PEv.pick_or (.tmp rfl) (fun hp => (by first | exact .const _ | exact .tmp rfl | exact .cond rfl (by first | assumption | simp_all)))) rfl rfl rfl ?_
  refine LW.p (PEv.assign (.tmp rfl)) rfl rfl rfl (LW.nil (KW.then (CW.ret ?_)))
  refine KW.ret1 rfl rfl ⟨_, rfl, ?_⟩
  exact ⟨rfl, rfl⟩

theorem deleteFunc_any (v : Go.Value) (ks : List Int) (Bx B T : Nat) (a b c d : Go.Value) (ad : Option Addr) (n cp : Nat) (w : World) (hBx : Blk w Bx #[.pointer (some ⟨B, 0, none⟩)] 23) (hB : Blk w B #[a, b, c, d, .slice ad n cp] T) (h : OwnS w 0 3 1 eInt v ks) (hlen : ks.length ≤ 9223372036854775807) (hnx : ∀ i, v.ownBlock = some i → i ≠ Bx ∧ i ≠ B) :
    Ret Try.prog 41 #[v, .func (.func 42) #[] #[.pointer (some ⟨Bx, 0, none⟩)]] w fun r w' => Stp (aOwn 3 1 eInt v ks) (aOwn 3 1 eInt r (ks.filter fun i => !(decide (i < 0) || decide ((n : Int) ≤ i)))) w w' := by
  rcases h.shape with ⟨rfl, rfl⟩ | ⟨g, cap, rfl, hc⟩
  · refine (deleteFunc_nil _ w).mono ?_
    rintro r w' ⟨rfl, rfl⟩
    exact Stp.refl h
  · have hp : ∀ (W : World) (x : Int), Blk W Bx #[.pointer (some ⟨B, 0, none⟩)] 23 → Blk W B #[a, b, c, d, .slice ad n cp] T → FnGives Try.prog 42 #[.pointer (some ⟨Bx, 0, none⟩)] #[Value.int .i64 x] (.bool (decide (x < 0) || decide ((n : Int) ≤ x))) W := fun W x h1 h2 => by
      refine Calls.mono (crashIs_any x Bx B T a b c d ad n cp W h1 h2) ?_
      rintro e w' ⟨_, rfl, rfl, rfl⟩
      exact ⟨rfl, 0, rfl⟩
    refine Calls.mono (Try.slices_DeleteFunc (Value.int .i64) (fun _ => rfl) (fun i : Int => decide (i < 0) || decide ((n : Int) ≤ i)) 42 #[.pointer (some ⟨Bx, 0, none⟩)] Try.en42 0 Try.zeroValue3 g 0 cap ks.toArray w (fun W x hb => hp W x (hBx.up hb) (hB.up hb)) (fun q os dk x hd => ?_) (ownHolds h) hlen hc) ?_
    · have hgr := Go.grownBy_sortedI (w := w) (g := g) (n := q) (os := os) dk
      have hne := hnx g rfl
      exact hp _ x ((hgr.block Bx hBx.lt (fun e => hne.1 (by cases e; rfl))).trans hBx) ((hgr.block B hB.lt (fun e => hne.2 (by cases e; rfl))).trans hB)
    · rintro e w' ⟨rfl, q, rfl⟩
      exact ⟨_, rfl, ownRow h (List.length_filter_le _ _)⟩

end Go.Proofs.Ytkpkljbmbmjadaa
