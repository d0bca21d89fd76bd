import Derived.Test.YtkpkljbmbmjadaaDr2
namespace Go.Wx

theorem upto_asc {d : Array Int} (hs : ∀ i j, i ≤ j → j < d.size → d[i]! ≤ d[j]!) : ∀ m, m ≤ d.size → (Go.Lib.compactUpTo d m).Pairwise (fun x y => x < y) ∧ ∀ x, x ∈ Go.Lib.compactUpTo d m ↔ ∃ j, j < m ∧ d[j]! = x
  | 0, _ => ⟨by simp [Go.Lib.compactUpTo], fun x => by simp [Go.Lib.compactUpTo]⟩
  | m + 1, hm => by
    obtain ⟨h1, h2⟩ := upto_asc hs m (by omega)
    rw [Go.Lib.compactUpTo_succ]
    by_cases hk : m = 0 ∨ d[m]! ≠ d[m - 1]!
    · have hkp : Go.Lib.keeps d m = true := by
        rcases hk with rfl | hk
        · exact Go.Lib.keeps_lt_one d 0 (by decide)
        · exact Go.Lib.keeps_pos hk
      rw [if_pos hkp]
      refine ⟨List.pairwise_append.2 ⟨h1, List.pairwise_singleton _ _, fun a ha b hb => ?_⟩, fun x => ?_⟩
      · rw [List.mem_singleton.1 hb]
        obtain ⟨j, hj, rfl⟩ := (h2 a).1 ha
        have := hs j (m - 1) (by omega) (by omega)
        have h3 := hs (m - 1) m (by omega) (by omega)
        rcases hk with rfl | hk
        · omega
        · omega
      · rw [List.mem_append, List.mem_singleton, h2]
        constructor
        · rintro (⟨j, hj, e⟩ | e)
          · exact ⟨j, by omega, e⟩
          · exact ⟨m, by omega, e.symm⟩
        · rintro ⟨j, hj, e⟩
          rcases Nat.lt_or_ge j m with h | h
          · exact .inl ⟨j, h, e⟩
          · rw [show j = m by omega] at e; exact .inr e.symm
    · have h0 : 0 < m := by omega
      have he : d[m]! = d[m - 1]! := by
        by_cases e : d[m]! = d[m - 1]!
        · exact e
        · exact absurd (.inr e) hk
      rw [if_neg (by rw [Go.Lib.keeps_neg h0 he]; exact Bool.false_ne_true), List.append_nil]
      refine ⟨h1, fun x => ?_⟩
      rw [h2]
      constructor
      · rintro ⟨j, hj, e⟩; exact ⟨j, by omega, e⟩
      · rintro ⟨j, hj, e⟩
        rcases Nat.lt_or_ge j m with h | h
        · exact ⟨j, h, e⟩
        · rw [show j = m by omega] at e; exact ⟨m - 1, by omega, he ▸ e⟩
theorem asc_ext : ∀ {A B : List Int}, A.Pairwise (fun x y => x < y) → B.Pairwise (fun x y => x < y) → (∀ x, x ∈ A ↔ x ∈ B) → A = B
  | [], [], _, _, _ => rfl
  | [], b :: B, _, _, h => absurd ((h b).2 List.mem_cons_self) (by simp)
  | a :: A, [], _, _, h => absurd ((h a).1 List.mem_cons_self) (by simp)
  | a :: A, b :: B, hA, hB, h => by
    rw [List.pairwise_cons] at hA hB
    have e : a = b := by
      rcases List.mem_cons.1 ((h a).1 List.mem_cons_self) with e | h1
      · exact e
      · rcases List.mem_cons.1 ((h b).2 List.mem_cons_self) with e | h2
        · exact e.symm
        · have := hB.1 a h1; have := hA.1 b h2; omega
    subst e
    rw [asc_ext hA.2 hB.2 fun x => ⟨fun hx => ?_, fun hx => ?_⟩]
    · rcases List.mem_cons.1 ((h x).1 (List.mem_cons_of_mem _ hx)) with e | h1
      · subst e; exact absurd (hA.1 x hx) (by omega)
      · exact h1
    · rcases List.mem_cons.1 ((h x).2 (List.mem_cons_of_mem _ hx)) with e | h1
      · subst e; exact absurd (hB.1 x hx) (by omega)
      · exact h1
def keptI (keep : List Int) (n : Nat) : List Nat := (List.range n).filter (hasK keep)
theorem order_kept (keep : List Int) (n : Nat) : orderS keep n = (keptI keep n).map Int.ofNat := by
  have hsorted : ∀ i j, i ≤ j → j < (keep.mergeSort fun x y => decide (x ≤ y)).toArray.size → (keep.mergeSort fun x y => decide (x ≤ y)).toArray[i]! ≤ (keep.mergeSort fun x y => decide (x ≤ y)).toArray[j]! := by
    intro i j hij hj
    have hp := List.pairwise_mergeSort (le := fun x y : Int => decide (x ≤ y)) (fun a b c h1 h2 => by simp at *; omega) (fun a b => by simp; omega) keep
    rcases Nat.lt_or_ge i j with h | h
    · have hj' : j < (keep.mergeSort fun x y => decide (x ≤ y)).length := by simpa using hj
      have := (List.pairwise_iff_getElem.1 hp) i j (by omega) hj' h
      rw [getElem!_pos (keep.mergeSort fun x y => decide (x ≤ y)).toArray i (by simp; simp at hj'; omega), getElem!_pos (keep.mergeSort fun x y => decide (x ≤ y)).toArray j hj]
      simpa using this
    · rw [show i = j by omega]; exact Int.le_refl _
  obtain ⟨h1, h2⟩ := upto_asc hsorted _ (Nat.le_refl _)
  refine asc_ext (h1.sublist List.filter_sublist) ?_ fun x => ?_
  · unfold keptI
    rw [List.pairwise_map]
    exact (List.pairwise_lt_range.sublist List.filter_sublist).imp (fun {a b} h => by show ((a : Nat) : Int) < ((b : Nat) : Int); omega)
  · unfold orderS keptI
    rw [List.mem_filter]
    have e : x ∈ Go.Lib.compact (keep.mergeSort fun x y => decide (x ≤ y)) ↔ x ∈ keep := by
      unfold Go.Lib.compact
      rw [show (keep.mergeSort fun x y => decide (x ≤ y)).length = (keep.mergeSort fun x y => decide (x ≤ y)).toArray.size from rfl, h2]
      constructor
      · rintro ⟨j, hj, e⟩
        rw [getElem!_pos (keep.mergeSort fun x y => decide (x ≤ y)).toArray j hj] at e
        rw [← List.mem_mergeSort (le := fun x y : Int => decide (x ≤ y)), ← e]
        simp
      · intro hx
        rw [← List.mem_mergeSort (le := fun x y : Int => decide (x ≤ y))] at hx
        obtain ⟨j, hj, e⟩ := List.mem_iff_getElem.1 hx
        exact ⟨j, hj, by rw [getElem!_pos (keep.mergeSort fun x y => decide (x ≤ y)).toArray j (by simpa using hj)]; simpa using e⟩
    rw [e, List.mem_map]
    constructor
    · rintro ⟨hx, hr⟩
      have hr : 0 ≤ x ∧ x < n := by simp at hr; omega
      refine ⟨x.toNat, List.mem_filter.2 ⟨List.mem_range.2 (by omega), ?_⟩, by show ((x.toNat : Nat) : Int) = x; omega⟩
      exact List.any_eq_true.2 ⟨x, hx, decide_eq_true (by omega)⟩
    · rintro ⟨j, hj, rfl⟩
      obtain ⟨hj1, hj2⟩ := List.mem_filter.1 hj
      obtain ⟨y, hy, e⟩ := List.any_eq_true.1 hj2
      have e := of_decide_eq_true e
      have := List.mem_range.1 hj1
      refine ⟨by show ((j : Nat) : Int) ∈ keep; rw [← e]; exact hy, ?_⟩
      show (!(decide (((j : Nat) : Int) < 0) || decide ((n : Int) ≤ ((j : Nat) : Int)))) = true
      simp; omega
theorem kept_map (z : DS) (keep : List Int) : ∀ n, n ≤ z.pend.length → keptL z keep n = (keptI keep n).map fun i => z.pend.getD i ⟨0, ByteArray.empty⟩
  | 0, _ => by simp [keptL, keptI]
  | n + 1, h => by
    obtain ⟨x, hx⟩ := getElem?_of_lt (xs := z.pend) (i := n) (by omega)
    rw [keptL_step hx, kept_map z keep n (by omega)]
    unfold keptI
    rw [List.range_succ, List.filter_append, List.map_append]
    congr 1
    simp only [List.filter_cons, List.filter_nil]
    split
    · simp [hx]
    · simp
theorem extract_all {s : ByteArray} {m : Nat} (h : s.size ≤ m) : s.extract 0 m = s := by
  apply ByteArray.ext
  rw [ByteArray.data_extract]
  apply Array.ext'
  simp
  exact List.take_of_length_le (by rw [Array.length_toList]; exact h)
theorem tear_eq (n : Nat) (torn : Int) (k : Nat) (x : Wr) : tearAt n torn k x = ⟨x.off, tornW n torn k x⟩ := by
  unfold tearAt tornW
  by_cases h : k + 1 = n ∧ 0 ≤ torn
  · have ht : (decide (k + 1 = n) && decide (0 ≤ torn) && decide (torn < x.s.size)) = decide (torn < x.s.size) := by simp [h.1, h.2]
    rw [if_pos h, ht]
    by_cases h2 : torn < x.s.size
    · have h3 : ¬ (x.s.size : Int) < torn := by omega
      simp [h2, h3]
    · simp only [h2, decide_false, Bool.false_eq_true, if_false]
      congr 1
      split
      · exact extract_all (by omega)
      · exact extract_all (by omega)
  · rw [if_neg h, if_neg (by simp; intro a b; exact absurd ⟨a, b⟩ h)]
theorem crash_ref (z : DS) (keep : List Int) (torn : Int) : refWs (keptL z keep z.pend.length) torn = crashWs z (orderS keep z.pend.length) torn := by
  have hl : (keptL z keep z.pend.length).length = (orderS keep z.pend.length).length := by rw [kept_map z keep _ (Nat.le_refl _), order_kept, List.length_map, List.length_map]
  apply List.ext_getElem?
  intro k
  rcases Nat.lt_or_ge k (keptI keep z.pend.length).length with h | h
  · obtain ⟨i, hi⟩ := getElem?_of_lt (xs := keptI keep z.pend.length) (i := k) h
    have hin := List.mem_range.1 (List.mem_filter.1 (List.mem_of_getElem? hi)).1
    obtain ⟨x, hx⟩ := getElem?_of_lt (xs := z.pend) (i := i) hin
    have h1 : (orderS keep z.pend.length)[k]? = some (i : Int) := by rw [order_kept, List.getElem?_map, hi]; rfl
    have h2 : (keptL z keep z.pend.length)[k]? = some x := by rw [kept_map z keep _ (Nat.le_refl _), List.getElem?_map, hi]; simp [hx]
    rw [refWs_at h2, crashWs_at h1 hx, tear_eq, hl]
  · rw [List.getElem?_eq_none (by rw [refWs_length, hl, order_kept, List.length_map]; exact h), List.getElem?_eq_none (by rw [crashWs_length, order_kept, List.length_map]; exact h)]
theorem crash_same (z : DS) (keep : List Int) (torn : Int) : (crashR z keep torn).off = (crashS z keep torn).off ∧ (crashR z keep torn).left = (crashS z keep torn).left ∧ (crashR z keep torn).dur = (crashS z keep torn).dur ∧ (crashR z keep torn).pend = (crashS z keep torn).pend := by
  refine ⟨rfl, rfl, ?_, rfl⟩
  show applyAll z.dur (refWs (keptL z keep z.pend.length) torn) = applyAll z.dur (crashWs z (orderS keep z.pend.length) torn)
  rw [crash_ref]

end Go.Wx
namespace Go.Proofs.Ytkpkljbmbmjadaa
open Go.Wx Go.RowKit
theorem rHas_any (ad : Option Addr) (cp : Nat) (l : List Int) (i : Nat) (w : World) (hE : Els w ad 1 eInt l) (hl : l.length ≤ 1000000000) : Ret Try.prog 43 #[.slice ad l.length cp, vi (i : Int)] w fun r w' => r = .bool (hasK l i) ∧ Up w w' := by
  have hW := Up.refl w
  obtain ⟨w0, rfl⟩ : ∃ w0, w0 = w := ⟨_, rfl⟩
  refine Calls_start (n := 18) (m := 9) Try.func43 rfl rfl rfl ?_
  refine CW.seq (CW.region (LW.p (PEv.assign (.const _)) rfl rfl rfl (LW.nil (KW.then (CW.seq (CW.seq (CW.region (LW.p (PEv.assign (.const _)) rfl rfl rfl (LW.nil (KW.then (CW.block ?_)))))))))))
  refine CW.loopB (σ := Nat) (fun s w => (s ≤ l.length) ∧ (((l.take s).any fun x => decide (x = (i : Int))) = false) ∧ (Up w0 w)) (fun s => [(5, .eq (vi (s : Int)))]) ([(0, .eq _), (1, .eq _)]) (fun s => l.length - s) 0 ?_ ⟨rfl, rfl, rfl, trivial⟩ ?_
  ·exact ⟨Nat.zero_le _, rfl, hW⟩
  ·rintro q w1 ⟨hi, hq, hW⟩
   refine CW.seq (CW.seq (CW.region (LW.p (PEv.move (.tmp rfl)) rfl rfl rfl (LW.p (PEv.move (.tmp rfl)) rfl rfl rfl ?_))))
   refine LW.p (PEv.lenS Try.underlying37 (.tmp rfl)) rfl rfl rfl ?_
   refine LW.p (PEv.lss (.tmp rfl) (.tmp rfl)) rfl rfl rfl ?_
   refine LW.nil (KW.then ?_)
   refine CW.cond (.tmp rfl) (fun h9 => ?_) (fun h9 => ?_)
   ·first | replace h9 := of_decide_eq_true h9 | replace h9 := of_decide_eq_false h9 | skip
    refine CW.skip (KW.then (CW.seq (CW.block (CW.seq ?_))))
    obtain ⟨x, hx⟩ := getElem?_of_lt (xs := l) (i := q) (by omega)
    obtain ⟨Bx, ox, ax, hcx⟩ := (Els.up hE hW) q x hx
    refine CW.region (LW.p (PEv.move (.tmp rfl)) rfl rfl rfl (LW.p (PEv.move (.tmp rfl)) rfl rfl rfl ?_))
    refine LW.p (PEv.indexAddr' Try.underlying37 Try.sizeOf3 (.tmp rfl) (.tmp rfl) (by omega) ax) rfl rfl rfl ?_
    refine LW.p (PEv.load Try.isAgg3 (.tmp rfl) (hcx.nth (j := 0) rfl)) rfl rfl rfl ?_
    refine LW.p (PEv.move (.tmp rfl)) rfl rfl rfl ?_
    refine LW.p (PEv.eql (.tmp rfl) (.tmp rfl)) rfl rfl rfl ?_
    refine LW.nil (KW.then ?_)
    refine CW.cond (.tmp rfl) (fun h17 => ?_) (fun h17 => ?_)
    ·first | replace h17 := of_decide_eq_true h17 | replace h17 := of_decide_eq_false h17 | skip
     refine CW.seq (CW.region (LW.p (PEv.assign (.const _)) rfl rfl rfl (LW.nil (KW.then (CW.ret (KW.block_ret (KW.then_ret (KW.then_ret (KW.block_ret (KW.then_ret ?_))))))))))
     refine KW.ret1 rfl rfl ⟨_, rfl, ?_⟩
     first | exact ⟨by rw [show hasK l i = true from List.any_eq_true.2 ⟨x, List.mem_of_getElem? hx, decide_eq_true h17⟩], hW⟩ | exact ⟨by rw [show q = l.length by omega, List.take_length] at hq; rw [show hasK l i = false from hq], hW⟩
    ·first | replace h17 := of_decide_eq_true h17 | replace h17 := of_decide_eq_false h17 | skip
     refine CW.skip (KW.inBlock (KW.then (CW.region (LW.p (PEv.move (.tmp rfl)) rfl rfl rfl ?_))))
     refine LW.p (PEv.inc (.tmp rfl) (by omega)) rfl rfl rfl ?_
     refine LW.p (PEv.assign (.tmp rfl)) rfl rfl rfl (LW.nil (KW.round ?_))
     exact ⟨q + 1, ⟨by omega, by rw [take_succ_of hx, List.any_append, hq]; simp [h17], hW⟩, ⟨rfl, rfl, rfl, trivial⟩, by first | omega | (dsimp only; omega)⟩
   ·first | replace h9 := of_decide_eq_true h9 | replace h9 := of_decide_eq_false h9 | skip
    refine CW.exit (KW.then_exit (KW.then_exit (KW.block_hit (KW.then (CW.seq (CW.region (LW.p (PEv.assign (.const _)) rfl rfl rfl (LW.nil (KW.then (CW.ret ?_))))))))))
    refine KW.ret1 rfl rfl ⟨_, rfl, ?_⟩
    first | exact ⟨by rw [show hasK l i = true from List.any_eq_true.2 ⟨x, List.mem_of_getElem? hx, decide_eq_true h17⟩], hW⟩ | exact ⟨by rw [show q = l.length by omega, List.take_length] at hq; rw [show hasK l i = false from hq], hW⟩

set_option maxHeartbeats 2000000 in
theorem rCrash_any (R : Rf) (z : DS) (adk : Option Addr) (cpk : Nat) (keep : List Int) (torn : Int) (w : World) (hD : (aRef R z).holds w) (hk : DOk z) (hE : Els w adk 1 eInt keep) (hkl : keep.length ≤ 1000000000) : Ret Try.prog 33 #[.pointer (some ⟨R.bd, 0, none⟩), .slice adk keep.length cpk, vi torn] w fun r w' => r = .tuple #[] ∧ ∃ R', R'.bd = R.bd ∧ Stp (aRef R z) (aRef R' (crashR z keep torn)) w w' := by
  have hW := Up.refl w
  obtain ⟨w0, rfl⟩ : ∃ w0, w0 = w := ⟨_, rfl⟩
  obtain ⟨bd, sv, lv⟩ := R
  obtain ⟨zoff, left, dur, vis, pend⟩ := z
  have hS0 : Wx.Sep (aRef ⟨bd, sv, lv⟩ (⟨zoff, left, dur, vis, pend⟩ : DS)).foot w0 w0 [aBlk bd #[sv, lv, .bool zoff, vi left] 43, aOwn 5 1 eBy sv (dur), aOwn 80 2 Wr.cells lv (pend)] := aAnd_open hD
  have hmx : dur.length ≤ 4194304 := hk.max
  have hpm : pend.length ≤ 1000000 := hk.pmax
  have hB0 := hS0.blk 0 rfl
  obtain ⟨al, cpl, el, hEl⟩ := (hS0.own 2 rfl).sl (fun _ => rfl)
  refine Calls_start (n := 81) (m := 9) Try.func33 rfl rfl rfl ?_
  refine CW.seq (CW.region (LW.p (PEv.assign (.const _)) rfl rfl rfl (LW.nil (KW.then (CW.seq (CW.seq ?_))))))
  have hS := (Sep.start no w0).add (Up.refl _) (A' := aOwn 80 2 Wr.cells (.slice none 0 0) ([] : List Wr)) (OwnS.nil _ _ _ _ _) (fun i h => by cases h)
  change Wx.Sep _ _ _ [_] at hS
  refine CW.region (LW.p (PEv.assign (.const _)) rfl rfl rfl (LW.nil (KW.then (CW.block ?_))))
  refine CW.loopB (σ := Nat × Go.Value) (fun s w => (s.1 ≤ pend.length) ∧ (Wx.Sep no w0 w [aOwn 80 2 Wr.cells s.2 (keptL (⟨zoff, left, dur, vis, pend⟩ : DS) keep s.1)])) (fun s => [(7, .eq (vi (s.1 : Int))), (6, .eq (s.2))]) ([(0, .eq _), (1, .eq _), (2, .eq _)]) (fun s => pend.length - s.1) (0, .slice none 0 0) ?_ ⟨rfl, rfl, rfl, rfl, rfl, trivial⟩ ?_
  ·exact ⟨Nat.zero_le _, hS⟩
  ·rintro ⟨i, v⟩ w1 ⟨hi, hS⟩
   dsimp only at hi hS
   change CW _ _ _ _ _ _ _ ([(7, .eq (vi (i : Int))), (6, .eq (v))] ++ _) _
   refine CW.seq (CW.seq (CW.region (LW.p (PEv.move (.tmp rfl)) rfl rfl rfl (LW.p (PEv.move (.tmp rfl)) rfl rfl rfl ?_))))
   refine LW.p (PEv.nilCheck (.tmp rfl)) rfl rfl rfl ?_
   refine LW.p (PEv.fieldAddr (off := 1) Try.underlying43 rfl rfl Try.sizeOf41 rfl (.tmp rfl)) rfl rfl rfl ?_
   refine LW.p (PEv.val (v' := .slice al pend.length cpl) (PEv.load Try.isAgg41 (.tmp rfl) ((hB0.up hS.upd).celln rfl)) el) rfl rfl rfl ?_
   refine LW.p (PEv.lenS Try.underlying41 (.tmp rfl)) rfl rfl rfl ?_
   refine LW.p (PEv.lss (.tmp rfl) (.tmp rfl)) rfl rfl rfl ?_
   refine LW.nil (KW.then ?_)
   refine CW.cond (.tmp rfl) (fun h16 => ?_) (fun h16 => ?_)
   ·first | replace h16 := of_decide_eq_true h16 | replace h16 := of_decide_eq_false h16 | skip
    refine CW.skip (KW.then (CW.seq (CW.block (CW.seq ?_))))
    obtain ⟨x, hx⟩ := getElem?_of_lt (xs := pend) (i := i) (by omega)
    refine CW.region (LW.p (PEv.move (.tmp rfl)) rfl rfl rfl (LW.p (PEv.move (.tmp rfl)) rfl rfl rfl ?_))
    refine LW.c (enter_call0 (.cons (.tmp rfl) (.cons (.tmp rfl) .nil)) (Try.en43)) rfl rfl rfl rfl (rHas_any adk cpk keep i _ (hE.up hS.upd) hkl) ?_
    rintro _ w2 ⟨rfl, uw2⟩
    have zw2 := uw2.size
    replace hS := hS.up uw2
    refine LW.nil (KW.then ?_)
    refine CW.cond (.tmp rfl) (fun h21 => ?_) (fun h21 => ?_)
    ·first | replace h21 := of_decide_eq_true h21 | replace h21 := of_decide_eq_false h21 | skip
     obtain ⟨Bx, ox, ax, hcx⟩ := (Els.up hEl hS.upd) i x hx
     have hkn := keptL_len (⟨zoff, left, dur, vis, pend⟩ : DS) keep i
     refine CW.region (LW.p (PEv.move (.tmp rfl)) rfl rfl rfl (LW.p (PEv.move (.tmp rfl)) rfl rfl rfl ?_))
     refine LW.p (PEv.nilCheck (.tmp rfl)) rfl rfl rfl ?_
     refine LW.p (PEv.fieldAddr (off := 1) Try.underlying43 rfl rfl Try.sizeOf41 rfl (.tmp rfl)) rfl rfl rfl ?_
     refine LW.p (PEv.val (v' := .slice al pend.length cpl) (PEv.load Try.isAgg41 (.tmp rfl) ((hB0.up hS.upd).celln rfl)) el) rfl rfl rfl ?_
     refine LW.p (PEv.move (.tmp rfl)) rfl rfl rfl ?_
     refine LW.p (PEv.indexAddr' Try.underlying41 Try.sizeOf80 (.tmp rfl) (.tmp rfl) (by omega) ax) rfl rfl rfl ?_
     refine LW.p (PEv.loadA Try.isAgg80 Try.sizeOf80 rfl (.tmp rfl) (hcx)) rfl rfl rfl ?_
     refine LW.r (REv.buildSlice (xs := [x]) (enc := Wr.cells) (mk := fun f : Wr => .agg f.cells) Try.underlying41 Try.sizeOf80 Try.zeroValue80 rfl (by decide) (fun _ => rfl) (fun _ => rfl) (.cons (.tmp rfl) .nil) rfl) rfl rfl rfl rfl ?_
     rintro _ w3 ⟨B30, cB30, rfl, NB30, yB30, xB30⟩
     have eB30 := NB30.at_
     have zB30 := NB30.size
     replace hS := hS.up NB30.up
     have hE30 := xB30
     refine LW.r (REv.appendF (enc := Wr.cells) (bytes := 24) (i := Try.t80) Try.underlying41 (by kernel_rfl) rfl rfl rfl rfl (by decide) (fun _ => rfl) Wr.one (.tmp rfl) (.tmp rfl) (hS.own 0 rfl) (Sl.of_els hE30) (by simp [maxLen]; omega) (by simp; omega)) rfl rfl rfl rfl ?_
     intro v31 w4 Gw4
     have zw4 := Gw4.fr.size
     replace hS := hS.stp 0 rfl Gw4
     change Wx.Sep _ _ _ [_] at hS
     refine LW.p (PEv.assign (.tmp rfl)) rfl rfl rfl (LW.nil (KW.inBlock (KW.then (CW.region (LW.p (PEv.move (.tmp rfl)) rfl rfl rfl ?_)))))
     refine LW.p (PEv.inc (.tmp rfl) (by omega)) rfl rfl rfl ?_
     refine LW.p (PEv.assign (.tmp rfl)) rfl rfl rfl (LW.nil (KW.round ?_))
     exact ⟨(i + 1, v31), ⟨by show i + 1 ≤ _; omega, by show Wx.Sep _ _ _ [aOwn 80 2 Wr.cells v31 (keptL (⟨zoff, left, dur, vis, pend⟩ : DS) keep (i + 1))]; rw [keptL_step hx, if_pos h21]; exact hS⟩, ⟨rfl, rfl, rfl, rfl, rfl, trivial⟩, by show pend.length - (i + 1) < pend.length - i; omega⟩
    ·first | replace h21 := of_decide_eq_true h21 | replace h21 := of_decide_eq_false h21 | skip
     refine CW.skip (KW.inBlock (KW.then (CW.region (LW.p (PEv.move (.tmp rfl)) rfl rfl rfl ?_))))
     refine LW.p (PEv.inc (.tmp rfl) (by omega)) rfl rfl rfl ?_
     refine LW.p (PEv.assign (.tmp rfl)) rfl rfl rfl (LW.nil (KW.round ?_))
     exact ⟨(i + 1, v), ⟨by show i + 1 ≤ _; omega, by show Wx.Sep _ _ _ [aOwn 80 2 Wr.cells v (keptL (⟨zoff, left, dur, vis, pend⟩ : DS) keep (i + 1))]; rw [keptL_step hx, if_neg (by rw [h21]; exact Bool.false_ne_true), List.append_nil]; exact hS⟩, ⟨rfl, rfl, rfl, rfl, rfl, trivial⟩, by show pend.length - (i + 1) < pend.length - i; omega⟩
   ·first | replace h16 := of_decide_eq_true h16 | replace h16 := of_decide_eq_false h16 | skip
    refine CW.exit (KW.then_exit (KW.then_exit (KW.block_hit (KW.then (CW.seq (CW.seq ?_))))))
    rw [show i = pend.length by omega] at hS
    replace hS := hS0.add hS.upd (hS.get 0 rfl) (fun i hi => (hS.foot 0 rfl i hi).resolve_left (fun h => h))
    change Wx.Sep _ _ _ [_, _, _, _] at hS
    obtain ⟨ado, cpo, rfl, _⟩ := (hS.own 3 rfl).sl (fun _ => rfl)
    have hkn := keptL_len (⟨zoff, left, dur, vis, pend⟩ : DS) keep pend.length
    refine CW.region (LW.p (PEv.assign (.const _)) rfl rfl rfl (LW.nil (KW.then (CW.block ?_))))
    refine CW.loopB (σ := Nat) (fun s w => (s ≤ (keptL (⟨zoff, left, dur, vis, pend⟩ : DS) keep pend.length).length) ∧ (Wx.Sep (aRef ⟨bd, sv, lv⟩ (⟨zoff, left, dur, vis, pend⟩ : DS)).foot w0 w [aBlk bd #[sv, lv, .bool zoff, vi left] 43, aOwn 5 1 eBy sv (applyAll dur ((refWs (keptL (⟨zoff, left, dur, vis, pend⟩ : DS) keep pend.length) torn).take s)), aOwn 80 2 Wr.cells lv (pend), aOwn 80 2 Wr.cells (.slice ado (keptL (⟨zoff, left, dur, vis, pend⟩ : DS) keep pend.length).length cpo) ((keptL (⟨zoff, left, dur, vis, pend⟩ : DS) keep pend.length))])) (fun s => [(8, .eq (vi (s : Int)))]) ([(0, .eq _), (2, .eq _), (6, .eq _)]) (fun s => (keptL (⟨zoff, left, dur, vis, pend⟩ : DS) keep pend.length).length - s) 0 ?_ ⟨rfl, rfl, rfl, rfl, trivial⟩ ?_
    ·exact ⟨Nat.zero_le _, by rw [List.take_zero]; exact hS⟩
    ·rintro k w5 ⟨hkk, hS⟩
     refine CW.seq (CW.seq (CW.region (LW.p (PEv.move (.tmp rfl)) rfl rfl rfl (LW.p (PEv.move (.tmp rfl)) rfl rfl rfl ?_))))
     refine LW.p (PEv.lenS Try.underlying41 (.tmp rfl)) rfl rfl rfl ?_
     refine LW.p (PEv.lss (.tmp rfl) (.tmp rfl)) rfl rfl rfl ?_
     refine LW.nil (KW.then ?_)
     refine CW.cond (.tmp rfl) (fun h35 => ?_) (fun h35 => ?_)
     ·first | replace h35 := of_decide_eq_true h35 | replace h35 := of_decide_eq_false h35 | skip
      refine CW.skip (KW.then (CW.seq (CW.block (CW.seq ?_))))
      obtain ⟨x, hx⟩ := getElem?_of_lt (xs := (keptL (⟨zoff, left, dur, vis, pend⟩ : DS) keep pend.length)) (i := k) (by omega)
      obtain ⟨Bx, ox, ax, hcx⟩ := ((hS.own 3 rfl).elB (fun _ => rfl)) k x hx
      obtain ⟨hx0, hx1⟩ := hk.wok x (keptL_mem (List.mem_of_getElem? hx))
      obtain ⟨j, hj⟩ : ∃ j : Nat, x.off = (j : Int) := ⟨x.off.toNat, by omega⟩
      have hrw := refWs_at (torn := torn) hx
      have hln : (applyAll dur ((refWs (keptL (⟨zoff, left, dur, vis, pend⟩ : DS) keep pend.length) torn).take k)).length = dur.length := applyAll_length (fun y hy => (refWs_ok (z := (⟨zoff, left, dur, vis, pend⟩ : DS)) hk) y (List.mem_of_mem_take hy))
      have htz := tornW_size (keptL (⟨zoff, left, dur, vis, pend⟩ : DS) keep pend.length).length torn k x
      have hx1 : x.off.toNat + x.s.size ≤ dur.length := hx1
      refine CW.region (LW.p (PEv.move (.tmp rfl)) rfl rfl rfl (LW.p (PEv.move (.tmp rfl)) rfl rfl rfl ?_))
      refine LW.p (PEv.indexAddr' Try.underlying41 Try.sizeOf80 (.tmp rfl) (.tmp rfl) (by omega) ax) rfl rfl rfl ?_
      refine LW.p (PEv.fieldAddr (off := 1) Try.underlying80 rfl rfl Try.sizeOf9 rfl (.tmp rfl)) rfl rfl rfl ?_
      refine LW.p (PEv.load Try.isAgg9 (.tmp rfl) (hcx.nth (j := 1) rfl)) rfl rfl rfl ?_
      refine LW.p (PEv.assign (.tmp rfl)) rfl rfl rfl (LW.nil (KW.then (CW.seq (CW.seq (CW.region (LW.p (PEv.move (.tmp rfl)) rfl rfl rfl (LW.p (PEv.move (.tmp rfl)) rfl rfl rfl ?_)))))))
      refine LW.p (PEv.lenS Try.underlying41 (.tmp rfl)) rfl rfl rfl ?_
      refine LW.p (PEv.sub (.tmp rfl) (.const _) (by omega) (by omega)) rfl rfl rfl ?_
      refine LW.p (PEv.eql (.tmp rfl) (.tmp rfl)) rfl rfl rfl ?_
      refine LW.p (PEv.move (.tmp rfl)) rfl rfl rfl ?_
      refine LW.g rfl rfl rfl rfl rfl rfl rfl (fun hc => PEv.move (.tmp rfl)) ?_
      refine LW.g rfl rfl rfl rfl rfl rfl rfl (fun hc => PEv.geq (by first | exact .tmp rfl | exact .cond rfl (by first | assumption | simp_all)) (.const _)) ?_
      refine LW.p (PEv.pick_and (.tmp rfl) (fun hp => (by first | exact .const _ | exact .tmp rfl | exact .cond rfl (by first | assumption | (rw [hp]; rfl) | simp_all)))) rfl rfl rfl ?_
      refine LW.p (PEv.move (.tmp rfl)) rfl rfl rfl ?_
      refine LW.g rfl rfl rfl rfl rfl rfl rfl (fun hc => PEv.move (.tmp rfl)) ?_
      refine LW.g rfl rfl rfl rfl rfl rfl rfl (fun hc => PEv.move (.tmp rfl)) ?_
      refine LW.g rfl rfl rfl rfl rfl rfl rfl (fun hc => PEv.lenStr Try.underlying9 (by first | exact .tmp rfl | exact .cond rfl (by first | assumption | simp_all))) ?_
      refine LW.g rfl rfl rfl rfl rfl rfl rfl (fun hc => PEv.lss (by first | exact .tmp rfl | exact .cond rfl (by first | assumption | simp_all)) (by first | exact .tmp rfl | exact .cond rfl (by first | assumption | simp_all))) ?_
      refine LW.p (PEv.pick_and (.tmp rfl) (fun hp => (by first | exact .const _ | exact .tmp rfl | exact .cond rfl (by first | assumption | (rw [hp]; rfl) | simp_all)))) rfl rfl rfl ?_
      refine LW.nil (KW.then ?_)
      refine CW.cond (.tmp rfl) (fun h57 => ?_) (fun h57 => ?_)
      ·first | replace h57 := of_decide_eq_true h57 | replace h57 := of_decide_eq_false h57 | skip
       have h57b : (k + 1 = (keptL (⟨zoff, left, dur, vis, pend⟩ : DS) keep pend.length).length ∧ 0 ≤ torn) ∧ torn < x.s.size := by simp at h57; omega
       have etw : tornW (keptL (⟨zoff, left, dur, vis, pend⟩ : DS) keep pend.length).length torn k x = x.s.extract 0 torn.toNat := by unfold tornW; rw [if_pos (by simp [h57b])]
       rw [etw] at htz
       refine CW.region (LW.p (PEv.move (.tmp rfl)) rfl rfl rfl (LW.p (PEv.move (.tmp rfl)) rfl rfl rfl ?_))
       refine LW.p (PEv.strTo Try.underlying9 (.tmp rfl) (.tmp rfl) (by omega) (by omega)) rfl rfl rfl ?_
       refine LW.p (PEv.assign (.tmp rfl)) rfl rfl rfl (LW.nil (KW.then ?_))
       refine CW.draws_then 10 (by kernel_rfl) (by kernel_rfl) (by kernel_rfl) (by kernel_rfl) (by kernel_rfl) rfl rfl ?_
       refine HW.p (PEv.move (.tmp rfl)) rfl rfl ?_
       refine HW.p (PEv.nilCheck (.tmp rfl)) rfl rfl ?_
       refine HW.p (PEv.fieldAddr (off := 0) Try.underlying43 rfl rfl Try.sizeOf40 rfl (.tmp rfl)) rfl rfl ?_
       refine HW.p (PEv.load Try.isAgg40 (.tmp rfl) ((hS.blk 0 rfl).celln rfl)) rfl rfl ?_
       refine HW.p (PEv.move (.tmp rfl)) rfl rfl ?_
       refine HW.p (PEv.move (.tmp rfl)) rfl rfl ?_
       refine HW.p (PEv.indexAddr' Try.underlying41 Try.sizeOf80 (.tmp rfl) (.tmp rfl) (by omega) ax) rfl rfl ?_
       refine HW.p (PEv.fieldAddr (off := 0) Try.underlying80 rfl rfl Try.sizeOf3 rfl (.tmp rfl)) rfl rfl ?_
       refine HW.p (PEv.val (v' := vi (j : Int)) (PEv.load Try.isAgg3 (.tmp rfl) (hcx.nth (j := 0) rfl)) (by rw [← hj])) rfl rfl ?_
       refine HW.p (PEv.move (.tmp rfl)) rfl rfl ?_
       refine HW.nil ?_
       intro w6 uw6
       have zw6 := uw6.size
       replace hS := hS.up uw6
       refine LW.c (enter_call0 (.cons (.tmp rfl) (.cons (.tmp rfl) (.cons (.tmp rfl) .nil))) (Try.en44)) rfl rfl rfl rfl (rApply_v sv j (x.s.extract 0 torn.toNat) _ _ (hS.own 1 rfl) (by rw [hln]; omega) (by rw [hln]; exact hmx)) ?_
       rintro _ w7 ⟨rfl, uw7⟩
       have zw7 := uw7.fr.size
       replace hS := hS.stp 1 rfl uw7
       change Wx.Sep _ _ _ [_, _, _, _] at hS
       rw [show overlay (applyAll dur ((refWs (keptL (⟨zoff, left, dur, vis, pend⟩ : DS) keep pend.length) torn).take k)) j (x.s.extract 0 torn.toNat).data.toList = applyAll dur ((refWs (keptL (⟨zoff, left, dur, vis, pend⟩ : DS) keep pend.length) torn).take (k + 1)) from by rw [take_succ_of hrw, applyAll_snoc]; rw [etw, hj]; rfl] at hS
       refine LW.nil (KW.inBlock (KW.then (CW.region (LW.p (PEv.move (.tmp rfl)) rfl rfl rfl ?_))))
       refine LW.p (PEv.inc (.tmp rfl) (by omega)) rfl rfl rfl ?_
       refine LW.p (PEv.assign (.tmp rfl)) rfl rfl rfl (LW.nil (KW.round ?_))
       exact ⟨k + 1, ⟨by omega, hS⟩, ⟨rfl, rfl, rfl, rfl, trivial⟩, by first | omega | (dsimp only; omega)⟩
      ·first | replace h57 := of_decide_eq_true h57 | replace h57 := of_decide_eq_false h57 | skip
       have h57b : ¬ ((k + 1 = (keptL (⟨zoff, left, dur, vis, pend⟩ : DS) keep pend.length).length ∧ 0 ≤ torn) ∧ torn < x.s.size) := by simp at h57; omega
       have etw : tornW (keptL (⟨zoff, left, dur, vis, pend⟩ : DS) keep pend.length).length torn k x = x.s := by unfold tornW; rw [if_neg (by simp; intro a b; omega)]
       rw [etw] at htz
       refine CW.skip (KW.then ?_)
       refine CW.draws_then 10 (by kernel_rfl) (by kernel_rfl) (by kernel_rfl) (by kernel_rfl) (by kernel_rfl) rfl rfl ?_
       refine HW.p (PEv.move (.tmp rfl)) rfl rfl ?_
       refine HW.p (PEv.nilCheck (.tmp rfl)) rfl rfl ?_
       refine HW.p (PEv.fieldAddr (off := 0) Try.underlying43 rfl rfl Try.sizeOf40 rfl (.tmp rfl)) rfl rfl ?_
       refine HW.p (PEv.load Try.isAgg40 (.tmp rfl) ((hS.blk 0 rfl).celln rfl)) rfl rfl ?_
       refine HW.p (PEv.move (.tmp rfl)) rfl rfl ?_
       refine HW.p (PEv.move (.tmp rfl)) rfl rfl ?_
       refine HW.p (PEv.indexAddr' Try.underlying41 Try.sizeOf80 (.tmp rfl) (.tmp rfl) (by omega) ax) rfl rfl ?_
       refine HW.p (PEv.fieldAddr (off := 0) Try.underlying80 rfl rfl Try.sizeOf3 rfl (.tmp rfl)) rfl rfl ?_
       refine HW.p (PEv.val (v' := vi (j : Int)) (PEv.load Try.isAgg3 (.tmp rfl) (hcx.nth (j := 0) rfl)) (by rw [← hj])) rfl rfl ?_
       refine HW.p (PEv.move (.tmp rfl)) rfl rfl ?_
       refine HW.nil ?_
       intro w8 uw8
       have zw8 := uw8.size
       replace hS := hS.up uw8
       refine LW.c (enter_call0 (.cons (.tmp rfl) (.cons (.tmp rfl) (.cons (.tmp rfl) .nil))) (Try.en44)) rfl rfl rfl rfl (rApply_v sv j (x.s) _ _ (hS.own 1 rfl) (by rw [hln]; omega) (by rw [hln]; exact hmx)) ?_
       rintro _ w9 ⟨rfl, uw9⟩
       have zw9 := uw9.fr.size
       replace hS := hS.stp 1 rfl uw9
       change Wx.Sep _ _ _ [_, _, _, _] at hS
       rw [show overlay (applyAll dur ((refWs (keptL (⟨zoff, left, dur, vis, pend⟩ : DS) keep pend.length) torn).take k)) j (x.s).data.toList = applyAll dur ((refWs (keptL (⟨zoff, left, dur, vis, pend⟩ : DS) keep pend.length) torn).take (k + 1)) from by rw [take_succ_of hrw, applyAll_snoc]; rw [etw, hj]; rfl] at hS
       refine LW.nil (KW.inBlock (KW.then (CW.region (LW.p (PEv.move (.tmp rfl)) rfl rfl rfl ?_))))
       refine LW.p (PEv.inc (.tmp rfl) (by omega)) rfl rfl rfl ?_
       refine LW.p (PEv.assign (.tmp rfl)) rfl rfl rfl (LW.nil (KW.round ?_))
       exact ⟨k + 1, ⟨by omega, hS⟩, ⟨rfl, rfl, rfl, rfl, trivial⟩, by first | omega | (dsimp only; omega)⟩
     ·first | replace h35 := of_decide_eq_true h35 | replace h35 := of_decide_eq_false h35 | skip
      refine CW.exit (KW.then_exit (KW.then_exit (KW.block_hit (KW.then (CW.seq ?_)))))
      rw [show k = (refWs (keptL (⟨zoff, left, dur, vis, pend⟩ : DS) keep pend.length) torn).length by rw [refWs_length]; omega, List.take_length] at hS
      refine CW.region (LW.p (PEv.move (.tmp rfl)) rfl rfl rfl ?_)
      refine LW.p (PEv.nilCheck (.tmp rfl)) rfl rfl rfl ?_
      refine LW.p (PEv.fieldAddr (off := 1) Try.underlying43 rfl rfl Try.sizeOf41 rfl (.tmp rfl)) rfl rfl rfl ?_
      refine LW.s (SEv.store Try.sizeOf41 (.tmp rfl) (.const _) rfl (hS.blk 0 rfl) (Nat.le_of_ble_eq_true rfl)) rfl rfl rfl ?_
      intro w10 Nw10
      have zw10 := Nw10.size
      replace hS := hS.putB 0 rfl (show Set_ _ w10 _ (#[sv, .slice none 0 0, .bool zoff, vi left]) _ from Nw10)
      change Wx.Sep _ _ _ [_, _, _, _] at hS
      refine LW.nil (KW.then (CW.seq (CW.region (LW.p (PEv.move (.tmp rfl)) rfl rfl rfl ?_))))
      refine LW.p (PEv.nilCheck (.tmp rfl)) rfl rfl rfl ?_
      refine LW.p (PEv.fieldAddr (off := 2) Try.underlying43 rfl rfl Try.sizeOf4 rfl (.tmp rfl)) rfl rfl rfl ?_
      refine LW.s (SEv.store Try.sizeOf4 (.tmp rfl) (.const _) rfl (hS.blk 0 rfl) (Nat.le_of_ble_eq_true rfl)) rfl rfl rfl ?_
      intro w11 Nw11
      have zw11 := Nw11.size
      replace hS := hS.putB 0 rfl (show Set_ _ w11 _ (#[sv, .slice none 0 0, .bool false, vi left]) _ from Nw11)
      change Wx.Sep _ _ _ [_, _, _, _] at hS
      refine LW.nil (KW.then (CW.region (LW.p (PEv.move (.tmp rfl)) rfl rfl rfl ?_)))
      refine LW.p (PEv.nilCheck (.tmp rfl)) rfl rfl rfl ?_
      refine LW.p (PEv.fieldAddr (off := 3) Try.underlying43 rfl rfl Try.sizeOf3 rfl (.tmp rfl)) rfl rfl rfl ?_
      refine LW.s (SEv.store Try.sizeOf3 (.tmp rfl) (.const _) rfl (hS.blk 0 rfl) (Nat.le_of_ble_eq_true rfl)) rfl rfl rfl ?_
      intro w12 Nw12
      have zw12 := Nw12.size
      replace hS := hS.putB 0 rfl (show Set_ _ w12 _ (#[sv, .slice none 0 0, .bool false, vi 0]) _ from Nw12)
      change Wx.Sep _ _ _ [_, _, _, _] at hS
      refine LW.nil ?_
      refine KW.end0 rfl ⟨_, rfl, ?_⟩
      replace hS := Sep.addn (e := 80) (k := 2) (enc := Wr.cells) hS (OwnS.nil _ _ _ _ _)
      exact ⟨rfl, ⟨bd, sv, .slice none 0 0⟩, rfl, aAnd_close (As' := [aBlk bd #[sv, (.slice none 0 0), .bool false, vi 0] 43, aOwn 5 1 eBy sv (applyAll dur (refWs (keptL (⟨zoff, left, dur, vis, pend⟩ : DS) keep pend.length) torn)), aOwn 80 2 Wr.cells (.slice none 0 0) ([])]) (rest := []) hS.pick5⟩

end Go.Proofs.Ytkpkljbmbmjadaa
