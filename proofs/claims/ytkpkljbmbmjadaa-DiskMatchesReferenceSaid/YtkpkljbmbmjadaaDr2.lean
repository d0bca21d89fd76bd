import Derived.Test.YtkpkljbmbmjadaaDr1
namespace Go.Wx

theorem inside_neg {n : Nat} {off m : Int} : (decide (off < 0) || decide (m < 0) || decide ((n : Int) < off) || decide ((n : Int) - off < m)) = !insideB n off m := by
  unfold insideB
  rw [Bool.eq_iff_iff]
  simp
def hasK (keep : List Int) (i : Nat) : Bool := keep.any fun x => decide (x = (i : Int))
/-- the writes that survive -/
def keptL (z : DS) (keep : List Int) (n : Nat) : List Wr := ((z.pend.zipIdx.take n).filter fun p => hasK keep p.2).map (·.1)
theorem keptL_step {z : DS} {keep : List Int} {i : Nat} {x : Wr} (h : z.pend[i]? = some x) : keptL z keep (i + 1) = keptL z keep i ++ if hasK keep i then [x] else [] := by
  unfold keptL
  have hz : z.pend.zipIdx[i]? = some (x, i) := by rw [List.getElem?_zipIdx, h]; simp
  rw [take_succ_of hz, List.filter_append, List.map_append]
  simp only [List.filter_cons, List.filter_nil]
  split <;> simp
theorem keptL_len (z : DS) (keep : List Int) (n : Nat) : (keptL z keep n).length ≤ n := by
  unfold keptL
  rw [List.length_map]
  exact Nat.le_trans (List.length_filter_le _ _) (by rw [List.length_take]; omega)
theorem keptL_mem {z : DS} {keep : List Int} {n : Nat} {x : Wr} (h : x ∈ keptL z keep n) : x ∈ z.pend := by
  unfold keptL at h
  obtain ⟨p, hp, rfl⟩ := List.mem_map.1 h
  have := List.mem_of_mem_take (List.mem_filter.1 hp).1
  obtain ⟨k, hk⟩ := List.mem_iff_getElem?.1 this
  rw [List.getElem?_zipIdx] at hk
  cases hz : z.pend[k]? with
  | none => rw [hz] at hk; cases hk
  | some y => rw [hz] at hk; simp at hk; rw [← hk]; exact List.mem_of_getElem? hz
/-- as the reference tears -/
def tornW (n : Nat) (torn : Int) (k : Nat) (x : Wr) : ByteArray := if decide (k + 1 = n) && decide (0 ≤ torn) && decide (torn < x.s.size) then x.s.extract 0 torn.toNat else x.s
def refWs (l : List Wr) (torn : Int) : List Wr := l.zipIdx.map fun p => ⟨p.1.off, tornW l.length torn p.2 p.1⟩
theorem refWs_at {l : List Wr} {torn : Int} {k : Nat} {x : Wr} (h : l[k]? = some x) : (refWs l torn)[k]? = some ⟨x.off, tornW l.length torn k x⟩ := by
  unfold refWs
  rw [List.getElem?_map, List.getElem?_zipIdx, h]; simp
theorem refWs_length (l : List Wr) (torn : Int) : (refWs l torn).length = l.length := by simp [refWs]
theorem tornW_size (n : Nat) (torn : Int) (k : Nat) (x : Wr) : (tornW n torn k x).size ≤ x.s.size := by
  unfold tornW; split
  · exact extract_size _ _
  · exact Nat.le_refl _
theorem refWs_ok {z : DS} {keep : List Int} {n : Nat} {torn : Int} (hk : DOk z) : ∀ y ∈ refWs (keptL z keep n) torn, y.off.toNat + y.s.size ≤ z.dur.length := by
  intro y hy
  obtain ⟨k, hk1⟩ := List.mem_iff_getElem?.1 hy
  have hkl : k < (keptL z keep n).length := by rw [← refWs_length _ torn]; exact (List.getElem?_eq_some_iff.1 hk1).1
  obtain ⟨x, hx⟩ := getElem?_of_lt (xs := keptL z keep n) (i := k) hkl
  rw [refWs_at hx] at hk1
  cases hk1
  have h1 := hk.wok x (keptL_mem (List.mem_of_getElem? hx))
  have h2 := tornW_size (keptL z keep n).length torn k x
  exact Nat.le_trans (Nat.add_le_add_left h2 _) h1.2
def crashR (z : DS) (keep : List Int) (torn : Int) : DS := { z with off := false, left := 0, dur := applyAll z.dur (refWs (keptL z keep z.pend.length) torn), pend := [] }

end Go.Wx
namespace Go.Proofs.Ytkpkljbmbmjadaa
open Go.Wx Go.RowKit
theorem rNew_any (n : Nat) (w : World) (h1 : 1 ≤ n) (h2 : n ≤ 4194304) : Ret Try.prog 18 #[vi (n : Int)] w fun r w' => ∃ R, r = .tuple #[.pointer (some ⟨R.bd, 0, none⟩), vi 0] ∧ (aRef R (newS n)).holds w' ∧ (∀ i, (aRef R (newS n)).foot i → w.heap.size ≤ i) ∧ Up w w' := by
  have hW := Up.refl w
  obtain ⟨w0, rfl⟩ : ∃ w0, w0 = w := ⟨_, rfl⟩
  refine Calls_start (n := 14) (m := 9) Try.func18 rfl rfl rfl ?_
  refine CW.seq (CW.region (LW.p (PEv.assign (.const _)) rfl rfl rfl (LW.p (PEv.assign (.const _)) rfl rfl rfl (LW.nil (KW.then (CW.seq (CW.seq (CW.region (LW.p (PEv.move (.tmp rfl)) rfl rfl rfl ?_)))))))))
  refine LW.p (PEv.fa (PEv.lss (.tmp rfl) (.const _)) (decide_eq_false (by omega))) rfl rfl rfl ?_
  refine LW.p (PEv.move (.tmp rfl)) rfl rfl rfl ?_
  refine LW.yes rfl rfl rfl rfl rfl rfl ?_
  refine LW.p (PEv.move (.tmp rfl)) rfl rfl rfl ?_
  refine LW.yes rfl rfl rfl rfl rfl rfl ?_
  refine LW.p (PEv.fa (PEv.gtr (.tmp rfl) (.const _)) (decide_eq_false (by omega))) rfl rfl rfl ?_
  refine LW.p (PEv.pick_or (.tmp rfl) (fun hp => (by first | exact .const _ | exact .tmp rfl | exact .cond rfl (by first | assumption | simp_all)))) rfl rfl rfl ?_
  refine LW.nil (KW.then ?_)
  refine CW.cond_false (.tmp rfl) ?_
  refine CW.skip (KW.then (CW.seq (CW.region (LW.p (PEv.move (.tmp rfl)) rfl rfl rfl ?_))))
  refine LW.r (REv.makeBytes (i := Try.t5) Try.underlying40 (by kernel_rfl) rfl rfl rfl (.tmp rfl) (.tmp rfl) (by omega)) rfl rfl rfl rfl ?_
  rintro _ w1 ⟨B11, rfl, NB11⟩
  have eB11 := NB11.at_
  have zB11 := NB11.size
  replace hW := hW.up NB11.up
  have hB11 := NB11.blk
  refine LW.p (PEv.build (cs := #[.slice (some ⟨B11, 0, none⟩) n n, .slice none 0 0, .bool false, vi 0]) Try.underlying43 Try.zeroValue43 Try.places43 (.cons (.tmp rfl) .nil) rfl) rfl rfl rfl ?_
  refine LW.r (REv.boxA (.tmp rfl)) rfl rfl rfl rfl ?_
  rintro _ w2 ⟨B13, rfl, NB13⟩
  have eB13 := NB13.at_
  have zB13 := NB13.size
  replace hW := hW.up NB13.up
  replace hB11 := hB11.up NB13.up
  have hB13 := NB13.blk
  refine LW.p (PEv.assign (.tmp rfl)) rfl rfl rfl (LW.p (PEv.assign (.const _)) rfl rfl rfl (LW.nil (KW.then (CW.ret ?_))))
  refine KW.ret2 rfl rfl rfl ⟨_, rfl, ?_⟩
  have hO : OwnS w2 0 5 1 eBy (.slice (some ⟨B11, 0, none⟩) n n) (List.replicate n 0) := own_bytes hB11 (by simp) (by simp [maxLen]; omega)
  refine ⟨⟨B13, .slice (some ⟨B11, 0, none⟩) n n, .slice none 0 0⟩, rfl, ⟨fun B hB => ?_, ?_⟩, ?_, hW⟩
  ·simp only [List.mem_cons, List.mem_nil_iff, or_false] at hB
   rcases hB with rfl | rfl | rfl
   · exact hB13
   · exact hO
   · exact OwnS.nil _ _ _ _ _
  ·refine List.Pairwise.cons (fun B hB i hi hi2 => ?_) (List.Pairwise.cons (fun B hB i hi hi2 => ?_) (List.Pairwise.cons (fun B hB => by cases hB) List.Pairwise.nil))
   · simp only [List.mem_cons, List.mem_nil_iff, or_false] at hB
     rcases hB with rfl | rfl
     · have hi : i = B13 := hi
       have hi2 : some B11 = some i := hi2
       injection hi2 with hi2
       omega
     · cases hi2
   · simp only [List.mem_cons, List.mem_nil_iff, or_false] at hB
     subst hB
     cases hi2
  ·rintro i ⟨B, hB, hi⟩
   simp only [List.mem_cons, List.mem_nil_iff, or_false] at hB
   rcases hB with rfl | rfl | rfl
   · have hi : i = B13 := hi
     omega
   · have hi : some B11 = some i := hi
     injection hi with hi
     omega
   · cases hi

theorem rRead_any (R : Rf) (z : DS) (w : World) (hD : (aRef R z).holds w) (hk : DOk z) (hv : z.vis = applyAll z.dur z.pend) (off m : Int) : Ret Try.prog 20 #[.pointer (some ⟨R.bd, 0, none⟩), vi off, vi m] w fun r w' => r = .tuple #[.string (readB z off m), vi (readE z off m)] ∧ Up w w' := by
  have hW := Up.refl w
  obtain ⟨w0, rfl⟩ : ∃ w0, w0 = w := ⟨_, rfl⟩
  have hSo := aAnd_open hD
  have hB0 : Blk w0 R.bd (rcells R z) 43 := hSo.blk 0 rfl
  have hSv : OwnS w0 0 5 1 eBy R.sv z.dur := hSo.own 1 rfl
  have hLv : OwnS w0 0 80 2 Wr.cells R.lv z.pend := hSo.own 2 rfl
  clear hSo
  obtain ⟨as_, cps, es, hEs⟩ := hSv.sl (fun _ => rfl)
  have hmx := hk.max
  refine Calls_start (n := 46) (m := 9) Try.func20 rfl rfl rfl ?_
  refine CW.seq (CW.region (LW.p (PEv.assign (.const _)) rfl rfl rfl (LW.p (PEv.assign (.const _)) rfl rfl rfl (LW.nil (KW.then (CW.seq (CW.seq ?_)))))))
  cases hq1 : z.off with
  | true =>
   refine CW.region (LW.p (PEv.move (.tmp rfl)) rfl rfl rfl ?_)
   refine LW.p (PEv.nilCheck (.tmp rfl)) rfl rfl rfl ?_
   refine LW.p (PEv.fieldAddr (off := 2) Try.underlying43 rfl rfl Try.sizeOf4 rfl (.tmp rfl)) rfl rfl rfl ?_
   refine LW.p (PEv.tr (PEv.load Try.isAgg4 (.tmp rfl) (hB0.celln rfl)) (hq1)) rfl rfl rfl ?_
   refine LW.nil (KW.then ?_)
   refine CW.cond_true (.tmp rfl) ?_
   refine CW.seq (CW.region (LW.p (PEv.assign (.const _)) rfl rfl rfl (LW.p (PEv.assign (.const _)) rfl rfl rfl (LW.nil (KW.then (CW.ret (KW.then_ret ?_)))))))
   refine KW.ret2 rfl rfl rfl ⟨_, rfl, ?_⟩
   refine ⟨?_, hW⟩
   unfold readB readE
   rw [hq1]
   first | rfl | (rw [hi]; first | rfl | (show Go.Value.tuple #[.string ⟨((z.vis.drop j).take (j + k - j)).toArray⟩, vi 0] = Go.Value.tuple #[.string (strOf z.vis j k), vi 0]; rw [show j + k - j = k by omega]; rfl))
  | false =>
   refine CW.region (LW.p (PEv.move (.tmp rfl)) rfl rfl rfl ?_)
   refine LW.p (PEv.nilCheck (.tmp rfl)) rfl rfl rfl ?_
   refine LW.p (PEv.fieldAddr (off := 2) Try.underlying43 rfl rfl Try.sizeOf4 rfl (.tmp rfl)) rfl rfl rfl ?_
   refine LW.p (PEv.fa (PEv.load Try.isAgg4 (.tmp rfl) (hB0.celln rfl)) (hq1)) rfl rfl rfl ?_
   refine LW.nil (KW.then ?_)
   refine CW.cond_false (.tmp rfl) ?_
   refine CW.skip (KW.then (CW.seq (CW.seq (CW.region (LW.p (PEv.move (.tmp rfl)) rfl rfl rfl ?_)))))
   refine LW.p (PEv.lss (.tmp rfl) (.const _)) rfl rfl rfl ?_
   refine LW.p (PEv.move (.tmp rfl)) rfl rfl rfl ?_
   refine LW.g rfl rfl rfl rfl rfl rfl rfl (fun hc => PEv.move (.tmp rfl)) ?_
   refine LW.g rfl rfl rfl rfl rfl rfl rfl (fun hc => PEv.lss (by first | exact .tmp rfl | exact .cond rfl (by first | assumption | simp_all)) (.const _)) ?_
   refine LW.p (PEv.pick_or (.tmp rfl) (fun hp => (by first | exact .const _ | exact .tmp rfl | exact .cond rfl (by first | assumption | (rw [hp]; rfl) | simp_all)))) rfl rfl rfl ?_
   refine LW.p (PEv.move (.tmp rfl)) rfl rfl rfl ?_
   refine LW.g rfl rfl rfl rfl rfl rfl rfl (fun hc => PEv.move (.tmp rfl)) ?_
   refine LW.g rfl rfl rfl rfl rfl rfl rfl (fun hc => PEv.move (.tmp rfl)) ?_
   refine LW.g rfl rfl rfl rfl rfl rfl rfl (fun hc => PEv.nilCheck (by first | exact .tmp rfl | exact .cond rfl (by first | assumption | simp_all))) ?_
   refine LW.g rfl rfl rfl rfl rfl rfl rfl (fun hc => PEv.fieldAddr (off := 0) Try.underlying43 rfl rfl Try.sizeOf40 rfl (by first | exact .tmp rfl | exact .cond rfl (by first | assumption | simp_all))) ?_
   refine LW.g rfl rfl rfl rfl rfl rfl rfl (fun hc => PEv.val (v' := .slice as_ z.dur.length cps) (PEv.load Try.isAgg40 (by first | exact .tmp rfl | exact .cond rfl (by first | assumption | simp_all)) (hB0.celln rfl)) es) ?_
   refine LW.g rfl rfl rfl rfl rfl rfl rfl (fun hc => PEv.lenS Try.underlying40 (by first | exact .tmp rfl | exact .cond rfl (by first | assumption | simp_all))) ?_
   refine LW.g rfl rfl rfl rfl rfl rfl rfl (fun hc => PEv.gtr (by first | exact .tmp rfl | exact .cond rfl (by first | assumption | simp_all)) (by first | exact .tmp rfl | exact .cond rfl (by first | assumption | simp_all))) ?_
   refine LW.p (PEv.pick_or (.tmp rfl) (fun hp => (by first | exact .const _ | exact .tmp rfl | exact .cond rfl (by first | assumption | (rw [hp]; rfl) | simp_all)))) rfl rfl rfl ?_
   refine LW.p (PEv.move (.tmp rfl)) rfl rfl rfl ?_
   refine LW.g rfl rfl rfl rfl rfl rfl rfl (fun hc => PEv.move (.tmp rfl)) ?_
   refine LW.g rfl rfl rfl rfl rfl rfl rfl (fun hc => PEv.move (.tmp rfl)) ?_
   refine LW.g rfl rfl rfl rfl rfl rfl rfl (fun hc => PEv.nilCheck (by first | exact .tmp rfl | exact .cond rfl (by first | assumption | simp_all))) ?_
   refine LW.g rfl rfl rfl rfl rfl rfl rfl (fun hc => PEv.fieldAddr (off := 0) Try.underlying43 rfl rfl Try.sizeOf40 rfl (by first | exact .tmp rfl | exact .cond rfl (by first | assumption | simp_all))) ?_
   refine LW.g rfl rfl rfl rfl rfl rfl rfl (fun hc => PEv.val (v' := .slice as_ z.dur.length cps) (PEv.load Try.isAgg40 (by first | exact .tmp rfl | exact .cond rfl (by first | assumption | simp_all)) (hB0.celln rfl)) es) ?_
   refine LW.g rfl rfl rfl rfl rfl rfl rfl (fun hc => PEv.lenS Try.underlying40 (by first | exact .tmp rfl | exact .cond rfl (by first | assumption | simp_all))) ?_
   refine LW.g rfl rfl rfl rfl rfl rfl rfl (fun hc => PEv.move (.tmp rfl)) ?_
   refine LW.g rfl rfl rfl rfl rfl rfl rfl (fun hc => PEv.sub (by first | exact .tmp rfl | exact .cond rfl (by first | assumption | simp_all)) (by first | exact .tmp rfl | exact .cond rfl (by first | assumption | simp_all)) (by simp at hc; omega) (by simp at hc; omega)) ?_
   refine LW.g rfl rfl rfl rfl rfl rfl rfl (fun hc => PEv.gtr (by first | exact .tmp rfl | exact .cond rfl (by first | assumption | simp_all)) (by first | exact .tmp rfl | exact .cond rfl (by first | assumption | simp_all))) ?_
   refine LW.p (PEv.pick_or (.tmp rfl) (fun hp => (by first | exact .const _ | exact .tmp rfl | exact .cond rfl (by first | assumption | (rw [hp]; rfl) | simp_all)))) rfl rfl rfl ?_
   refine LW.nil (KW.then ?_)
   refine CW.cond (.tmp rfl) (fun h37 => ?_) (fun h37 => ?_)
   ·first | replace h37 := of_decide_eq_true h37 | replace h37 := of_decide_eq_false h37 | skip
    have hi : insideB z.dur.length off m = false := by rw [← Bool.not_eq_true', ← inside_neg]; simpa [Bool.or_assoc] using h37
    refine CW.seq (CW.region (LW.p (PEv.assign (.const _)) rfl rfl rfl (LW.p (PEv.assign (.const _)) rfl rfl rfl (LW.nil (KW.then (CW.ret (KW.then_ret ?_)))))))
    refine KW.ret2 rfl rfl rfl ⟨_, rfl, ?_⟩
    refine ⟨?_, hW⟩
    unfold readB readE
    rw [hq1]
    first | rfl | (rw [hi]; first | rfl | (show Go.Value.tuple #[.string ⟨((z.vis.drop j).take (j + k - j)).toArray⟩, vi 0] = Go.Value.tuple #[.string (strOf z.vis j k), vi 0]; rw [show j + k - j = k by omega]; rfl))
   ·first | replace h37 := of_decide_eq_true h37 | replace h37 := of_decide_eq_false h37 | skip
    have hi : insideB z.dur.length off m = true := by rw [← Bool.not_eq_false', ← inside_neg]; simpa [Bool.or_assoc] using h37
    obtain ⟨j, rfl⟩ : ∃ j : Nat, off = j := ⟨off.toNat, by simp [insideB] at hi; omega⟩
    obtain ⟨k, rfl⟩ : ∃ k : Nat, m = k := ⟨m.toNat, by simp [insideB] at hi; omega⟩
    have hjk : j + k ≤ z.dur.length := by simp [insideB] at hi; omega
    refine CW.skip (KW.then (CW.seq (CW.region (LW.p (PEv.move (.tmp rfl)) rfl rfl rfl ?_))))
    refine LW.c (enter_call0 (.cons (.tmp rfl) .nil) (Try.en34)) rfl rfl rfl rfl (rVisible_any R z _ hB0 (hSv.up hW) (hLv.up hW) hk) ?_
    rintro v39 w1 ⟨hO39, uw1⟩
    have zw1 := uw1.size
    replace hB0 := hB0.up uw1
    replace hW := hW.up uw1
    rw [← hv] at hO39
    have hvl := hk.len
    obtain ⟨av, cpv, rfl, hEV⟩ := hO39.sl (fun _ => rfl)
    have hcv := own_cap hO39
    refine LW.p (PEv.move (.tmp rfl)) rfl rfl rfl (LW.p (PEv.move (.tmp rfl)) rfl rfl rfl (LW.p (PEv.move (.tmp rfl)) rfl rfl rfl ?_))
    refine LW.p (PEv.addN (.tmp rfl) (.tmp rfl) (by omega)) rfl rfl rfl ?_
    refine LW.p (PEv.sliceLH (k := 1) Try.underlying40 Try.sizeOf5 (.tmp rfl) (.tmp rfl) (.tmp rfl) (by omega) (by omega)) rfl rfl rfl ?_
    refine LW.p (PEv.elsStr Try.underlying40 Try.underlying5 Try.underlying9 (.tmp rfl) (Els.part hEV (by omega) (by omega) (by omega))) rfl rfl rfl ?_
    refine LW.p (PEv.assign (.tmp rfl)) rfl rfl rfl (LW.p (PEv.assign (.const _)) rfl rfl rfl (LW.nil (KW.then (CW.ret ?_))))
    refine KW.ret2 rfl rfl rfl ⟨_, rfl, ?_⟩
    refine ⟨?_, hW⟩
    unfold readB readE
    rw [hq1]
    first | rfl | (rw [hi]; first | rfl | (show Go.Value.tuple #[.string ⟨((z.vis.drop j).take (j + k - j)).toArray⟩, vi 0] = Go.Value.tuple #[.string (strOf z.vis j k), vi 0]; rw [show j + k - j = k by omega]; rfl))

theorem rWrite_any (R : Rf) (z : DS) (w : World) (hD : (aRef R z).holds w) (hk : DOk z) (off : Int) (x : ByteArray) (hp : z.pend.length < 1000000) : Ret Try.prog 30 #[.pointer (some ⟨R.bd, 0, none⟩), vi off, .string x] w fun r w' => r = vi (writeE z off x) ∧ ∃ R', R'.bd = R.bd ∧ Stp (aRef R z) (aRef R' (writeS z off x)) w w' := by
  obtain ⟨w0, rfl⟩ : ∃ w0, w0 = w := ⟨_, rfl⟩
  obtain ⟨bd, sv, lv⟩ := R
  obtain ⟨zoff, left, dur, vis, pend⟩ := z
  have hS : Wx.Sep (aRef ⟨bd, sv, lv⟩ ⟨zoff, left, dur, vis, pend⟩).foot w0 w0 [aBlk bd #[sv, lv, .bool zoff, vi left] 43, aOwn 5 1 eBy sv (dur), aOwn 80 2 Wr.cells lv (pend)] := aAnd_open hD
  have hmx : dur.length ≤ 4194304 := hk.max
  have hpm : pend.length ≤ 1000000 := hk.pmax
  have hl0 : 0 ≤ left := hk.left0
  have hl1 : left ≤ 9223372036854775807 := hk.left1
  refine Calls_start (n := 66) (m := 9) Try.func30 rfl rfl rfl ?_
  refine CW.seq (CW.region (LW.p (PEv.assign (.const _)) rfl rfl rfl (LW.nil (KW.then (CW.seq (CW.seq ?_))))))
  cases zoff with
  | true =>
   refine CW.region (LW.p (PEv.move (.tmp rfl)) rfl rfl rfl ?_)
   refine LW.p (PEv.nilCheck (.tmp rfl)) rfl rfl rfl ?_
   refine LW.p (PEv.fieldAddr (off := 2) Try.underlying43 rfl rfl Try.sizeOf4 rfl (.tmp rfl)) rfl rfl rfl ?_
   refine LW.p (PEv.tr (PEv.load Try.isAgg4 (.tmp rfl) ((hS.blk 0 rfl).celln rfl)) (rfl)) rfl rfl rfl ?_
   refine LW.nil (KW.then ?_)
   refine CW.cond_true (.tmp rfl) ?_
   refine CW.seq (CW.region (LW.p (PEv.assign (.const _)) rfl rfl rfl (LW.nil (KW.then (CW.ret (KW.then_ret ?_))))))
   refine KW.ret1 rfl rfl ⟨_, rfl, ?_⟩
   first | exact ⟨rfl, ⟨bd, sv, lv⟩, rfl, aAnd_close (rest := []) hS⟩ | (refine ⟨by simp [writeE, hi], ⟨bd, sv, lv⟩, rfl, ?_⟩; rw [show writeS ⟨false, left, dur, vis, pend⟩ off x = ⟨false, left, dur, vis, pend⟩ by simp [writeS, hi]]; exact aAnd_close (rest := []) hS) | (refine ⟨by simp [writeE, hi], ⟨bd, sv, v43⟩, rfl, ?_⟩; rw [show writeS ⟨false, left, dur, vis, pend⟩ (j : Int) x = ⟨true, left - 1, dur, overlay vis (j : Int).toNat x.data.toList, pend ++ [⟨(j : Int), x⟩]⟩ by simp [writeS, hi, usedS, putS, h62] <;> omega]; exact aAnd_close (rest := []) hS) | (refine ⟨by simp [writeE, hi], ⟨bd, sv, v43⟩, rfl, ?_⟩; rw [show writeS ⟨false, left, dur, vis, pend⟩ (j : Int) x = ⟨false, left - 1, dur, overlay vis (j : Int).toNat x.data.toList, pend ++ [⟨(j : Int), x⟩]⟩ by simp [writeS, hi, usedS, putS, h62] <;> omega]; exact aAnd_close (rest := []) hS) | (refine ⟨by simp [writeE, hi], ⟨bd, sv, v43⟩, rfl, ?_⟩; rw [show writeS ⟨false, left, dur, vis, pend⟩ (j : Int) x = ⟨false, left, dur, overlay vis (j : Int).toNat x.data.toList, pend ++ [⟨(j : Int), x⟩]⟩ by have hl : left = 0 := (by omega); subst hl; simp [writeS, hi, usedS, putS]]; exact aAnd_close (rest := []) hS)
  | false =>
   refine CW.region (LW.p (PEv.move (.tmp rfl)) rfl rfl rfl ?_)
   refine LW.p (PEv.nilCheck (.tmp rfl)) rfl rfl rfl ?_
   refine LW.p (PEv.fieldAddr (off := 2) Try.underlying43 rfl rfl Try.sizeOf4 rfl (.tmp rfl)) rfl rfl rfl ?_
   refine LW.p (PEv.fa (PEv.load Try.isAgg4 (.tmp rfl) ((hS.blk 0 rfl).celln rfl)) (rfl)) rfl rfl rfl ?_
   refine LW.nil (KW.then ?_)
   refine CW.cond_false (.tmp rfl) ?_
   refine CW.skip (KW.then (CW.seq (CW.seq ?_)))
   obtain ⟨as_, cps, es, hEs⟩ := (hS.own 1 rfl).sl (fun _ => rfl)
   refine CW.region (LW.p (PEv.move (.tmp rfl)) rfl rfl rfl ?_)
   refine LW.p (PEv.lss (.tmp rfl) (.const _)) rfl rfl rfl ?_
   refine LW.p (PEv.move (.tmp rfl)) rfl rfl rfl ?_
   refine LW.g rfl rfl rfl rfl rfl rfl rfl (fun hc => PEv.move (.tmp rfl)) ?_
   refine LW.g rfl rfl rfl rfl rfl rfl rfl (fun hc => PEv.move (.tmp rfl)) ?_
   refine LW.g rfl rfl rfl rfl rfl rfl rfl (fun hc => PEv.nilCheck (by first | exact .tmp rfl | exact .cond rfl (by first | assumption | simp_all))) ?_
   refine LW.g rfl rfl rfl rfl rfl rfl rfl (fun hc => PEv.fieldAddr (off := 0) Try.underlying43 rfl rfl Try.sizeOf40 rfl (by first | exact .tmp rfl | exact .cond rfl (by first | assumption | simp_all))) ?_
   refine LW.g rfl rfl rfl rfl rfl rfl rfl (fun hc => PEv.val (v' := .slice as_ dur.length cps) (PEv.load Try.isAgg40 (by first | exact .tmp rfl | exact .cond rfl (by first | assumption | simp_all)) ((hS.blk 0 rfl).celln rfl)) es) ?_
   refine LW.g rfl rfl rfl rfl rfl rfl rfl (fun hc => PEv.lenS Try.underlying40 (by first | exact .tmp rfl | exact .cond rfl (by first | assumption | simp_all))) ?_
   refine LW.g rfl rfl rfl rfl rfl rfl rfl (fun hc => PEv.gtr (by first | exact .tmp rfl | exact .cond rfl (by first | assumption | simp_all)) (by first | exact .tmp rfl | exact .cond rfl (by first | assumption | simp_all))) ?_
   refine LW.p (PEv.pick_or (.tmp rfl) (fun hp => (by first | exact .const _ | exact .tmp rfl | exact .cond rfl (by first | assumption | (rw [hp]; rfl) | simp_all)))) rfl rfl rfl ?_
   refine LW.p (PEv.move (.tmp rfl)) rfl rfl rfl ?_
   refine LW.g rfl rfl rfl rfl rfl rfl rfl (fun hc => PEv.move (.tmp rfl)) ?_
   refine LW.g rfl rfl rfl rfl rfl rfl rfl (fun hc => PEv.lenStr Try.underlying9 (by first | exact .tmp rfl | exact .cond rfl (by first | assumption | simp_all))) ?_
   refine LW.g rfl rfl rfl rfl rfl rfl rfl (fun hc => PEv.move (.tmp rfl)) ?_
   refine LW.g rfl rfl rfl rfl rfl rfl rfl (fun hc => PEv.nilCheck (by first | exact .tmp rfl | exact .cond rfl (by first | assumption | simp_all))) ?_
   refine LW.g rfl rfl rfl rfl rfl rfl rfl (fun hc => PEv.fieldAddr (off := 0) Try.underlying43 rfl rfl Try.sizeOf40 rfl (by first | exact .tmp rfl | exact .cond rfl (by first | assumption | simp_all))) ?_
   refine LW.g rfl rfl rfl rfl rfl rfl rfl (fun hc => PEv.val (v' := .slice as_ dur.length cps) (PEv.load Try.isAgg40 (by first | exact .tmp rfl | exact .cond rfl (by first | assumption | simp_all)) ((hS.blk 0 rfl).celln rfl)) es) ?_
   refine LW.g rfl rfl rfl rfl rfl rfl rfl (fun hc => PEv.lenS Try.underlying40 (by first | exact .tmp rfl | exact .cond rfl (by first | assumption | simp_all))) ?_
   refine LW.g rfl rfl rfl rfl rfl rfl rfl (fun hc => PEv.move (.tmp rfl)) ?_
   refine LW.g rfl rfl rfl rfl rfl rfl rfl (fun hc => PEv.sub (by first | exact .tmp rfl | exact .cond rfl (by first | assumption | simp_all)) (by first | exact .tmp rfl | exact .cond rfl (by first | assumption | simp_all)) (by simp at hc; omega) (by simp at hc; omega)) ?_
   refine LW.g rfl rfl rfl rfl rfl rfl rfl (fun hc => PEv.gtr (by first | exact .tmp rfl | exact .cond rfl (by first | assumption | simp_all)) (by first | exact .tmp rfl | exact .cond rfl (by first | assumption | simp_all))) ?_
   refine LW.p (PEv.pick_or (.tmp rfl) (fun hp => (by first | exact .const _ | exact .tmp rfl | exact .cond rfl (by first | assumption | (rw [hp]; rfl) | simp_all)))) rfl rfl rfl ?_
   refine LW.nil (KW.then ?_)
   refine CW.cond (.tmp rfl) (fun h33 => ?_) (fun h33 => ?_)
   ·first | replace h33 := of_decide_eq_true h33 | replace h33 := of_decide_eq_false h33 | skip
    have hi : insideB dur.length off x.size = false := by rw [← Bool.not_eq_true', ← inside_neg, decide_eq_false (show ¬ (x.size : Int) < 0 by omega), Bool.or_false]; simpa [Bool.or_assoc] using h33
    refine CW.seq (CW.region (LW.p (PEv.assign (.const _)) rfl rfl rfl (LW.nil (KW.then (CW.ret (KW.then_ret ?_))))))
    refine KW.ret1 rfl rfl ⟨_, rfl, ?_⟩
    first | exact ⟨rfl, ⟨bd, sv, lv⟩, rfl, aAnd_close (rest := []) hS⟩ | (refine ⟨by simp [writeE, hi], ⟨bd, sv, lv⟩, rfl, ?_⟩; rw [show writeS ⟨false, left, dur, vis, pend⟩ off x = ⟨false, left, dur, vis, pend⟩ by simp [writeS, hi]]; exact aAnd_close (rest := []) hS) | (refine ⟨by simp [writeE, hi], ⟨bd, sv, v43⟩, rfl, ?_⟩; rw [show writeS ⟨false, left, dur, vis, pend⟩ (j : Int) x = ⟨true, left - 1, dur, overlay vis (j : Int).toNat x.data.toList, pend ++ [⟨(j : Int), x⟩]⟩ by simp [writeS, hi, usedS, putS, h62] <;> omega]; exact aAnd_close (rest := []) hS) | (refine ⟨by simp [writeE, hi], ⟨bd, sv, v43⟩, rfl, ?_⟩; rw [show writeS ⟨false, left, dur, vis, pend⟩ (j : Int) x = ⟨false, left - 1, dur, overlay vis (j : Int).toNat x.data.toList, pend ++ [⟨(j : Int), x⟩]⟩ by simp [writeS, hi, usedS, putS, h62] <;> omega]; exact aAnd_close (rest := []) hS) | (refine ⟨by simp [writeE, hi], ⟨bd, sv, v43⟩, rfl, ?_⟩; rw [show writeS ⟨false, left, dur, vis, pend⟩ (j : Int) x = ⟨false, left, dur, overlay vis (j : Int).toNat x.data.toList, pend ++ [⟨(j : Int), x⟩]⟩ by have hl : left = 0 := (by omega); subst hl; simp [writeS, hi, usedS, putS]]; exact aAnd_close (rest := []) hS)
   ·first | replace h33 := of_decide_eq_true h33 | replace h33 := of_decide_eq_false h33 | skip
    have hi : insideB dur.length off x.size = true := by rw [← Bool.not_eq_false', ← inside_neg, decide_eq_false (show ¬ (x.size : Int) < 0 by omega), Bool.or_false]; simpa [Bool.or_assoc] using h33
    obtain ⟨j, rfl⟩ : ∃ j : Nat, off = j := ⟨off.toNat, by simp [insideB] at hi; omega⟩
    have hjx : j + x.size ≤ dur.length := by simp [insideB] at hi; omega
    refine CW.skip (KW.then (CW.seq (CW.region (LW.p (PEv.move (.tmp rfl)) rfl rfl rfl (LW.p (PEv.move (.tmp rfl)) rfl rfl rfl ?_)))))
    refine LW.p (PEv.nilCheck (.tmp rfl)) rfl rfl rfl ?_
    refine LW.p (PEv.fieldAddr (off := 1) Try.underlying43 rfl rfl Try.sizeOf41 rfl (.tmp rfl)) rfl rfl rfl ?_
    refine LW.p (PEv.load Try.isAgg41 (.tmp rfl) ((hS.blk 0 rfl).celln rfl)) rfl rfl rfl ?_
    refine LW.p (PEv.move (.tmp rfl)) rfl rfl rfl (LW.p (PEv.move (.tmp rfl)) rfl rfl rfl ?_)
    refine LW.p (PEv.build (cs := Wr.cells ⟨(j : Int), x⟩) Try.underlying80 Try.zeroValue80 Try.places80 (.cons (.tmp rfl) (.cons (.tmp rfl) .nil)) rfl) rfl rfl rfl ?_
    refine LW.r (REv.buildSlice (xs := [(⟨(j : Int), x⟩ : Wr)]) (enc := Wr.cells) (mk := fun f => .agg f.cells) Try.underlying41 Try.sizeOf80 Try.zeroValue80 rfl (by decide) (fun _ => rfl) (fun _ => rfl) (.cons (.tmp rfl) .nil) rfl) rfl rfl rfl rfl ?_
    rintro _ w1 ⟨B42, cB42, rfl, NB42, yB42, xB42⟩
    have eB42 := NB42.at_
    have zB42 := NB42.size
    replace hS := hS.up NB42.up
    have hE42 := xB42
    refine LW.r (REv.appendF (enc := Wr.cells) (bytes := 24) (i := Try.t80) Try.underlying41 (by kernel_rfl) rfl rfl rfl rfl (by decide) (fun _ => rfl) Wr.one (.tmp rfl) (.tmp rfl) (hS.own 2 rfl) (Sl.of_els hE42) (by have hp : pend.length < 1000000 := hp; simp [maxLen]; omega) (by have hp : pend.length < 1000000 := hp; simp; omega)) rfl rfl rfl rfl ?_
    intro v43 w2 Gw2
    have zw2 := Gw2.fr.size
    replace hS := hS.stp 2 rfl Gw2
    change Wx.Sep _ _ _ [_, _, _] at hS
    refine LW.p (PEv.nilCheck (.tmp rfl)) rfl rfl rfl ?_
    refine LW.p (PEv.fieldAddr (off := 1) Try.underlying43 rfl rfl Try.sizeOf41 rfl (.tmp rfl)) rfl rfl rfl ?_
    refine LW.s (SEv.store Try.sizeOf41 (.tmp rfl) (.tmp rfl) (hS.own 2 rfl).one (hS.blk 0 rfl) (Nat.le_of_ble_eq_true rfl)) rfl rfl rfl ?_
    intro w3 Nw3
    have zw3 := Nw3.size
    replace hS := hS.putB 0 rfl (show Set_ _ w3 _ (#[sv, v43, .bool false, vi left]) _ from Nw3)
    change Wx.Sep _ _ _ [_, _, _] at hS
    refine LW.nil (KW.then (CW.seq (CW.seq (CW.region (LW.p (PEv.move (.tmp rfl)) rfl rfl rfl ?_)))))
    refine LW.p (PEv.nilCheck (.tmp rfl)) rfl rfl rfl ?_
    refine LW.p (PEv.fieldAddr (off := 3) Try.underlying43 rfl rfl Try.sizeOf3 rfl (.tmp rfl)) rfl rfl rfl ?_
    refine LW.p (PEv.load Try.isAgg3 (.tmp rfl) ((hS.blk 0 rfl).celln rfl)) rfl rfl rfl ?_
    refine LW.p (PEv.gtr (.tmp rfl) (.const _)) rfl rfl rfl ?_
    refine LW.nil (KW.then ?_)
    refine CW.cond (.tmp rfl) (fun h50 => ?_) (fun h50 => ?_)
    ·first | replace h50 := of_decide_eq_true h50 | replace h50 := of_decide_eq_false h50 | skip
     refine CW.seq (CW.region (LW.p (PEv.move (.tmp rfl)) rfl rfl rfl ?_))
     refine LW.p (PEv.nilCheck (.tmp rfl)) rfl rfl rfl ?_
     refine LW.p (PEv.fieldAddr (off := 3) Try.underlying43 rfl rfl Try.sizeOf3 rfl (.tmp rfl)) rfl rfl rfl ?_
     refine LW.p (PEv.load Try.isAgg3 (.tmp rfl) ((hS.blk 0 rfl).celln rfl)) rfl rfl rfl ?_
     refine LW.p (PEv.sub (.tmp rfl) (.const _) (by omega) (by omega)) rfl rfl rfl ?_
     refine LW.p (PEv.nilCheck (.tmp rfl)) rfl rfl rfl ?_
     refine LW.p (PEv.fieldAddr (off := 3) Try.underlying43 rfl rfl Try.sizeOf3 rfl (.tmp rfl)) rfl rfl rfl ?_
     refine LW.s (SEv.store Try.sizeOf3 (.tmp rfl) (.tmp rfl) rfl (hS.blk 0 rfl) (Nat.le_of_ble_eq_true rfl)) rfl rfl rfl ?_
     intro w4 Nw4
     have zw4 := Nw4.size
     replace hS := hS.putB 0 rfl (show Set_ _ w4 _ (#[sv, v43, .bool false, vi (left - 1)]) _ from Nw4)
     change Wx.Sep _ _ _ [_, _, _] at hS
     refine LW.nil (KW.then (CW.seq (CW.region (LW.p (PEv.move (.tmp rfl)) rfl rfl rfl ?_))))
     refine LW.p (PEv.nilCheck (.tmp rfl)) rfl rfl rfl ?_
     refine LW.p (PEv.fieldAddr (off := 3) Try.underlying43 rfl rfl Try.sizeOf3 rfl (.tmp rfl)) rfl rfl rfl ?_
     refine LW.p (PEv.load Try.isAgg3 (.tmp rfl) ((hS.blk 0 rfl).celln rfl)) rfl rfl rfl ?_
     refine LW.p (PEv.eql (.tmp rfl) (.const _)) rfl rfl rfl ?_
     refine LW.nil (KW.then ?_)
     refine CW.cond (.tmp rfl) (fun h62 => ?_) (fun h62 => ?_)
     ·first | replace h62 := of_decide_eq_true h62 | replace h62 := of_decide_eq_false h62 | skip
      refine CW.region (LW.p (PEv.move (.tmp rfl)) rfl rfl rfl ?_)
      refine LW.p (PEv.nilCheck (.tmp rfl)) rfl rfl rfl ?_
      refine LW.p (PEv.fieldAddr (off := 2) Try.underlying43 rfl rfl Try.sizeOf4 rfl (.tmp rfl)) rfl rfl rfl ?_
      refine LW.s (SEv.store Try.sizeOf4 (.tmp rfl) (.const _) rfl (hS.blk 0 rfl) (Nat.le_of_ble_eq_true rfl)) rfl rfl rfl ?_
      intro w5 Nw5
      have zw5 := Nw5.size
      replace hS := hS.putB 0 rfl (show Set_ _ w5 _ (#[sv, v43, .bool true, vi (left - 1)]) _ from Nw5)
      change Wx.Sep _ _ _ [_, _, _] at hS
      refine LW.nil (KW.then (CW.seq (CW.region (LW.p (PEv.assign (.const _)) rfl rfl rfl (LW.nil (KW.then (CW.ret ?_)))))))
      refine KW.ret1 rfl rfl ⟨_, rfl, ?_⟩
      first | exact ⟨rfl, ⟨bd, sv, lv⟩, rfl, aAnd_close (rest := []) hS⟩ | (refine ⟨by simp [writeE, hi], ⟨bd, sv, lv⟩, rfl, ?_⟩; rw [show writeS ⟨false, left, dur, vis, pend⟩ off x = ⟨false, left, dur, vis, pend⟩ by simp [writeS, hi]]; exact aAnd_close (rest := []) hS) | (refine ⟨by simp [writeE, hi], ⟨bd, sv, v43⟩, rfl, ?_⟩; rw [show writeS ⟨false, left, dur, vis, pend⟩ (j : Int) x = ⟨true, left - 1, dur, overlay vis (j : Int).toNat x.data.toList, pend ++ [⟨(j : Int), x⟩]⟩ by simp [writeS, hi, usedS, putS, h62] <;> omega]; exact aAnd_close (rest := []) hS) | (refine ⟨by simp [writeE, hi], ⟨bd, sv, v43⟩, rfl, ?_⟩; rw [show writeS ⟨false, left, dur, vis, pend⟩ (j : Int) x = ⟨false, left - 1, dur, overlay vis (j : Int).toNat x.data.toList, pend ++ [⟨(j : Int), x⟩]⟩ by simp [writeS, hi, usedS, putS, h62] <;> omega]; exact aAnd_close (rest := []) hS) | (refine ⟨by simp [writeE, hi], ⟨bd, sv, v43⟩, rfl, ?_⟩; rw [show writeS ⟨false, left, dur, vis, pend⟩ (j : Int) x = ⟨false, left, dur, overlay vis (j : Int).toNat x.data.toList, pend ++ [⟨(j : Int), x⟩]⟩ by have hl : left = 0 := (by omega); subst hl; simp [writeS, hi, usedS, putS]]; exact aAnd_close (rest := []) hS)
     ·first | replace h62 := of_decide_eq_true h62 | replace h62 := of_decide_eq_false h62 | skip
      refine CW.skip (KW.then (CW.seq (CW.region (LW.p (PEv.assign (.const _)) rfl rfl rfl (LW.nil (KW.then (CW.ret ?_)))))))
      refine KW.ret1 rfl rfl ⟨_, rfl, ?_⟩
      first | exact ⟨rfl, ⟨bd, sv, lv⟩, rfl, aAnd_close (rest := []) hS⟩ | (refine ⟨by simp [writeE, hi], ⟨bd, sv, lv⟩, rfl, ?_⟩; rw [show writeS ⟨false, left, dur, vis, pend⟩ off x = ⟨false, left, dur, vis, pend⟩ by simp [writeS, hi]]; exact aAnd_close (rest := []) hS) | (refine ⟨by simp [writeE, hi], ⟨bd, sv, v43⟩, rfl, ?_⟩; rw [show writeS ⟨false, left, dur, vis, pend⟩ (j : Int) x = ⟨true, left - 1, dur, overlay vis (j : Int).toNat x.data.toList, pend ++ [⟨(j : Int), x⟩]⟩ by simp [writeS, hi, usedS, putS, h62] <;> omega]; exact aAnd_close (rest := []) hS) | (refine ⟨by simp [writeE, hi], ⟨bd, sv, v43⟩, rfl, ?_⟩; rw [show writeS ⟨false, left, dur, vis, pend⟩ (j : Int) x = ⟨false, left - 1, dur, overlay vis (j : Int).toNat x.data.toList, pend ++ [⟨(j : Int), x⟩]⟩ by simp [writeS, hi, usedS, putS, h62] <;> omega]; exact aAnd_close (rest := []) hS) | (refine ⟨by simp [writeE, hi], ⟨bd, sv, v43⟩, rfl, ?_⟩; rw [show writeS ⟨false, left, dur, vis, pend⟩ (j : Int) x = ⟨false, left, dur, overlay vis (j : Int).toNat x.data.toList, pend ++ [⟨(j : Int), x⟩]⟩ by have hl : left = 0 := (by omega); subst hl; simp [writeS, hi, usedS, putS]]; exact aAnd_close (rest := []) hS)
    ·first | replace h50 := of_decide_eq_true h50 | replace h50 := of_decide_eq_false h50 | skip
     refine CW.skip (KW.then (CW.seq (CW.region (LW.p (PEv.assign (.const _)) rfl rfl rfl (LW.nil (KW.then (CW.ret ?_)))))))
     refine KW.ret1 rfl rfl ⟨_, rfl, ?_⟩
     first | exact ⟨rfl, ⟨bd, sv, lv⟩, rfl, aAnd_close (rest := []) hS⟩ | (refine ⟨by simp [writeE, hi], ⟨bd, sv, lv⟩, rfl, ?_⟩; rw [show writeS ⟨false, left, dur, vis, pend⟩ off x = ⟨false, left, dur, vis, pend⟩ by simp [writeS, hi]]; exact aAnd_close (rest := []) hS) | (refine ⟨by simp [writeE, hi], ⟨bd, sv, v43⟩, rfl, ?_⟩; rw [show writeS ⟨false, left, dur, vis, pend⟩ (j : Int) x = ⟨true, left - 1, dur, overlay vis (j : Int).toNat x.data.toList, pend ++ [⟨(j : Int), x⟩]⟩ by simp [writeS, hi, usedS, putS, h62] <;> omega]; exact aAnd_close (rest := []) hS) | (refine ⟨by simp [writeE, hi], ⟨bd, sv, v43⟩, rfl, ?_⟩; rw [show writeS ⟨false, left, dur, vis, pend⟩ (j : Int) x = ⟨false, left - 1, dur, overlay vis (j : Int).toNat x.data.toList, pend ++ [⟨(j : Int), x⟩]⟩ by simp [writeS, hi, usedS, putS, h62] <;> omega]; exact aAnd_close (rest := []) hS) | (refine ⟨by simp [writeE, hi], ⟨bd, sv, v43⟩, rfl, ?_⟩; rw [show writeS ⟨false, left, dur, vis, pend⟩ (j : Int) x = ⟨false, left, dur, overlay vis (j : Int).toNat x.data.toList, pend ++ [⟨(j : Int), x⟩]⟩ by have hl : left = 0 := (by omega); subst hl; simp [writeS, hi, usedS, putS]]; exact aAnd_close (rest := []) hS)

theorem rSync_any (R : Rf) (z : DS) (w : World) (hD : (aRef R z).holds w) (hk : DOk z) (hv : z.vis = applyAll z.dur z.pend) : Ret Try.prog 31 #[.pointer (some ⟨R.bd, 0, none⟩)] w fun r w' => r = vi (checkS z) ∧ ∃ R', R'.bd = R.bd ∧ Stp (aRef R z) (aRef R' (syncS z)) w w' := by
  obtain ⟨w0, rfl⟩ : ∃ w0, w0 = w := ⟨_, rfl⟩
  obtain ⟨bd, sv, lv⟩ := R
  obtain ⟨zoff, left, dur, vis, pend⟩ := z
  have hS : Wx.Sep (aRef ⟨bd, sv, lv⟩ ⟨zoff, left, dur, vis, pend⟩).foot w0 w0 [aBlk bd #[sv, lv, .bool zoff, vi left] 43, aOwn 5 1 eBy sv (dur), aOwn 80 2 Wr.cells lv (pend)] := aAnd_open hD
  have hmx : dur.length ≤ 4194304 := hk.max
  have hpm : pend.length ≤ 1000000 := hk.pmax
  have hl0 : 0 ≤ left := hk.left0
  have hl1 : left ≤ 9223372036854775807 := hk.left1
  refine Calls_start (n := 15) (m := 9) Try.func31 rfl rfl rfl ?_
  refine CW.seq (CW.region (LW.p (PEv.assign (.const _)) rfl rfl rfl (LW.nil (KW.then (CW.seq (CW.seq ?_))))))
  cases zoff with
  | true =>
   refine CW.region (LW.p (PEv.move (.tmp rfl)) rfl rfl rfl ?_)
   refine LW.p (PEv.nilCheck (.tmp rfl)) rfl rfl rfl ?_
   refine LW.p (PEv.fieldAddr (off := 2) Try.underlying43 rfl rfl Try.sizeOf4 rfl (.tmp rfl)) rfl rfl rfl ?_
   refine LW.p (PEv.tr (PEv.load Try.isAgg4 (.tmp rfl) ((hS.blk 0 rfl).celln rfl)) (rfl)) rfl rfl rfl ?_
   refine LW.nil (KW.then ?_)
   refine CW.cond_true (.tmp rfl) ?_
   refine CW.seq (CW.region (LW.p (PEv.assign (.const _)) rfl rfl rfl (LW.nil (KW.then (CW.ret (KW.then_ret ?_))))))
   refine KW.ret1 rfl rfl ⟨_, rfl, ?_⟩
   first | exact ⟨rfl, ⟨bd, sv, lv⟩, rfl, aAnd_close (rest := []) hS⟩ | (rw [← (show vis = applyAll dur pend from hv)] at hS; replace hS := Sep.addn (e := 80) (k := 2) (enc := Wr.cells) hS (OwnS.nil _ _ _ _ _); exact ⟨rfl, ⟨bd, v9, .slice none 0 0⟩, rfl, aAnd_close (As' := [aBlk bd #[v9, (.slice none 0 0), .bool false, vi left] 43, aOwn 5 1 eBy v9 (vis), aOwn 80 2 Wr.cells (.slice none 0 0) ([])]) (rest := []) hS.pick4⟩)
  | false =>
   refine CW.region (LW.p (PEv.move (.tmp rfl)) rfl rfl rfl ?_)
   refine LW.p (PEv.nilCheck (.tmp rfl)) rfl rfl rfl ?_
   refine LW.p (PEv.fieldAddr (off := 2) Try.underlying43 rfl rfl Try.sizeOf4 rfl (.tmp rfl)) rfl rfl rfl ?_
   refine LW.p (PEv.fa (PEv.load Try.isAgg4 (.tmp rfl) ((hS.blk 0 rfl).celln rfl)) (rfl)) rfl rfl rfl ?_
   refine LW.nil (KW.then ?_)
   refine CW.cond_false (.tmp rfl) ?_
   refine CW.skip (KW.then (CW.seq (CW.region (LW.p (PEv.move (.tmp rfl)) rfl rfl rfl (LW.p (PEv.move (.tmp rfl)) rfl rfl rfl ?_)))))
   refine LW.c (enter_call0 (.cons (.tmp rfl) .nil) (Try.en34)) rfl rfl rfl rfl (rVisible_any ⟨bd, sv, lv⟩ ⟨false, left, dur, vis, pend⟩ _ (hS.blk 0 rfl) (hS.own 1 rfl) (hS.own 2 rfl) hk) ?_
   rintro v9 w1 ⟨hO9, uw1⟩
   have zw1 := uw1.size
   replace hS := hS.add uw1 (A' := aOwn 5 1 eBy v9 (applyAll dur pend)) (hO9.mono (Nat.zero_le _)) (fun i h => hO9.base i h)
   change Wx.Sep _ _ _ [_, _, _, _] at hS
   refine LW.p (PEv.nilCheck (.tmp rfl)) rfl rfl rfl ?_
   refine LW.p (PEv.fieldAddr (off := 0) Try.underlying43 rfl rfl Try.sizeOf40 rfl (.tmp rfl)) rfl rfl rfl ?_
   refine LW.s (SEv.store Try.sizeOf40 (.tmp rfl) (.tmp rfl) (hS.own 3 rfl).one (hS.blk 0 rfl) (Nat.le_of_ble_eq_true rfl)) rfl rfl rfl ?_
   intro w2 Nw2
   have zw2 := Nw2.size
   replace hS := hS.putB 0 rfl (show Set_ _ w2 _ (#[v9, lv, .bool false, vi left]) _ from Nw2)
   change Wx.Sep _ _ _ [_, _, _, _] at hS
   refine LW.nil (KW.then (CW.seq (CW.region (LW.p (PEv.move (.tmp rfl)) rfl rfl rfl ?_))))
   refine LW.p (PEv.nilCheck (.tmp rfl)) rfl rfl rfl ?_
   refine LW.p (PEv.fieldAddr (off := 1) Try.underlying43 rfl rfl Try.sizeOf41 rfl (.tmp rfl)) rfl rfl rfl ?_
   refine LW.s (SEv.store Try.sizeOf41 (.tmp rfl) (.const _) rfl (hS.blk 0 rfl) (Nat.le_of_ble_eq_true rfl)) rfl rfl rfl ?_
   intro w3 Nw3
   have zw3 := Nw3.size
   replace hS := hS.putB 0 rfl (show Set_ _ w3 _ (#[v9, .slice none 0 0, .bool false, vi left]) _ from Nw3)
   change Wx.Sep _ _ _ [_, _, _, _] at hS
   refine LW.nil (KW.then (CW.seq (CW.region (LW.p (PEv.assign (.const _)) rfl rfl rfl (LW.nil (KW.then (CW.ret ?_)))))))
   refine KW.ret1 rfl rfl ⟨_, rfl, ?_⟩
   first | exact ⟨rfl, ⟨bd, sv, lv⟩, rfl, aAnd_close (rest := []) hS⟩ | (rw [← (show vis = applyAll dur pend from hv)] at hS; replace hS := Sep.addn (e := 80) (k := 2) (enc := Wr.cells) hS (OwnS.nil _ _ _ _ _); exact ⟨rfl, ⟨bd, v9, .slice none 0 0⟩, rfl, aAnd_close (As' := [aBlk bd #[v9, (.slice none 0 0), .bool false, vi left] 43, aOwn 5 1 eBy v9 (vis), aOwn 80 2 Wr.cells (.slice none 0 0) ([])]) (rest := []) hS.pick4⟩)

theorem rCut_any (R : Rf) (z : DS) (w : World) (hD : (aRef R z).holds w) (hk : DOk z) (m : Int) : Ret Try.prog 32 #[.pointer (some ⟨R.bd, 0, none⟩), vi m] w fun r w' => r = vi (cutE z m) ∧ ∃ R', R'.bd = R.bd ∧ Stp (aRef R z) (aRef R' (cutS z m)) w w' := by
  obtain ⟨w0, rfl⟩ : ∃ w0, w0 = w := ⟨_, rfl⟩
  obtain ⟨bd, sv, lv⟩ := R
  obtain ⟨zoff, left, dur, vis, pend⟩ := z
  have hS : Wx.Sep (aRef ⟨bd, sv, lv⟩ ⟨zoff, left, dur, vis, pend⟩).foot w0 w0 [aBlk bd #[sv, lv, .bool zoff, vi left] 43, aOwn 5 1 eBy sv (dur), aOwn 80 2 Wr.cells lv (pend)] := aAnd_open hD
  have hmx : dur.length ≤ 4194304 := hk.max
  have hpm : pend.length ≤ 1000000 := hk.pmax
  have hl0 : 0 ≤ left := hk.left0
  have hl1 : left ≤ 9223372036854775807 := hk.left1
  refine Calls_start (n := 20) (m := 9) Try.func32 rfl rfl rfl ?_
  refine CW.seq (CW.region (LW.p (PEv.assign (.const _)) rfl rfl rfl (LW.nil (KW.then (CW.seq (CW.seq ?_))))))
  cases zoff with
  | true =>
   refine CW.region (LW.p (PEv.move (.tmp rfl)) rfl rfl rfl ?_)
   refine LW.p (PEv.nilCheck (.tmp rfl)) rfl rfl rfl ?_
   refine LW.p (PEv.fieldAddr (off := 2) Try.underlying43 rfl rfl Try.sizeOf4 rfl (.tmp rfl)) rfl rfl rfl ?_
   refine LW.p (PEv.tr (PEv.load Try.isAgg4 (.tmp rfl) ((hS.blk 0 rfl).celln rfl)) (rfl)) rfl rfl rfl ?_
   refine LW.nil (KW.then ?_)
   refine CW.cond_true (.tmp rfl) ?_
   refine CW.seq (CW.region (LW.p (PEv.assign (.const _)) rfl rfl rfl (LW.nil (KW.then (CW.ret (KW.then_ret ?_))))))
   refine KW.ret1 rfl rfl ⟨_, rfl, ?_⟩
   first | exact ⟨rfl, ⟨bd, sv, lv⟩, rfl, aAnd_close (rest := []) hS⟩ | (refine ⟨by simp [cutE, h10], ⟨bd, sv, lv⟩, rfl, ?_⟩; rw [show cutS ⟨false, left, dur, vis, pend⟩ m = ⟨false, left, dur, vis, pend⟩ from if_pos h10]; exact aAnd_close (rest := []) hS) | (refine ⟨by simp [cutE, h10], ⟨bd, sv, lv⟩, rfl, ?_⟩; rw [show cutS ⟨false, left, dur, vis, pend⟩ m = ⟨decide (m = 0), m, dur, vis, pend⟩ from if_neg h10]; exact aAnd_close (rest := []) hS)
  | false =>
   refine CW.region (LW.p (PEv.move (.tmp rfl)) rfl rfl rfl ?_)
   refine LW.p (PEv.nilCheck (.tmp rfl)) rfl rfl rfl ?_
   refine LW.p (PEv.fieldAddr (off := 2) Try.underlying43 rfl rfl Try.sizeOf4 rfl (.tmp rfl)) rfl rfl rfl ?_
   refine LW.p (PEv.fa (PEv.load Try.isAgg4 (.tmp rfl) ((hS.blk 0 rfl).celln rfl)) (rfl)) rfl rfl rfl ?_
   refine LW.nil (KW.then ?_)
   refine CW.cond_false (.tmp rfl) ?_
   refine CW.skip (KW.then (CW.seq (CW.seq (CW.region (LW.p (PEv.move (.tmp rfl)) rfl rfl rfl ?_)))))
   refine LW.p (PEv.lss (.tmp rfl) (.const _)) rfl rfl rfl ?_
   refine LW.nil (KW.then ?_)
   refine CW.cond (.tmp rfl) (fun h10 => ?_) (fun h10 => ?_)
   ·first | replace h10 := of_decide_eq_true h10 | replace h10 := of_decide_eq_false h10 | skip
    refine CW.seq (CW.region (LW.p (PEv.assign (.const _)) rfl rfl rfl (LW.nil (KW.then (CW.ret (KW.then_ret ?_))))))
    refine KW.ret1 rfl rfl ⟨_, rfl, ?_⟩
    first | exact ⟨rfl, ⟨bd, sv, lv⟩, rfl, aAnd_close (rest := []) hS⟩ | (refine ⟨by simp [cutE, h10], ⟨bd, sv, lv⟩, rfl, ?_⟩; rw [show cutS ⟨false, left, dur, vis, pend⟩ m = ⟨false, left, dur, vis, pend⟩ from if_pos h10]; exact aAnd_close (rest := []) hS) | (refine ⟨by simp [cutE, h10], ⟨bd, sv, lv⟩, rfl, ?_⟩; rw [show cutS ⟨false, left, dur, vis, pend⟩ m = ⟨decide (m = 0), m, dur, vis, pend⟩ from if_neg h10]; exact aAnd_close (rest := []) hS)
   ·first | replace h10 := of_decide_eq_true h10 | replace h10 := of_decide_eq_false h10 | skip
    refine CW.skip (KW.then (CW.seq (CW.region (LW.p (PEv.move (.tmp rfl)) rfl rfl rfl (LW.p (PEv.move (.tmp rfl)) rfl rfl rfl ?_)))))
    refine LW.p (PEv.nilCheck (.tmp rfl)) rfl rfl rfl ?_
    refine LW.p (PEv.fieldAddr (off := 3) Try.underlying43 rfl rfl Try.sizeOf3 rfl (.tmp rfl)) rfl rfl rfl ?_
    refine LW.s (SEv.store Try.sizeOf3 (.tmp rfl) (.tmp rfl) rfl (hS.blk 0 rfl) (Nat.le_of_ble_eq_true rfl)) rfl rfl rfl ?_
    intro w1 Nw1
    have zw1 := Nw1.size
    replace hS := hS.putB 0 rfl (show Set_ _ w1 _ (#[sv, lv, .bool false, vi m]) _ from Nw1)
    change Wx.Sep _ _ _ [_, _, _] at hS
    refine LW.nil (KW.then (CW.seq (CW.region (LW.p (PEv.move (.tmp rfl)) rfl rfl rfl (LW.p (PEv.move (.tmp rfl)) rfl rfl rfl ?_)))))
    refine LW.p (PEv.eql (.tmp rfl) (.const _)) rfl rfl rfl ?_
    refine LW.p (PEv.nilCheck (.tmp rfl)) rfl rfl rfl ?_
    refine LW.p (PEv.fieldAddr (off := 2) Try.underlying43 rfl rfl Try.sizeOf4 rfl (.tmp rfl)) rfl rfl rfl ?_
    refine LW.s (SEv.store Try.sizeOf4 (.tmp rfl) (.tmp rfl) rfl (hS.blk 0 rfl) (Nat.le_of_ble_eq_true rfl)) rfl rfl rfl ?_
    intro w2 Nw2
    have zw2 := Nw2.size
    replace hS := hS.putB 0 rfl (show Set_ _ w2 _ (#[sv, lv, .bool (decide (m = 0)), vi m]) _ from Nw2)
    change Wx.Sep _ _ _ [_, _, _] at hS
    refine LW.nil (KW.then (CW.seq (CW.region (LW.p (PEv.assign (.const _)) rfl rfl rfl (LW.nil (KW.then (CW.ret ?_)))))))
    refine KW.ret1 rfl rfl ⟨_, rfl, ?_⟩
    first | exact ⟨rfl, ⟨bd, sv, lv⟩, rfl, aAnd_close (rest := []) hS⟩ | (refine ⟨by simp [cutE, h10], ⟨bd, sv, lv⟩, rfl, ?_⟩; rw [show cutS ⟨false, left, dur, vis, pend⟩ m = ⟨false, left, dur, vis, pend⟩ from if_pos h10]; exact aAnd_close (rest := []) hS) | (refine ⟨by simp [cutE, h10], ⟨bd, sv, lv⟩, rfl, ?_⟩; rw [show cutS ⟨false, left, dur, vis, pend⟩ m = ⟨decide (m = 0), m, dur, vis, pend⟩ from if_neg h10]; exact aAnd_close (rest := []) hS)

end Go.Proofs.Ytkpkljbmbmjadaa
