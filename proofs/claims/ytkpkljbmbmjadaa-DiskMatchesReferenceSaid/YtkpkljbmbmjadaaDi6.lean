import Derived.Test.YtkpkljbmbmjadaaDi5
namespace Go.Wx

theorem sort_of {a b : List Int} (h : a.Perm b) (hb : b.Pairwise fun x y => x ≤ y) : (a.mergeSort fun x y => decide (x ≤ y)) = b :=
  List.Perm.eq_of_pairwise (le := fun x y => decide (x ≤ y) = true) (fun x y _ _ h1 h2 => by have h3 := of_decide_eq_true h1; have h4 := of_decide_eq_true h2; omega)
    (List.pairwise_mergeSort (fun a b c h1 h2 => by have h3 := of_decide_eq_true h1; have h4 := of_decide_eq_true h2; exact decide_eq_true (by omega)) (fun a b => by simp; omega) a)
    (hb.imp fun h => decide_eq_true h) ((List.mergeSort_perm a _).trans h)
theorem compact_asc {A : List Int} (h : A.Pairwise fun x y => x < y) : Go.Lib.compact A = A := by
  refine Go.Lib.compact_all A fun j hj => ?_
  unfold Go.Lib.keeps
  refine decide_eq_true ?_
  by_cases h0 : j = 0
  · exact .inl h0
  · right
    have h1 : A.toArray[j - 1]! = A[j - 1] := by rw [getElem!_pos A.toArray (j - 1) (by simp; omega)]; simp
    have h2 : A.toArray[j]! = A[j] := by rw [getElem!_pos A.toArray j (by simpa using hj)]; simp
    rw [h1, h2]
    have := List.pairwise_iff_getElem.1 h (j - 1) j (by omega) hj (by omega)
    omega
theorem orderS_asc {keep A : List Int} {n : Nat} (hp : keep.Perm A) (h : A.Pairwise fun x y => x < y) (hm : ∀ x ∈ A, 0 ≤ x ∧ x < n) : orderS keep n = A := by
  unfold orderS
  rw [sort_of hp (h.imp fun h => Int.le_of_lt h), compact_asc h, List.filter_eq_self.2]
  intro x hx
  have := hm x hx
  simp; omega
def sz0 : DS := ⟨false, 0, [0, 0, 0, 0], [0, 0, 0, 0], []⟩
def sz1 : DS := ⟨false, 0, [0, 0, 0, 0], [97, 98, 0, 0], [⟨0, ⟨#[97, 98]⟩⟩]⟩
def sz2 : DS := ⟨false, 0, [0, 0, 0, 0], [97, 120, 121, 0], [⟨0, ⟨#[97, 98]⟩⟩, ⟨1, ⟨#[120, 121]⟩⟩]⟩
def sz3 : DS := ⟨false, 0, [97, 120, 0, 0], [97, 120, 0, 0], []⟩
def sz4 : DS := ⟨false, 1, [97, 120, 0, 0], [97, 120, 0, 0], []⟩
def sz5 : DS := ⟨true, 0, [97, 120, 0, 0], [97, 120, 0, 113], [⟨3, ⟨#[113]⟩⟩]⟩
theorem sw0 : newS 4 = sz0 := rfl
theorem sw1 : writeS sz0 0 ⟨#[97, 98]⟩ = sz1 := rfl
theorem se1 : writeE sz0 0 ⟨#[97, 98]⟩ = 0 := rfl
theorem sw2 : writeS sz1 1 ⟨#[120, 121]⟩ = sz2 := rfl
theorem se2 : writeE sz1 1 ⟨#[120, 121]⟩ = 0 := rfl
theorem sw2' : writeS sz2 3 ⟨#[122, 122]⟩ = sz2 := rfl
theorem se2' : writeE sz2 3 ⟨#[122, 122]⟩ = 240 := rfl
theorem sr2 : readB sz2 0 4 = ⟨#[97, 120, 121, 0]⟩ := rfl
theorem sq2 : readE sz2 0 4 = 0 := rfl
theorem so2 : orderS [1, 0] 2 = [0, 1] := orderS_asc (List.Perm.swap 0 1 []) (by decide) (by decide)
theorem sw3 : crashS sz2 [1, 0] 1 = sz3 := by
  unfold crashS
  rw [show sz2.pend.length = 2 from rfl, so2, show applyAll sz2.dur (crashWs sz2 [0, 1] 1) = [97, 120, 0, 0] by decide +kernel]
  rfl
theorem sr3 : readB sz3 0 4 = ⟨#[97, 120, 0, 0]⟩ := rfl
theorem sq3 : readE sz3 0 4 = 0 := rfl
theorem sw4 : cutS sz3 1 = sz4 := rfl
theorem se4 : cutE sz3 1 = 0 := rfl
theorem sw5 : writeS sz4 3 ⟨#[113]⟩ = sz5 := rfl
theorem se5 : writeE sz4 3 ⟨#[113]⟩ = 0 := rfl
theorem sw6 : syncS sz5 = sz5 := rfl
theorem se6 : checkS sz5 = 241 := rfl

end Go.Wx
namespace Go.Proofs.Ytkpkljbmbmjadaa
open Go.Wx Go.RowKit
theorem Read_nil (a b : Go.Value) (w : World) : Ret Try.prog 14 #[.pointer none, a, b] w fun r w' => r = .tuple #[.string ByteArray.empty, vi 1] ∧ Up w w' := by
  have hW := Up.refl w
  refine Calls_start (n := 28) (m := 9) Try.func14 rfl rfl rfl ?_
  refine CW.seq (CW.region (LW.p (PEv.assign (.const _)) rfl rfl rfl (LW.p (PEv.assign (.const _)) rfl rfl rfl (LW.nil (KW.then (CW.seq (CW.seq (CW.region (LW.p (PEv.move (.tmp rfl)) rfl rfl rfl ?_)))))))))
  refine LW.c (enter_call0 (.cons (.tmp rfl) .nil) (Try.en28)) rfl rfl rfl rfl (check_nil _) ?_
  rintro _ w1 ⟨rfl, uw1⟩
  have zw1 := uw1.size
  replace hW := hW.up uw1
  refine LW.p (PEv.assign (.tmp rfl)) rfl rfl rfl (LW.nil (KW.then (CW.seq (CW.region (LW.p (PEv.move (.tmp rfl)) rfl rfl rfl ?_)))))
  refine LW.p (PEv.tr (PEv.neq (.tmp rfl) (.const _)) (rfl)) rfl rfl rfl ?_
  refine LW.nil (KW.then ?_)
  refine CW.cond_true (.tmp rfl) ?_
  refine CW.seq (CW.region (LW.p (PEv.move (.tmp rfl)) rfl rfl rfl (LW.p (PEv.assign (.const _)) rfl rfl rfl (LW.p (PEv.assign (.tmp rfl)) rfl rfl rfl (LW.nil (KW.then (CW.ret (KW.then_ret ?_))))))))
  refine KW.ret2 rfl rfl rfl ⟨_, rfl, ?_⟩
  exact ⟨rfl, hW⟩

theorem Write_nil (a b : Go.Value) (w : World) : Ret Try.prog 21 #[.pointer none, a, b] w fun r w' => r = vi 1 ∧ Up w w' := by
  have hW := Up.refl w
  refine Calls_start (n := 43) (m := 9) Try.func21 rfl rfl rfl ?_
  refine CW.seq (CW.region (LW.p (PEv.assign (.const _)) rfl rfl rfl (LW.nil (KW.then (CW.seq (CW.seq (CW.region (LW.p (PEv.move (.tmp rfl)) rfl rfl rfl ?_))))))))
  refine LW.c (enter_call0 (.cons (.tmp rfl) .nil) (Try.en28)) rfl rfl rfl rfl (check_nil _) ?_
  rintro _ w1 ⟨rfl, uw1⟩
  have zw1 := uw1.size
  replace hW := hW.up uw1
  refine LW.p (PEv.assign (.tmp rfl)) rfl rfl rfl (LW.nil (KW.then (CW.seq (CW.region (LW.p (PEv.move (.tmp rfl)) rfl rfl rfl ?_)))))
  refine LW.p (PEv.tr (PEv.neq (.tmp rfl) (.const _)) (rfl)) rfl rfl rfl ?_
  refine LW.nil (KW.then ?_)
  refine CW.cond_true (.tmp rfl) ?_
  refine CW.seq (CW.region (LW.p (PEv.move (.tmp rfl)) rfl rfl rfl (LW.p (PEv.assign (.tmp rfl)) rfl rfl rfl (LW.nil (KW.then (CW.ret (KW.then_ret ?_)))))))
  refine KW.ret1 rfl rfl ⟨_, rfl, ?_⟩
  exact ⟨rfl, hW⟩

theorem Sync_nil (w : World) : Ret Try.prog 23 #[.pointer none] w fun r w' => r = vi 1 ∧ Up w w' := by
  have hW := Up.refl w
  refine Calls_start (n := 19) (m := 9) Try.func23 rfl rfl rfl ?_
  refine CW.seq (CW.region (LW.p (PEv.assign (.const _)) rfl rfl rfl (LW.nil (KW.then (CW.seq (CW.region (LW.p (PEv.move (.tmp rfl)) rfl rfl rfl ?_)))))))
  refine LW.c (enter_call0 (.cons (.tmp rfl) .nil) (Try.en28)) rfl rfl rfl rfl (check_nil _) ?_
  rintro _ w1 ⟨rfl, uw1⟩
  have zw1 := uw1.size
  replace hW := hW.up uw1
  refine LW.p (PEv.assign (.tmp rfl)) rfl rfl rfl (LW.nil (KW.then (CW.seq (CW.seq (CW.region (LW.p (PEv.move (.tmp rfl)) rfl rfl rfl ?_))))))
  refine LW.p (PEv.fa (PEv.eql (.tmp rfl) (.const _)) (rfl)) rfl rfl rfl ?_
  refine LW.nil (KW.then ?_)
  refine CW.cond_false (.tmp rfl) ?_
  refine CW.skip (KW.then (CW.seq (CW.region (LW.p (PEv.move (.tmp rfl)) rfl rfl rfl (LW.p (PEv.assign (.tmp rfl)) rfl rfl rfl (LW.nil (KW.then (CW.ret ?_))))))))
  refine KW.ret1 rfl rfl ⟨_, rfl, ?_⟩
  exact ⟨rfl, hW⟩

theorem Cut_nil (a : Go.Value) (w : World) : Ret Try.prog 24 #[.pointer none, a] w fun r w' => r = vi 1 ∧ Up w w' := by
  have hW := Up.refl w
  refine Calls_start (n := 20) (m := 9) Try.func24 rfl rfl rfl ?_
  refine CW.seq (CW.region (LW.p (PEv.assign (.const _)) rfl rfl rfl (LW.nil (KW.then (CW.seq (CW.seq (CW.region (LW.p (PEv.move (.tmp rfl)) rfl rfl rfl ?_))))))))
  refine LW.c (enter_call0 (.cons (.tmp rfl) .nil) (Try.en28)) rfl rfl rfl rfl (check_nil _) ?_
  rintro _ w1 ⟨rfl, uw1⟩
  have zw1 := uw1.size
  replace hW := hW.up uw1
  refine LW.p (PEv.assign (.tmp rfl)) rfl rfl rfl (LW.nil (KW.then (CW.seq (CW.region (LW.p (PEv.move (.tmp rfl)) rfl rfl rfl ?_)))))
  refine LW.p (PEv.tr (PEv.neq (.tmp rfl) (.const _)) (rfl)) rfl rfl rfl ?_
  refine LW.nil (KW.then ?_)
  refine CW.cond_true (.tmp rfl) ?_
  refine CW.seq (CW.region (LW.p (PEv.move (.tmp rfl)) rfl rfl rfl (LW.p (PEv.assign (.tmp rfl)) rfl rfl rfl (LW.nil (KW.then (CW.ret (KW.then_ret ?_)))))))
  refine KW.ret1 rfl rfl ⟨_, rfl, ?_⟩
  exact ⟨rfl, hW⟩

theorem Crash_nil (a b : Go.Value) (w : World) : Ret Try.prog 25 #[.pointer none, a, b] w fun r w' => r = vi 1 ∧ Up w w' := by
  have hW := Up.refl w
  refine Calls_start (n := 73) (m := 9) Try.func25 rfl rfl rfl ?_
  refine CW.seq (CW.region ?_)
  refine LW.r (REv.box1 (.tmp rfl) rfl) rfl rfl rfl rfl ?_
  rintro _ w1 ⟨B3, rfl, NB3⟩
  have eB3 := NB3.at_
  have zB3 := NB3.size
  replace hW := hW.up NB3.up
  have hB3 := NB3.blk
  refine LW.p (PEv.assign (.const _)) rfl rfl rfl (LW.nil (KW.then (CW.seq (CW.seq (CW.region ?_)))))
  refine LW.p (PEv.load Try.isAgg23 (.tmp rfl) (hB3.celln rfl)) rfl rfl rfl ?_
  refine LW.p (PEv.tr (PEv.eqlNil Try.underlying23 (.tmp rfl)) (rfl)) rfl rfl rfl ?_
  refine LW.nil (KW.then ?_)
  refine CW.cond_true (.tmp rfl) ?_
  refine CW.seq (CW.region (LW.p (PEv.assign (.const _)) rfl rfl rfl (LW.nil (KW.then (CW.ret (KW.then_ret ?_))))))
  refine KW.ret1 rfl rfl ⟨_, rfl, ?_⟩
  exact ⟨rfl, hW⟩

theorem Pending_nil (w : World) : Ret Try.prog 17 #[.pointer none] w fun r w' => r = vi 0 ∧ Up w w' := by
  have hW := Up.refl w
  refine Calls_start (n := 10) (m := 9) Try.func17 rfl rfl rfl ?_
  refine CW.seq (CW.region (LW.p (PEv.assign (.const _)) rfl rfl rfl (LW.nil (KW.then (CW.seq (CW.seq (CW.region (LW.p (PEv.move (.tmp rfl)) rfl rfl rfl ?_))))))))
  refine LW.p (PEv.tr (PEv.eqlNil Try.underlying23 (.tmp rfl)) (rfl)) rfl rfl rfl ?_
  refine LW.nil (KW.then ?_)
  refine CW.cond_true (.tmp rfl) ?_
  refine CW.seq (CW.region (LW.p (PEv.assign (.const _)) rfl rfl rfl (LW.nil (KW.then (CW.ret (KW.then_ret ?_))))))
  refine KW.ret1 rfl rfl ⟨_, rfl, ?_⟩
  exact ⟨rfl, hW⟩

theorem Size_nil (w : World) : Ret Try.prog 16 #[.pointer none] w fun r w' => r = vi 0 ∧ Up w w' := by
  have hW := Up.refl w
  refine Calls_start (n := 10) (m := 9) Try.func16 rfl rfl rfl ?_
  refine CW.seq (CW.region (LW.p (PEv.assign (.const _)) rfl rfl rfl (LW.nil (KW.then (CW.seq (CW.seq (CW.region (LW.p (PEv.move (.tmp rfl)) rfl rfl rfl ?_))))))))
  refine LW.p (PEv.tr (PEv.eqlNil Try.underlying23 (.tmp rfl)) (rfl)) rfl rfl rfl ?_
  refine LW.nil (KW.then ?_)
  refine CW.cond_true (.tmp rfl) ?_
  refine CW.seq (CW.region (LW.p (PEv.assign (.const _)) rfl rfl rfl (LW.nil (KW.then (CW.ret (KW.then_ret ?_))))))
  refine KW.ret1 rfl rfl ⟨_, rfl, ?_⟩
  exact ⟨rfl, hW⟩

set_option maxHeartbeats 4000000 in
theorem sane_any (w : World) : Ret Try.prog 12 #[] w fun r w' => r = .bool true ∧ Up w w' := by
  have hS := Sep.start no w
  refine Calls_start (n := 109) (m := 9) Try.func12 rfl rfl rfl ?_
  refine CW.seq (CW.region (LW.p (PEv.assign (.const _)) rfl rfl rfl (LW.nil (KW.then (CW.seq (CW.region ?_))))))
  refine LW.c (enter_call0 (.cons (.const _) .nil) (Try.en13)) rfl rfl rfl rfl (New_ok 4 _ (by decide) (by decide)) ?_
  rintro _ w1 ⟨D, rfl, hD0, hDf, uw1⟩
  have zw1 := uw1.size
  replace hS := hS.add uw1 (A' := aDisk D (newS 4)) (hD0) (hDf)
  change Wx.Sep _ _ _ [_] at hS
  rw [sw0] at hS
  refine LW.p (PEv.move (.tmp rfl)) rfl rfl rfl (LW.p (PEv.extract (.tmp rfl) rfl) rfl rfl rfl (LW.p (PEv.extract (.tmp rfl) rfl) rfl rfl rfl (LW.p (PEv.assign (.tmp rfl)) rfl rfl rfl (LW.p (PEv.assign (.tmp rfl)) rfl rfl rfl (LW.nil (KW.then (CW.seq (CW.region ?_))))))))
  refine LW.c (enter_call0 (.cons (.const _) .nil) (Try.en13)) rfl rfl rfl rfl (New_bad 0 _ rfl) ?_
  rintro _ w2 ⟨rfl, uw2⟩
  have zw2 := uw2.size
  replace hS := hS.up uw2
  refine LW.p (PEv.move (.tmp rfl)) rfl rfl rfl (LW.p (PEv.extract (.tmp rfl) rfl) rfl rfl rfl (LW.p (PEv.extract (.tmp rfl) rfl) rfl rfl rfl (LW.p (PEv.assign (.tmp rfl)) rfl rfl rfl (LW.p (PEv.assign (.tmp rfl)) rfl rfl rfl (LW.nil (KW.then (CW.seq (CW.seq (CW.region (LW.p (PEv.move (.tmp rfl)) rfl rfl rfl ?_))))))))))
  refine LW.p (PEv.fa (PEv.neq (.tmp rfl) (.const _)) (rfl)) rfl rfl rfl ?_
  refine LW.p (PEv.move (.tmp rfl)) rfl rfl rfl ?_
  refine LW.yes rfl rfl rfl rfl rfl rfl ?_
  refine LW.p (PEv.move (.tmp rfl)) rfl rfl rfl ?_
  refine LW.yes rfl rfl rfl rfl rfl rfl ?_
  refine LW.p (PEv.fa (PEv.eqlNil Try.underlying23 (.tmp rfl)) (rfl)) rfl rfl rfl ?_
  refine LW.p (PEv.pick_or (.tmp rfl) (fun hp => (by first | exact .const _ | exact .tmp rfl | exact .cond rfl (by first | assumption | simp_all)))) rfl rfl rfl ?_
  refine LW.nil (KW.then ?_)
  refine CW.cond_false (.tmp rfl) ?_
  refine CW.skip (KW.then (CW.seq (CW.region (LW.p (PEv.move (.tmp rfl)) rfl rfl rfl ?_))))
  refine LW.c (enter_call0 (.cons (.tmp rfl) (.cons (.const _) (.cons (.const _) .nil))) (Try.en21)) rfl rfl rfl rfl (Write_b _ _ sz0 _ (hS.get 0 rfl) rfl 0 ⟨#[97, 98]⟩ (by decide)) ?_
  rintro _ w3 ⟨rfl, pv_w3, uw3⟩
  have zw3 := uw3.fr.size
  replace hS := hS.stp 0 rfl uw3
  change Wx.Sep _ _ _ [_] at hS
  rw [se1]
  rw [sw1] at hS
  refine LW.p (PEv.assign (.tmp rfl)) rfl rfl rfl (LW.nil (KW.then (CW.seq (CW.region (LW.p (PEv.move (.tmp rfl)) rfl rfl rfl ?_)))))
  refine LW.c (enter_call0 (.cons (.tmp rfl) (.cons (.const _) (.cons (.const _) .nil))) (Try.en21)) rfl rfl rfl rfl (Write_b _ _ sz1 _ (hS.get 0 rfl) rfl 1 ⟨#[120, 121]⟩ (by decide)) ?_
  rintro _ w4 ⟨rfl, pv_w4, uw4⟩
  have zw4 := uw4.fr.size
  replace hS := hS.stp 0 rfl uw4
  change Wx.Sep _ _ _ [_] at hS
  rw [se2]
  rw [sw2] at hS
  refine LW.p (PEv.assign (.tmp rfl)) rfl rfl rfl (LW.nil (KW.then (CW.seq (CW.region (LW.p (PEv.move (.tmp rfl)) rfl rfl rfl ?_)))))
  refine LW.c (enter_call0 (.cons (.tmp rfl) (.cons (.const _) (.cons (.const _) .nil))) (Try.en21)) rfl rfl rfl rfl (Write_b _ _ sz2 _ (hS.get 0 rfl) rfl 3 ⟨#[122, 122]⟩ (by decide)) ?_
  rintro _ w5 ⟨rfl, pv_w5, uw5⟩
  have zw5 := uw5.fr.size
  replace hS := hS.stp 0 rfl uw5
  change Wx.Sep _ _ _ [_] at hS
  rw [se2']
  rw [sw2'] at hS
  refine LW.p (PEv.assign (.tmp rfl)) rfl rfl rfl (LW.nil (KW.then (CW.seq (CW.region (LW.p (PEv.move (.tmp rfl)) rfl rfl rfl ?_)))))
  refine LW.c (enter_call0 (.cons (.tmp rfl) (.cons (.const _) (.cons (.const _) .nil))) (Try.en14)) rfl rfl rfl rfl (Read_b _ _ sz2 _ (hS.get 0 rfl) rfl 0 4) ?_
  rintro _ w6 ⟨rfl, uw6⟩
  have zw6 := uw6.size
  replace hS := hS.up uw6
  rw [sr2, sq2]
  refine LW.p (PEv.move (.tmp rfl)) rfl rfl rfl (LW.p (PEv.extract (.tmp rfl) rfl) rfl rfl rfl (LW.p (PEv.extract (.tmp rfl) rfl) rfl rfl rfl (LW.p (PEv.assign (.tmp rfl)) rfl rfl rfl (LW.p (PEv.assign (.tmp rfl)) rfl rfl rfl (LW.nil (KW.then (CW.seq (CW.region (LW.p (PEv.move (.tmp rfl)) rfl rfl rfl ?_)))))))))
  refine LW.c (enter_call0 (.cons (.tmp rfl) .nil) (Try.en17)) rfl rfl rfl rfl (Pending_b _ _ sz2 _ (hS.get 0 rfl) rfl) ?_
  rintro _ w7 ⟨rfl, uw7⟩
  have zw7 := uw7.size
  replace hS := hS.up uw7
  refine LW.p (PEv.assign (.tmp rfl)) rfl rfl rfl (LW.nil (KW.then (CW.seq (CW.region (LW.p (PEv.move (.tmp rfl)) rfl rfl rfl ?_)))))
  refine LW.r (REv.buildSlice (xs := [1, 0]) (enc := eInt) (mk := vi) Try.underlying37 Try.sizeOf3 Try.zeroValue3 rfl (by decide) (fun _ => rfl) (fun _ => rfl) (.cons (.const _) (.cons (.const _) .nil)) rfl) rfl rfl rfl rfl ?_
  rintro _ w8 ⟨B45, cB45, rfl, NB45, yB45, xB45⟩
  have eB45 := NB45.at_
  have zB45 := NB45.size
  replace hS := hS.up NB45.up
  have hE45 := xB45
  refine LW.c (enter_call0 (.cons (.tmp rfl) (.cons (.tmp rfl) (.cons (.const _) .nil))) (Try.en25)) rfl rfl rfl rfl (Crash_b _ _ sz2 _ (hS.get 0 rfl) rfl (keep := [1, 0]) hE45 1 (by decide)) ?_
  rintro _ w9 ⟨rfl, pv_w9, uw9⟩
  have zw9 := uw9.fr.size
  replace hS := hS.stp 0 rfl uw9
  change Wx.Sep _ _ _ [_] at hS
  rw [sw3] at hS
  refine LW.p (PEv.assign (.tmp rfl)) rfl rfl rfl (LW.nil (KW.then (CW.seq (CW.region (LW.p (PEv.move (.tmp rfl)) rfl rfl rfl ?_)))))
  refine LW.c (enter_call0 (.cons (.tmp rfl) (.cons (.const _) (.cons (.const _) .nil))) (Try.en14)) rfl rfl rfl rfl (Read_b _ _ sz3 _ (hS.get 0 rfl) rfl 0 4) ?_
  rintro _ w10 ⟨rfl, uw10⟩
  have zw10 := uw10.size
  replace hS := hS.up uw10
  rw [sr3, sq3]
  refine LW.p (PEv.move (.tmp rfl)) rfl rfl rfl (LW.p (PEv.extract (.tmp rfl) rfl) rfl rfl rfl (LW.p (PEv.extract (.tmp rfl) rfl) rfl rfl rfl (LW.p (PEv.assign (.tmp rfl)) rfl rfl rfl (LW.p (PEv.assign (.tmp rfl)) rfl rfl rfl (LW.nil (KW.then (CW.seq (CW.region (LW.p (PEv.move (.tmp rfl)) rfl rfl rfl ?_)))))))))
  refine LW.c (enter_call0 (.cons (.tmp rfl) (.cons (.const _) .nil)) (Try.en24)) rfl rfl rfl rfl (Cut_b _ _ sz3 _ (hS.get 0 rfl) rfl 1 (by decide)) ?_
  rintro _ w11 ⟨rfl, uw11⟩
  have zw11 := uw11.fr.size
  replace hS := hS.stp 0 rfl uw11
  change Wx.Sep _ _ _ [_] at hS
  rw [se4]
  rw [sw4] at hS
  refine LW.p (PEv.assign (.tmp rfl)) rfl rfl rfl (LW.nil (KW.then (CW.seq (CW.region (LW.p (PEv.move (.tmp rfl)) rfl rfl rfl ?_)))))
  refine LW.c (enter_call0 (.cons (.tmp rfl) (.cons (.const _) (.cons (.const _) .nil))) (Try.en21)) rfl rfl rfl rfl (Write_b _ _ sz4 _ (hS.get 0 rfl) rfl 3 ⟨#[113]⟩ (by decide)) ?_
  rintro _ w12 ⟨rfl, pv_w12, uw12⟩
  have zw12 := uw12.fr.size
  replace hS := hS.stp 0 rfl uw12
  change Wx.Sep _ _ _ [_] at hS
  rw [se5]
  rw [sw5] at hS
  refine LW.p (PEv.assign (.tmp rfl)) rfl rfl rfl (LW.nil (KW.then (CW.seq (CW.region (LW.p (PEv.move (.tmp rfl)) rfl rfl rfl ?_)))))
  refine LW.c (enter_call0 (.cons (.tmp rfl) .nil) (Try.en23)) rfl rfl rfl rfl (Sync_b _ _ sz5 _ (hS.get 0 rfl) rfl) ?_
  rintro _ w13 ⟨rfl, pv_w13, uw13⟩
  have zw13 := uw13.fr.size
  replace hS := hS.stp 0 rfl uw13
  change Wx.Sep _ _ _ [_] at hS
  rw [se6]
  rw [sw6] at hS
  refine LW.p (PEv.assign (.tmp rfl)) rfl rfl rfl (LW.nil (KW.then (CW.seq (CW.region (LW.p (PEv.move (.tmp rfl)) rfl rfl rfl ?_)))))
  refine LW.p (PEv.tr (PEv.eql (.tmp rfl) (.const _)) (rfl)) rfl rfl rfl ?_
  refine LW.p (PEv.move (.tmp rfl)) rfl rfl rfl ?_
  refine LW.yes rfl rfl rfl rfl rfl rfl ?_
  refine LW.p (PEv.move (.tmp rfl)) rfl rfl rfl ?_
  refine LW.yes rfl rfl rfl rfl rfl rfl ?_
  refine LW.p (PEv.tr (PEv.eql (.tmp rfl) (.const _)) (rfl)) rfl rfl rfl ?_
  refine LW.p (PEv.pick_and (.tmp rfl) (fun hp => (by first | exact .const _ | exact .tmp rfl | exact .cond rfl (by first | assumption | simp_all)))) rfl rfl rfl ?_
  refine LW.p (PEv.move (.tmp rfl)) rfl rfl rfl ?_
  refine LW.yes rfl rfl rfl rfl rfl rfl ?_
  refine LW.p (PEv.move (.tmp rfl)) rfl rfl rfl ?_
  refine LW.yes rfl rfl rfl rfl rfl rfl ?_
  refine LW.p (PEv.tr (PEv.eql (.tmp rfl) (.const _)) (rfl)) rfl rfl rfl ?_
  refine LW.p (PEv.pick_and (.tmp rfl) (fun hp => (by first | exact .const _ | exact .tmp rfl | exact .cond rfl (by first | assumption | simp_all)))) rfl rfl rfl ?_
  refine LW.p (PEv.move (.tmp rfl)) rfl rfl rfl ?_
  refine LW.yes rfl rfl rfl rfl rfl rfl ?_
  refine LW.p (PEv.move (.tmp rfl)) rfl rfl rfl ?_
  refine LW.yes rfl rfl rfl rfl rfl rfl ?_
  refine LW.p (PEv.tr (PEv.eql (.tmp rfl) (.const _)) (rfl)) rfl rfl rfl ?_
  refine LW.p (PEv.pick_and (.tmp rfl) (fun hp => (by first | exact .const _ | exact .tmp rfl | exact .cond rfl (by first | assumption | simp_all)))) rfl rfl rfl ?_
  refine LW.p (PEv.move (.tmp rfl)) rfl rfl rfl ?_
  refine LW.yes rfl rfl rfl rfl rfl rfl ?_
  refine LW.p (PEv.move (.tmp rfl)) rfl rfl rfl ?_
  refine LW.yes rfl rfl rfl rfl rfl rfl ?_
  refine LW.p (PEv.tr (PEv.eqlStr (.tmp rfl) (.const _)) (beq_self_eq_true _)) rfl rfl rfl ?_
  refine LW.p (PEv.pick_and (.tmp rfl) (fun hp => (by first | exact .const _ | exact .tmp rfl | exact .cond rfl (by first | assumption | simp_all)))) rfl rfl rfl ?_
  refine LW.p (PEv.move (.tmp rfl)) rfl rfl rfl ?_
  refine LW.yes rfl rfl rfl rfl rfl rfl ?_
  refine LW.p (PEv.move (.tmp rfl)) rfl rfl rfl ?_
  refine LW.yes rfl rfl rfl rfl rfl rfl ?_
  refine LW.p (PEv.tr (PEv.eql (.tmp rfl) (.const _)) (rfl)) rfl rfl rfl ?_
  refine LW.p (PEv.pick_and (.tmp rfl) (fun hp => (by first | exact .const _ | exact .tmp rfl | exact .cond rfl (by first | assumption | simp_all)))) rfl rfl rfl ?_
  refine LW.p (PEv.move (.tmp rfl)) rfl rfl rfl ?_
  refine LW.yes rfl rfl rfl rfl rfl rfl ?_
  refine LW.p (PEv.move (.tmp rfl)) rfl rfl rfl ?_
  refine LW.yes rfl rfl rfl rfl rfl rfl ?_
  refine LW.p (PEv.tr (PEv.eql (.tmp rfl) (.const _)) (rfl)) rfl rfl rfl ?_
  refine LW.p (PEv.pick_and (.tmp rfl) (fun hp => (by first | exact .const _ | exact .tmp rfl | exact .cond rfl (by first | assumption | simp_all)))) rfl rfl rfl ?_
  refine LW.p (PEv.move (.tmp rfl)) rfl rfl rfl ?_
  refine LW.yes rfl rfl rfl rfl rfl rfl ?_
  refine LW.p (PEv.move (.tmp rfl)) rfl rfl rfl ?_
  refine LW.yes rfl rfl rfl rfl rfl rfl ?_
  refine LW.p (PEv.tr (PEv.eqlStr (.tmp rfl) (.const _)) (beq_self_eq_true _)) rfl rfl rfl ?_
  refine LW.p (PEv.pick_and (.tmp rfl) (fun hp => (by first | exact .const _ | exact .tmp rfl | exact .cond rfl (by first | assumption | simp_all)))) rfl rfl rfl ?_
  refine LW.p (PEv.move (.tmp rfl)) rfl rfl rfl ?_
  refine LW.yes rfl rfl rfl rfl rfl rfl ?_
  refine LW.p (PEv.move (.tmp rfl)) rfl rfl rfl ?_
  refine LW.yes rfl rfl rfl rfl rfl rfl ?_
  refine LW.p (PEv.tr (PEv.eql (.tmp rfl) (.const _)) (rfl)) rfl rfl rfl ?_
  refine LW.p (PEv.pick_and (.tmp rfl) (fun hp => (by first | exact .const _ | exact .tmp rfl | exact .cond rfl (by first | assumption | simp_all)))) rfl rfl rfl ?_
  refine LW.p (PEv.move (.tmp rfl)) rfl rfl rfl ?_
  refine LW.yes rfl rfl rfl rfl rfl rfl ?_
  refine LW.p (PEv.move (.tmp rfl)) rfl rfl rfl ?_
  refine LW.yes rfl rfl rfl rfl rfl rfl ?_
  refine LW.p (PEv.tr (PEv.eql (.tmp rfl) (.const _)) (rfl)) rfl rfl rfl ?_
  refine LW.p (PEv.pick_and (.tmp rfl) (fun hp => (by first | exact .const _ | exact .tmp rfl | exact .cond rfl (by first | assumption | simp_all)))) rfl rfl rfl ?_
  refine LW.p (PEv.move (.tmp rfl)) rfl rfl rfl ?_
  refine LW.yes rfl rfl rfl rfl rfl rfl ?_
  refine LW.p (PEv.move (.tmp rfl)) rfl rfl rfl ?_
  refine LW.yes rfl rfl rfl rfl rfl rfl ?_
  refine LW.p (PEv.tr (PEv.eql (.tmp rfl) (.const _)) (rfl)) rfl rfl rfl ?_
  refine LW.p (PEv.pick_and (.tmp rfl) (fun hp => (by first | exact .const _ | exact .tmp rfl | exact .cond rfl (by first | assumption | simp_all)))) rfl rfl rfl ?_
  refine LW.p (PEv.move (.tmp rfl)) rfl rfl rfl ?_
  refine LW.yes rfl rfl rfl rfl rfl rfl ?_
  refine LW.p (PEv.move (.tmp rfl)) rfl rfl rfl ?_
  refine LW.yes rfl rfl rfl rfl rfl rfl ?_
  refine LW.p (PEv.tr (PEv.eql (.tmp rfl) (.const _)) (rfl)) rfl rfl rfl ?_
  refine LW.p (PEv.pick_and (.tmp rfl) (fun hp => (by first | exact .const _ | exact .tmp rfl | exact .cond rfl (by first | assumption | simp_all)))) rfl rfl rfl ?_
  refine LW.p (PEv.move (.tmp rfl)) rfl rfl rfl ?_
  refine LW.yes rfl rfl rfl rfl rfl rfl ?_
  refine LW.p (PEv.move (.tmp rfl)) rfl rfl rfl ?_
  refine LW.yes rfl rfl rfl rfl rfl rfl ?_
  refine LW.c (enter_call0 (.cons (.tmp rfl) .nil) (Try.en16)) rfl rfl rfl rfl (Size_b _ _ sz5 _ (hS.get 0 rfl) rfl) ?_
  rintro _ w14 ⟨rfl, uw14⟩
  have zw14 := uw14.size
  replace hS := hS.up uw14
  refine LW.yes rfl rfl rfl rfl rfl rfl ?_
  refine LW.p (PEv.tr (PEv.eql (.tmp rfl) (.const _)) (rfl)) rfl rfl rfl ?_
  refine LW.p (PEv.pick_and (.tmp rfl) (fun hp => (by first | exact .const _ | exact .tmp rfl | exact .cond rfl (by first | assumption | simp_all)))) rfl rfl rfl ?_
  refine LW.p (PEv.assign (.tmp rfl)) rfl rfl rfl (LW.nil (KW.then (CW.ret ?_)))
  refine KW.ret1 rfl rfl ⟨_, rfl, ?_⟩
  exact ⟨rfl, hS.upd⟩

end Go.Proofs.Ytkpkljbmbmjadaa
