import Derived.Test.YtkpkljbmbmjadaaDi6
namespace Go.Wx

theorem newMatch {n : Nat} {at' : Int} (h0 : 1 ≤ n) (ha : inI at') : readE (newS n) (pickI at' (n : Int)) 1 = 0 ∧ readB (newS n) (pickI at' (n : Int)) 1 = ⟨#[0]⟩ := by
  obtain ⟨h1, h2⟩ := pick_range (c := at') (n := (n : Int)) ha (by omega)
  obtain ⟨j, hj⟩ : ∃ j : Nat, pickI at' (n : Int) = j := ⟨(pickI at' (n : Int)).toNat, by omega⟩
  rw [hj]
  have := (DCalm.new n).readE (j := j) (m := 1) (by omega)
  refine ⟨this.1, this.2.trans ?_⟩
  unfold strOf newS
  dsimp only
  rw [List.drop_replicate, List.take_replicate, show min 1 (n - j) = 1 by omega]
  rfl
theorem neq_self {a b : ByteArray} (h : a = b) : (!(a.toList == b.toList)) = false := by subst h; simp
theorem DCalm.mono {z : DS} {n k k' : Nat} (h : DCalm z n k) (hk : k ≤ k') : DCalm z n k' := ⟨h.off, h.left, h.len, Nat.le_trans h.pend hk⟩

end Go.Wx
namespace Go.Proofs.Ytkpkljbmbmjadaa
open Go.Wx Go.RowKit
theorem DiskNewMatches_any (size at' : Int) (w : World) (ha : inI at') : Ret Try.prog 3 #[vi size, vi at'] w fun r w' => r = .bool true ∧ Up w w' := by
  obtain ⟨w0, rfl⟩ : ∃ w0, w0 = w := ⟨_, rfl⟩
  have hS := Sep.start no w0
  refine Calls_start (n := 65) (m := 9) Try.func3 rfl rfl rfl ?_
  refine CW.seq (CW.region (LW.p (PEv.assign (.const _)) rfl rfl rfl (LW.nil (KW.then (CW.seq (CW.region ?_))))))
  refine LW.c (enter_call0 .nil (Try.en12)) rfl rfl rfl rfl (sane_any _) ?_
  rintro _ w1 ⟨rfl, uw1⟩
  have zw1 := uw1.size
  replace hS := hS.up uw1
  refine LW.p (PEv.assign (.tmp rfl)) rfl rfl rfl (LW.nil (KW.then (CW.seq ?_)))
  cases hq2 : newOk size with
  | true =>
   have hn : 1 ≤ size ∧ size ≤ 4194304 := by simpa [newOk] using hq2
   obtain ⟨n, rfl⟩ : ∃ n : Nat, size = n := ⟨size.toNat, by omega⟩
   have hn0 : 1 ≤ n := by omega
   refine CW.region (LW.p (PEv.move (.tmp rfl)) rfl rfl rfl ?_)
   refine LW.c (enter_call0 (.cons (.tmp rfl) .nil) (Try.en13)) rfl rfl rfl rfl (New_ok n _ (by omega) (by omega)) ?_
   rintro _ w2 ⟨D, rfl, hD0, hDf, uw2⟩
   have zw2 := uw2.size
   replace hS := hS.add uw2 (A' := aDisk D (newS n)) (hD0) (hDf)
   change Wx.Sep _ _ _ [_] at hS
   refine LW.p (PEv.move (.tmp rfl)) rfl rfl rfl (LW.p (PEv.extract (.tmp rfl) rfl) rfl rfl rfl (LW.p (PEv.extract (.tmp rfl) rfl) rfl rfl rfl (LW.p (PEv.assign (.tmp rfl)) rfl rfl rfl (LW.p (PEv.assign (.tmp rfl)) rfl rfl rfl (LW.nil (KW.then (CW.seq (CW.seq (CW.region (LW.p (PEv.move (.tmp rfl)) rfl rfl rfl ?_))))))))))
   refine LW.p (PEv.lss (.tmp rfl) (.const _)) rfl rfl rfl ?_
   refine LW.p (PEv.move (.tmp rfl)) rfl rfl rfl ?_
   refine LW.g rfl rfl rfl rfl rfl rfl rfl (fun hc => PEv.move (.tmp rfl)) ?_
   refine LW.g rfl rfl rfl rfl rfl rfl rfl (fun hc => PEv.gtr (by first | exact .tmp rfl | exact .cond rfl (by first | assumption | simp_all)) (.const _)) ?_
   refine LW.p (PEv.fa (PEv.pick_or (.tmp rfl) (fun hp => (by first | exact .const _ | exact .tmp rfl | exact .cond rfl (by first | assumption | simp_all)))) (by simp; omega)) rfl rfl rfl ?_
   refine LW.nil (KW.then ?_)
   refine CW.cond_false (.tmp rfl) ?_
   refine CW.skip (KW.then (CW.seq (CW.seq (CW.region (LW.p (PEv.move (.tmp rfl)) rfl rfl rfl ?_)))))
   refine LW.p (PEv.fa (PEv.eqlNil Try.underlying23 (.tmp rfl)) (rfl)) rfl rfl rfl ?_
   refine LW.p (PEv.move (.tmp rfl)) rfl rfl rfl ?_
   refine LW.yes rfl rfl rfl rfl rfl rfl ?_
   refine LW.p (PEv.move (.tmp rfl)) rfl rfl rfl ?_
   refine LW.yes rfl rfl rfl rfl rfl rfl ?_
   refine LW.p (PEv.fa (PEv.neq (.tmp rfl) (.const _)) (rfl)) rfl rfl rfl ?_
   refine LW.p (PEv.pick_or (.tmp rfl) (fun hp => (by first | exact .const _ | exact .tmp rfl | exact .cond rfl (by first | assumption | simp_all)))) rfl rfl rfl ?_
   refine LW.nil (KW.then ?_)
   refine CW.cond_false (.tmp rfl) ?_
   refine CW.skip (KW.then (CW.seq (CW.region (LW.p (PEv.move (.tmp rfl)) rfl rfl rfl (LW.p (PEv.move (.tmp rfl)) rfl rfl rfl (LW.p (PEv.move (.tmp rfl)) rfl rfl rfl ?_))))))
   refine LW.c (enter_call0 (.cons (.tmp rfl) (.cons (.tmp rfl) .nil)) (Try.en15)) rfl rfl rfl rfl (pick_any _ _ _ ha (by omega)) ?_
   rintro _ w3 ⟨rfl, uw3⟩
   have zw3 := uw3.size
   replace hS := hS.up uw3
   refine LW.c (enter_call0 (.cons (.tmp rfl) (.cons (.tmp rfl) (.cons (.const _) .nil))) (Try.en14)) rfl rfl rfl rfl (Read_b _ _ _ _ (hS.get 0 rfl) rfl _ _) ?_
   rintro _ w4 ⟨rfl, uw4⟩
   have zw4 := uw4.size
   replace hS := hS.up uw4
   rw [(newMatch hn0 ha).1, (newMatch hn0 ha).2]
   refine LW.p (PEv.move (.tmp rfl)) rfl rfl rfl (LW.p (PEv.extract (.tmp rfl) rfl) rfl rfl rfl (LW.p (PEv.extract (.tmp rfl) rfl) rfl rfl rfl (LW.p (PEv.assign (.tmp rfl)) rfl rfl rfl (LW.p (PEv.assign (.tmp rfl)) rfl rfl rfl (LW.nil (KW.then (CW.seq (CW.region (LW.p (PEv.move (.tmp rfl)) rfl rfl rfl (LW.p (PEv.move (.tmp rfl)) rfl rfl rfl ?_))))))))))
   refine LW.yes rfl rfl rfl rfl rfl rfl ?_
   refine LW.p (PEv.move (.tmp rfl)) rfl rfl rfl ?_
   refine LW.yes rfl rfl rfl rfl rfl rfl ?_
   refine LW.c (enter_call0 (.cons (.tmp rfl) .nil) (Try.en16)) rfl rfl rfl rfl (Size_b _ _ _ _ (hS.get 0 rfl) rfl) ?_
   rintro _ w5 ⟨rfl, uw5⟩
   have zw5 := uw5.size
   replace hS := hS.up uw5
   refine LW.yes rfl rfl rfl rfl rfl rfl ?_
   refine LW.p (PEv.move (.tmp rfl)) rfl rfl rfl ?_
   refine LW.yes rfl rfl rfl rfl rfl rfl ?_
   refine LW.p (PEv.tr (PEv.eql (.tmp rfl) (.tmp rfl)) (by simp [newS])) rfl rfl rfl ?_
   refine LW.p (PEv.pick_and (.tmp rfl) (fun hp => (by first | exact .const _ | exact .tmp rfl | exact .cond rfl (by first | assumption | simp_all)))) rfl rfl rfl ?_
   refine LW.p (PEv.move (.tmp rfl)) rfl rfl rfl ?_
   refine LW.yes rfl rfl rfl rfl rfl rfl ?_
   refine LW.p (PEv.move (.tmp rfl)) rfl rfl rfl ?_
   refine LW.yes rfl rfl rfl rfl rfl rfl ?_
   refine LW.c (enter_call0 (.cons (.tmp rfl) .nil) (Try.en17)) rfl rfl rfl rfl (Pending_b _ _ _ _ (hS.get 0 rfl) rfl) ?_
   rintro _ w6 ⟨rfl, uw6⟩
   have zw6 := uw6.size
   replace hS := hS.up uw6
   refine LW.yes rfl rfl rfl rfl rfl rfl ?_
   refine LW.p (PEv.tr (PEv.eql (.tmp rfl) (.const _)) (by simp [newS])) rfl rfl rfl ?_
   refine LW.p (PEv.pick_and (.tmp rfl) (fun hp => (by first | exact .const _ | exact .tmp rfl | exact .cond rfl (by first | assumption | simp_all)))) rfl rfl rfl ?_
   refine LW.p (PEv.move (.tmp rfl)) rfl rfl rfl ?_
   refine LW.yes rfl rfl rfl rfl rfl rfl ?_
   refine LW.p (PEv.move (.tmp rfl)) rfl rfl rfl ?_
   refine LW.yes rfl rfl rfl rfl rfl rfl ?_
   refine LW.p (PEv.tr (PEv.eqlStr (.tmp rfl) (.const _)) (beq_self_eq_true _)) rfl rfl rfl ?_
   refine LW.p (PEv.pick_and (.tmp rfl) (fun hp => (by first | exact .const _ | exact .tmp rfl | exact .cond rfl (by first | assumption | simp_all)))) rfl rfl rfl ?_
   refine LW.p (PEv.move (.tmp rfl)) rfl rfl rfl ?_
   refine LW.yes rfl rfl rfl rfl rfl rfl ?_
   refine LW.p (PEv.move (.tmp rfl)) rfl rfl rfl ?_
   refine LW.yes rfl rfl rfl rfl rfl rfl ?_
   refine LW.p (PEv.tr (PEv.eql (.tmp rfl) (.const _)) (rfl)) rfl rfl rfl ?_
   refine LW.p (PEv.pick_and (.tmp rfl) (fun hp => (by first | exact .const _ | exact .tmp rfl | exact .cond rfl (by first | assumption | simp_all)))) rfl rfl rfl ?_
   refine LW.p (PEv.assign (.tmp rfl)) rfl rfl rfl (LW.nil (KW.then (CW.ret ?_)))
   refine KW.ret1 rfl rfl ⟨_, rfl, ?_⟩
   exact ⟨rfl, hS.upd⟩
  | false =>
   refine CW.region (LW.p (PEv.move (.tmp rfl)) rfl rfl rfl ?_)
   refine LW.c (enter_call0 (.cons (.tmp rfl) .nil) (Try.en13)) rfl rfl rfl rfl (New_bad size _ hq2) ?_
   rintro _ w7 ⟨rfl, uw7⟩
   have zw7 := uw7.size
   replace hS := hS.up uw7
   refine LW.p (PEv.move (.tmp rfl)) rfl rfl rfl (LW.p (PEv.extract (.tmp rfl) rfl) rfl rfl rfl (LW.p (PEv.extract (.tmp rfl) rfl) rfl rfl rfl (LW.p (PEv.assign (.tmp rfl)) rfl rfl rfl (LW.p (PEv.assign (.tmp rfl)) rfl rfl rfl (LW.nil (KW.then (CW.seq (CW.seq (CW.region (LW.p (PEv.move (.tmp rfl)) rfl rfl rfl ?_))))))))))
   refine LW.p (PEv.lss (.tmp rfl) (.const _)) rfl rfl rfl ?_
   refine LW.p (PEv.move (.tmp rfl)) rfl rfl rfl ?_
   refine LW.g rfl rfl rfl rfl rfl rfl rfl (fun hc => PEv.move (.tmp rfl)) ?_
   refine LW.g rfl rfl rfl rfl rfl rfl rfl (fun hc => PEv.gtr (by first | exact .tmp rfl | exact .cond rfl (by first | assumption | simp_all)) (.const _)) ?_
   refine LW.p (PEv.tr (PEv.pick_or (.tmp rfl) (fun hp => (by first | exact .const _ | exact .tmp rfl | exact .cond rfl (by first | assumption | simp_all)))) (by simp [newOk] at hq2; simp; omega)) rfl rfl rfl ?_
   refine LW.nil (KW.then ?_)
   refine CW.cond_true (.tmp rfl) ?_
   refine CW.seq (CW.region (LW.p (PEv.move (.tmp rfl)) rfl rfl rfl (LW.p (PEv.move (.tmp rfl)) rfl rfl rfl ?_)))
   refine LW.yes rfl rfl rfl rfl rfl rfl ?_
   refine LW.p (PEv.move (.tmp rfl)) rfl rfl rfl ?_
   refine LW.yes rfl rfl rfl rfl rfl rfl ?_
   refine LW.p (PEv.tr (PEv.eqlNil Try.underlying23 (.tmp rfl)) (rfl)) rfl rfl rfl ?_
   refine LW.p (PEv.pick_and (.tmp rfl) (fun hp => (by first | exact .const _ | exact .tmp rfl | exact .cond rfl (by first | assumption | simp_all)))) rfl rfl rfl ?_
   refine LW.p (PEv.move (.tmp rfl)) rfl rfl rfl ?_
   refine LW.yes rfl rfl rfl rfl rfl rfl ?_
   refine LW.p (PEv.move (.tmp rfl)) rfl rfl rfl ?_
   refine LW.yes rfl rfl rfl rfl rfl rfl ?_
   refine LW.p (PEv.tr (PEv.eql (.tmp rfl) (.const _)) (rfl)) rfl rfl rfl ?_
   refine LW.p (PEv.pick_and (.tmp rfl) (fun hp => (by first | exact .const _ | exact .tmp rfl | exact .cond rfl (by first | assumption | simp_all)))) rfl rfl rfl ?_
   refine LW.p (PEv.assign (.tmp rfl)) rfl rfl rfl (LW.nil (KW.then (CW.ret (KW.then_ret ?_))))
   refine KW.ret1 rfl rfl ⟨_, rfl, ?_⟩
   exact ⟨rfl, hS.upd⟩

theorem DiskNil_any (off m : Int) (s : ByteArray) (ad : Option Addr) (k cp : Nat) (w : World) (hk : k ≤ cp) : Ret Try.prog 5 #[vi off, vi m, .string s, .slice ad k cp] w fun r w' => r = .bool true ∧ Up w w' := by
  have hW := Up.refl w
  refine Calls_start (n := 70) (m := 9) Try.func5 rfl rfl rfl ?_
  refine CW.seq (CW.region (LW.p (PEv.assign (.const _)) rfl rfl rfl (LW.nil (KW.then (CW.seq (CW.region ?_))))))
  refine LW.c (enter_call0 .nil (Try.en12)) rfl rfl rfl rfl (sane_any _) ?_
  rintro _ w1 ⟨rfl, uw1⟩
  have zw1 := uw1.size
  replace hW := hW.up uw1
  refine LW.p (PEv.assign (.tmp rfl)) rfl rfl rfl (LW.nil (KW.then (CW.seq (CW.region (LW.p (PEv.assign (.const _)) rfl rfl rfl (LW.nil (KW.then (CW.seq (CW.region (LW.p (PEv.move (.tmp rfl)) rfl rfl rfl (LW.p (PEv.move (.tmp rfl)) rfl rfl rfl (LW.p (PEv.move (.tmp rfl)) rfl rfl rfl ?_))))))))))))
  refine LW.c (enter_call0 (.cons (.tmp rfl) (.cons (.tmp rfl) (.cons (.tmp rfl) .nil))) (Try.en14)) rfl rfl rfl rfl (Read_nil _ _ _) ?_
  rintro _ w2 ⟨rfl, uw2⟩
  have zw2 := uw2.size
  replace hW := hW.up uw2
  refine LW.p (PEv.move (.tmp rfl)) rfl rfl rfl (LW.p (PEv.extract (.tmp rfl) rfl) rfl rfl rfl (LW.p (PEv.extract (.tmp rfl) rfl) rfl rfl rfl (LW.p (PEv.assign (.tmp rfl)) rfl rfl rfl (LW.p (PEv.assign (.tmp rfl)) rfl rfl rfl (LW.nil (KW.then (CW.seq (CW.region (LW.p (PEv.move (.tmp rfl)) rfl rfl rfl (LW.p (PEv.move (.tmp rfl)) rfl rfl rfl ?_))))))))))
  refine LW.yes rfl rfl rfl rfl rfl rfl ?_
  refine LW.p (PEv.move (.tmp rfl)) rfl rfl rfl ?_
  refine LW.yes rfl rfl rfl rfl rfl rfl ?_
  refine LW.p (PEv.tr (PEv.eqlStr (.tmp rfl) (.const _)) (beq_self_eq_true _)) rfl rfl rfl ?_
  refine LW.p (PEv.pick_and (.tmp rfl) (fun hp => (by first | exact .const _ | exact .tmp rfl | exact .cond rfl (by first | assumption | simp_all)))) rfl rfl rfl ?_
  refine LW.p (PEv.move (.tmp rfl)) rfl rfl rfl ?_
  refine LW.yes rfl rfl rfl rfl rfl rfl ?_
  refine LW.p (PEv.move (.tmp rfl)) rfl rfl rfl ?_
  refine LW.yes rfl rfl rfl rfl rfl rfl ?_
  refine LW.p (PEv.tr (PEv.eql (.tmp rfl) (.const _)) (rfl)) rfl rfl rfl ?_
  refine LW.p (PEv.pick_and (.tmp rfl) (fun hp => (by first | exact .const _ | exact .tmp rfl | exact .cond rfl (by first | assumption | simp_all)))) rfl rfl rfl ?_
  refine LW.p (PEv.move (.tmp rfl)) rfl rfl rfl ?_
  refine LW.yes rfl rfl rfl rfl rfl rfl ?_
  refine LW.p (PEv.move (.tmp rfl)) rfl rfl rfl ?_
  refine LW.yes rfl rfl rfl rfl rfl rfl ?_
  refine LW.p (PEv.move (.tmp rfl)) rfl rfl rfl ?_
  refine LW.yes rfl rfl rfl rfl rfl rfl ?_
  refine LW.p (PEv.move (.tmp rfl)) rfl rfl rfl ?_
  refine LW.yes rfl rfl rfl rfl rfl rfl ?_
  refine LW.c (enter_call0 (.cons (.tmp rfl) (.cons (.const _) .nil)) (Try.en22)) rfl rfl rfl rfl (cut_any _ _ _ (by decide)) ?_
  rintro _ w3 ⟨rfl, uw3⟩
  have zw3 := uw3.size
  replace hW := hW.up uw3
  refine LW.yes rfl rfl rfl rfl rfl rfl ?_
  refine LW.c (enter_call0 (.cons (.tmp rfl) (.cons (.tmp rfl) (.cons (.tmp rfl) .nil))) (Try.en21)) rfl rfl rfl rfl (Write_nil _ _ _) ?_
  rintro _ w4 ⟨rfl, uw4⟩
  have zw4 := uw4.size
  replace hW := hW.up uw4
  refine LW.yes rfl rfl rfl rfl rfl rfl ?_
  refine LW.p (PEv.tr (PEv.eql (.tmp rfl) (.const _)) (rfl)) rfl rfl rfl ?_
  refine LW.p (PEv.pick_and (.tmp rfl) (fun hp => (by first | exact .const _ | exact .tmp rfl | exact .cond rfl (by first | assumption | simp_all)))) rfl rfl rfl ?_
  refine LW.p (PEv.move (.tmp rfl)) rfl rfl rfl ?_
  refine LW.yes rfl rfl rfl rfl rfl rfl ?_
  refine LW.p (PEv.move (.tmp rfl)) rfl rfl rfl ?_
  refine LW.yes rfl rfl rfl rfl rfl rfl ?_
  refine LW.c (enter_call0 (.cons (.tmp rfl) .nil) (Try.en23)) rfl rfl rfl rfl (Sync_nil _) ?_
  rintro _ w5 ⟨rfl, uw5⟩
  have zw5 := uw5.size
  replace hW := hW.up uw5
  refine LW.yes rfl rfl rfl rfl rfl rfl ?_
  refine LW.p (PEv.tr (PEv.eql (.tmp rfl) (.const _)) (rfl)) rfl rfl rfl ?_
  refine LW.p (PEv.pick_and (.tmp rfl) (fun hp => (by first | exact .const _ | exact .tmp rfl | exact .cond rfl (by first | assumption | simp_all)))) rfl rfl rfl ?_
  refine LW.p (PEv.move (.tmp rfl)) rfl rfl rfl ?_
  refine LW.yes rfl rfl rfl rfl rfl rfl ?_
  refine LW.p (PEv.move (.tmp rfl)) rfl rfl rfl ?_
  refine LW.yes rfl rfl rfl rfl rfl rfl ?_
  refine LW.p (PEv.move (.tmp rfl)) rfl rfl rfl ?_
  refine LW.yes rfl rfl rfl rfl rfl rfl ?_
  refine LW.c (enter_call0 (.cons (.tmp rfl) (.cons (.tmp rfl) .nil)) (Try.en24)) rfl rfl rfl rfl (Cut_nil _ _) ?_
  rintro _ w6 ⟨rfl, uw6⟩
  have zw6 := uw6.size
  replace hW := hW.up uw6
  refine LW.yes rfl rfl rfl rfl rfl rfl ?_
  refine LW.p (PEv.tr (PEv.eql (.tmp rfl) (.const _)) (rfl)) rfl rfl rfl ?_
  refine LW.p (PEv.pick_and (.tmp rfl) (fun hp => (by first | exact .const _ | exact .tmp rfl | exact .cond rfl (by first | assumption | simp_all)))) rfl rfl rfl ?_
  refine LW.p (PEv.move (.tmp rfl)) rfl rfl rfl ?_
  refine LW.yes rfl rfl rfl rfl rfl rfl ?_
  refine LW.p (PEv.move (.tmp rfl)) rfl rfl rfl ?_
  refine LW.yes rfl rfl rfl rfl rfl rfl ?_
  refine LW.p (PEv.move (.tmp rfl)) rfl rfl rfl ?_
  refine LW.yes rfl rfl rfl rfl rfl rfl ?_
  refine LW.p (PEv.move (.tmp rfl)) rfl rfl rfl ?_
  refine LW.yes rfl rfl rfl rfl rfl rfl ?_
  refine LW.p (PEv.lenS Try.underlying37 (.tmp rfl)) rfl rfl rfl ?_
  refine LW.yes rfl rfl rfl rfl rfl rfl ?_
  refine LW.p (PEv.min2N (j := 100) (.tmp rfl) (.const _)) rfl rfl rfl ?_
  refine LW.yes rfl rfl rfl rfl rfl rfl ?_
  refine LW.p (PEv.sliceHi Try.underlying37 Try.sizeOf3 (.tmp rfl) (.tmp rfl) (by omega)) rfl rfl rfl ?_
  refine LW.yes rfl rfl rfl rfl rfl rfl ?_
  refine LW.p (PEv.move (.tmp rfl)) rfl rfl rfl ?_
  refine LW.yes rfl rfl rfl rfl rfl rfl ?_
  refine LW.c (enter_call0 (.cons (.tmp rfl) (.cons (.tmp rfl) (.cons (.tmp rfl) .nil))) (Try.en25)) rfl rfl rfl rfl (Crash_nil _ _ _) ?_
  rintro _ w7 ⟨rfl, uw7⟩
  have zw7 := uw7.size
  replace hW := hW.up uw7
  refine LW.yes rfl rfl rfl rfl rfl rfl ?_
  refine LW.p (PEv.tr (PEv.eql (.tmp rfl) (.const _)) (rfl)) rfl rfl rfl ?_
  refine LW.p (PEv.pick_and (.tmp rfl) (fun hp => (by first | exact .const _ | exact .tmp rfl | exact .cond rfl (by first | assumption | simp_all)))) rfl rfl rfl ?_
  refine LW.p (PEv.move (.tmp rfl)) rfl rfl rfl ?_
  refine LW.yes rfl rfl rfl rfl rfl rfl ?_
  refine LW.p (PEv.move (.tmp rfl)) rfl rfl rfl ?_
  refine LW.yes rfl rfl rfl rfl rfl rfl ?_
  refine LW.c (enter_call0 (.cons (.tmp rfl) .nil) (Try.en17)) rfl rfl rfl rfl (Pending_nil _) ?_
  rintro _ w8 ⟨rfl, uw8⟩
  have zw8 := uw8.size
  replace hW := hW.up uw8
  refine LW.yes rfl rfl rfl rfl rfl rfl ?_
  refine LW.p (PEv.tr (PEv.eql (.tmp rfl) (.const _)) (rfl)) rfl rfl rfl ?_
  refine LW.p (PEv.pick_and (.tmp rfl) (fun hp => (by first | exact .const _ | exact .tmp rfl | exact .cond rfl (by first | assumption | simp_all)))) rfl rfl rfl ?_
  refine LW.p (PEv.move (.tmp rfl)) rfl rfl rfl ?_
  refine LW.yes rfl rfl rfl rfl rfl rfl ?_
  refine LW.p (PEv.move (.tmp rfl)) rfl rfl rfl ?_
  refine LW.yes rfl rfl rfl rfl rfl rfl ?_
  refine LW.c (enter_call0 (.cons (.tmp rfl) .nil) (Try.en16)) rfl rfl rfl rfl (Size_nil _) ?_
  rintro _ w9 ⟨rfl, uw9⟩
  have zw9 := uw9.size
  replace hW := hW.up uw9
  refine LW.yes rfl rfl rfl rfl rfl rfl ?_
  refine LW.p (PEv.tr (PEv.eql (.tmp rfl) (.const _)) (rfl)) rfl rfl rfl ?_
  refine LW.p (PEv.pick_and (.tmp rfl) (fun hp => (by first | exact .const _ | exact .tmp rfl | exact .cond rfl (by first | assumption | simp_all)))) rfl rfl rfl ?_
  refine LW.p (PEv.assign (.tmp rfl)) rfl rfl rfl (LW.nil (KW.then (CW.ret ?_)))
  refine KW.ret1 rfl rfl ⟨_, rfl, ?_⟩
  exact ⟨rfl, hW⟩

set_option maxHeartbeats 2000000 in
theorem DiskReadsBack_any (size : Int) (ad : Option Addr) (cp : Nat) (l : List WP) (w : World) (hs : inI size) (hE0 : Els w ad 3 WP.cells l) (hl : ∀ x ∈ l, WOk x) : Ret Try.prog 6 #[vi size, .slice ad l.length cp] w fun r w' => r = .bool true ∧ Up w w' := by
  obtain ⟨w0, rfl⟩ : ∃ w0, w0 = w := ⟨_, rfl⟩
  have hS := Sep.start no w0
  refine Calls_start (n := 79) (m := 9) Try.func6 rfl rfl rfl ?_
  refine CW.seq (CW.region (LW.p (PEv.assign (.const _)) rfl rfl rfl (LW.nil (KW.then (CW.seq (CW.region ?_))))))
  refine LW.c (enter_call0 .nil (Try.en12)) rfl rfl rfl rfl (sane_any _) ?_
  rintro _ w1 ⟨rfl, uw1⟩
  have zw1 := uw1.size
  replace hS := hS.up uw1
  refine LW.p (PEv.assign (.tmp rfl)) rfl rfl rfl (LW.nil (KW.then (CW.seq (CW.region (LW.p (PEv.move (.tmp rfl)) rfl rfl rfl ?_)))))
  refine LW.c (enter_call0 (.cons (.tmp rfl) (.cons (.const _) .nil)) (Try.en15)) rfl rfl rfl rfl (pick_any _ _ _ hs (by decide)) ?_
  rintro _ w2 ⟨rfl, uw2⟩
  have zw2 := uw2.size
  replace hS := hS.up uw2
  obtain ⟨hp0, hp1⟩ := pick_range (c := size) (n := 300) hs (by decide)
  obtain ⟨p, hp⟩ : ∃ p : Nat, pickI size 300 = p := ⟨(pickI size 300).toNat, by omega⟩
  rw [hp]
  refine LW.p (PEv.addN (i := 1) (.const _) (.tmp rfl) (by omega)) rfl rfl rfl ?_
  refine LW.p (PEv.assign (.tmp rfl)) rfl rfl rfl (LW.nil (KW.then (CW.seq (CW.region (LW.p (PEv.move (.tmp rfl)) rfl rfl rfl ?_)))))
  refine LW.c (enter_call0 (.cons (.tmp rfl) .nil) (Try.en13)) rfl rfl rfl rfl (New_ok (1 + p) _ (by omega) (by omega)) ?_
  rintro _ w3 ⟨D, rfl, hD0, hDf, uw3⟩
  have zw3 := uw3.size
  replace hS := hS.add uw3 (A' := aDisk D (newS (1 + p))) (hD0) (hDf)
  change Wx.Sep _ _ _ [_] at hS
  obtain ⟨n, hn⟩ : ∃ n, n = 1 + p := ⟨_, rfl⟩
  rw [← hn] at hS ⊢
  refine LW.p (PEv.move (.tmp rfl)) rfl rfl rfl (LW.p (PEv.extract (.tmp rfl) rfl) rfl rfl rfl (LW.p (PEv.extract (.tmp rfl) rfl) rfl rfl rfl (LW.p (PEv.assign (.tmp rfl)) rfl rfl rfl (LW.p (PEv.assign (.tmp rfl)) rfl rfl rfl (LW.nil (KW.then (CW.seq (CW.seq (CW.region (LW.p (PEv.move (.tmp rfl)) rfl rfl rfl ?_))))))))))
  refine LW.p (PEv.fa (PEv.neq (.tmp rfl) (.const _)) (rfl)) rfl rfl rfl ?_
  refine LW.nil (KW.then ?_)
  refine CW.cond_false (.tmp rfl) ?_
  refine CW.skip (KW.then (CW.seq (CW.region (LW.p (PEv.move (.tmp rfl)) rfl rfl rfl ?_))))
  refine LW.r (REv.makeBytes (i := Try.t5) Try.underlying40 (by kernel_rfl) rfl rfl rfl (.tmp rfl) (.tmp rfl) (by omega)) rfl rfl rfl rfl ?_
  rintro _ w4 ⟨B8, rfl, NB8⟩
  have eB8 := NB8.at_
  have zB8 := NB8.size
  replace hS := hS.addB NB8
  change Wx.Sep _ _ _ [_, _] at hS
  refine LW.p (PEv.assign (.tmp rfl)) rfl rfl rfl (LW.nil (KW.then (CW.seq (CW.seq (CW.region (LW.p (PEv.assign (.const _)) rfl rfl rfl (LW.nil (KW.then (CW.block ?_)))))))))
  refine CW.loopB (σ := Nat × Go.Value × DS) (fun s w => (s.1 ≤ l.length ∧ s.1 ≤ 60) ∧ (DCalm s.2.2 n s.1) ∧ (Sep no w0 w [aDisk { D with pv := s.2.1 } s.2.2, aBlk B8 (byc s.2.2.vis) 5])) (fun s => [(9, .eq (vi (s.1 : Int)))]) ([(0, .eq _), (1, .eq _), (5, .eq _), (6, .eq _), (8, .eq _)]) (fun s => l.length - s.1) (0, D.pv, newS n) ?_ ⟨rfl, rfl, rfl, rfl, rfl, rfl, trivial⟩ ?_
  ·exact ⟨⟨Nat.zero_le _, by omega⟩, DCalm.new n, hS⟩
  ·rintro ⟨k, pv, z⟩ w5 ⟨hkk, hz, hS⟩
   dsimp only at hkk hz hS
   refine CW.seq (CW.seq (CW.region (LW.p (PEv.move (.tmp rfl)) rfl rfl rfl (LW.p (PEv.move (.tmp rfl)) rfl rfl rfl ?_))))
   refine LW.p (PEv.lenS Try.underlying51 (.tmp rfl)) rfl rfl rfl ?_
   refine LW.p (PEv.lss (.tmp rfl) (.tmp rfl)) rfl rfl rfl ?_
   refine LW.p (PEv.move (.tmp rfl)) rfl rfl rfl ?_
   refine LW.g rfl rfl rfl rfl rfl rfl rfl (fun hc => PEv.move (.tmp rfl)) ?_
   refine LW.g rfl rfl rfl rfl rfl rfl rfl (fun hc => PEv.lss (by first | exact .tmp rfl | exact .cond rfl (by first | assumption | simp_all)) (.const _)) ?_
   refine LW.p (PEv.pick_and (.tmp rfl) (fun hp => (by first | exact .const _ | exact .tmp rfl | exact .cond rfl (by first | assumption | simp_all)))) rfl rfl rfl ?_
   refine LW.nil (KW.then ?_)
   refine CW.cond (.tmp rfl) (fun h33 => ?_) (fun h33 => ?_)
   ·first | replace h33 := of_decide_eq_true h33 | replace h33 := of_decide_eq_false h33 | skip
    refine CW.skip (KW.then (CW.seq (CW.block (CW.seq ?_))))
    have hE := hE0.up hS.upd
    have hkl : k < l.length ∧ k < 60 := by simp at h33; omega
    have hvl := (ok_of (hS.get 0 rfl)).len.trans hz.len
    refine CW.region (LW.p (PEv.move (.tmp rfl)) rfl rfl rfl (LW.p (PEv.move (.tmp rfl)) rfl rfl rfl ?_))
    obtain ⟨x, hx⟩ := getElem?_of_lt (xs := l) (i := k) (by omega)
    obtain ⟨Bx, ox, ax, hcx⟩ := hE _ x hx
    refine LW.p (PEv.indexAddr' Try.underlying51 Try.sizeOf53 (.tmp rfl) (.tmp rfl) (by omega) ax) rfl rfl rfl ?_
    refine LW.p (PEv.loadA Try.isAgg53 Try.sizeOf53 rfl (.tmp rfl) (hcx)) rfl rfl rfl ?_
    refine LW.p (PEv.move (.tmp rfl)) rfl rfl rfl ?_
    refine LW.c (enter_call0 (.cons (.tmp rfl) (.cons (.tmp rfl) .nil)) (Try.en26)) rfl rfl rfl rfl (fits_any x n _ (hl x (List.mem_of_getElem? hx)) (by omega)) ?_
    rintro _ w6 ⟨rfl, uw6⟩
    have zw6 := uw6.size
    replace hS := hS.up uw6
    replace hcx := hcx.up uw6
    refine LW.r (REv.allocA Try.zeroValue53) rfl rfl rfl rfl ?_
    rintro _ w7 ⟨B10, rfl, MB10⟩
    refine LW.s (SEv.storeA Try.sizeOf53 rfl (.tmp rfl) (.tmp rfl) (WP.one _) MB10.blk rfl) rfl rfl rfl ?_
    intro w8 LB10
    have NB10 := MB10.set LB10
    clear LB10 MB10
    have eB10 := NB10.at_
    have zB10 := NB10.size
    replace hcx := hcx.up NB10.up
    replace hS := hS.addB NB10
    change Wx.Sep _ _ _ [_, _, _] at hS
    refine LW.nil (KW.then (CW.seq (CW.region (LW.p (PEv.move (.tmp rfl)) rfl rfl rfl ?_))))
    refine LW.p (PEv.fieldAddr (off := 0) Try.underlying53 rfl rfl Try.sizeOf3 rfl (.tmp rfl)) rfl rfl rfl ?_
    refine LW.p (PEv.load Try.isAgg3 (.tmp rfl) ((hS.blk 2 rfl).celln (v := vi (fitO x n : Int)) rfl)) rfl rfl rfl ?_
    refine LW.p (PEv.fieldAddr (off := 1) Try.underlying53 rfl rfl Try.sizeOf9 rfl (.tmp rfl)) rfl rfl rfl ?_
    refine LW.p (PEv.load Try.isAgg9 (.tmp rfl) ((hS.blk 2 rfl).celln (v := .string (fitS x n)) rfl)) rfl rfl rfl ?_
    refine LW.c (enter_call0 (.cons (.tmp rfl) (.cons (.tmp rfl) (.cons (.tmp rfl) .nil))) (Try.en27)) rfl rfl rfl rfl (put_any B8 n n (fitO x n) (fitS x n) z.vis _ (hS.blk 1 rfl) hvl (fit_le (hl x (List.mem_of_getElem? hx)).off) (by omega)) ?_
    rintro _ w9 ⟨rfl, uw9⟩
    have zw9 := uw9.fr.size
    replace hS := hS.stp 1 rfl uw9
    change Wx.Sep _ _ _ [_, _, _] at hS
    refine LW.nil (KW.then (CW.seq (CW.seq ?_)))
    cases hq12 : x.sync with
    | true =>
     refine CW.region (LW.p (PEv.move (.tmp rfl)) rfl rfl rfl ?_)
     refine LW.p (PEv.fieldAddr (off := 0) Try.underlying53 rfl rfl Try.sizeOf3 rfl (.tmp rfl)) rfl rfl rfl ?_
     refine LW.p (PEv.load Try.isAgg3 (.tmp rfl) ((hS.blk 2 rfl).celln (v := vi (fitO x n : Int)) rfl)) rfl rfl rfl ?_
     refine LW.p (PEv.fieldAddr (off := 1) Try.underlying53 rfl rfl Try.sizeOf9 rfl (.tmp rfl)) rfl rfl rfl ?_
     refine LW.p (PEv.load Try.isAgg9 (.tmp rfl) ((hS.blk 2 rfl).celln (v := .string (fitS x n)) rfl)) rfl rfl rfl ?_
     refine LW.c (enter_call0 (.cons (.tmp rfl) (.cons (.tmp rfl) (.cons (.tmp rfl) .nil))) (Try.en21)) rfl rfl rfl rfl (Write_b _ _ z _ (hS.get 0 rfl) rfl (fitO x n : Int) (fitS x n) (by have := hz.pend; omega)) ?_
     rintro _ w10 ⟨rfl, pv_w10, uw10⟩
     have zw10 := uw10.fr.size
     replace hS := hS.stp 0 rfl uw10
     change Wx.Sep _ _ _ [_, _, _] at hS
     rw [(hz.write (fit_le (hl x (List.mem_of_getElem? hx)).off)).1]
     rw [(hz.write (fit_le (hl x (List.mem_of_getElem? hx)).off)).2] at hS
     replace hz := hz.put (fitO x n : Int) (fitS x n)
     have hvs := (ok_of (hS.get 0 rfl)).len.trans hz.len
     refine LW.p (PEv.fa (PEv.neq (.tmp rfl) (.const _)) (rfl)) rfl rfl rfl ?_
     refine LW.p (PEv.move (.tmp rfl)) rfl rfl rfl ?_
     refine LW.yes rfl rfl rfl rfl rfl rfl ?_
     refine LW.p (PEv.fieldAddr (off := 2) Try.underlying53 rfl rfl Try.sizeOf4 rfl (.tmp rfl)) rfl rfl rfl ?_
     refine LW.yes rfl rfl rfl rfl rfl rfl ?_
     refine LW.p (PEv.tr (PEv.load Try.isAgg4 (.tmp rfl) ((hS.blk 2 rfl).celln (v := .bool x.sync) rfl)) (hq12)) rfl rfl rfl ?_
     refine LW.yes rfl rfl rfl rfl rfl rfl ?_
     refine LW.p (PEv.move (.tmp rfl)) rfl rfl rfl ?_
     refine LW.yes rfl rfl rfl rfl rfl rfl ?_
     refine LW.p (PEv.move (.tmp rfl)) rfl rfl rfl ?_
     refine LW.yes rfl rfl rfl rfl rfl rfl ?_
     refine LW.c (enter_call0 (.cons (.tmp rfl) .nil) (Try.en23)) rfl rfl rfl rfl (Sync_b _ _ _ _ (hS.get 0 rfl) rfl) ?_
     rintro _ w11 ⟨rfl, pv_w11, uw11⟩
     have zw11 := uw11.fr.size
     replace hS := hS.stp 0 rfl uw11
     change Wx.Sep _ _ _ [_, _, _] at hS
     rw [hz.sync.1]
     rw [hz.sync.2] at hS
     replace hz := hz.synced hvs
     refine LW.yes rfl rfl rfl rfl rfl rfl ?_
     refine LW.p (PEv.fa (PEv.neq (.tmp rfl) (.const _)) (rfl)) rfl rfl rfl ?_
     refine LW.yes rfl rfl rfl rfl rfl rfl ?_
     refine LW.p (PEv.pick_and (.tmp rfl) (fun hp => (by first | exact .const _ | exact .tmp rfl | exact .cond rfl (by first | assumption | simp_all)))) rfl rfl rfl ?_
     refine LW.p (PEv.pick_or (.tmp rfl) (fun hp => (by first | exact .const _ | exact .tmp rfl | exact .cond rfl (by first | assumption | simp_all)))) rfl rfl rfl ?_
     refine LW.nil (KW.then ?_)
     refine CW.cond_false (.tmp rfl) ?_
     refine CW.skip (KW.then (CW.seq (CW.region (LW.p (PEv.move (.tmp rfl)) rfl rfl rfl (LW.p (PEv.move (.tmp rfl)) rfl rfl rfl ?_)))))
     refine LW.c (enter_call0 (.cons (.tmp rfl) (.cons (.const _) (.cons (.tmp rfl) .nil))) (Try.en14)) rfl rfl rfl rfl (Read_b _ _ _ _ (hS.get 0 rfl) rfl 0 (n : Int)) ?_
     rintro _ w12 ⟨rfl, uw12⟩
     have zw12 := uw12.size
     replace hS := hS.up uw12
     have hvn := (ok_of (hS.get 0 rfl)).len.trans hz.len
     have hre := hz.readE (j := 0) (m := n) (by omega)
     rw [strOf_all _ hvn] at hre
     rw [show ((0 : Nat) : Int) = 0 from rfl] at hre
     rw [hre.1, hre.2]
     refine LW.p (PEv.move (.tmp rfl)) rfl rfl rfl (LW.p (PEv.extract (.tmp rfl) rfl) rfl rfl rfl (LW.p (PEv.extract (.tmp rfl) rfl) rfl rfl rfl (LW.p (PEv.assign (.tmp rfl)) rfl rfl rfl (LW.p (PEv.assign (.tmp rfl)) rfl rfl rfl (LW.nil (KW.then (CW.seq (CW.region (LW.p (PEv.move (.tmp rfl)) rfl rfl rfl ?_)))))))))
     refine LW.p (PEv.fa (PEv.neq (.tmp rfl) (.const _)) (rfl)) rfl rfl rfl ?_
     refine LW.p (PEv.move (.tmp rfl)) rfl rfl rfl ?_
     refine LW.yes rfl rfl rfl rfl rfl rfl ?_
     refine LW.p (PEv.move (.tmp rfl)) rfl rfl rfl ?_
     refine LW.yes rfl rfl rfl rfl rfl rfl ?_
     refine LW.p (PEv.move (.tmp rfl)) rfl rfl rfl ?_
     refine LW.yes rfl rfl rfl rfl rfl rfl ?_
     refine LW.p (PEv.bytesStr0 Try.underlying40 Try.underlying5 Try.underlying9 (.tmp rfl) (hS.blk 1 rfl) hvn) rfl rfl rfl ?_
     refine LW.yes rfl rfl rfl rfl rfl rfl ?_
     refine LW.p (PEv.fa (PEv.neqStr (.tmp rfl) (.tmp rfl)) (neq_self rfl)) rfl rfl rfl ?_
     refine LW.p (PEv.pick_or (.tmp rfl) (fun hp => (by first | exact .const _ | exact .tmp rfl | exact .cond rfl (by first | assumption | simp_all)))) rfl rfl rfl ?_
     refine LW.nil (KW.then ?_)
     refine CW.cond_false (.tmp rfl) ?_
     refine CW.skip (KW.inBlock (KW.then (CW.region (LW.p (PEv.move (.tmp rfl)) rfl rfl rfl ?_))))
     refine LW.p (PEv.inc (.tmp rfl) (by omega)) rfl rfl rfl ?_
     refine LW.p (PEv.assign (.tmp rfl)) rfl rfl rfl (LW.nil (KW.round ?_))
     exact ⟨(k + 1, _, _), ⟨⟨by omega, by omega⟩, hz, hS.take 2⟩, ⟨rfl, rfl, rfl, rfl, rfl, rfl, trivial⟩, by first | omega | (dsimp only; omega)⟩
    | false =>
     refine CW.region (LW.p (PEv.move (.tmp rfl)) rfl rfl rfl ?_)
     refine LW.p (PEv.fieldAddr (off := 0) Try.underlying53 rfl rfl Try.sizeOf3 rfl (.tmp rfl)) rfl rfl rfl ?_
     refine LW.p (PEv.load Try.isAgg3 (.tmp rfl) ((hS.blk 2 rfl).celln (v := vi (fitO x n : Int)) rfl)) rfl rfl rfl ?_
     refine LW.p (PEv.fieldAddr (off := 1) Try.underlying53 rfl rfl Try.sizeOf9 rfl (.tmp rfl)) rfl rfl rfl ?_
     refine LW.p (PEv.load Try.isAgg9 (.tmp rfl) ((hS.blk 2 rfl).celln (v := .string (fitS x n)) rfl)) rfl rfl rfl ?_
     refine LW.c (enter_call0 (.cons (.tmp rfl) (.cons (.tmp rfl) (.cons (.tmp rfl) .nil))) (Try.en21)) rfl rfl rfl rfl (Write_b _ _ z _ (hS.get 0 rfl) rfl (fitO x n : Int) (fitS x n) (by have := hz.pend; omega)) ?_
     rintro _ w13 ⟨rfl, pv_w13, uw13⟩
     have zw13 := uw13.fr.size
     replace hS := hS.stp 0 rfl uw13
     change Wx.Sep _ _ _ [_, _, _] at hS
     rw [(hz.write (fit_le (hl x (List.mem_of_getElem? hx)).off)).1]
     rw [(hz.write (fit_le (hl x (List.mem_of_getElem? hx)).off)).2] at hS
     replace hz := hz.put (fitO x n : Int) (fitS x n)
     have hvs := (ok_of (hS.get 0 rfl)).len.trans hz.len
     refine LW.p (PEv.fa (PEv.neq (.tmp rfl) (.const _)) (rfl)) rfl rfl rfl ?_
     refine LW.p (PEv.move (.tmp rfl)) rfl rfl rfl ?_
     refine LW.yes rfl rfl rfl rfl rfl rfl ?_
     refine LW.p (PEv.fieldAddr (off := 2) Try.underlying53 rfl rfl Try.sizeOf4 rfl (.tmp rfl)) rfl rfl rfl ?_
     refine LW.yes rfl rfl rfl rfl rfl rfl ?_
     refine LW.p (PEv.fa (PEv.load Try.isAgg4 (.tmp rfl) ((hS.blk 2 rfl).celln (v := .bool x.sync) rfl)) (hq12)) rfl rfl rfl ?_
     refine LW.yes rfl rfl rfl rfl rfl rfl ?_
     refine LW.p (PEv.move (.tmp rfl)) rfl rfl rfl ?_
     refine LW.no rfl rfl rfl rfl rfl rfl rfl rfl ?_
     refine LW.no rfl rfl rfl rfl rfl rfl rfl rfl ?_
     refine LW.no rfl rfl rfl rfl rfl rfl rfl rfl ?_
     refine LW.yes rfl rfl rfl rfl rfl rfl ?_
     refine LW.p (PEv.pick_and (b := false) (.tmp rfl) (fun hp => absurd (show false = true from hp) (by decide))) rfl rfl rfl ?_
     refine LW.p (PEv.pick_or (.tmp rfl) (fun hp => (by first | exact .const _ | exact .tmp rfl | exact .cond rfl (by first | assumption | simp_all)))) rfl rfl rfl ?_
     refine LW.nil (KW.then ?_)
     refine CW.cond_false (.tmp rfl) ?_
     refine CW.skip (KW.then (CW.seq (CW.region (LW.p (PEv.move (.tmp rfl)) rfl rfl rfl (LW.p (PEv.move (.tmp rfl)) rfl rfl rfl ?_)))))
     refine LW.c (enter_call0 (.cons (.tmp rfl) (.cons (.const _) (.cons (.tmp rfl) .nil))) (Try.en14)) rfl rfl rfl rfl (Read_b _ _ _ _ (hS.get 0 rfl) rfl 0 (n : Int)) ?_
     rintro _ w14 ⟨rfl, uw14⟩
     have zw14 := uw14.size
     replace hS := hS.up uw14
     have hvn := (ok_of (hS.get 0 rfl)).len.trans hz.len
     have hre := hz.readE (j := 0) (m := n) (by omega)
     rw [strOf_all _ hvn] at hre
     rw [show ((0 : Nat) : Int) = 0 from rfl] at hre
     rw [hre.1, hre.2]
     refine LW.p (PEv.move (.tmp rfl)) rfl rfl rfl (LW.p (PEv.extract (.tmp rfl) rfl) rfl rfl rfl (LW.p (PEv.extract (.tmp rfl) rfl) rfl rfl rfl (LW.p (PEv.assign (.tmp rfl)) rfl rfl rfl (LW.p (PEv.assign (.tmp rfl)) rfl rfl rfl (LW.nil (KW.then (CW.seq (CW.region (LW.p (PEv.move (.tmp rfl)) rfl rfl rfl ?_)))))))))
     refine LW.p (PEv.fa (PEv.neq (.tmp rfl) (.const _)) (rfl)) rfl rfl rfl ?_
     refine LW.p (PEv.move (.tmp rfl)) rfl rfl rfl ?_
     refine LW.yes rfl rfl rfl rfl rfl rfl ?_
     refine LW.p (PEv.move (.tmp rfl)) rfl rfl rfl ?_
     refine LW.yes rfl rfl rfl rfl rfl rfl ?_
     refine LW.p (PEv.move (.tmp rfl)) rfl rfl rfl ?_
     refine LW.yes rfl rfl rfl rfl rfl rfl ?_
     refine LW.p (PEv.bytesStr0 Try.underlying40 Try.underlying5 Try.underlying9 (.tmp rfl) (hS.blk 1 rfl) hvn) rfl rfl rfl ?_
     refine LW.yes rfl rfl rfl rfl rfl rfl ?_
     refine LW.p (PEv.fa (PEv.neqStr (.tmp rfl) (.tmp rfl)) (neq_self rfl)) rfl rfl rfl ?_
     refine LW.p (PEv.pick_or (.tmp rfl) (fun hp => (by first | exact .const _ | exact .tmp rfl | exact .cond rfl (by first | assumption | simp_all)))) rfl rfl rfl ?_
     refine LW.nil (KW.then ?_)
     refine CW.cond_false (.tmp rfl) ?_
     refine CW.skip (KW.inBlock (KW.then (CW.region (LW.p (PEv.move (.tmp rfl)) rfl rfl rfl ?_))))
     refine LW.p (PEv.inc (.tmp rfl) (by omega)) rfl rfl rfl ?_
     refine LW.p (PEv.assign (.tmp rfl)) rfl rfl rfl (LW.nil (KW.round ?_))
     exact ⟨(k + 1, _, _), ⟨⟨by omega, by omega⟩, hz, hS.take 2⟩, ⟨rfl, rfl, rfl, rfl, rfl, rfl, trivial⟩, by first | omega | (dsimp only; omega)⟩
   ·first | replace h33 := of_decide_eq_true h33 | replace h33 := of_decide_eq_false h33 | skip
    refine CW.exit (KW.then_exit (KW.then_exit (KW.block_hit (KW.then (CW.seq (CW.region (LW.p (PEv.move (.tmp rfl)) rfl rfl rfl (LW.p (PEv.assign (.tmp rfl)) rfl rfl rfl (LW.nil (KW.then (CW.ret ?_)))))))))))
    refine KW.ret1 rfl rfl ⟨_, rfl, ?_⟩
    exact ⟨rfl, hS.upd⟩

end Go.Proofs.Ytkpkljbmbmjadaa
