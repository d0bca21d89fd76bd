import Derived.Test.YtmimclgihlhaeaaGreatKR721
section
namespace Go.Wx
def N5 (gs : List Fact) (x : Exc) (p : Fact) : Bool := Dj x p && (Vu x.frm x.to x.err p || (Ir gs x).any fun g => Vu g.Time g.Until x.err p)
theorem vH (gs : List Fact) (x : Exc) (p : Fact) : (N5 gs x p || (Dj x p && Dk x p)) = (Dj x p && Ov gs x p) := by
 unfold N5 Ov
 cases Dj x p <;> cases Dk x p <;> simp
theorem Yr {gs : List Fact} {x : Exc} {q : Fact → Bool} : (Ir gs x).any q = gs.any fun g => Dj x g && q g := by
 unfold Ir
 rw [List.any_filter]
theorem nW (ks : List Int) (n : Int) (k : Nat) : Bo ks n k = (ks.take k ++ [n]) ++ ks.drop k := by unfold Bo; simp
theorem iU {L : List VP} {k : Nat} {p : VP} (h : L[k]? = some p) (ht : p.vd.t = 1) : Ga (L.take (k + 1)) = Ga (L.take k) ++ [p.vd.w] := by
 unfold Ga
 rw [List.take_add_one, h, List.filter_append, List.map_append]
 simp [A3, ht]
theorem nX {L : List VP} {k : Nat} {p : VP} (h : L[k]? = some p) (ht : ¬ p.vd.t = 1) : Ga (L.take (k + 1)) = Ga (L.take k) := by
 unfold Ga
 rw [List.take_add_one, h, List.filter_append, List.map_append]
 simp [A3, ht]
theorem Uc (L : List VP) (k : Nat) : (Ga (L.take k)).length ≤ k := by
 unfold Ga
 rw [List.length_map]
 exact Nat.le_trans (List.length_filter_le _ _) (by rw [List.length_take]; omega)
theorem nY {e : TypeId} {v : Go.Value} {ks ks' : List Int} {w w' : World} (he : ks = ks') (ho : OwnS w 0 e 1 Aq v ks) (u : Up w w') : Stp (Al e 1 Aq v ks) (Al e 1 Aq v ks') w w' := by
 subst he
 exact ⟨u.fr _, ho.up u, fun _ h => .inl h⟩
theorem rU {e : TypeId} {v r : Go.Value} {ks ks' : List Int} {w w' : World} (ho : OwnS w' w.heap.size e 1 Aq r ks') (u : Up w w') : Stp (Al e 1 Aq v ks) (Al e 1 Aq r ks') w w' := ⟨u.fr _, ho.mono (Nat.zero_le _), fun i h => .inr (ho.base i h)⟩
theorem AF {l : List Int} {n : Int} (h : ∀ y ∈ l, y ≠ n) : decide (n ∈ l) = false := decide_eq_false fun hm => h n hm rfl
end Go.Wx
namespace Go.Proofs.YtmimclgihlhaeaaGreat
open Go.Proofs.Tryz
open Go.Wx Go.RowKit
theorem Pt (x : Exc) (w : World) : Ret Tryz.prog 19 #[.agg x.cells] w fun r w' => r = .bool (Hi x) ∧ Up w w' := by
 obtain ⟨w0, rfl⟩ : ∃ w0, w0 = w := ⟨_, rfl⟩
 have hS := Sep.start no w0
 refine cS (n := 48) (m := 9) func19 rfl rfl rfl (CW.S (Ah (.C7 (.t rfl)) rfl ?_))
 rintro _ w1 ⟨B1, rfl, NB1⟩
 replace hS := hS.Cj NB1
 refine LW.C (LW.S (CW.region (LW.pp (.fA 0 underlying25 rfl sizeOf3 rfl) (LW.pp (.ld isAgg3 rfl ((hS.blk 0 rfl).Ai rfl)) (LW.pp (.geq (.t rfl) (.const _)) (LW.M rfl (LW.g rfl rfl rfl rfl rfl rfl rfl (fun hc => PEv.fA 0 underlying25 rfl sizeOf3 rfl) (LW.g rfl rfl rfl rfl rfl rfl rfl (fun hc => PEv.load isAgg3 vQ ((hS.blk 0 rfl).Ai rfl)) (LW.g rfl rfl rfl rfl rfl rfl rfl (fun hc => PEv.lss vQ (.const _)) (LW.pp (.Ao (.t rfl) (fun hp => (by exact .cond rfl (by (rw [hp]; rfl))))) (LW.M rfl (LW.g rfl rfl rfl rfl rfl rfl rfl (fun hc => PEv.fA 1 underlying25 rfl sizeOf3 rfl) (LW.g rfl rfl rfl rfl rfl rfl rfl (fun hc => PEv.load isAgg3 vQ ((hS.blk 0 rfl).Ai rfl)) (LW.g rfl rfl rfl rfl rfl rfl rfl (fun hc => PEv.geq vQ (.const _)) (LW.pp (.Ao (.t rfl) (fun hp => (by exact .cond rfl (by (rw [hp]; rfl))))) (LW.M rfl (LW.g rfl rfl rfl rfl rfl rfl rfl (fun hc => PEv.fA 1 underlying25 rfl sizeOf3 rfl) (LW.g rfl rfl rfl rfl rfl rfl rfl (fun hc => PEv.load isAgg3 vQ ((hS.blk 0 rfl).Ai rfl)) (LW.g rfl rfl rfl rfl rfl rfl rfl (fun hc => PEv.lss vQ (.const _)) (LW.pp (.Ao (.t rfl) (fun hp => (by exact .cond rfl (by (rw [hp]; rfl))))) (LW.M rfl (LW.g rfl rfl rfl rfl rfl rfl rfl (fun hc => PEv.fA 2 underlying25 rfl sizeOf3 rfl) (LW.g rfl rfl rfl rfl rfl rfl rfl (fun hc => PEv.load isAgg3 vQ ((hS.blk 0 rfl).Ai rfl)) (LW.g rfl rfl rfl rfl rfl rfl rfl (fun hc => PEv.geq vQ (.const _)) (LW.pp (.Ao (.t rfl) (fun hp => (by exact .cond rfl (by (rw [hp]; rfl))))) (LW.M rfl (LW.g rfl rfl rfl rfl rfl rfl rfl (fun hc => PEv.fA 2 underlying25 rfl sizeOf3 rfl) (LW.g rfl rfl rfl rfl rfl rfl rfl (fun hc => PEv.load isAgg3 vQ ((hS.blk 0 rfl).Ai rfl)) (LW.g rfl rfl rfl rfl rfl rfl rfl (fun hc => PEv.fA 3 underlying25 rfl sizeOf3 rfl) (LW.g rfl rfl rfl rfl rfl rfl rfl (fun hc => PEv.load isAgg3 vQ ((hS.blk 0 rfl).Ai rfl)) (LW.g rfl rfl rfl rfl rfl rfl rfl (fun hc => PEv.leq vQ vQ) (LW.pp (.Ao (.t rfl) (fun hp => (by exact .cond rfl (by (rw [hp]; rfl))))) (LW.M rfl (LW.g rfl rfl rfl rfl rfl rfl rfl (fun hc => PEv.fA 3 underlying25 rfl sizeOf3 rfl) (LW.g rfl rfl rfl rfl rfl rfl rfl (fun hc => PEv.load isAgg3 vQ ((hS.blk 0 rfl).Ai rfl)) (LW.g rfl rfl rfl rfl rfl rfl rfl (fun hc => PEv.leq vQ (.const _)) (LW.pp (.Ao (.t rfl) (fun hp => (by exact .cond rfl (by (rw [hp]; rfl))))) (LW.M rfl (LW.g rfl rfl rfl rfl rfl rfl rfl (fun hc => PEv.fA 4 underlying25 rfl sizeOf3 rfl) (LW.g rfl rfl rfl rfl rfl rfl rfl (fun hc => PEv.load isAgg3 vQ ((hS.blk 0 rfl).Ai rfl)) (LW.g rfl rfl rfl rfl rfl rfl rfl (fun hc => PEv.geq vQ (.const _)) (LW.pp (.Ao (.t rfl) (fun hp => (by exact .cond rfl (by (rw [hp]; rfl))))) (LW.M rfl (LW.g rfl rfl rfl rfl rfl rfl rfl (fun hc => PEv.fA 4 underlying25 rfl sizeOf3 rfl) (LW.g rfl rfl rfl rfl rfl rfl rfl (fun hc => PEv.load isAgg3 vQ ((hS.blk 0 rfl).Ai rfl)) (LW.g rfl rfl rfl rfl rfl rfl rfl (fun hc => PEv.leq vQ (.const _)) (LW.pp (.Ao (.t rfl) (fun hp => (by exact .cond rfl (by (rw [hp]; rfl))))) (LW.A rfl (LW.T (CW.ret (Ae rfl rfl ⟨_, rfl, ?_⟩)))))))))))))))))))))))))))))))))))))))))))))))))))
 exact ⟨congrArg Go.Value.bool (by rw [Bool.eq_iff_iff, Ll]; simp only [Bool.and_eq_true, decide_eq_true_eq]; omega), hS.Ce⟩
theorem bR (x : Exc) (p : Fact) (w : World) (hp : Hf p) (hx : Hi x = true) : Ret Tryz.prog 41 #[.agg x.cells, .agg p.cells] w fun r w' => r = .bool (Dj x p && Dk x p) ∧ Up w w' := by
 have hpt := hp
 unfold Hf at hpt
 have hxi := (Ll x).1 hx
 obtain ⟨w0, rfl⟩ : ∃ w0, w0 = w := ⟨_, rfl⟩
 have hS := Sep.start no w0
 refine cS (n := 37) (m := 9) func41 rfl rfl rfl (CW.S (Ah (.C7 (.t rfl)) rfl ?_))
 rintro _ w1 ⟨B2, rfl, NB2⟩
 replace hS := hS.Cj NB2
 refine Ah (.C7 (.t rfl)) rfl ?_
 rintro _ w2 ⟨B3, rfl, NB3⟩
 replace hS := hS.Cj NB3
 refine LW.C (LW.S (CW.region (LW.pp (.fA 11 underlying36 rfl sizeOf3 rfl) (LW.pp (.ld isAgg3 rfl ((hS.blk 1 rfl).Ai rfl)) (LW.pp (.fA 0 underlying25 rfl sizeOf3 rfl) (LW.pp (.ld isAgg3 rfl ((hS.blk 0 rfl).Ai rfl)) (LW.pp (.eql (.t rfl) (.t rfl)) (LW.M rfl (LW.g rfl rfl rfl rfl rfl rfl rfl (fun hc => PEv.fA 12 underlying36 rfl sizeOf3 rfl) (LW.g rfl rfl rfl rfl rfl rfl rfl (fun hc => PEv.load isAgg3 vQ ((hS.blk 1 rfl).Ai rfl)) (LW.g rfl rfl rfl rfl rfl rfl rfl (fun hc => PEv.fA 1 underlying25 rfl sizeOf3 rfl) (LW.g rfl rfl rfl rfl rfl rfl rfl (fun hc => PEv.load isAgg3 vQ ((hS.blk 0 rfl).Ai rfl)) (LW.g rfl rfl rfl rfl rfl rfl rfl (fun hc => PEv.eql vQ vQ) (LW.pp (.Ao (.t rfl) (fun hp => (by exact .cond rfl (by (rw [hp]; rfl))))) (LW.M rfl (LW.g rfl rfl rfl rfl rfl rfl rfl (fun hc => PEv.fA 5 underlying36 rfl sizeOf3 rfl) (LW.g rfl rfl rfl rfl rfl rfl rfl (fun hc => PEv.load isAgg3 vQ ((hS.blk 1 rfl).Ai rfl)) (LW.g rfl rfl rfl rfl rfl rfl rfl (fun hc => PEv.fA 4 underlying25 rfl sizeOf3 rfl) (LW.g rfl rfl rfl rfl rfl rfl rfl (fun hc => PEv.load isAgg3 vQ ((hS.blk 0 rfl).Ai rfl)) (LW.g rfl rfl rfl rfl rfl rfl rfl (fun hc => PEv.add vQ vQ oQ oQ) (LW.g rfl rfl rfl rfl rfl rfl rfl (fun hc => PEv.fA 3 underlying25 rfl sizeOf3 rfl) (LW.g rfl rfl rfl rfl rfl rfl rfl (fun hc => PEv.load isAgg3 vQ ((hS.blk 0 rfl).Ai rfl)) (LW.g rfl rfl rfl rfl rfl rfl rfl (fun hc => PEv.leq vQ vQ) (LW.pp (.Ao (.t rfl) (fun hp => (by exact .cond rfl (by (rw [hp]; rfl))))) (LW.M rfl (LW.g rfl rfl rfl rfl rfl rfl rfl (fun hc => PEv.fA 6 underlying36 rfl sizeOf3 rfl) (LW.g rfl rfl rfl rfl rfl rfl rfl (fun hc => PEv.load isAgg3 vQ ((hS.blk 1 rfl).Ai rfl)) (LW.g rfl rfl rfl rfl rfl rfl rfl (fun hc => PEv.fA 4 underlying25 rfl sizeOf3 rfl) (LW.g rfl rfl rfl rfl rfl rfl rfl (fun hc => PEv.load isAgg3 vQ ((hS.blk 0 rfl).Ai rfl)) (LW.g rfl rfl rfl rfl rfl rfl rfl (fun hc => PEv.sub vQ vQ oQ oQ) (LW.g rfl rfl rfl rfl rfl rfl rfl (fun hc => PEv.fA 2 underlying25 rfl sizeOf3 rfl) (LW.g rfl rfl rfl rfl rfl rfl rfl (fun hc => PEv.load isAgg3 vQ ((hS.blk 0 rfl).Ai rfl)) (LW.g rfl rfl rfl rfl rfl rfl rfl (fun hc => PEv.geq vQ vQ) (LW.pp (.Ao (.t rfl) (fun hp => (by exact .cond rfl (by (rw [hp]; rfl))))) (LW.A rfl (LW.T (CW.ret (Ae rfl rfl ⟨_, rfl, ?_⟩))))))))))))))))))))))))))))))))))))))
 exact ⟨congrArg Go.Value.bool (by unfold Dj Dk Vu; rw [Bool.eq_iff_iff]; simp only [Bool.and_eq_true, decide_eq_true_eq]; omega), hS.Ce⟩
theorem iV (bc : Array Go.Value) (b : Base) (x : Exc) (p : Fact) (w : World) (hC : BaseC w bc b) (hp : Hf p) (hx : Hi x = true) (hl : b.Gaps.length ≤ 1000000) : Ret Tryz.prog 40 #[.agg bc, .agg x.cells, .agg p.cells] w fun r w' => r = .bool (N5 b.Gaps x p) ∧ Up w w' := by
 have hpt := hp
 unfold Hf at hpt
 have hxi := (Ll x).1 hx
 obtain ⟨w0, rfl⟩ : ∃ w0, w0 = w := ⟨_, rfl⟩
 have hS := Sep.start no w0
 refine cS (n := 83) (m := 9) func40 rfl rfl rfl (CW.S (Ah (.C7 (.t rfl)) rfl ?_))
 rintro _ w1 ⟨B3, rfl, NB3⟩
 replace hS := hS.Cj NB3
 refine Ah (.C7 (.t rfl)) rfl ?_
 rintro _ w2 ⟨B4, rfl, NB4⟩
 replace hS := hS.Cj NB4
 refine Ah (.C7 (.t rfl)) rfl ?_
 rintro _ w3 ⟨B5, rfl, NB5⟩
 replace hS := hS.Cj NB5
 refine LW.C (LW.S (CW.seq ?_))
 obtain ⟨v10, h10, hs10⟩ := hC.at_ (j := 10) cQ
 obtain ⟨adG, cpG, rfl, hEG⟩ := (show Sl w0 v10 19 Fact.cells b.Gaps from hs10)
 refine CW.region (LW.pp (.fA 11 underlying36 rfl sizeOf3 rfl) (LW.pp (.ld isAgg3 rfl ((hS.blk 2 rfl).Ai rfl)) (LW.pp (.fA 0 underlying25 rfl sizeOf3 rfl) (LW.pp (.ld isAgg3 rfl ((hS.blk 1 rfl).Ai rfl)) (LW.pp (.neq (.t rfl) (.t rfl)) (LW.M rfl (LW.g rfl rfl rfl rfl rfl rfl rfl (fun hc => PEv.fA 12 underlying36 rfl sizeOf3 rfl) (LW.g rfl rfl rfl rfl rfl rfl rfl (fun hc => PEv.load isAgg3 vQ ((hS.blk 2 rfl).Ai rfl)) (LW.g rfl rfl rfl rfl rfl rfl rfl (fun hc => PEv.fA 1 underlying25 rfl sizeOf3 rfl) (LW.g rfl rfl rfl rfl rfl rfl rfl (fun hc => PEv.load isAgg3 vQ ((hS.blk 1 rfl).Ai rfl)) (LW.g rfl rfl rfl rfl rfl rfl rfl (fun hc => PEv.neq vQ vQ) (LW.pp (.A7 (.t rfl) (fun hp => (by exact .cond rfl (by (rw [hp]; rfl))))) (LW.T (CW.cond (.t rfl) (fun h20 => ?_) (fun h20 => ?_)))))))))))))))
 ·have hh : Dj x p = false := by unfold Dj; rw [Bool.eq_false_iff]; intro e; simp only [Bool.and_eq_true, decide_eq_true_eq] at e; simp [e.1, e.2] at h20
  have hr : N5 b.Gaps x p = false := by unfold N5; rw [hh]; rfl
  refine CW.S (LW.C (LW.T (CW.ret (Af (Ae rfl rfl ⟨_, rfl, ?_⟩)))))
  exact ⟨congrArg Go.Value.bool hr.symm, hS.Ce⟩
 have hh : Dj x p = true := by unfold Dj; simp at h20; simp only [Bool.and_eq_true, decide_eq_true_eq]; omega
 refine CW.skip (KW.then (CW.seq (CW.S (LW.pp (.fA 5 underlying36 rfl sizeOf3 rfl) (LW.pp (.ld isAgg3 rfl ((hS.blk 2 rfl).Ai rfl)) (LW.pp (.fA 4 underlying25 rfl sizeOf3 rfl) (LW.pp (.ld isAgg3 rfl ((hS.blk 1 rfl).Ai rfl)) (LW.pp (.sub (.t rfl) (.t rfl) oQ oQ) (LW.pp (.fA 3 underlying25 rfl sizeOf3 rfl) (LW.pp (.ld isAgg3 rfl ((hS.blk 1 rfl).Ai rfl)) (LW.pp (.leq (.t rfl) (.t rfl)) (LW.M rfl (LW.g rfl rfl rfl rfl rfl rfl rfl (fun hc => PEv.fA 6 underlying36 rfl sizeOf3 rfl) (LW.g rfl rfl rfl rfl rfl rfl rfl (fun hc => PEv.load isAgg3 vQ ((hS.blk 2 rfl).Ai rfl)) (LW.g rfl rfl rfl rfl rfl rfl rfl (fun hc => PEv.fA 4 underlying25 rfl sizeOf3 rfl) (LW.g rfl rfl rfl rfl rfl rfl rfl (fun hc => PEv.load isAgg3 vQ ((hS.blk 1 rfl).Ai rfl)) (LW.g rfl rfl rfl rfl rfl rfl rfl (fun hc => PEv.add vQ vQ oQ oQ) (LW.g rfl rfl rfl rfl rfl rfl rfl (fun hc => PEv.fA 2 underlying25 rfl sizeOf3 rfl) (LW.g rfl rfl rfl rfl rfl rfl rfl (fun hc => PEv.load isAgg3 vQ ((hS.blk 1 rfl).Ai rfl)) (LW.g rfl rfl rfl rfl rfl rfl rfl (fun hc => PEv.geq vQ vQ) (LW.pp (.Ao (.t rfl) (fun hp => (by exact .cond rfl (by (rw [hp]; rfl))))) (LW.T (CW.cond (.t rfl) (fun h38 => ?_) (fun h38 => ?_))))))))))))))))))))))))
 ·have hm : Vu x.frm x.to x.err p = true := by unfold Vu; rw [← h38]
  have hr : N5 b.Gaps x p = true := by unfold N5; rw [hh, hm]; rfl
  refine CW.S (LW.C (LW.T (CW.ret (Af (Ae rfl rfl ⟨_, rfl, ?_⟩)))))
  exact ⟨congrArg Go.Value.bool hr.symm, hS.Ce⟩
 have hm : Vu x.frm x.to x.err p = false := by unfold Vu; rw [← h38]
 refine CW.skip (KW.then (CW.seq (CW.S (LW.C (LW.T (CW.block (Am (σ := Nat) (fun s w => (s ≤ b.Gaps.length) ∧ (((b.Gaps.take s).any fun g => Dj x g && Vu g.Time g.Until x.err p) = false) ∧ (Wx.Sep no w0 w [Ck B3 bc 38, Ck B4 x.cells 25, Ck B5 p.cells 36])) (fun s => [(7, .eq (vi (s : Int)))]) ([(3, .eq _), (4, .eq _), (5, .eq _)]) (fun s => b.Gaps.length - s) 0 ?_ ⟨rfl, rfl, rfl, rfl, trivial⟩ ?_)))))))
 ·exact ⟨Nat.zero_le _, rfl, hS⟩
 rintro k w4 ⟨hk, hn, hS⟩
 refine CW.seq (CW.S (LW.M rfl (LW.pp (.fA 10 underlying38 rfl sizeOf23 rfl) (LW.pp (.ld isAgg23 rfl ((hS.blk 0 rfl).cell h10)) (LW.pp (.Ci underlying23 (.t rfl)) (LW.pp (.lss (.t rfl) (.t rfl)) (LW.T (CW.cond (.t rfl) (fun h43 => ?_) (fun h43 => ?_)))))))))
 ·replace h43 := dQ h43
  refine CW.skip (KW.then (CW.seq (CW.block (CW.seq ?_))))
  obtain ⟨g, hg⟩ := Ac (xs := b.Gaps) (i := k) oQ
  obtain ⟨Bg, og, ag, hcg⟩ := (Els.up hEG hS.Ce) k g hg
  refine CW.region (LW.pp (.fA 10 underlying38 rfl sizeOf23 rfl) (LW.pp (.ld isAgg23 rfl ((hS.blk 0 rfl).cell h10)) (LW.M rfl (LW.pp (.Aj underlying23 sizeOf36 (j := k) (.t rfl) (.t rfl) oQ ag) (LW.pp (.la isAgg36 sizeOf36 rfl (hcg)) (Ah (.Az zeroValue36) rfl ?_))))))
  rintro _ w5 ⟨B8, rfl, MB8⟩
  refine LW.E (.Ay sizeOf36 rfl (.t rfl) (.t rfl) (Fact.one _) MB8.blk rfl) ?_
  intro w6 LB8
  have NB8 := MB8.set LB8
  clear LB8 MB8
  replace hS := hS.Cj NB8
  refine LW.S (CW.region (LW.pp (.fA 11 underlying36 rfl sizeOf3 rfl) (LW.pp (.ld isAgg3 rfl ((hS.blk 3 rfl).Ai rfl)) (LW.pp (.fA 0 underlying25 rfl sizeOf3 rfl) (LW.pp (.ld isAgg3 rfl ((hS.blk 1 rfl).Ai rfl)) (LW.pp (.eql (.t rfl) (.t rfl)) (LW.M rfl (LW.g rfl rfl rfl rfl rfl rfl rfl (fun hc => PEv.fA 12 underlying36 rfl sizeOf3 rfl) (LW.g rfl rfl rfl rfl rfl rfl rfl (fun hc => PEv.load isAgg3 vQ ((hS.blk 3 rfl).Ai rfl)) (LW.g rfl rfl rfl rfl rfl rfl rfl (fun hc => PEv.fA 1 underlying25 rfl sizeOf3 rfl) (LW.g rfl rfl rfl rfl rfl rfl rfl (fun hc => PEv.load isAgg3 vQ ((hS.blk 1 rfl).Ai rfl)) (LW.g rfl rfl rfl rfl rfl rfl rfl (fun hc => PEv.eql vQ vQ) (LW.pp (.Ao (.t rfl) (fun hp => (by exact .cond rfl (by (rw [hp]; rfl))))) (LW.M rfl (LW.g rfl rfl rfl rfl rfl rfl rfl (fun hc => PEv.fA 5 underlying36 rfl sizeOf3 rfl) (LW.g rfl rfl rfl rfl rfl rfl rfl (fun hc => PEv.load isAgg3 vQ ((hS.blk 2 rfl).Ai rfl)) (LW.g rfl rfl rfl rfl rfl rfl rfl (fun hc => PEv.fA 4 underlying25 rfl sizeOf3 rfl) (LW.g rfl rfl rfl rfl rfl rfl rfl (fun hc => PEv.load isAgg3 vQ ((hS.blk 1 rfl).Ai rfl)) (LW.g rfl rfl rfl rfl rfl rfl rfl (fun hc => PEv.sub vQ vQ oQ oQ) (LW.g rfl rfl rfl rfl rfl rfl rfl (fun hc => PEv.fA 6 underlying36 rfl sizeOf3 rfl) (LW.g rfl rfl rfl rfl rfl rfl rfl (fun hc => PEv.load isAgg3 vQ ((hS.blk 3 rfl).Ai rfl)) (LW.g rfl rfl rfl rfl rfl rfl rfl (fun hc => PEv.leq vQ vQ) (LW.pp (.Ao (.t rfl) (fun hp => (by exact .cond rfl (by (rw [hp]; rfl))))) (LW.M rfl (LW.g rfl rfl rfl rfl rfl rfl rfl (fun hc => PEv.fA 6 underlying36 rfl sizeOf3 rfl) (LW.g rfl rfl rfl rfl rfl rfl rfl (fun hc => PEv.load isAgg3 vQ ((hS.blk 2 rfl).Ai rfl)) (LW.g rfl rfl rfl rfl rfl rfl rfl (fun hc => PEv.fA 4 underlying25 rfl sizeOf3 rfl) (LW.g rfl rfl rfl rfl rfl rfl rfl (fun hc => PEv.load isAgg3 vQ ((hS.blk 1 rfl).Ai rfl)) (LW.g rfl rfl rfl rfl rfl rfl rfl (fun hc => PEv.add vQ vQ oQ oQ) (LW.g rfl rfl rfl rfl rfl rfl rfl (fun hc => PEv.fA 5 underlying36 rfl sizeOf3 rfl) (LW.g rfl rfl rfl rfl rfl rfl rfl (fun hc => PEv.load isAgg3 vQ ((hS.blk 3 rfl).Ai rfl)) (LW.g rfl rfl rfl rfl rfl rfl rfl (fun hc => PEv.geq vQ vQ) (LW.pp (.Ao (.t rfl) (fun hp => (by exact .cond rfl (by (rw [hp]; rfl))))) (LW.T (CW.cond (.t rfl) (fun h82 => ?_) (fun h82 => ?_))))))))))))))))))))))))))))))))))))
  ·replace h82 := dQ h82
   have hg2 : (Dj x g && Vu g.Time g.Until x.err p) = true := by unfold Dj Vu; simp only [Bool.and_eq_true, decide_eq_true_eq] at h82 ⊢; omega
   have hr : N5 b.Gaps x p = true := by unfold N5; rw [hh, Yr, List.any_eq_true.2 ⟨g, List.mem_of_getElem? hg, hg2⟩]; simp
   refine CW.S (LW.C (LW.T (CW.ret (An (Af (Af (An (Af (Ae rfl rfl ⟨_, rfl, ?_⟩)))))))))
   exact ⟨congrArg Go.Value.bool hr.symm, hS.Ce⟩
  replace h82 := dQ h82
  have hg2 : (Dj x g && Vu g.Time g.Until x.err p) = false := by rw [Bool.eq_false_iff]; intro e; rw [Bool.eq_false_iff] at h82; apply h82; unfold Dj Vu at e; simp only [Bool.and_eq_true, decide_eq_true_eq] at e ⊢; omega
  refine CW.skip (KW.inBlock (KW.then (CW.region (LW.M rfl (LW.pp (.inc (.t rfl) oQ) (LW.A rfl (LW.nil (KW.round ?_))))))))
  exact ⟨k + 1, ⟨by omega, by rw [I0 _ hg, hn, hg2]; rfl, hS.take 3⟩, ⟨rfl, rfl, rfl, rfl, trivial⟩, by omega⟩
 replace h43 := dQ h43
 have hr : N5 b.Gaps x p = false := by unfold N5; rw [hh, hm, Yr]; rw [show k = b.Gaps.length by omega, List.take_length] at hn; rw [hn]; rfl
 refine CW.exit (Aa (Aa (Ad (KW.then (CW.S (LW.C (LW.T (CW.ret (Ae rfl rfl ⟨_, rfl, ?_⟩)))))))))
 exact ⟨congrArg Go.Value.bool hr.symm, hS.Ce⟩
theorem eK (ad : Option Addr) (cp : Nat) (l : List Int) (n : Int) (w : World) (hE0 : Els w ad 1 Aq l) (hl : l.length ≤ 1000000000) : Ret Tryz.prog 56 #[.slice ad l.length cp, vi n] w fun r w' => r = .bool (decide (n ∈ l)) ∧ Up w w' := by
 have hW := Up.refl w
 obtain ⟨w0, rfl⟩ : ∃ w0, w0 = w := ⟨_, rfl⟩
 refine cS (n := 18) (m := 9) func56 rfl rfl rfl (CW.S (LW.C (LW.S (CW.S (LW.C (LW.T (CW.block (Am (σ := Nat) (fun s w => (s ≤ l.length) ∧ (∀ y ∈ l.take s, y ≠ n) ∧ (Up w0 w)) (fun s => [(5, .eq (vi (s : Int)))]) ([(0, .eq _), (1, .eq _)]) (fun s => l.length - s) 0 ?_ ⟨rfl, rfl, rfl, trivial⟩ ?_))))))))
 ·exact ⟨Nat.zero_le _, by simp, hW⟩
 rintro k w1 ⟨hk, hn, hW⟩
 refine CW.seq (CW.S (LW.M rfl (LW.M rfl (LW.pp (.Ci underlying30 (.t rfl)) (LW.pp (.lss (.t rfl) (.t rfl)) (LW.T (CW.cond (.t rfl) (fun h9 => ?_) (fun h9 => ?_))))))))
 ·replace h9 := dQ h9
  refine CW.skip (KW.then (CW.seq (CW.block (CW.seq ?_))))
  have hE := Els.up hE0 hW
  refine CW.region (LW.M rfl (LW.M rfl ?_))
  obtain ⟨x, hx⟩ := Ac (xs := l) (i := k) oQ
  obtain ⟨Bx, ox, ax, hcx⟩ := hE _ x hx
  refine LW.pp (.Aj underlying30 sizeOf3 (.t rfl) (.t rfl) oQ ax) (LW.pp (.ld isAgg3 rfl (hcx.nth (j := 0) rfl)) (LW.M rfl (LW.pp (.eql (.t rfl) (.t rfl)) (LW.T (CW.cond (.t rfl) (fun h17 => ?_) (fun h17 => ?_))))))
  ·replace h17 := dQ h17
   refine CW.S (LW.C (LW.T (CW.ret (An (Af (Af (An (Af (Ae rfl rfl ⟨_, rfl, ?_⟩)))))))))
   exact ⟨congrArg Go.Value.bool (decide_eq_true (h17 ▸ List.mem_of_getElem? hx)).symm, hW⟩
  replace h17 := dQ h17
  refine CW.skip (KW.inBlock (KW.then (CW.region (LW.M rfl (LW.pp (.inc (.t rfl) oQ) (LW.A rfl (LW.nil (KW.round ?_))))))))
  exact ⟨k + 1, ⟨by omega, fun y hy => by rw [Ar hx, List.mem_append, List.mem_singleton] at hy; rcases hy with h | h; exact hn y h; rw [h]; exact h17, hW⟩, ⟨rfl, rfl, rfl, trivial⟩, by omega⟩
 replace h9 := dQ h9
 refine CW.exit (Aa (Aa (Ad (KW.then (CW.S (LW.C (LW.T (CW.ret (Ae rfl rfl ⟨_, rfl, ?_⟩)))))))))
 exact ⟨congrArg Go.Value.bool (AF (by rw [show k = l.length by omega, List.take_length] at hn; exact hn)).symm, hW⟩
theorem iW (ad : Option Addr) (cp : Nat) (L : List VP) (w : World) (hE0 : Els w ad 3 VP.cells L) (hl : L.length ≤ 100000) : Ret Tryz.prog 23 #[.slice ad L.length cp] w fun r w' => OwnS w' w.heap.size 3 1 Aq r (Ga L) ∧ Up w w' := by
 obtain ⟨w0, rfl⟩ : ∃ w0, w0 = w := ⟨_, rfl⟩
 have hS := Sep.start no w0
 refine cS (n := 26) (m := 9) func23 rfl rfl rfl (CW.S (LW.C (LW.S (CW.region (LW.C (LW.S (CW.seq ?_)))))))
 replace hS := hS.J9 (OwnS.nil _ 0 3 1 Aq)
 refine CW.region (LW.C (LW.T (CW.block (Am (σ := Nat × Go.Value) (fun s w => (s.1 ≤ L.length) ∧ (Wx.Sep no w0 w [Al 3 1 Aq s.2 (Ga (L.take s.1))])) (fun s => [(4, .eq (vi (s.1 : Int))), (3, .eq (s.2))]) ([(0, .eq _), (2, .eq _)]) (fun s => L.length - s.1) (0, .slice none 0 0) ?_ ⟨rfl, rfl, rfl, rfl, trivial⟩ ?_))))
 ·exact ⟨Nat.zero_le _, hS⟩
 rintro ⟨k, v⟩ w1 ⟨hk, hS⟩
 change CW _ _ _ _ _ _ _ ([(4, .eq (vi (k : Int))), (3, .eq (v))] ++ _) _
 refine CW.seq (CW.S (LW.M rfl (LW.M rfl (LW.pp (.Ci underlying27 (.t rfl)) (LW.pp (.lss (.t rfl) (.t rfl)) (LW.T (CW.cond (.t rfl) (fun h8 => ?_) (fun h8 => ?_))))))))
 ·replace h8 := dQ h8
  refine CW.skip (KW.then (CW.seq (CW.block (CW.seq ?_))))
  obtain ⟨p, hp⟩ := Ac (xs := L) (i := k) oQ
  obtain ⟨Bp, op_, ap, hcp⟩ := (Els.up hE0 hS.Ce) k p hp
  have hol := Uc L k
  refine CW.region (LW.M rfl (LW.M rfl (LW.pp (.Aj underlying27 sizeOf32 (j := k) (.t rfl) (.t rfl) oQ ap) (LW.pp (.fA 1 underlying32 rfl sizeOf3 rfl) (LW.pp (.ld isAgg3 rfl (hcp.nth (j := 1) rfl)) (LW.pp (.eql (.t rfl) (.const _)) (LW.T (CW.cond (.t rfl) (fun h16 => ?_) (fun h16 => ?_)))))))))
  ·replace h16 := dQ h16
   refine CW.region (LW.M rfl (LW.M rfl (LW.M rfl (LW.pp (.Aj underlying27 sizeOf32 (j := k) (.t rfl) (.t rfl) oQ ap) (LW.pp (.fA 0 underlying32 rfl sizeOf3 rfl) (LW.pp (.ld isAgg3 rfl (hcp.nth (j := 0) rfl)) (Ah (.buildSlice (xs := [p.vd.w]) (enc := Aq) (mk := vi) underlying30 sizeOf3 zeroValue3 rfl cQ (fun _ => rfl) (fun _ => rfl) (.cons (.t rfl) .nil) rfl) rfl ?_)))))))
   rintro _ w2 ⟨B23, cB23, rfl, NB23, yB23, xB23⟩
   replace hS := hS.up NB23.up
   have hE23 := xB23
   refine Ah (.A8 (enc := Aq) (bytes := 8) (i := Tryz.t3) underlying30 kQ rfl rfl rfl rfl cQ (fun _ => rfl) Ev (.t rfl) (.t rfl) (hS.own 0 rfl) (Ak hE23) (by simp only [maxLen, List.length_cons, List.length_nil]; omega) (by simp only [List.length_cons, List.length_nil]; omega)) rfl ?_
   intro v24 w3 Gw3
   replace hS := hS.Dh 0 rfl Gw3
   refine LW.A rfl (LW.nil (KW.inBlock (KW.then (CW.region (LW.M rfl (LW.pp (.inc (.t rfl) oQ) (LW.A rfl (LW.nil (KW.round ?_)))))))))
   exact ⟨(k + 1, v24), ⟨by show k + 1 ≤ _; omega, by (rw [iU hp h16]; exact hS.take 1)⟩, ⟨rfl, rfl, rfl, rfl, trivial⟩, by show L.length - (k + 1) < L.length - k; omega⟩
  replace h16 := dQ h16
  refine CW.skip (KW.inBlock (KW.then (CW.region (LW.M rfl (LW.pp (.inc (.t rfl) oQ) (LW.A rfl (LW.nil (KW.round ?_))))))))
  exact ⟨(k + 1, v), ⟨by show k + 1 ≤ _; omega, by (rw [nX hp h16]; exact hS.take 1)⟩, ⟨rfl, rfl, rfl, rfl, trivial⟩, by show L.length - (k + 1) < L.length - k; omega⟩
 replace h8 := dQ h8
 refine CW.exit (Aa (Aa (Ad (KW.then (CW.S (LW.M rfl (LW.A rfl (LW.T (CW.ret (Ae rfl rfl ⟨_, rfl, ?_⟩))))))))))
 rw [show k = L.length by omega, List.take_length] at hS
 exact ⟨(hS.own 0 rfl).Vb (fun i hi => (hS.foot 0 rfl i hi).resolve_left fun h => h), hS.Ce⟩
theorem N6 (ad : Option Addr) (cp : Nat) (ks : List Int) (n : Int) (w : World) (ho : OwnS w 0 3 1 Aq (.slice ad ks.length cp) ks) (hks : ks.length ≤ 10000000) (hlt : ks.Pairwise (· < ·)) : Ret Tryz.prog 43 #[.slice ad ks.length cp, vi n] w fun r w' => Stp (Al 3 1 Aq (.slice ad ks.length cp) ks) (Al 3 1 Aq r (Cc (Dy ks n))) w w' := by
 have hW := Up.refl w
 have hE : Els w ad 1 Aq ks := Ed ho (fun _ => rfl)
 have hcp := No ho
 obtain ⟨w0, rfl⟩ : ∃ w0, w0 = w := ⟨_, rfl⟩
 refine cS (n := 44) (m := 9) func43 rfl rfl rfl (CW.S (LW.C (LW.S (CW.region (LW.C (LW.S (CW.block (Am (σ := Nat) (fun s w => (s ≤ ks.length) ∧ (∀ y ∈ ks.take s, y < n) ∧ (Up w0 w)) (fun s => [(5, .eq (vi (s : Int)))]) ([(0, .eq _), (1, .eq _), (4, .eq _)]) (fun s => ks.length - s) 0 ?_ ⟨rfl, rfl, rfl, rfl, trivial⟩ ?_))))))))
 ·exact ⟨Nat.zero_le _, (fun y hy => by cases hy), hW⟩
 rintro k w1 ⟨hk, hlo, hW⟩
 refine CW.seq (CW.seq ?_)
 obtain ⟨u, Bu, ou, hau⟩ := eJ (Els.up hE hW) k
 refine CW.region (LW.M rfl (LW.M rfl (LW.pp (.Ci underlying30 (.t rfl)) (LW.pp (.lss (.t rfl) (.t rfl)) (LW.M rfl (LW.g rfl rfl rfl rfl rfl rfl rfl (fun hc => PEv.move (.t rfl)) (LW.g rfl rfl rfl rfl rfl rfl rfl (fun hc => PEv.move (.t rfl)) (LW.g rfl rfl rfl rfl rfl rfl rfl (fun hc => PEv.Aj underlying30 sizeOf3 vQ vQ (by have h0 := (show k < ks.length by simp at hc; omega); omega) (hau (show k < ks.length by simp at hc; omega)).2.1) (LW.g rfl rfl rfl rfl rfl rfl rfl (fun hc => PEv.load isAgg3 vQ (((hau (show k < ks.length by simp at hc; omega)).2.2).nth (j := 0) rfl)) (LW.g rfl rfl rfl rfl rfl rfl rfl (fun hc => PEv.move (.t rfl)) (LW.g rfl rfl rfl rfl rfl rfl rfl (fun hc => PEv.lss vQ vQ) (LW.pp (.Ao (.t rfl) (fun hp => (by exact .cond rfl (by (rw [hp]; rfl))))) (LW.T (CW.cond (.t rfl) (fun h17 => ?_) (fun h17 => ?_)))))))))))))))
 ·have h18k : k < ks.length ∧ u < n := by simp only [Bool.and_eq_true, decide_eq_true_eq] at h17; omega
  have hu := (hau h18k.1).1
  refine CW.skip (KW.then (CW.block (CW.region (LW.M rfl (LW.pp (.inc (.t rfl) oQ) (LW.A rfl (LW.nil (KW.inBlock (KW.round ?_)))))))))
  exact ⟨k + 1, ⟨by omega, (fun y hy => by rw [Ar hu, List.mem_append, List.mem_singleton] at hy; exact hy.elim (hlo y) (fun e => by rw [e]; exact h18k.2)), hW⟩, ⟨rfl, rfl, rfl, rfl, trivial⟩, by omega⟩
 have h18k : k < ks.length → ¬ u < n := fun h h2 => by rw [decide_eq_true (show (k : Int) < (ks.length : Int) by omega), decide_eq_true h2] at h17; cases h17
 refine CW.exit (Aa (Aa (Ad (KW.then (CW.seq (CW.S (LW.M rfl (LW.M rfl (LW.pp (.Ci underlying30 (.t rfl)) (LW.pp (.lss (.t rfl) (.t rfl)) (LW.M rfl (LW.g rfl rfl rfl rfl rfl rfl rfl (fun hc => PEv.move (.t rfl)) (LW.g rfl rfl rfl rfl rfl rfl rfl (fun hc => PEv.move (.t rfl)) (LW.g rfl rfl rfl rfl rfl rfl rfl (fun hc => PEv.Aj underlying30 sizeOf3 vQ vQ (by have h0 := (show k < ks.length by simp at hc; omega); omega) (hau (show k < ks.length by simp at hc; omega)).2.1) (LW.g rfl rfl rfl rfl rfl rfl rfl (fun hc => PEv.load isAgg3 vQ (((hau (show k < ks.length by simp at hc; omega)).2.2).nth (j := 0) rfl)) (LW.g rfl rfl rfl rfl rfl rfl rfl (fun hc => PEv.move (.t rfl)) (LW.g rfl rfl rfl rfl rfl rfl rfl (fun hc => PEv.eql vQ vQ) (LW.pp (.Ao (.t rfl) (fun hp => (by exact .cond rfl (by (rw [hp]; rfl))))) (LW.T (CW.cond (.t rfl) (fun h31 => ?_) (fun h31 => ?_)))))))))))))))))))))
 ·have h32k : k < ks.length ∧ u = n := by simp only [Bool.and_eq_true, decide_eq_true_eq] at h31; omega
  have hu := (hau h32k.1).1
  refine CW.S (LW.M rfl (LW.A rfl (LW.T (CW.ret (Af (Ae rfl rfl ⟨_, rfl, ?_⟩))))))
  exact nY (Ub hlt (List.mem_of_getElem? (h32k.2 ▸ hu))) ho hW
 have hk2 : k < ks.length → ∃ u, ks[k]? = some u ∧ n < u := fun h => ⟨u, (hau h).1, by
  have h2 : ¬ u = n := fun e => by rw [decide_eq_true (show (k : Int) < (ks.length : Int) by omega), decide_eq_true e] at h31; cases h31
  have := h18k h
  omega⟩
 refine CW.skip (KW.then (CW.seq ?_))
 have hdg := eI hlt hk2
 have zw_ := hW.size
 refine Fl 11 [.eq (.slice ad ks.length cp), .eq (vi (k : Int)), .eq (vi (k : Int)), .eq (.slice ad (ks.take k).length (ks.take k).length), .eq (vi n), .pred fun v W => ∃ B, v = .slice (some ⟨B, 0, none⟩) [n].length [n].length ∧ Els W (some ⟨B, 0, none⟩) 1 Aq [n], .eq (.slice ad ks.length cp), .eq (vi (k : Int)), .eq (.slice (if cp = k then ad else ad.map (·.add (k * 1))) (ks.length - k) (cp - k)), .pred fun v W => Sl W v 1 Aq ([n] ++ (ks.drop k)), .pred fun v W => OwnS W w1.drew.heap.size 3 1 Aq v (Bo ks n k)] [43] kQ rfl kQ kQ kQ kQ kQ kQ kQ ⟨PhU.eq _, PhU.eq _, PhU.eq _, PhU.eq _, PhU.eq _, PhU.pred fun _ _ _ h u => let ⟨B, e, hE⟩ := h; ⟨B, e, hE.up u⟩, PhU.eq _, PhU.eq _, PhU.eq _, PhU.pred fun _ _ _ h u => Sl.up h u, PhU.pred fun _ _ _ h u => OwnS.up h u, trivial⟩ ?_ ?_
 ·intro W hU0
  have hU := (Up.drew w1).trans hU0
  have hEW := Els.up hE (hW.trans hU)
  have zU0 := hU0.size
  have hlk : (ks.take k).length = k := by rw [List.length_take]; omega
  refine aC ⟨rfl, TU.p (.move (.t rfl)) rfl⟩ (aC ⟨rfl, TU.p (.move (.t rfl)) rfl⟩ (aC ⟨rfl, TU.p (.move (.t rfl)) rfl⟩ (aC ⟨rfl, TU.p (.val (v' := .slice ad (ks.take k).length (ks.take k).length) (Mq underlying30 sizeOf3 (.t rfl) (.t rfl) (.t rfl) oQ) (by rw [hlk])) rfl⟩ (aC ⟨rfl, TU.p (.move (.t rfl)) rfl⟩ (aC ⟨rfl, TU.r (REv.buildSlice (xs := [n]) (enc := Aq) (mk := vi) underlying30 sizeOf3 zeroValue3 rfl (Nat.le_of_ble_eq_true rfl) (fun _ => rfl) (fun _ => rfl) (.cons (.t rfl) .nil) rfl) (fun v W' h => let ⟨B, cs, e, N, _, hE1⟩ := h; ⟨N.up, B, e, hE1⟩)⟩ (aC ⟨rfl, TU.p (.move (.t rfl)) rfl⟩ (aC ⟨rfl, TU.p (.move (.t rfl)) rfl⟩ (aC ⟨rfl, TU.p (.sliceFrom underlying30 sizeOf3 (.t rfl) (.t rfl) oQ) rfl⟩ (aC ⟨rfl, TU.open (d := 38) rfl fun v hv => by obtain ⟨B, rfl, hE5⟩ := hv; exact TU.r (F9 (enc := Aq) (k := 1) (bytes := 8) (i := Tryz.t3) (xs := [n]) (ys := (ks.drop k)) underlying30 kQ rfl rfl rfl rfl cQ (fun _ => rfl) (.t rfl) (.t rfl) hE5 (Els.drop hEW hcp) (by simp [maxLen]; omega) (by simp; omega)) (fun _ _ h => ⟨h.1, h.2.1⟩)⟩ (aC ⟨rfl, TU.open (d := 42) rfl fun v hv => TU.r (F9 (enc := Aq) (k := 1) (bytes := 8) (i := Tryz.t3) (xs := (ks.take k)) (ys := ([n] ++ (ks.drop k))) underlying30 kQ rfl rfl rfl rfl cQ (fun _ => rfl) (.t rfl) (.t rfl) (Els.take hEW) hv (by simp [maxLen]; omega) (by simp; omega)) (fun _ _ h => ⟨h.1, (h.2.2 (by simp)).mono zU0⟩)⟩ ?_))))))))))
  exact allL.nil
 intro w2 g hU0 hg
 have hU := (Up.drew w1).trans hU0
 replace hW := hW.up hU
 have hO : OwnS w2 w1.drew.heap.size 3 1 Aq (g 43) (Bo ks n k) := hg 10 _ 43 cQ rfl rfl
 replace hO := hO.mono (show w0.heap.size ≤ w1.drew.heap.size from zw_)
 refine LW.A rfl (LW.T (CW.ret (Ae rfl rfl ⟨_, rfl, ?_⟩)))
 exact (by rw [← eH hlt hlo hdg, ← nW]; exact rU hO hW)
end Go.Proofs.YtmimclgihlhaeaaGreat
end
section
namespace Go.Wx
def DD (w : World) (v : Go.Value) (Lv : List Vd) : Prop := ∃ ad cp L, v = .slice ad L.length cp ∧ L.map VP.vd = Lv ∧ Els w ad 3 VP.cells L ∧ ∀ p ∈ L, Sl w p.uv 1 Aq p.vd.why
theorem eM {α : Type} {l : List α} {k : Nat} {x : α} (h : l[k]? = some x) : l.drop k = x :: l.drop (k + 1) := by
 obtain ⟨h1, h2⟩ := List.getElem?_eq_some_iff.1 h
 rw [List.drop_eq_getElem_cons h1, h2]
theorem rV (ss gs : List Fact) (x : Exc) (w : Int) (l : List Fact) : (Pr ss gs x w l).length ≤ l.length := by
 refine Fc (p := fun l => (Pr ss gs x w l).length ≤ l.length) (Nat.le_refl _) (fun l p h => ?_) l
 rw [K4, List.length_append]
 split
 · exact Nat.le_trans (Rv _ _ _) (Nat.succ_le_succ h)
 exact Nat.le_succ_of_le h
theorem rW {b : Base} {x : Exc} {v : Vd} (h : v ∈ K1 b x) : v.why.length ≤ b.Processes.length := by
 unfold K1 at h
 split at h
 · obtain ⟨w, _, rfl⟩ := List.mem_map.1 h
   show (Cc (Cn (lookW _ _)).2).length ≤ _
   rw [Co, T8]
   exact Nat.le_trans (Nx _) (rV _ _ _ _ _)
 cases h
def WhyS (w : World) (L : List VP) : Prop := ∀ p ∈ L, Sl w p.uv 1 Aq p.vd.why
theorem WhyS.up {w w' : World} {L : List VP} (h : WhyS w L) (u : Up w w') : WhyS w' L := fun p hp => Sl.up (h p hp) u
end Go.Wx
namespace Go.Proofs.YtmimclgihlhaeaaGreat
open Go.Proofs.Tryz
open Go.Wx Go.RowKit
end Go.Proofs.YtmimclgihlhaeaaGreat
end
section
namespace Go.Wx
def sA (X : List Ar2) : List Ar2 := X.mergeSort R4
theorem bS {X : List Ar2} {g : Ar2} : g ∈ sA X ↔ g ∈ X := (List.mergeSort_perm X _).mem_iff
theorem nZ (X : List Ar2) : (sA X).length = X.length := List.length_mergeSort _
theorem oA {X : List Ar2} (h : X.Nodup) : (sA X).Pairwise Jk := by
 have h1 : (sA X).Pairwise fun x y => R4 x y = true := List.pairwise_mergeSort Lo Lp X
 have h2 : (sA X).Pairwise (· ≠ ·) := ((List.mergeSort_perm X _).nodup_iff).2 h
 refine (h1.and h2).imp fun {a b} h => ?_
 have h3 := (Is a b).1 h.1
 by_cases e : Jk a b
 · exact e
 exact absurd (Ny e h3) h.2
theorem oB {A B : List Ar2} (hA : A.Pairwise Jk) (hB : B.Pairwise Jk) (h : ∀ k, k ∈ A ↔ k ∈ B) : A = B := by
 have nd : ∀ {C : List Ar2}, C.Pairwise Jk → C.Nodup := fun h => h.imp fun {a b} h e => by subst e; exact Vg _ h
 exact List.Perm.eq_of_pairwise (le := Jk) (fun x y _ _ h1 h2 => absurd (Ln h1 h2) (Vg x)) hA hB ((List.perm_ext_iff_of_nodup (nd hA) (nd hB)).2 h)
theorem eN {X : List Ar2} (hX : X.Nodup) {g : Ar2} {k : Nat} (h1 : ∀ y ∈ (sA X).take k, Jk y g) (h2 : ∀ y ∈ (sA X).drop k, Jk g y) : Bo (sA X) g k = sA (Ic X g) := by
 have hp := oA hX
 refine oB ?_ (oA (My hX)) fun j => ?_
 · unfold Bo
   refine List.pairwise_append.2 ⟨hp.sublist (List.take_sublist _ _), List.pairwise_cons.2 ⟨h2, hp.sublist (List.drop_sublist _ _)⟩, fun a ha b hb => ?_⟩
   have := h1 a ha
   rcases List.mem_cons.1 hb with rfl | hb
   · exact this
   exact Ln this (h2 b hb)
 unfold Bo
 rw [bS, Nz, List.mem_append, List.mem_cons, ← bS (X := X)]
 have e : j ∈ sA X ↔ j ∈ (sA X).take k ∨ j ∈ (sA X).drop k := by rw [← List.mem_append, List.take_append_drop]
 rw [e]
 constructor
 · rintro (h | h | h)
   · exact .inl (.inl h)
   · exact .inr h
   exact .inl (.inr h)
 rintro ((h | h) | h)
 · exact .inl h
 · exact .inr (.inr h)
 exact .inr (.inl h)
theorem oC {S : List Ar2} (h : S.Pairwise Jk) {g u : Ar2} {k : Nat} (hu : S[k]? = some u) (h1 : ¬ Jk u g) (h2 : ¬ u = g) : ∀ y ∈ S.drop k, Jk g y := fun y hy => by
 have hgu : Jk g u := by
   by_cases e : Jk g u
   · exact e
   exact absurd (Ny h1 e) h2
 rw [eM hu] at hy
 rcases List.mem_cons.1 hy with rfl | hy
 · exact hgu
 have h3 := h.sublist (List.drop_sublist k S)
 rw [eM hu] at h3
 exact Ln hgu ((List.pairwise_cons.1 h3).1 y hy)
theorem oD {S : List Ar2} {g u : Ar2} {k : Nat} (hu : S[k]? = some u) (h : ∀ y ∈ S.take k, Jk y g) (h1 : Jk u g) : ∀ y ∈ S.take (k + 1), Jk y g := fun y hy => by
 rw [List.take_add_one, hu] at hy
 rcases List.mem_append.1 hy with hy | hy
 · exact h y hy
 rw [List.mem_singleton.1 hy]; exact h1
def Kb (P : List Fact) (why : List Int) (X : List Ar2) : List Ar2 := P.foldl (fun X f => if f.ID ∈ why then Ic X (F3 f) else X) X
def bT (P : List Fact) (X : List Ar2) (v : Vd) : List Ar2 := if v.t = 1 then Kb P v.why X else X
def jD (P : List Fact) (l : List Vd) : List Ar2 := l.foldl (bT P) []
theorem Sc (P : List Fact) (l : List Vd) (v : Vd) : jD P (l ++ [v]) = bT P (jD P l) v := by
 unfold jD
 rw [List.foldl_append]
 rfl
theorem Vo {P : List Fact} {X : List Ar2} {v : Vd} {j : Nat} {f : Fact} (hf : P[j]? = some f) (h : v.t = 1 ∧ f.ID ∈ v.why) : bT (P.take (j + 1)) X v = Ic (bT (P.take j) X v) (F3 f) := by
 unfold bT Kb
 rw [if_pos h.1, if_pos h.1, List.take_add_one, hf, List.foldl_append]
 show (if f.ID ∈ v.why then _ else _) = _
 rw [if_pos h.2]
theorem vI {P : List Fact} {X : List Ar2} {v : Vd} {j : Nat} {f : Fact} (hf : P[j]? = some f) (h : ¬ (v.t = 1 ∧ f.ID ∈ v.why)) : bT (P.take (j + 1)) X v = bT (P.take j) X v := by
 unfold bT Kb
 split
 · rename_i h1
   rw [List.take_add_one, hf, List.foldl_append]
   show (if f.ID ∈ v.why then _ else _) = _
   rw [if_neg fun h2 => h ⟨h1, h2⟩]
 rfl
theorem AG (P : List Fact) (X : List Ar2) (v : Vd) : bT (P.take 0) X v = X := by
 unfold bT Kb
 split <;> rfl
theorem Ys {P : List Fact} {why : List Int} {X : List Ar2} {g : Ar2} : g ∈ Kb P why X ↔ g ∈ X ∨ ∃ f ∈ P, f.ID ∈ why ∧ F3 f = g := by
 refine Fc (p := fun P => g ∈ Kb P why X ↔ g ∈ X ∨ ∃ f ∈ P, f.ID ∈ why ∧ F3 f = g) (by simp [Kb]) (fun l x h => ?_) P
 have e : Kb (l ++ [x]) why X = if x.ID ∈ why then Ic (Kb l why X) (F3 x) else Kb l why X := by
   unfold Kb; rw [List.foldl_append]; rfl
 have e2 : (∃ f ∈ l ++ [x], f.ID ∈ why ∧ F3 f = g) ↔ (∃ f ∈ l, f.ID ∈ why ∧ F3 f = g) ∨ (x.ID ∈ why ∧ F3 x = g) := by
   simp only [List.mem_append, List.mem_singleton]
   constructor
   · rintro ⟨f, hf | rfl, h2⟩
     · exact .inl ⟨f, hf, h2⟩
     exact .inr h2
   rintro (⟨f, hf, h2⟩ | h2)
   · exact ⟨f, .inl hf, h2⟩
   exact ⟨x, .inr rfl, h2⟩
 rw [e, e2]
 split
 · rename_i hx
   rw [Nz, h, or_assoc]
   exact or_congr Iff.rfl (or_congr Iff.rfl ⟨fun e => ⟨hx, e.symm⟩, fun e => e.2.symm⟩)
 rename_i hx
 rw [h]
 exact or_congr Iff.rfl ⟨.inl, fun h => h.resolve_right fun h => hx h.1⟩
theorem rX {P : List Fact} {l : List Vd} {g : Ar2} : g ∈ jD P l ↔ g ∈ (l.filter fun v => decide (v.t = 1)).flatMap fun v => Fy P v.why := by
 refine Fc (p := fun l => g ∈ jD P l ↔ g ∈ (l.filter fun v => decide (v.t = 1)).flatMap fun v => Fy P v.why) (by simp [jD]) (fun l v h => ?_) l
 rw [Sc, List.filter_append, List.flatMap_append, List.mem_append, ← h]
 unfold bT
 split
 · rename_i ht
   rw [Ys, List.filter_cons, decide_eq_true ht]
   simp [N0]
 rename_i ht
 rw [List.filter_cons, decide_eq_false ht]
 simp
theorem rY {P Q : List Fact} {why : List Int} {X : List Ar2} (hP : ∀ f ∈ P, f ∈ Q) (h : X.Nodup ∧ ∀ g ∈ X, g ∈ Q.map F3) : (Kb P why X).Nodup ∧ ∀ g ∈ Kb P why X, g ∈ Q.map F3 := by
 constructor
 · refine Fc (p := fun P => (Kb P why X).Nodup) h.1 (fun l x h2 => ?_) P
   have e : Kb (l ++ [x]) why X = if x.ID ∈ why then Ic (Kb l why X) (F3 x) else Kb l why X := by
     unfold Kb; rw [List.foldl_append]; rfl
   rw [e]
   split
   · exact My h2
   exact h2
 intro g hg
 rcases Ys.1 hg with hg | ⟨f, hf, _, rfl⟩
 · exact h.2 g hg
 exact List.mem_map.2 ⟨f, hP f hf, rfl⟩
theorem oE {P Q : List Fact} {X : List Ar2} {v : Vd} (hP : ∀ f ∈ P, f ∈ Q) (h : X.Nodup ∧ ∀ g ∈ X, g ∈ Q.map F3) : (bT P X v).Nodup ∧ ∀ g ∈ bT P X v, g ∈ Q.map F3 := by
 unfold bT
 split
 · exact rY hP h
 exact h
theorem bU (P : List Fact) (l : List Vd) : (jD P l).Nodup ∧ ∀ g ∈ jD P l, g ∈ P.map F3 := by
 refine Fc (p := fun l => (jD P l).Nodup ∧ ∀ g ∈ jD P l, g ∈ P.map F3) ⟨List.nodup_nil, fun g h => (by cases h)⟩ (fun l v h => ?_) l
 rw [Sc]
 exact oE (fun _ h => h) h
theorem eO {Q : List Fact} {X : List Ar2} (h : X.Nodup ∧ ∀ g ∈ X, g ∈ Q.map F3) : X.length ≤ Q.length := by
 have := h.1.length_le_of_subset h.2
 rwa [List.length_map] at this
theorem oF (P : List Fact) (l : List Vd) : sA (jD P l) = D0 P (l.filter fun v => decide (v.t = 1)) :=
 R5 (G6 (bU P l).1 (J6 _) fun g => by rw [rX, G8])
def SlA (w : World) (v : Go.Value) (xs : List Ar2) : Prop := ∃ ad cp, v = .slice ad xs.length cp ∧ Els w ad 2 Ar2.cells xs ∧ xs.length ≤ cp
theorem SlA.up {w w' : World} {v : Go.Value} {xs : List Ar2} (h : SlA w v xs) (u : Up w w') : SlA w' v xs := let ⟨ad, c, e, hE, hc⟩ := h; ⟨ad, c, e, Els.up hE u, hc⟩
theorem SlA.nil (w : World) : SlA w (.slice none 0 0) (sA []) := by rw [show sA [] = [] by simp [sA]]; exact ⟨none, 0, rfl, fun i x h => by simp at h, Nat.le_refl _⟩
theorem Yt {w : World} {b e : Nat} {v : Go.Value} {xs : List Ar2} (h : OwnS w b e 2 Ar2.cells v xs) : SlA w v xs := by
 obtain ⟨ad, cp, rfl, hE⟩ := h.sl (fun _ => rfl)
 exact ⟨ad, cp, rfl, hE, No h⟩
theorem L0 {e : Ar2} {b : Ar2} : decide (e = b) = (decide (e.a = b.a) && (decide (e.b = b.b) && true)) := by
 cases e; cases b; simp [Ar2.mk.injEq]
section
variable {P : Program}
theorem oG {d e n : Nat} {xs ys : Array Go.Value} {j : Nat} {is : List Nat} {w : World} {a b : Go.Value} {r : Bool} (hs : ∀ w, (isAgg e).run P w = .ok false w) (hx : xs[j * n]? = some a) (hy : ys[j * n]? = some b) (he : (Op.equalIn d e a b).run P w = .ok r w) {q : Bool} (hq : (Op.eqItems d e n xs ys is).run P w = .ok q w) : (Op.eqItems d e n xs ys (j :: is)).run P w = .ok (r && q) w := by
 unfold Op.eqItems
 have h1 : (part e xs (j * n)).run P w = .ok a w := by simp [part, hs, hx, Result.andThen]
 have h2 : (part e ys (j * n)).run P w = .ok b w := by simp [part, hs, hy, Result.andThen]
 simp only [Sem.run_bind, h1, h2, he, Result.andThen_ok]
 cases r <;> simp [hq]
end
end Go.Wx
namespace Go.Proofs.YtmimclgihlhaeaaGreat
open Go.Proofs.Tryz
open Go.Wx Go.RowKit
theorem AH (a b : Ar2) (w : World) : (Op.equalIn 10000 99 (.agg a.cells) (.agg b.cells)).run Tryz.prog w = .ok (decide (a = b)) w := by
 rw [run_equalIn_array w 9999 a.cells b.cells underlying99 (i := Tryz.t3) kQ, Ya, L0]
 refine oG isAgg3 rfl rfl ?_ (oG isAgg3 rfl rfl ?_ ?_)
 · exact run_equalIn_int w 9998 _ _ _ _ _ underlying3
 · exact run_equalIn_int w 9998 _ _ _ _ _ underlying3
 rfl
theorem O8 (bc : Array Go.Value) (b : Base) (p : VP) (w : World) (hC : BaseC w bc b) (hw : Sl w p.uv 1 Aq p.vd.why) (hlw : p.vd.why.length ≤ 100000) (hlP : b.Processes.length ≤ 100000) (hlL : b.Lots.length ≤ 1000000000) : Ret Tryz.prog 57 #[.agg bc, .agg p.cells] w fun r w' => r = vi (Eb b p.vd) ∧ Up w w' := by
 obtain ⟨w0, rfl⟩ : ∃ w0, w0 = w := ⟨_, rfl⟩
 have hS := Sep.start no w0
 refine cS (n := 49) (m := 9) func57 rfl rfl rfl (CW.S (Ah (.C7 (.t rfl)) rfl ?_))
 rintro _ w1 ⟨B2, rfl, NB2⟩
 replace hS := hS.Cj NB2
 refine Ah (.C7 (.t rfl)) rfl ?_
 rintro _ w2 ⟨B3, rfl, NB3⟩
 replace hS := hS.Cj NB3
 refine LW.C (LW.S (CW.seq ?_))
 obtain ⟨v00, h00, hs00⟩ := hC.at_ (j := 0) cQ
 obtain ⟨adP, cpP, rfl, hEP⟩ := (show Sl w0 v00 19 Fact.cells b.Processes from hs00)
 have hEw : Els w0 p.ad 1 Aq p.vd.why := T4 hw
 refine CW.region (LW.C (LW.T (CW.block (Am (σ := Nat) (fun s w => (s ≤ p.vd.why.length) ∧ (∀ y ∈ p.vd.why.take s, (Jf b y).isSome = false) ∧ (Wx.Sep no w0 w [Ck B2 bc 38, Ck B3 p.cells 32])) (fun s => [(5, .eq (vi (s : Int)))]) ([(2, .eq _), (3, .eq _)]) (fun s => p.vd.why.length - s) 0 ?_ ⟨rfl, rfl, rfl, trivial⟩ ?_))))
 ·exact ⟨Nat.zero_le _, by simp, hS⟩
 rintro i w3 ⟨hi, hn, hS⟩
 refine CW.seq (CW.S (LW.M rfl (LW.pp (.fA 2 underlying32 rfl sizeOf30 rfl) (LW.pp (.ld isAgg30 rfl (Blk.Ai (v := p.uv) (hS.blk 1 rfl) rfl)) (LW.pp (.Ci underlying30 (.t rfl)) (LW.pp (.lss (.t rfl) (.t rfl)) (LW.T (CW.cond (.t rfl) (fun h13 => ?_) (fun h13 => ?_)))))))))
 ·replace h13 := dQ h13
  refine CW.skip (KW.then (CW.seq (CW.block (CW.seq ?_))))
  obtain ⟨id, hid⟩ := Ac (xs := p.vd.why) (i := i) oQ
  refine CW.region (LW.C (LW.T (CW.block (Am (σ := Nat) (fun s w => (s ≤ b.Processes.length) ∧ (∀ y ∈ b.Processes.take s, decide (y.ID = id) = false) ∧ (Wx.Sep no w0 w [Ck B2 bc 38, Ck B3 p.cells 32])) (fun s => [(6, .eq (vi (s : Int)))]) ([(2, .eq _), (3, .eq _), (5, .eq _)]) (fun s => b.Processes.length - s) 0 ?_ ⟨rfl, rfl, rfl, rfl, trivial⟩ ?_))))
  ·exact ⟨Nat.zero_le _, by simp, hS⟩
  rintro j w4 ⟨hj, hpn, hS⟩
  refine CW.seq (CW.S (LW.M rfl (LW.pp (.fA 0 underlying38 rfl sizeOf23 rfl) (LW.pp (.ld isAgg23 rfl ((hS.blk 0 rfl).cell h00)) (LW.pp (.Ci underlying23 (.t rfl)) (LW.pp (.lss (.t rfl) (.t rfl)) (LW.T (CW.cond (.t rfl) (fun h20 => ?_) (fun h20 => ?_)))))))))
  ·replace h20 := dQ h20
   refine CW.skip (KW.then (CW.seq (CW.block (CW.seq ?_))))
   obtain ⟨y, hy⟩ := Ac (xs := b.Processes) (i := j) oQ
   obtain ⟨By, oy, ay, hcy⟩ := (Els.up hEP hS.Ce) j y hy
   obtain ⟨Bz, oz, az, hcz⟩ := (Els.up hEw hS.Ce) i id hid
   refine Ch kQ kQ rfl rfl (HW.pp (.fA 0 underlying38 rfl sizeOf23 rfl) (HW.pp (.ld isAgg23 rfl ((hS.blk 0 rfl).cell h00)) (HW.pp (.move (.t rfl)) (HW.pp (.Aj underlying23 sizeOf36 (j := j) (.t rfl) (.t rfl) oQ ay) (HW.pp (.fA 1 underlying36 rfl sizeOf3 rfl) (HW.pp (.ld isAgg3 rfl (hcy.nth (j := 1) rfl)) (HW.pp (.fA 2 underlying32 rfl sizeOf30 rfl) (HW.pp (.ld isAgg30 rfl (Blk.Ai (v := p.uv) (hS.blk 1 rfl) rfl)) (HW.pp (.move (.t rfl)) (HW.pp (.Aj underlying30 sizeOf3 (j := i) (.t rfl) (.t rfl) oQ az) (HW.pp (.ld isAgg3 rfl (hcz.nth (j := 0) rfl)) (HW.pp (.eql (.t rfl) (.t rfl)) (HW.nil ?_)))))))))))))
   intro w5 uw5
   replace hS := hS.up uw5
   refine KW.then (CW.cond (.t rfl) (fun h34 => ?_) (fun h34 => ?_))
   ·replace h34 := dQ h34
    have hyp : decide (y.ID = id) = true := decide_eq_true h34
    refine CW.seq ?_
    obtain ⟨By, oy, ay, hcy⟩ := (Els.up hEP hS.Ce) j y hy
    refine Fl 15 [.eq (.agg bc), .eq (.pointer (some ⟨B3, 0, none⟩)), .eq (vi p.vd.w), .eq (.pointer (some ⟨B2, 0, none⟩)), .eq (.slice adP b.Processes.length cpP), .eq (vi (j : Int)), .eq (.pointer (some ⟨By, oy + j * 19, none⟩)), .eq (.pointer (some ⟨By, oy + j * 19 + 5, none⟩)), .eq (vi y.Time), .eq (.tuple #[vi (D6 b.Lots p.vd.w y.Time).1, vi (D6 b.Lots p.vd.w y.Time).2]), .eq (.tuple #[vi (D6 b.Lots p.vd.w y.Time).1, vi (D6 b.Lots p.vd.w y.Time).2]), .eq (vi (D6 b.Lots p.vd.w y.Time).1), .eq (vi (D6 b.Lots p.vd.w y.Time).2), .eq (vi (D6 b.Lots p.vd.w y.Time).1), .eq (vi (D6 b.Lots p.vd.w y.Time).2)] [7] kQ rfl kQ kQ kQ kQ kQ kQ kQ ⟨PhU.eq _, PhU.eq _, PhU.eq _, PhU.eq _, PhU.eq _, PhU.eq _, PhU.eq _, PhU.eq _, PhU.eq _, PhU.eq _, PhU.eq _, PhU.eq _, PhU.eq _, PhU.eq _, PhU.eq _, trivial⟩ ?_ ?_
    ·intro W hU0
     have hU := (Up.drew w5).trans hU0
     have hSW := hS.up hU
     refine aC ⟨rfl, TU.p (.Ee isAgg38 sizeOf38 hC.size (.t rfl) (hSW.blk 0 rfl).agg) rfl⟩ (aC ⟨rfl, TU.p (.fA 0 underlying32 rfl sizeOf3 rfl) rfl⟩ (aC ⟨rfl, TU.p (.ld isAgg3 rfl (Blk.Ai (v := vi p.vd.w) (hSW.blk 1 rfl) rfl)) rfl⟩ (aC ⟨rfl, TU.p (.fA 0 underlying38 rfl sizeOf23 rfl) rfl⟩ (aC ⟨rfl, TU.p (.ld isAgg23 rfl ((hSW.blk 0 rfl).cell h00)) rfl⟩ (aC ⟨rfl, TU.p (.move (.t rfl)) rfl⟩ (aC ⟨rfl, TU.p (.Aj underlying23 sizeOf36 (j := j) (.t rfl) (.t rfl) oQ ay) rfl⟩ (aC ⟨rfl, TU.p (.fA 5 underlying36 rfl sizeOf3 rfl) rfl⟩ (aC ⟨rfl, TU.p (.ld isAgg3 rfl ((hcy.up hU).nth (j := 5) rfl)) rfl⟩ (aC ⟨rfl, TU.c (eC (.cons (.t rfl) (.cons (.t rfl) (.cons (.t rfl) .nil))) (wY)) (nV bc b p.vd.w y.Time W (hC.up hSW.Ce) oQ) sQ⟩ (aC ⟨rfl, TU.p (.move (.t rfl)) rfl⟩ (aC ⟨rfl, TU.p (.extract (.t rfl) rfl) rfl⟩ (aC ⟨rfl, TU.p (.extract (.t rfl) rfl) rfl⟩ (aC ⟨rfl, TU.p (.assign (.t rfl)) rfl⟩ (aC ⟨rfl, TU.p (.assign (.t rfl)) rfl⟩ ?_))))))))))))))
     exact allL.nil
    intro w6 g hU0 hg
    have hU := (Up.drew w5).trans hU0
    replace hS := hS.up hU
    have e8 : g 7 = vi (D6 b.Lots p.vd.w y.Time).1 := hg 13 _ 7 cQ rfl rfl
    change LW _ _ _ _ _ _ _ _ ((7, .eq (g 7)) :: _) _
    rw [e8]
    refine LW.S (CW.region (LW.M rfl (LW.A rfl (LW.T (CW.ret (An (Af (Af (An (An (Af (Af (An (Af (Ae rfl rfl ⟨_, rfl, ?_⟩)))))))))))))))
    exact ⟨by rw [X8 hid hn hy hyp hpn], hS.Ce⟩
   replace h34 := dQ h34
   have hyp : decide (y.ID = id) = false := decide_eq_false h34
   refine CW.skip (KW.inBlock (KW.then (CW.region (LW.M rfl (LW.pp (.inc (.t rfl) oQ) (LW.A rfl (LW.nil (KW.round ?_))))))))
   exact ⟨j + 1, ⟨by omega, Gv (p := fun y : Fact => decide (y.ID = id)) hy hpn hyp, hS.take 2⟩, ⟨rfl, rfl, rfl, rfl, trivial⟩, by omega⟩
  replace h20 := dQ h20
  refine CW.exit (Aa (Aa (Ad (KW.inBlock (KW.then (CW.region (LW.M rfl (LW.pp (.inc (.t rfl) oQ) (LW.A rfl (LW.nil (KW.round ?_)))))))))))
  exact ⟨i + 1, ⟨by omega, Gv (p := fun y => (Jf b y).isSome) hid hn (dU (by rw [show j = b.Processes.length by omega, List.take_length] at hpn; exact hpn)), hS.take 2⟩, ⟨rfl, rfl, rfl, trivial⟩, by omega⟩
 replace h13 := dQ h13
 refine CW.exit (Aa (Aa (Ad (KW.then (CW.S (LW.C (LW.T (CW.ret (Ae rfl rfl ⟨_, rfl, ?_⟩)))))))))
 exact ⟨by rw [dS (by rw [show i = p.vd.why.length by omega, List.take_length] at hn; exact hn)], hS.Ce⟩
set_option maxHeartbeats 4000000 in
theorem Yu (bc : Array Go.Value) (b : Base) (ad : Option Addr) (cp : Nat) (L : List VP) (w : World) (hC : BaseC w bc b) (hE0 : Els w ad 3 VP.cells L) (hw0 : WhyS w L) (hlw : ∀ p ∈ L, p.vd.why.length ≤ 100000) (hl : L.length ≤ 100000) (hlP : b.Processes.length ≤ 100000) : Ret Tryz.prog 55 #[.agg bc, .slice ad L.length cp] w fun r w' => SlA w' r (D0 b.Processes ((L.map (·.vd)).filter fun v => decide (v.t = 1))) ∧ Up w w' := by
 have hW := Up.refl w
 obtain ⟨w0, rfl⟩ : ∃ w0, w0 = w := ⟨_, rfl⟩
 refine cS (n := 111) (m := 9) func55 rfl rfl rfl (CW.S (Ah (.C7 (.t rfl)) rfl ?_))
 rintro _ w1 ⟨B2, rfl, NB2⟩
 replace hW := hW.up NB2.up
 have hB2 := NB2.blk
 refine LW.C (LW.S ?_)
 obtain ⟨v00, h00, hs00⟩ := hC.at_ (j := 0) cQ
 obtain ⟨adP, cpP, rfl, hEP⟩ := (show Sl w0 v00 19 Fact.cells b.Processes from hs00)
 refine CW.region (LW.C (LW.S (CW.S (LW.C (LW.T (CW.block (Am (σ := Nat × Go.Value × List Ar2) (fun s w => (s.1 ≤ L.length) ∧ (s.2.2 = jD b.Processes ((L.take s.1).map (·.vd))) ∧ (Up w0 w) ∧ (Blk w B2 bc 38) ∧ (SlA w s.2.1 (sA s.2.2))) (fun s => [(6, .eq (vi (s.1 : Int))), (5, .eq (s.2.1))]) ([(1, .eq _), (2, .eq _), (4, .eq _)]) (fun s => L.length - s.1) (0, .slice none 0 0, []) ?_ ⟨rfl, rfl, rfl, rfl, rfl, trivial⟩ ?_)))))))
 ·exact ⟨Nat.zero_le _, rfl, hW, hB2, SlA.nil _⟩
 rintro ⟨i, v, X⟩ w2 ⟨hi, hX, hW, hB2, hV⟩
 dsimp only at hi hX hW hB2 hV
 change CW _ _ _ _ _ _ _ ([(6, .eq (vi (i : Int))), (5, .eq (v))] ++ _) _
 refine CW.seq (CW.S (LW.M rfl (LW.M rfl (LW.pp (.Ci underlying27 (.t rfl)) (LW.pp (.lss (.t rfl) (.t rfl)) (LW.T (CW.cond (.t rfl) (fun h14 => ?_) (fun h14 => ?_))))))))
 ·replace h14 := dQ h14
  refine CW.skip (KW.then (CW.seq (CW.block (CW.seq ?_))))
  obtain ⟨e, he⟩ := Ac (xs := L) (i := i) oQ
  have hem := List.mem_of_getElem? he
  have hXo := bU b.Processes ((L.take i).map (·.vd))
  rw [← hX] at hXo
  have hlwe := hlw e hem
  refine CW.region (LW.C (LW.T (CW.block (Am (σ := Nat × Go.Value × List Ar2) (fun s w => (s.1 ≤ b.Processes.length) ∧ (s.2.2 = bT (b.Processes.take s.1) X e.vd) ∧ (Up w0 w) ∧ (Blk w B2 bc 38) ∧ (SlA w s.2.1 (sA s.2.2))) (fun s => [(7, .eq (vi (s.1 : Int))), (5, .eq (s.2.1))]) ([(1, .eq _), (2, .eq _), (4, .eq _), (6, .eq _)]) (fun s => b.Processes.length - s.1) (0, v, X) ?_ ⟨rfl, rfl, rfl, rfl, rfl, rfl, trivial⟩ ?_))))
  ·exact ⟨Nat.zero_le _, (AG _ _ _).symm, hW, hB2, hV⟩
  rintro ⟨j, v2, Y⟩ w3 ⟨hj, hY, hW, hB2, hV⟩
  dsimp only at hj hY hW hB2 hV
  change CW _ _ _ _ _ _ _ ([(7, .eq (vi (j : Int))), (5, .eq (v2))] ++ _) _
  refine CW.seq (CW.S (LW.M rfl (LW.pp (.fA 0 underlying38 rfl sizeOf23 rfl) (LW.pp (.ld isAgg23 rfl (hB2.cell h00)) (LW.pp (.Ci underlying23 (.t rfl)) (LW.pp (.lss (.t rfl) (.t rfl)) (LW.T (CW.cond (.t rfl) (fun h21 => ?_) (fun h21 => ?_)))))))))
  ·replace h21 := dQ h21
   refine CW.skip (KW.then (CW.seq (CW.block (CW.seq ?_))))
   obtain ⟨f, hf⟩ := Ac (xs := b.Processes) (i := j) oQ
   obtain ⟨Bf, of_, af, hcf⟩ := (Els.up hEP hW) j f hf
   refine CW.region (LW.pp (.fA 0 underlying38 rfl sizeOf23 rfl) (LW.pp (.ld isAgg23 rfl (hB2.cell h00)) (LW.M rfl (LW.pp (.Aj underlying23 sizeOf36 (j := j) (.t rfl) (.t rfl) oQ af) (LW.pp (.la isAgg36 sizeOf36 rfl (hcf)) (Ah (.Az zeroValue36) rfl ?_))))))
   rintro _ w4 ⟨B8, rfl, MB8⟩
   refine LW.E (.Ay sizeOf36 rfl (.t rfl) (.t rfl) (Fact.one _) MB8.blk rfl) ?_
   intro w5 LB8
   have NB8 := MB8.set LB8
   clear LB8 MB8
   replace hW := hW.up NB8.up
   replace hB2 := hB2.up NB8.up
   replace hV := hV.up NB8.up
   have hB8 := NB8.blk
   refine LW.S (CW.seq ?_)
   obtain ⟨Be, oe, ae, hce⟩ := (Els.up hE0 hW) i e he
   have hEw : Els w5 e.ad 1 Aq e.vd.why := T4 (Sl.up (hw0 e hem) hW)
   refine Ch kQ kQ rfl rfl (HW.pp (.move (.t rfl)) (HW.pp (.move (.t rfl)) (HW.pp (.Aj underlying27 sizeOf32 (j := i) (.t rfl) (.t rfl) oQ ae) (HW.pp (.fA 1 underlying32 rfl sizeOf3 rfl) (HW.pp (.ld isAgg3 rfl (hce.nth (j := 1) rfl)) (HW.pp (.neq (.t rfl) (.const _)) (HW.pp (.move (.t rfl)) (HW.g rfl rfl rfl rfl rfl rfl (fun hc => PEv.move (.t rfl)) (HW.g rfl rfl rfl rfl rfl rfl (fun hc => PEv.move (.t rfl)) (HW.g rfl rfl rfl rfl rfl rfl (fun hc => PEv.Aj underlying27 sizeOf32 (j := i) vQ vQ oQ ae) (HW.g rfl rfl rfl rfl rfl rfl (fun hc => PEv.fieldAddr (off := 2) underlying32 rfl rfl sizeOf30 rfl vQ) (HW.g rfl rfl rfl rfl rfl rfl (fun hc => PEv.load isAgg30 vQ (hce.nth (j := 2) rfl)) (HW.g rfl rfl rfl rfl rfl rfl (fun hc => PEv.fA 1 underlying36 rfl sizeOf3 rfl) (HW.g rfl rfl rfl rfl rfl rfl (fun hc => PEv.load isAgg3 vQ (hB8.Ai rfl)) (HW.gc rfl rfl rfl rfl rfl rfl (fun hc a w _ ha => Aw (.cons vQ (.cons vQ .nil)) (wF) a ha) (fun hc w hu => eK e.ad e.cp e.vd.why f.ID w (Els.up hEw hu) oQ) (HW.g rfl rfl rfl rfl rfl rfl (fun hc => PEv.not vQ) (HW.pp (.A7 (.t rfl) (fun hp => (by exact .cond rfl (by (rw [hp]; rfl))))) (HW.nil ?_))))))))))))))))))
   intro w6 uw6
   replace hW := hW.up uw6
   replace hB2 := hB2.up uw6
   replace hV := hV.up uw6
   replace hB8 := hB8.up uw6
   refine KW.then (CW.cond (.t rfl) (fun h45 => ?_) (fun h45 => ?_))
   ·have hno : ¬ (e.vd.t = 1 ∧ f.ID ∈ e.vd.why) := fun h => by simp [h.1, h.2] at h45
    refine CW.exit (Aa (Ad (KW.then (CW.region (LW.M rfl (LW.pp (.inc (.t rfl) oQ) (LW.A rfl (LW.nil (KW.round ?_)))))))))
    exact ⟨(j + 1, v2, Y), ⟨by show j + 1 ≤ _; omega, by show Y = _; rw [vI hf hno, hY], hW, hB2, hV⟩, ⟨rfl, rfl, rfl, rfl, rfl, rfl, trivial⟩, by show b.Processes.length - (j + 1) < b.Processes.length - j; omega⟩
   have hyes : e.vd.t = 1 ∧ f.ID ∈ e.vd.why := by simpa using h45
   refine CW.skip (KW.then (CW.S (LW.pp (.fA 5 underlying36 rfl sizeOf3 rfl) (LW.pp (.ld isAgg3 rfl (hB8.Ai rfl)) (LW.pp (.fA 6 underlying36 rfl sizeOf3 rfl) (LW.pp (.ld isAgg3 rfl (hB8.Ai rfl)) (LW.pp (.H8 (cs := (F3 f).cells) underlying99 zeroValue99 sizeOf3 (.cons (.t rfl) (.cons (.t rfl) .nil)) rfl) (Ah (.Az zeroValue99) rfl ?_))))))))
   rintro _ w7 ⟨B9, rfl, MB9⟩
   refine LW.E (.Ay sizeOf99 rfl (.t rfl) (.t rfl) (Ar2.one _) MB9.blk rfl) ?_
   intro w8 LB9
   have NB9 := MB9.set LB9
   clear LB9 MB9
   replace hW := hW.up NB9.up
   replace hB2 := hB2.up NB9.up
   replace hV := hV.up NB9.up
   replace hB8 := hB8.up NB9.up
   have hB9 := NB9.blk
   refine LW.S ?_
   obtain ⟨adv, cpv, rfl, hEv, hcp⟩ := hV
   replace hEv : Els w8 adv 2 Ar2.cells (sA Y) := hEv
   have hYo := oE (P := b.Processes.take j) (v := e.vd) (fun f hf => List.mem_of_mem_take hf) hXo
   rw [← hY] at hYo
   have hYl := eO hYo
   have hsl := nZ Y
   refine CW.region (LW.C (LW.S (CW.block (Am (σ := Nat) (fun s w => (s ≤ (sA Y).length) ∧ (∀ y ∈ (sA Y).take s, Jk y (F3 f)) ∧ (Up w0 w) ∧ (Blk w B2 bc 38) ∧ (Blk w B9 (F3 f).cells 99) ∧ (Els w adv 2 Ar2.cells (sA Y))) (fun s => [(10, .eq (vi (s : Int)))]) ([(1, .eq _), (2, .eq _), (4, .eq _), (5, .eq _), (6, .eq _), (7, .eq _), (9, .eq _)]) (fun s => (sA Y).length - s) 0 ?_ ⟨rfl, rfl, rfl, rfl, rfl, rfl, rfl, rfl, trivial⟩ ?_))))
   ·exact ⟨Nat.zero_le _, by simp, hW, hB2, hB9, hEv⟩
   rintro m w9 ⟨hm, hml, hW, hB2, hB9, hEv⟩
   refine CW.seq (CW.seq ?_)
   cases hq12 : decide (m < (sA Y).length) with
   | true =>
    have hq1 := of_decide_eq_true hq12
    obtain ⟨u, hu⟩ := Ac (xs := sA Y) (i := m) oQ
    obtain ⟨Bu, ou, au, hcu⟩ := hEv m u hu
    refine Ch kQ kQ rfl rfl (HW.pp (.move (.t rfl)) (HW.pp (.move (.t rfl)) (HW.pp (.Ci underlying103 (.t rfl)) (HW.pp (.tr (PEv.lss (.t rfl) (.t rfl)) (decide_eq_true oQ)) (HW.pp (.move (.t rfl)) (Cr (.move (.t rfl)) (Cr (.move (.t rfl)) (Cr (.Aj underlying103 sizeOf99 (j := m) (.t rfl) (.t rfl) oQ au) (Cr (.Bk (j := 0) underlying99 sizeOf3 (.t rfl) (.const _) cQ) (Cr (.ld isAgg3 rfl (hcu.nth (j := 0) rfl)) (Cr (.Bk (j := 0) underlying99 sizeOf3 (.t rfl) (.const _) cQ) (Cr (.ld isAgg3 rfl (hB9.Ai rfl)) (Cr (.lss (.t rfl) (.t rfl)) (Cr (.move (.t rfl)) (HW.g rfl rfl rfl rfl rfl rfl (fun hc => PEv.move (.t rfl)) (HW.g rfl rfl rfl rfl rfl rfl (fun hc => PEv.move (.t rfl)) (HW.g rfl rfl rfl rfl rfl rfl (fun hc => PEv.Aj underlying103 sizeOf99 (j := m) vQ vQ oQ au) (HW.g rfl rfl rfl rfl rfl rfl (fun hc => PEv.Bk (j := 0) underlying99 sizeOf3 vQ (.const _) cQ) (HW.g rfl rfl rfl rfl rfl rfl (fun hc => PEv.load isAgg3 vQ (hcu.nth (j := 0) rfl)) (HW.g rfl rfl rfl rfl rfl rfl (fun hc => PEv.Bk (j := 0) underlying99 sizeOf3 (.t rfl) (.const _) cQ) (HW.g rfl rfl rfl rfl rfl rfl (fun hc => PEv.load isAgg3 vQ (hB9.Ai rfl)) (HW.g rfl rfl rfl rfl rfl rfl (fun hc => PEv.eql vQ vQ) (HW.g rfl rfl rfl rfl rfl rfl (fun hc => PEv.move vQ) (HW.gg rfl rfl rfl rfl rfl rfl (fun hc => PEv.move (.t rfl)) (HW.gg rfl rfl rfl rfl rfl rfl (fun hc => PEv.move (.t rfl)) (HW.gg rfl rfl rfl rfl rfl rfl (fun hc => PEv.Aj underlying103 sizeOf99 (j := m) vQ vQ oQ au) (HW.gg rfl rfl rfl rfl rfl rfl (fun hc => PEv.Bk (j := 1) underlying99 sizeOf3 vQ (.const _) cQ) (HW.gg rfl rfl rfl rfl rfl rfl (fun hc => PEv.load isAgg3 vQ (hcu.nth (j := 1) rfl)) (HW.gg rfl rfl rfl rfl rfl rfl (fun hc => PEv.Bk (j := 1) underlying99 sizeOf3 (.t rfl) (.const _) cQ) (HW.gg rfl rfl rfl rfl rfl rfl (fun hc => PEv.load isAgg3 vQ (hB9.Ai rfl)) (HW.gg rfl rfl rfl rfl rfl rfl (fun hc => PEv.lss vQ vQ) (HW.g rfl rfl rfl rfl rfl rfl (fun hc => PEv.Ao vQ (fun hp => (by exact .cond rfl (by (rw [hc, hp]; rfl))))) (Cr (.A7 (.t rfl) (fun hp => (by exact .cond rfl (by (rw [hp]; rfl))))) (HW.pp (.Ao (.t rfl) (fun hp => (by exact .tmp rfl))) (HW.nil ?_)))))))))))))))))))))))))))))))))))
    intro w10 uw10
    replace hW := hW.up uw10
    replace hB2 := hB2.up uw10
    replace hB9 := hB9.up uw10
    replace hEv := hEv.up uw10
    refine KW.then (CW.cond (.t rfl) (fun h84 => ?_) (fun h84 => ?_))
    ·have hult : Jk u (F3 f) := by unfold Jk; simpa using h84
     refine CW.skip (KW.then (CW.block (CW.region (LW.M rfl (LW.pp (.inc (.t rfl) oQ) (LW.A rfl (LW.nil (KW.inBlock (KW.round ?_)))))))))
     exact ⟨m + 1, ⟨by omega, oD hu hml hult, hW, hB2, hB9, hEv⟩, ⟨rfl, rfl, rfl, rfl, rfl, rfl, rfl, rfl, trivial⟩, by omega⟩
    replace h84 := dQ h84
    have hult : ¬ Jk u (F3 f) := fun h => by unfold Jk at h; rw [← Bool.not_eq_true] at h84; apply h84; simpa using h
    refine CW.exit (Aa (Aa (Ad (KW.then (CW.seq (CW.seq ?_))))))
    obtain ⟨Bu, ou, au, hcu⟩ := hEv m u hu
    refine Ch kQ kQ rfl rfl (HW.pp (.move (.t rfl)) (HW.pp (.move (.t rfl)) (HW.pp (.Ci underlying103 (.t rfl)) (HW.pp (.tr (PEv.lss (.t rfl) (.t rfl)) (decide_eq_true oQ)) (HW.pp (.move (.t rfl)) (Cr (.move (.t rfl)) (Cr (.move (.t rfl)) (Cr (.Aj underlying103 sizeOf99 (j := m) (.t rfl) (.t rfl) oQ au) (Cr (.la isAgg99 sizeOf99 rfl (hcu)) (Cr (.la isAgg99 sizeOf99 rfl (hB9.agg)) (Cr (.oX eqGuardType99 (AH _ _) (.t rfl) (.t rfl)) (HW.pp (.Ao (.t rfl) (fun hp => (by exact .tmp rfl))) (HW.nil ?_)))))))))))))
    intro w11 uw11
    replace hW := hW.up uw11
    replace hB2 := hB2.up uw11
    replace hB9 := hB9.up uw11
    replace hEv := hEv.up uw11
    refine KW.then (CW.cond (.t rfl) (fun h98 => ?_) (fun h98 => ?_))
    ·replace h98 := dQ h98
     have hue : u = F3 f := by simpa using h98
     refine CW.exit (Aa (Ad (KW.then (CW.region (LW.M rfl (LW.pp (.inc (.t rfl) oQ) (LW.A rfl (LW.nil (KW.round ?_)))))))))
     exact ⟨(j + 1, .slice adv (sA Y).length cpv, Y), ⟨by show j + 1 ≤ _; omega, by show Y = _; rw [Vo hf hyes, ← hY]; unfold Ic; rw [if_pos (by rw [← hue]; exact bS.1 (List.mem_of_getElem? hu))], hW, hB2, ⟨adv, cpv, rfl, hEv, hcp⟩⟩, ⟨rfl, rfl, rfl, rfl, rfl, rfl, trivial⟩, by show b.Processes.length - (j + 1) < b.Processes.length - j; omega⟩
    replace h98 := dQ h98
    have hue : ¬ u = F3 f := by simpa using h98
    have hgt := oC (oA hYo.1) hu hult hue
    refine CW.skip (KW.then ?_)
    have hEW0 := hEv
    refine Fl 11 [.eq (.slice adv (sA Y).length cpv), .eq (vi (m : Int)), .eq (vi (m : Int)), .eq (.slice adv ((sA Y).take m).length ((sA Y).take m).length), .eq (.agg (F3 f).cells), .pred fun v W => ∃ B, v = .slice (some ⟨B, 0, none⟩) [(F3 f)].length [(F3 f)].length ∧ Els W (some ⟨B, 0, none⟩) 2 Ar2.cells [(F3 f)], .eq (.slice adv (sA Y).length cpv), .eq (vi (m : Int)), .eq (.slice (if cpv = m then adv else adv.map (·.add (m * 2))) ((sA Y).length - m) (cpv - m)), .pred fun v W => Sl W v 2 Ar2.cells ([(F3 f)] ++ ((sA Y).drop m)), .pred fun v W => OwnS W 0 99 2 Ar2.cells v (Bo (sA Y) (F3 f) m)] [109] kQ rfl kQ kQ kQ kQ kQ kQ kQ ⟨PhU.eq _, PhU.eq _, PhU.eq _, PhU.eq _, PhU.eq _, PhU.pred fun _ _ _ h u => let ⟨B, e, hE⟩ := h; ⟨B, e, hE.up u⟩, PhU.eq _, PhU.eq _, PhU.eq _, PhU.pred fun _ _ _ h u => Sl.up h u, PhU.pred fun _ _ _ h u => OwnS.up h u, trivial⟩ ?_ ?_
    ·intro W hU0
     have hU := (Up.drew w11).trans hU0
     have hEW := Els.up hEv hU
     have hlk : ((sA Y).take m).length = m := by rw [List.length_take]; omega
     refine aC ⟨rfl, TU.p (.move (.t rfl)) rfl⟩ (aC ⟨rfl, TU.p (.move (.t rfl)) rfl⟩ (aC ⟨rfl, TU.p (.move (.t rfl)) rfl⟩ (aC ⟨rfl, TU.p (.val (v' := .slice adv ((sA Y).take m).length ((sA Y).take m).length) (Mq underlying103 sizeOf99 (.t rfl) (.t rfl) (.t rfl) oQ) (by rw [hlk])) rfl⟩ (aC ⟨rfl, TU.p (.la isAgg99 sizeOf99 rfl ((hB9.up hU).agg)) rfl⟩ (aC ⟨rfl, TU.r (REv.buildSlice (xs := [(F3 f)]) (enc := Ar2.cells) (mk := fun s : Ar2 => .agg s.cells) underlying103 sizeOf99 zeroValue99 rfl (Nat.le_of_ble_eq_true rfl) (fun _ => rfl) (fun _ => rfl) (.cons (.t rfl) .nil) rfl) (fun v W' h => let ⟨B, cs, e, N, _, hE1⟩ := h; ⟨N.up, B, e, hE1⟩)⟩ (aC ⟨rfl, TU.p (.move (.t rfl)) rfl⟩ (aC ⟨rfl, TU.p (.move (.t rfl)) rfl⟩ (aC ⟨rfl, TU.p (.sliceFrom underlying103 sizeOf99 (.t rfl) (.t rfl) oQ) rfl⟩ (aC ⟨rfl, TU.open (d := 104) rfl fun v hv => by obtain ⟨B, rfl, hE5⟩ := hv; exact TU.r (F9 (enc := Ar2.cells) (k := 2) (bytes := 16) (i := Tryz.t99) (xs := [(F3 f)]) (ys := ((sA Y).drop m)) underlying103 kQ rfl rfl rfl rfl cQ (fun _ => rfl) (.t rfl) (.t rfl) hE5 (Els.drop hEW hcp) (by simp [maxLen]; omega) (by simp; omega)) (fun _ _ h => ⟨h.1, h.2.1⟩)⟩ (aC ⟨rfl, TU.open (d := 108) rfl fun v hv => TU.r (F9 (enc := Ar2.cells) (k := 2) (bytes := 16) (i := Tryz.t99) (xs := ((sA Y).take m)) (ys := ([(F3 f)] ++ ((sA Y).drop m))) underlying103 kQ rfl rfl rfl rfl cQ (fun _ => rfl) (.t rfl) (.t rfl) (Els.take hEW) hv (by simp [maxLen]; omega) (by simp; omega)) (fun _ _ h => ⟨h.1, (h.2.2 (by simp)).mono (Nat.zero_le _)⟩)⟩ ?_))))))))))
     exact allL.nil
    intro w12 g hU0 hg
    have hU := (Up.drew w11).trans hU0
    replace hW := hW.up hU
    replace hB2 := hB2.up hU
    replace hB9 := hB9.up hU
    replace hEv := hEv.up hU
    have hO : OwnS w12 0 99 2 Ar2.cells (g 109) (Bo (sA Y) (F3 f) m) := hg 10 _ 109 cQ rfl rfl
    refine LW.A rfl (LW.nil (KW.inBlock (KW.then (CW.region (LW.M rfl (LW.pp (.inc (.t rfl) oQ) (LW.A rfl (LW.nil (KW.round ?_)))))))))
    exact ⟨(j + 1, g 109, Ic Y (F3 f)), ⟨by show j + 1 ≤ _; omega, by show Ic Y (F3 f) = _; rw [Vo hf hyes, ← hY], hW, hB2, by show SlA _ _ (sA (Ic Y (F3 f))); rw [← eN hYo.1 hml hgt]; exact Yt hO⟩, ⟨rfl, rfl, rfl, rfl, rfl, rfl, trivial⟩, by show b.Processes.length - (j + 1) < b.Processes.length - j; omega⟩
   | false =>
    have hq1 := of_decide_eq_false hq12
    have hgt : ∀ y ∈ (sA Y).drop m, Jk (F3 f) y := fun y hy => by rw [List.drop_of_length_le (by omega)] at hy; cases hy
    refine Ch kQ kQ rfl rfl (HW.pp (.move (.t rfl)) (HW.pp (.move (.t rfl)) (HW.pp (.Ci underlying103 (.t rfl)) (HW.pp (.fa (PEv.lss (.t rfl) (.t rfl)) (decide_eq_false oQ)) (HW.pp (.move (.t rfl)) (HW.N (HW.N (HW.N (HW.N (HW.N (HW.N (HW.N (HW.N (HW.N (Cw rfl rfl rfl rfl rfl (Cw rfl rfl rfl rfl rfl (Cw rfl rfl rfl rfl rfl (Cw rfl rfl rfl rfl rfl (Cw rfl rfl rfl rfl rfl (Cw rfl rfl rfl rfl rfl (Cw rfl rfl rfl rfl rfl (Cw rfl rfl rfl rfl rfl (Cw rfl rfl rfl rfl rfl (Cw rfl rfl rfl rfl rfl (Cw rfl rfl rfl rfl rfl (Cw rfl rfl rfl rfl rfl (Cw rfl rfl rfl rfl rfl (Cw rfl rfl rfl rfl rfl (Cw rfl rfl rfl rfl rfl (Cw rfl rfl rfl rfl rfl (Cw rfl rfl rfl rfl rfl (Cw rfl rfl rfl rfl rfl (HW.N (HW.pp (.Ao (b := false) (.t rfl) (fun hp => absurd (show false = true from hp) cQ)) (HW.nil ?_)))))))))))))))))))))))))))))))))))
    intro w13 uw13
    replace hW := hW.up uw13
    replace hB2 := hB2.up uw13
    replace hB9 := hB9.up uw13
    replace hEv := hEv.up uw13
    refine KW.then (CW.cond_false (.t rfl) (CW.exit (Aa (Aa (Ad (KW.then (CW.seq (CW.seq ?_))))))))
    skip
    refine Ch kQ kQ rfl rfl (HW.pp (.move (.t rfl)) (HW.pp (.move (.t rfl)) (HW.pp (.Ci underlying103 (.t rfl)) (HW.pp (.fa (PEv.lss (.t rfl) (.t rfl)) (decide_eq_false oQ)) (HW.pp (.move (.t rfl)) (HW.N (HW.N (HW.N (HW.N (HW.N (HW.N (HW.pp (.Ao (b := false) (.t rfl) (fun hp => absurd (show false = true from hp) cQ)) (HW.nil ?_)))))))))))))
    intro w14 uw14
    replace hW := hW.up uw14
    replace hB2 := hB2.up uw14
    replace hB9 := hB9.up uw14
    replace hEv := hEv.up uw14
    refine KW.then (CW.cond_false (.t rfl) (CW.skip (KW.then ?_)))
    have hEW0 := hEv
    refine Fl 11 [.eq (.slice adv (sA Y).length cpv), .eq (vi (m : Int)), .eq (vi (m : Int)), .eq (.slice adv ((sA Y).take m).length ((sA Y).take m).length), .eq (.agg (F3 f).cells), .pred fun v W => ∃ B, v = .slice (some ⟨B, 0, none⟩) [(F3 f)].length [(F3 f)].length ∧ Els W (some ⟨B, 0, none⟩) 2 Ar2.cells [(F3 f)], .eq (.slice adv (sA Y).length cpv), .eq (vi (m : Int)), .eq (.slice (if cpv = m then adv else adv.map (·.add (m * 2))) ((sA Y).length - m) (cpv - m)), .pred fun v W => Sl W v 2 Ar2.cells ([(F3 f)] ++ ((sA Y).drop m)), .pred fun v W => OwnS W 0 99 2 Ar2.cells v (Bo (sA Y) (F3 f) m)] [109] kQ rfl kQ kQ kQ kQ kQ kQ kQ ⟨PhU.eq _, PhU.eq _, PhU.eq _, PhU.eq _, PhU.eq _, PhU.pred fun _ _ _ h u => let ⟨B, e, hE⟩ := h; ⟨B, e, hE.up u⟩, PhU.eq _, PhU.eq _, PhU.eq _, PhU.pred fun _ _ _ h u => Sl.up h u, PhU.pred fun _ _ _ h u => OwnS.up h u, trivial⟩ ?_ ?_
    ·intro W hU0
     have hU := (Up.drew w14).trans hU0
     have hEW := Els.up hEv hU
     have hlk : ((sA Y).take m).length = m := by rw [List.length_take]; omega
     refine aC ⟨rfl, TU.p (.move (.t rfl)) rfl⟩ (aC ⟨rfl, TU.p (.move (.t rfl)) rfl⟩ (aC ⟨rfl, TU.p (.move (.t rfl)) rfl⟩ (aC ⟨rfl, TU.p (.val (v' := .slice adv ((sA Y).take m).length ((sA Y).take m).length) (Mq underlying103 sizeOf99 (.t rfl) (.t rfl) (.t rfl) oQ) (by rw [hlk])) rfl⟩ (aC ⟨rfl, TU.p (.la isAgg99 sizeOf99 rfl ((hB9.up hU).agg)) rfl⟩ (aC ⟨rfl, TU.r (REv.buildSlice (xs := [(F3 f)]) (enc := Ar2.cells) (mk := fun s : Ar2 => .agg s.cells) underlying103 sizeOf99 zeroValue99 rfl (Nat.le_of_ble_eq_true rfl) (fun _ => rfl) (fun _ => rfl) (.cons (.t rfl) .nil) rfl) (fun v W' h => let ⟨B, cs, e, N, _, hE1⟩ := h; ⟨N.up, B, e, hE1⟩)⟩ (aC ⟨rfl, TU.p (.move (.t rfl)) rfl⟩ (aC ⟨rfl, TU.p (.move (.t rfl)) rfl⟩ (aC ⟨rfl, TU.p (.sliceFrom underlying103 sizeOf99 (.t rfl) (.t rfl) oQ) rfl⟩ (aC ⟨rfl, TU.open (d := 104) rfl fun v hv => by obtain ⟨B, rfl, hE5⟩ := hv; exact TU.r (F9 (enc := Ar2.cells) (k := 2) (bytes := 16) (i := Tryz.t99) (xs := [(F3 f)]) (ys := ((sA Y).drop m)) underlying103 kQ rfl rfl rfl rfl cQ (fun _ => rfl) (.t rfl) (.t rfl) hE5 (Els.drop hEW hcp) (by simp [maxLen]; omega) (by simp; omega)) (fun _ _ h => ⟨h.1, h.2.1⟩)⟩ (aC ⟨rfl, TU.open (d := 108) rfl fun v hv => TU.r (F9 (enc := Ar2.cells) (k := 2) (bytes := 16) (i := Tryz.t99) (xs := ((sA Y).take m)) (ys := ([(F3 f)] ++ ((sA Y).drop m))) underlying103 kQ rfl rfl rfl rfl cQ (fun _ => rfl) (.t rfl) (.t rfl) (Els.take hEW) hv (by simp [maxLen]; omega) (by simp; omega)) (fun _ _ h => ⟨h.1, (h.2.2 (by simp)).mono (Nat.zero_le _)⟩)⟩ ?_))))))))))
     exact allL.nil
    intro w15 g hU0 hg
    have hU := (Up.drew w14).trans hU0
    replace hW := hW.up hU
    replace hB2 := hB2.up hU
    replace hB9 := hB9.up hU
    replace hEv := hEv.up hU
    have hO : OwnS w15 0 99 2 Ar2.cells (g 109) (Bo (sA Y) (F3 f) m) := hg 10 _ 109 cQ rfl rfl
    refine LW.A rfl (LW.nil (KW.inBlock (KW.then (CW.region (LW.M rfl (LW.pp (.inc (.t rfl) oQ) (LW.A rfl (LW.nil (KW.round ?_)))))))))
    exact ⟨(j + 1, g 109, Ic Y (F3 f)), ⟨by show j + 1 ≤ _; omega, by show Ic Y (F3 f) = _; rw [Vo hf hyes, ← hY], hW, hB2, by show SlA _ _ (sA (Ic Y (F3 f))); rw [← eN hYo.1 hml hgt]; exact Yt hO⟩, ⟨rfl, rfl, rfl, rfl, rfl, rfl, trivial⟩, by show b.Processes.length - (j + 1) < b.Processes.length - j; omega⟩
  replace h21 := dQ h21
  refine CW.exit (Aa (Aa (Ad (KW.inBlock (KW.then (CW.region (LW.M rfl (LW.pp (.inc (.t rfl) oQ) (LW.A rfl (LW.nil (KW.round ?_)))))))))))
  exact ⟨(i + 1, v2, Y), ⟨by show i + 1 ≤ _; omega, by show Y = _; rw [hY, show j = b.Processes.length by omega, List.take_length, Dq he, Sc, ← hX], hW, hB2, hV⟩, ⟨rfl, rfl, rfl, rfl, rfl, trivial⟩, by show L.length - (i + 1) < L.length - i; omega⟩
 replace h14 := dQ h14
 refine CW.exit (Aa (Aa (Ad (KW.then (CW.S (LW.M rfl (LW.A rfl (LW.T (CW.ret (Ae rfl rfl ⟨_, rfl, ?_⟩))))))))))
 rw [show i = L.length by omega, List.take_length] at hX
 exact ⟨by rw [← oF, ← hX]; exact hV, hW⟩
end Go.Proofs.YtmimclgihlhaeaaGreat
end
section
namespace Go.Wx
def N7 (ss gs : List Fact) (x : Exc) (w : Int) (l : List Fact) : List Int := l.foldl (fun ks p => if Gc ss gs x w p && Dk x p then Dy ks p.ID else ks) []
def N8 (ss gs : List Fact) (x : Exc) (w : Int) (l : List Fact) : List Int := l.foldl (fun ks p => if Gc ss gs x w p then Dy ks p.ID else ks) []
theorem M0 {ss gs : List Fact} {x : Exc} {w : Int} {l : List Fact} {k : Nat} {p : Fact} (hp : l[k]? = some p) : N7 ss gs x w (l.take (k + 1)) = if Gc ss gs x w p && Dk x p then Dy (N7 ss gs x w (l.take k)) p.ID else N7 ss gs x w (l.take k) := by
 unfold N7
 rw [List.take_add_one, hp, List.foldl_append]
 rfl
theorem M1 {ss gs : List Fact} {x : Exc} {w : Int} {l : List Fact} {k : Nat} {p : Fact} (hp : l[k]? = some p) : N8 ss gs x w (l.take (k + 1)) = if Gc ss gs x w p then Dy (N8 ss gs x w (l.take k)) p.ID else N8 ss gs x w (l.take k) := by
 unfold N8
 rw [List.take_add_one, hp, List.foldl_append]
 rfl
theorem Sd {c : Fact → Bool} : ∀ l : List Fact, (l.foldl (fun ks p => if c p then Dy ks p.ID else ks) []).Nodup ∧ ∀ k, k ∈ l.foldl (fun ks p => if c p then Dy ks p.ID else ks) [] ↔ ∃ p ∈ l, c p = true ∧ p.ID = k := fun l => by
 refine Fc (p := fun l => (l.foldl (fun ks p => if c p then Dy ks p.ID else ks) []).Nodup ∧ ∀ k, k ∈ l.foldl (fun ks p => if c p then Dy ks p.ID else ks) [] ↔ ∃ p ∈ l, c p = true ∧ p.ID = k) ⟨List.nodup_nil, by simp⟩ (fun l p h => ?_) l
 rw [List.foldl_append]
 have e : ∀ k, (∃ q ∈ l ++ [p], c q = true ∧ q.ID = k) ↔ (∃ q ∈ l, c q = true ∧ q.ID = k) ∨ (c p = true ∧ p.ID = k) := fun k => by
   simp only [List.mem_append, List.mem_singleton]
   constructor
   · rintro ⟨f, hf | rfl, h2⟩
     · exact .inl ⟨f, hf, h2⟩
     exact .inr h2
   rintro (⟨f, hf, h2⟩ | h2)
   · exact ⟨f, .inl hf, h2⟩
   exact ⟨p, .inr rfl, h2⟩
 show (if c p then Dy _ p.ID else _).Nodup ∧ ∀ k, k ∈ (if c p then Dy _ p.ID else _) ↔ _
 cases hc : c p with
 | false => exact ⟨h.1, fun k => by rw [e, ← h.2 k]; simp [hc]⟩
 | true => exact ⟨Ig h.1, fun k => by rw [e, ← h.2 k, if_pos rfl, Kw]; exact or_congr Iff.rfl ⟨fun e => ⟨hc, e.symm⟩, fun e => e.2.symm⟩⟩
theorem Jj {c : Fact → Bool} (l : List Fact) : (l.foldl (fun ks p => if c p then Dy ks p.ID else ks) []).length ≤ l.length := by
 have h := (Sd (c := c) l).1.length_le_of_subset (l₂ := l.map (·.ID)) fun k hk => by
   obtain ⟨p, hp, _, e⟩ := ((Sd (c := c) l).2 k).1 hk
   exact List.mem_map.2 ⟨p, hp, e⟩
 rwa [List.length_map] at h
theorem Vp (b : Base) (x : Exc) (w : Int) : iP b x w = if 0 < (N7 b.Swaps b.Gaps x w b.Processes).length then ⟨w, 2, Cc (N7 b.Swaps b.Gaps x w b.Processes)⟩ else if 0 < (N8 b.Swaps b.Gaps x w b.Processes).length then ⟨w, 1, Cc (N8 b.Swaps b.Gaps x w b.Processes)⟩ else ⟨w, 0, []⟩ := by
 have hs := Sd (c := fun p => Gc b.Swaps b.Gaps x w p && Dk x p) b.Processes
 have ho := Sd (c := Gc b.Swaps b.Gaps x w) b.Processes
 have h1 : ∀ k, k ∈ N7 b.Swaps b.Gaps x w b.Processes ↔ (k, true) ∈ Pr b.Swaps b.Gaps x w b.Processes := fun k => by rw [nM]; exact hs.2 k
 have h2 : ∀ k, k ∈ N8 b.Swaps b.Gaps x w b.Processes ↔ k ∈ (Pr b.Swaps b.Gaps x w b.Processes).map (·.1) := fun k => by rw [rQ]; exact ho.2 k
 have hn := iQ b.Swaps b.Gaps x w b.Processes
 by_cases c1 : (Pr b.Swaps b.Gaps x w b.Processes).any (·.2) = true
 · obtain ⟨⟨a, c⟩, hq, e⟩ := List.any_eq_true.1 c1
   have e2 : c = true := e
   subst e2
   have e : Cn (Pr b.Swaps b.Gaps x w b.Processes) = (2, ((Pr b.Swaps b.Gaps x w b.Processes).filter (·.2)).map (·.1)) := by unfold Cn; rw [if_pos c1]
   unfold iP Px
   rw [e, if_pos (List.length_pos_of_mem ((h1 a).2 hq))]
   exact congrArg (Vd.mk w 2) (Gr (G6 (Ym hn) hs.1 fun k => by rw [AA]; exact (h1 k).symm))
 have hse : N7 b.Swaps b.Gaps x w b.Processes = [] := List.eq_nil_iff_forall_not_mem.2 fun k hk => c1 (List.any_eq_true.2 ⟨_, (h1 k).1 hk, rfl⟩)
 by_cases c2 : Pr b.Swaps b.Gaps x w b.Processes = []
 · have hoe : N8 b.Swaps b.Gaps x w b.Processes = [] := List.eq_nil_iff_forall_not_mem.2 fun k hk => by have := (h2 k).1 hk; rw [c2] at this; cases this
   have e : Cn (Pr b.Swaps b.Gaps x w b.Processes) = (0, []) := by unfold Cn; rw [if_neg c1, if_pos c2]
   unfold iP Px
   rw [e, if_neg (by rw [hse]; decide), if_neg (by rw [hoe]; decide)]
   show (⟨w, 0, Cc []⟩ : Vd) = _
   rw [show Cc [] = [] by simp [Cc]]
 obtain ⟨q, hq⟩ := List.exists_mem_of_ne_nil _ c2
 have e : Cn (Pr b.Swaps b.Gaps x w b.Processes) = (1, (Pr b.Swaps b.Gaps x w b.Processes).map (·.1)) := by unfold Cn; rw [if_neg c1, if_neg c2]
 unfold iP Px
 rw [e, if_neg (by rw [hse]; decide), if_pos (List.length_pos_of_mem ((h2 q.1).2 (List.mem_map.2 ⟨q, hq, rfl⟩)))]
 exact congrArg (Vd.mk w 1) (Gr (G6 hn ho.1 fun k => (h2 k).symm))
theorem oH (ss gs : List Fact) (x : Exc) (w : Int) (p : Fact) : Gc ss gs x w p = ((N5 gs x p || (Dj x p && Dk x p)) && decide (Iy ss p.Time p.Wafer = w)) := by rw [vH]; rfl
end Go.Wx
namespace Go.Proofs.YtmimclgihlhaeaaGreat
open Go.Proofs.Tryz
open Go.Wx Go.RowKit
set_option maxHeartbeats 4000000 in
theorem bV (bc : Array Go.Value) (b : Base) (x : Exc) (w : World) (hC : BaseC w bc b) (hT : ∀ p ∈ b.Processes, Hf p) (hlP : b.Processes.length ≤ 10000) (hlG : b.Gaps.length ≤ 10000) (hlL : b.Lots.length ≤ 10000) (hls : b.Swaps.length ≤ 1000000000) : Ret Tryz.prog 17 #[.agg bc, .agg x.cells] w fun r w' => DD w' r (K1 b x) ∧ Up w w' := by
 obtain ⟨w0, rfl⟩ : ∃ w0, w0 = w := ⟨_, rfl⟩
 have hS := Sep.start no w0
 refine cS (n := 95) (m := 9) func17 rfl rfl rfl (CW.S (Ah (.C7 (.t rfl)) rfl ?_))
 rintro _ w1 ⟨B2, rfl, NB2⟩
 replace hS := hS.Cj NB2
 refine Ah (.C7 (.t rfl)) rfl ?_
 rintro _ w2 ⟨B3, rfl, NB3⟩
 replace hS := hS.Cj NB3
 refine LW.C (LW.S (CW.S (LW.pp (.la isAgg25 sizeOf25 rfl ((hS.blk 1 rfl).agg)) (LW.K (eC (.o rfl) (vW)) rfl (Pt x _) ?_))))
 rintro _ w3 ⟨rfl, uw3⟩
 replace hS := hS.up uw3
 refine LW.pp (.not (.t rfl)) (LW.T (CW.cond (.t rfl) (fun h17 => ?_) (fun h17 => ?_)))
 ·replace h17 := dQ h17
  have hex : Hi x = false := by simpa using h17
  have hj0 : K1 b x = [] := by unfold K1; rw [if_neg (by rw [hex]; exact Bool.false_ne_true)]
  refine CW.S (LW.C (LW.T (CW.ret (Af (Ae rfl rfl ⟨_, rfl, ?_⟩)))))
  exact ⟨by rw [hj0]; exact ⟨none, 0, [], rfl, rfl, fun i x h => (by simp at h), fun p hp => (by cases hp)⟩, hS.Ce⟩
 replace h17 := dQ h17
 have hxo : Hi x = true := by simpa using h17
 refine CW.skip (KW.then (CW.S (LW.pp (.Ee isAgg38 sizeOf38 (hC.size) (.t rfl) ((hS.blk 0 rfl).agg)) (LW.K (eC (.o rfl) (BF)) rfl (Yq bc b _ (hC.up hS.Ce) hls oQ oQ) ?_))))
 rintro v19 w4 ⟨hWf_, uw4⟩
 replace hS := hS.up uw4
 obtain ⟨adW, cpW, rfl, hEW⟩ := hWf_
 replace hEW : Els w4 adW 1 Aq (Bq b.Lots b.Processes b.Swaps) := hEW
 refine LW.A rfl (LW.S ?_)
 have hUa := hS.Ce
 have hB2z := hS.blk 0 rfl
 have hB3z := hS.blk 1 rfl
 have hCz := hC.up hS.Ce
 obtain ⟨v00, h00, hs00⟩ := hCz.at_ (j := 0) cQ
 obtain ⟨adP, cpP, rfl, hEP⟩ := (show Sl w4 v00 19 Fact.cells b.Processes from hs00)
 clear hS
 have hS := Sep.start no w4
 have hwl := K3 b.Lots b.Processes b.Swaps
 refine CW.region (LW.C (LW.S (CW.seq ?_)))
 replace hS := hS.J9 (OwnS.nil _ 0 32 3 VP.cells)
 replace hS := hS.add (Up.refl _) (A' := Db (Hv 3 [])) ⟨by simp [Hv], by simp [Hv]⟩ (by rintro i ⟨A, hA, _⟩; simp [Hv] at hA)
 refine CW.region (LW.C (LW.T (CW.block (Am (σ := Nat × Go.Value × List VP) (fun s w => (s.1 ≤ (Bq b.Lots b.Processes b.Swaps).length) ∧ (s.2.2.map VP.vd = ((Bq b.Lots b.Processes b.Swaps).take s.1).map (iP b x)) ∧ (Wx.Sep no w4 w [Al 32 3 VP.cells s.2.1 s.2.2, Db (Hv 3 s.2.2)])) (fun s => [(7, .eq (vi (s.1 : Int))), (6, .eq (s.2.1))]) ([(2, .eq _), (3, .eq _), (4, .eq _), (5, .eq _)]) (fun s => (Bq b.Lots b.Processes b.Swaps).length - s.1) (0, .slice none 0 0, []) ?_ ⟨rfl, rfl, rfl, rfl, rfl, rfl, trivial⟩ ?_))))
 ·exact ⟨Nat.zero_le _, rfl, hS⟩
 rintro ⟨i, v, L⟩ w5 ⟨hi, hL, hS⟩
 dsimp only at hi hL hS
 have hLl : L.length = i := (by have h := congrArg List.length hL; rw [List.length_map, List.length_map, List.length_take] at h; omega)
 change CW _ _ _ _ _ _ _ ([(7, .eq (vi (i : Int))), (6, .eq (v))] ++ _) _
 refine CW.seq (CW.S (LW.M rfl (LW.M rfl (LW.pp (.Ci underlying30 (.t rfl)) (LW.pp (.lss (.t rfl) (.t rfl)) (LW.T (CW.cond (.t rfl) (fun h23 => ?_) (fun h23 => ?_))))))))
 ·replace h23 := dQ h23
  refine CW.skip (KW.then (CW.seq (CW.block (CW.seq ?_))))
  obtain ⟨wf, hwf⟩ := Ac (xs := (Bq b.Lots b.Processes b.Swaps)) (i := i) oQ
  refine CW.region (LW.C (LW.S (CW.region (LW.C (LW.S (CW.seq ?_))))))
  replace hS := hS.J9 (OwnS.nil _ 0 3 1 Aq)
  replace hS := hS.J9 (OwnS.nil _ 0 3 1 Aq)
  refine CW.region (LW.C (LW.T (CW.block (Am (σ := Nat × Go.Value × Go.Value × List Int × List Int) (fun s w => (s.1 ≤ b.Processes.length) ∧ (s.2.2.2.1 = N7 b.Swaps b.Gaps x wf (b.Processes.take s.1)) ∧ (s.2.2.2.2 = N8 b.Swaps b.Gaps x wf (b.Processes.take s.1)) ∧ (Wx.Sep no w4 w [Al 32 3 VP.cells v L, Db (Hv 3 L), Al 3 1 Aq s.2.1 (Cc s.2.2.2.1), Al 3 1 Aq s.2.2.1 (Cc s.2.2.2.2)])) (fun s => [(10, .eq (vi (s.1 : Int))), (8, .eq (s.2.1)), (9, .eq (s.2.2.1))]) ([(2, .eq _), (3, .eq _), (4, .eq _), (5, .eq _), (6, .eq _), (7, .eq _)]) (fun s => b.Processes.length - s.1) (0, .slice none 0 0, .slice none 0 0, [], []) ?_ ⟨rfl, rfl, rfl, rfl, rfl, rfl, rfl, rfl, rfl, trivial⟩ ?_))))
  ·exact ⟨Nat.zero_le _, rfl, rfl, by show Wx.Sep _ _ _ [_, _, Al _ _ _ _ (Cc []), Al _ _ _ _ (Cc [])]; rw [show Cc [] = [] by simp [Cc]]; exact hS⟩
  rintro ⟨k, u, o, SU, OP⟩ w6 ⟨hk, hSU, hOP, hS⟩
  dsimp only at hk hSU hOP hS
  change CW _ _ _ _ _ _ _ ([(10, .eq (vi (k : Int))), (8, .eq (u)), (9, .eq (o))] ++ _) _
  refine CW.seq (CW.S (LW.M rfl (LW.pp (.fA 0 underlying38 rfl sizeOf23 rfl) (LW.pp (.ld isAgg23 rfl ((hB2z.up hS.Ce).cell h00)) (LW.pp (.Ci underlying23 (.t rfl)) (LW.pp (.lss (.t rfl) (.t rfl)) (LW.T (CW.cond (.t rfl) (fun h30 => ?_) (fun h30 => ?_)))))))))
  ·replace h30 := dQ h30
   refine CW.skip (KW.then (CW.seq (CW.block (CW.seq ?_))))
   obtain ⟨y, hy⟩ := Ac (xs := b.Processes) (i := k) oQ
   obtain ⟨By, oy, ay, hcy⟩ := (Els.up hEP hS.Ce) k y hy
   have hty := hT y (List.mem_of_getElem? hy)
   refine CW.region (LW.pp (.fA 0 underlying38 rfl sizeOf23 rfl) (LW.pp (.ld isAgg23 rfl ((hB2z.up hS.Ce).cell h00)) (LW.M rfl (LW.pp (.Aj underlying23 sizeOf36 (j := k) (.t rfl) (.t rfl) oQ ay) (LW.pp (.la isAgg36 sizeOf36 rfl (hcy)) (Ah (.Az zeroValue36) rfl ?_))))))
   rintro _ w7 ⟨B11, rfl, MB11⟩
   refine LW.E (.Ay sizeOf36 rfl (.t rfl) (.t rfl) (Fact.one _) MB11.blk rfl) ?_
   intro w8 LB11
   have NB11 := MB11.set LB11
   clear LB11 MB11
   replace hS := hS.Cj NB11
   refine LW.S (CW.region (LW.pp (.Ee isAgg38 sizeOf38 (hCz.size) (.t rfl) ((hB2z.up hS.Ce).agg)) (LW.pp (.la isAgg25 sizeOf25 rfl ((hB3z.up hS.Ce).agg)) (LW.pp (.la isAgg36 sizeOf36 rfl ((hS.blk 4 rfl).agg)) (LW.K (eC (.cons (.t rfl) (.cons (.t rfl) (.cons (.t rfl) .nil))) (BG)) rfl (iV bc b x y _ (hCz.up hS.Ce) hty hxo oQ) ?_)))))
   rintro _ w9 ⟨rfl, uw9⟩
   replace hS := hS.up uw9
   refine LW.A rfl (LW.S (CW.region (LW.pp (.la isAgg25 sizeOf25 rfl ((hB3z.up hS.Ce).agg)) (LW.pp (.la isAgg36 sizeOf36 rfl ((hS.blk 4 rfl).agg)) (LW.K (eC (.u rfl rfl) (BH)) rfl (bR x y _ hty hxo) ?_)))))
   rintro _ w10 ⟨rfl, uw10⟩
   replace hS := hS.up uw10
   refine LW.A rfl (LW.S (CW.seq ?_))
   obtain ⟨Bw, ow, aw, hcw⟩ := (Els.up hEW hS.Ce) i wf hwf
   refine Ch kQ kQ rfl rfl (HW.pp (.move (.t rfl)) (HW.pp (.not (.t rfl)) (HW.pp (.move (.t rfl)) (HW.g rfl rfl rfl rfl rfl rfl (fun hc => PEv.move (.t rfl)) (HW.g rfl rfl rfl rfl rfl rfl (fun hc => PEv.not vQ) (HW.pp (.Ao (.t rfl) (fun hp => (by exact .cond rfl (by (rw [hp]; rfl))))) (HW.pp (.move (.t rfl)) (HW.g rfl rfl rfl rfl rfl rfl (fun hc => PEv.Ee isAgg38 sizeOf38 (hCz.size) (.t rfl) ((hB2z.up hS.Ce).agg)) (HW.g rfl rfl rfl rfl rfl rfl (fun hc => PEv.fA 7 underlying36 rfl sizeOf3 rfl) (HW.g rfl rfl rfl rfl rfl rfl (fun hc => PEv.load isAgg3 vQ ((hS.blk 4 rfl).Ai rfl)) (HW.g rfl rfl rfl rfl rfl rfl (fun hc => PEv.fA 5 underlying36 rfl sizeOf3 rfl) (HW.g rfl rfl rfl rfl rfl rfl (fun hc => PEv.load isAgg3 vQ ((hS.blk 4 rfl).Ai rfl)) (HW.gc rfl rfl rfl rfl rfl rfl (fun hc a w _ ha => Aw (.cons vQ (.cons vQ (.cons vQ .nil))) (wC) a ha) (fun hc w hu => Yo bc b y.Wafer y.Time w ((hCz.up hS.Ce).up hu) oQ) (HW.g rfl rfl rfl rfl rfl rfl (fun hc => PEv.move (.t rfl)) (HW.g rfl rfl rfl rfl rfl rfl (fun hc => PEv.move (.t rfl)) (HW.g rfl rfl rfl rfl rfl rfl (fun hc => PEv.Aj underlying30 sizeOf3 (j := i) vQ vQ oQ aw) (HW.g rfl rfl rfl rfl rfl rfl (fun hc => PEv.load isAgg3 vQ (hcw.nth (j := 0) rfl)) (HW.g rfl rfl rfl rfl rfl rfl (fun hc => PEv.neq vQ vQ) (HW.pp (.A7 (.t rfl) (fun hp => (by exact .cond rfl (by (rw [hp]; rfl))))) (HW.nil ?_))))))))))))))))))))
   intro w11 uw11
   replace hS := hS.up uw11
   refine KW.then (CW.cond (.t rfl) (fun h63 => ?_) (fun h63 => ?_))
   ·replace h63 := dQ h63
    have hno : Gc b.Swaps b.Gaps x wf y = false := by revert h63; rw [oH]; generalize N5 b.Gaps x y = m1; generalize (Dj x y && Dk x y) = m2; generalize decide (Iy b.Swaps y.Time y.Wafer = wf) = m3; cases m1 <;> cases m2 <;> cases m3 <;> simp
    refine CW.exit (Aa (Ad (KW.then (CW.region (LW.M rfl (LW.pp (.inc (.t rfl) oQ) (LW.A rfl (LW.nil (KW.round ?_)))))))))
    exact ⟨(k + 1, u, o, SU, OP), ⟨by show k + 1 ≤ _; omega, by show SU = _; rw [M0 hy, hno, hSU]; rfl, by show OP = _; rw [M1 hy, hno, hOP]; rfl, hS.take 4⟩, ⟨rfl, rfl, rfl, rfl, rfl, rfl, rfl, rfl, rfl, trivial⟩, by show b.Processes.length - (k + 1) < b.Processes.length - k; omega⟩
   replace h63 := dQ h63
   have hyes : Gc b.Swaps b.Gaps x wf y = true := by revert h63; rw [oH]; generalize N5 b.Gaps x y = m1; generalize (Dj x y && Dk x y) = m2; generalize decide (Iy b.Swaps y.Time y.Wafer = wf) = m3; cases m1 <;> cases m2 <;> cases m3 <;> simp
   refine CW.skip (KW.then (CW.seq (CW.S (LW.M rfl (LW.T (CW.cond (.t rfl) (fun h64 => ?_) (fun h64 => ?_)))))))
   ·replace h64 := dQ h64
    have hsu : Dk x y = true := by rw [Bool.and_eq_true] at h64; exact h64.2
    refine CW.region (LW.M rfl (LW.pp (.fA 1 underlying36 rfl sizeOf3 rfl) (LW.pp (.ld isAgg3 rfl ((hS.blk 4 rfl).Ai rfl)) ?_)))
    obtain ⟨adu, cpu, rfl, _⟩ := (hS.own 2 rfl).sl (fun _ => rfl)
    have hlu : SU.length ≤ b.Processes.length := by rw [hSU]; exact Nat.le_trans (Jj (c := (fun p => Gc b.Swaps b.Gaps x wf p && Dk x p)) _) (by rw [List.length_take]; omega)
    refine LW.K (eC (.u rfl rfl) (pB)) rfl (N6 adu cpu (Cc SU) y.ID _ (hS.own 2 rfl) (by rw [Co]; omega) (G9 (by rw [hSU]; exact (Sd _).1))) ?_
    rintro v68 w12 uw12
    replace hS := hS.Dh 2 rfl uw12
    rw [Gx] at hS
    refine LW.A rfl (LW.T (CW.region (LW.M rfl (LW.pp (.fA 1 underlying36 rfl sizeOf3 rfl) (LW.pp (.ld isAgg3 rfl ((hS.blk 4 rfl).Ai rfl)) ?_)))))
    obtain ⟨ado, cpo, rfl, _⟩ := (hS.own 3 rfl).sl (fun _ => rfl)
    have hlo : OP.length ≤ b.Processes.length := by rw [hOP]; exact Nat.le_trans (Jj (c := (Gc b.Swaps b.Gaps x wf)) _) (by rw [List.length_take]; omega)
    refine LW.K (eC (.u rfl rfl) (pB)) rfl (N6 ado cpo (Cc OP) y.ID _ (hS.own 3 rfl) (by rw [Co]; omega) (G9 (by rw [hOP]; exact (Sd _).1))) ?_
    rintro v72 w13 uw13
    replace hS := hS.Dh 3 rfl uw13
    rw [Gx] at hS
    refine LW.A rfl (LW.nil (KW.inBlock (KW.then (CW.region (LW.M rfl (LW.pp (.inc (.t rfl) oQ) (LW.A rfl (LW.nil (KW.round ?_)))))))))
    exact ⟨(k + 1, v68, v72, Dy SU y.ID, Dy OP y.ID), ⟨by show k + 1 ≤ _; omega, by show Dy SU y.ID = _; rw [M0 hy, hyes, hsu, hSU]; rfl, by show Dy OP y.ID = _; rw [M1 hy, hyes, hOP]; rfl, hS.take 4⟩, ⟨rfl, rfl, rfl, rfl, rfl, rfl, rfl, rfl, rfl, trivial⟩, by show b.Processes.length - (k + 1) < b.Processes.length - k; omega⟩
   replace h64 := dQ h64
   have hsu : Dk x y = false := by have h5 := hyes; unfold Gc at h5; simp only [Bool.and_eq_true] at h5; rw [h5.1.1] at h64; simpa using h64
   refine CW.skip (KW.then (CW.region (LW.M rfl (LW.pp (.fA 1 underlying36 rfl sizeOf3 rfl) (LW.pp (.ld isAgg3 rfl ((hS.blk 4 rfl).Ai rfl)) ?_)))))
   obtain ⟨ado, cpo, rfl, _⟩ := (hS.own 3 rfl).sl (fun _ => rfl)
   have hlo : OP.length ≤ b.Processes.length := by rw [hOP]; exact Nat.le_trans (Jj (c := (Gc b.Swaps b.Gaps x wf)) _) (by rw [List.length_take]; omega)
   refine LW.K (eC (.u rfl rfl) (pB)) rfl (N6 ado cpo (Cc OP) y.ID _ (hS.own 3 rfl) (by rw [Co]; omega) (G9 (by rw [hOP]; exact (Sd _).1))) ?_
   rintro v72 w14 uw14
   replace hS := hS.Dh 3 rfl uw14
   rw [Gx] at hS
   refine LW.A rfl (LW.nil (KW.inBlock (KW.then (CW.region (LW.M rfl (LW.pp (.inc (.t rfl) oQ) (LW.A rfl (LW.nil (KW.round ?_)))))))))
   exact ⟨(k + 1, u, v72, SU, Dy OP y.ID), ⟨by show k + 1 ≤ _; omega, by show SU = _; rw [M0 hy, hyes, hsu, hSU]; rfl, by show Dy OP y.ID = _; rw [M1 hy, hyes, hOP]; rfl, hS.take 4⟩, ⟨rfl, rfl, rfl, rfl, rfl, rfl, rfl, rfl, rfl, trivial⟩, by show b.Processes.length - (k + 1) < b.Processes.length - k; omega⟩
  replace h30 := dQ h30
  refine CW.exit (Aa (Aa (Ad (KW.then (CW.seq ?_)))))
  obtain ⟨Bw, ow, aw, hcw⟩ := (Els.up hEW hS.Ce) i wf hwf
  have hkl : k = b.Processes.length := by omega
  rw [hkl, List.take_length] at hSU hOP
  have hSUe := hSU
  have hOPe := hOP
  refine CW.region (LW.M rfl (LW.M rfl (LW.pp (.Aj underlying30 sizeOf3 (j := i) (.t rfl) (.t rfl) oQ aw) (LW.pp (.ld isAgg3 rfl (hcw.nth (j := 0) rfl)) (LW.pp (.build (cs := (VP.mk ⟨wf, 0, []⟩ none 0).cells) underlying32 zeroValue32 Ek (.cons (.t rfl) .nil) rfl) (Ah (.Az zeroValue32) rfl ?_))))))
  rintro _ w15 ⟨B14, rfl, MB14⟩
  refine LW.E (.Ay sizeOf32 rfl (.t rfl) (.t rfl) (VP.one _) MB14.blk rfl) ?_
  intro w16 LB14
  have NB14 := MB14.set LB14
  clear LB14 MB14
  replace hS := hS.Cj NB14
  refine LW.S (CW.seq ?_)
  obtain ⟨adu, cpu, rfl, _⟩ := (hS.own 2 rfl).sl (fun _ => rfl)
  obtain ⟨ado, cpo, rfl, _⟩ := (hS.own 3 rfl).sl (fun _ => rfl)
  have hlu : SU.length ≤ b.Processes.length := by rw [hSU]; exact Nat.le_trans (Jj (c := (fun p => Gc b.Swaps b.Gaps x wf p && Dk x p)) _) (Nat.le_refl _)
  have hlo : OP.length ≤ b.Processes.length := by rw [hOP]; exact Nat.le_trans (Jj (c := (Gc b.Swaps b.Gaps x wf)) _) (Nat.le_refl _)
  have hSUl := Co SU
  have hOPl := Co OP
  refine CW.region (LW.M rfl (LW.pp (.Ci underlying30 (.t rfl)) (LW.pp (.gtr (.t rfl) (.const _)) (LW.T (CW.cond (.t rfl) (fun h80 => ?_) (fun h80 => ?_))))))
  ·replace h80 := dQ h80
   refine CW.S (LW.pp (.fA 1 underlying32 rfl sizeOf3 rfl) (LW.E (.store sizeOf3 (.t rfl) (.const _) rfl (hS.blk 4 rfl) (Nat.le_of_ble_eq_true rfl)) ?_))
   intro w17 Nw17
   replace hS := hS.Gf 4 rfl (show Set_ _ w17 _ (#[vi wf, vi 2, .slice none 0 0]) _ from Nw17)
   refine LW.T (CW.region (LW.M rfl (LW.pp (.fA 2 underlying32 rfl sizeOf30 rfl) (LW.E (.store sizeOf30 (.t rfl) (.t rfl) rfl (hS.blk 4 rfl) (Nat.le_of_ble_eq_true rfl)) ?_))))
   intro w18 Nw18
   replace hS := hS.Gf 4 rfl (show Set_ _ w18 _ (#[vi wf, vi 2, .slice adu (Cc SU).length cpu]) _ from Nw18)
   refine LW.T ?_
   obtain ⟨e, hee⟩ : ∃ e : VP, e = ⟨⟨wf, 2, Cc SU⟩, adu, cpu⟩ := ⟨_, rfl⟩
   have hev : e.vd = iP b x wf := by rw [hee, Vp, ← hSUe, if_pos (by rw [← Co]; omega)]
   replace hS := hS.Py 2 rfl
   replace hS := (show Wx.Sep _ _ _ ([_, _, _, _] ++ [_]) from hS).sub (.cons_cons _ (.cons_cons _ (.cons _ (.cons_cons _ (.cons_cons _ .slnil)))))
   have hB14v : Blk w18 B14 (VP.cells e) 32 := by rw [hee]; exact hS.blk 2 rfl
   refine CW.region (LW.M rfl (LW.pp (.la isAgg32 sizeOf32 rfl (hB14v.agg)) (Ah (.buildSlice (xs := [e]) (enc := VP.cells) (mk := fun p => .agg p.cells) underlying27 sizeOf32 zeroValue32 rfl cQ (fun _ => rfl) (fun _ => rfl) (.cons (.t rfl) .nil) rfl) rfl ?_)))
   rintro _ w19 ⟨B92, cB92, rfl, NB92, yB92, xB92⟩
   replace hS := hS.up NB92.up
   have hE92 := xB92
   refine Ah (.A8 (enc := VP.cells) (bytes := 40) (i := Tryz.t32) underlying27 kQ rfl rfl rfl rfl cQ (fun _ => rfl) VP.one (.t rfl) (.t rfl) (hS.own 0 rfl) (Ak hE92) (by simp only [maxLen, List.length_cons, List.length_nil]; omega) (by simp only [List.length_cons, List.length_nil]; omega)) rfl ?_
   intro v93 w20 Gw20
   replace hS := hS.Dh 0 rfl Gw20
   refine LW.A rfl (LW.nil (KW.inBlock (KW.then (CW.region (LW.M rfl (LW.pp (.inc (.t rfl) oQ) (LW.A rfl (LW.nil (KW.round ?_)))))))))
   exact ⟨(i + 1, v93, L ++ [e]), ⟨by show i + 1 ≤ _; omega, by show (L ++ [e]).map VP.vd = _; rw [List.map_append, hL, Ar hwf, List.map_append]; show _ ++ [e.vd] = _ ++ [iP b x wf]; rw [hev], by rw [← Ji]; subst hee; exact Gu (Bs := [_]) (hS.sub (.cons_cons _ (.cons_cons _ (.cons _ (.cons_cons _ .slnil)))))⟩, ⟨rfl, rfl, rfl, rfl, rfl, rfl, trivial⟩, by show (Bq b.Lots b.Processes b.Swaps).length - (i + 1) < (Bq b.Lots b.Processes b.Swaps).length - i; omega⟩
  replace h80 := dQ h80
  refine CW.S (LW.M rfl (LW.pp (.Ci underlying30 (.t rfl)) (LW.pp (.gtr (.t rfl) (.const _)) (LW.T (CW.cond (.t rfl) (fun h86 => ?_) (fun h86 => ?_))))))
  ·replace h86 := dQ h86
   refine CW.S (LW.pp (.fA 1 underlying32 rfl sizeOf3 rfl) (LW.E (.store sizeOf3 (.t rfl) (.const _) rfl (hS.blk 4 rfl) (Nat.le_of_ble_eq_true rfl)) ?_))
   intro w21 Nw21
   replace hS := hS.Gf 4 rfl (show Set_ _ w21 _ (#[vi wf, vi 1, .slice none 0 0]) _ from Nw21)
   refine LW.T (CW.region (LW.M rfl (LW.pp (.fA 2 underlying32 rfl sizeOf30 rfl) (LW.E (.store sizeOf30 (.t rfl) (.t rfl) rfl (hS.blk 4 rfl) (Nat.le_of_ble_eq_true rfl)) ?_))))
   intro w22 Nw22
   replace hS := hS.Gf 4 rfl (show Set_ _ w22 _ (#[vi wf, vi 1, .slice ado (Cc OP).length cpo]) _ from Nw22)
   refine LW.T ?_
   obtain ⟨e, hee⟩ : ∃ e : VP, e = ⟨⟨wf, 1, Cc OP⟩, ado, cpo⟩ := ⟨_, rfl⟩
   have hev : e.vd = iP b x wf := by rw [hee, Vp, ← hSUe, ← hOPe, if_neg (by rw [← Co]; omega), if_pos (by rw [← Co]; omega)]
   replace hS := hS.Py 3 rfl
   replace hS := hS.sub (.cons_cons _ (.cons_cons _ (.cons _ (.cons_cons _ (.cons_cons _ .slnil)))))
   have hB14v : Blk w22 B14 (VP.cells e) 32 := by rw [hee]; exact hS.blk 2 rfl
   refine CW.region (LW.M rfl (LW.pp (.la isAgg32 sizeOf32 rfl (hB14v.agg)) (Ah (.buildSlice (xs := [e]) (enc := VP.cells) (mk := fun p => .agg p.cells) underlying27 sizeOf32 zeroValue32 rfl cQ (fun _ => rfl) (fun _ => rfl) (.cons (.t rfl) .nil) rfl) rfl ?_)))
   rintro _ w23 ⟨B92, cB92, rfl, NB92, yB92, xB92⟩
   replace hS := hS.up NB92.up
   have hE92 := xB92
   refine Ah (.A8 (enc := VP.cells) (bytes := 40) (i := Tryz.t32) underlying27 kQ rfl rfl rfl rfl cQ (fun _ => rfl) VP.one (.t rfl) (.t rfl) (hS.own 0 rfl) (Ak hE92) (by simp only [maxLen, List.length_cons, List.length_nil]; omega) (by simp only [List.length_cons, List.length_nil]; omega)) rfl ?_
   intro v93 w24 Gw24
   replace hS := hS.Dh 0 rfl Gw24
   refine LW.A rfl (LW.nil (KW.inBlock (KW.then (CW.region (LW.M rfl (LW.pp (.inc (.t rfl) oQ) (LW.A rfl (LW.nil (KW.round ?_)))))))))
   exact ⟨(i + 1, v93, L ++ [e]), ⟨by show i + 1 ≤ _; omega, by show (L ++ [e]).map VP.vd = _; rw [List.map_append, hL, Ar hwf, List.map_append]; show _ ++ [e.vd] = _ ++ [iP b x wf]; rw [hev], by rw [← Ji]; subst hee; exact Gu (Bs := [_]) (hS.sub (.cons_cons _ (.cons_cons _ (.cons _ (.cons_cons _ .slnil)))))⟩, ⟨rfl, rfl, rfl, rfl, rfl, rfl, trivial⟩, by show (Bq b.Lots b.Processes b.Swaps).length - (i + 1) < (Bq b.Lots b.Processes b.Swaps).length - i; omega⟩
  replace h86 := dQ h86
  refine CW.skip (KW.then ?_)
  obtain ⟨e, hee⟩ : ∃ e : VP, e = ⟨⟨wf, 0, []⟩, none, 0⟩ := ⟨_, rfl⟩
  have hev : e.vd = iP b x wf := by rw [hee, Vp, ← hSUe, ← hOPe, if_neg (by rw [← Co]; omega), if_neg (by rw [← Co]; omega)]
  replace hS := hS.sub (.cons_cons _ (.cons_cons _ (.cons _ (.cons _ (.cons_cons _ .slnil)))))
  replace hS := hS.J9 (OwnS.nil _ 0 3 1 Aq)
  have hB14v : Blk w16 B14 (VP.cells e) 32 := by rw [hee]; exact hS.blk 2 rfl
  refine CW.region (LW.M rfl (LW.pp (.la isAgg32 sizeOf32 rfl (hB14v.agg)) (Ah (.buildSlice (xs := [e]) (enc := VP.cells) (mk := fun p => .agg p.cells) underlying27 sizeOf32 zeroValue32 rfl cQ (fun _ => rfl) (fun _ => rfl) (.cons (.t rfl) .nil) rfl) rfl ?_)))
  rintro _ w25 ⟨B92, cB92, rfl, NB92, yB92, xB92⟩
  replace hS := hS.up NB92.up
  have hE92 := xB92
  refine Ah (.A8 (enc := VP.cells) (bytes := 40) (i := Tryz.t32) underlying27 kQ rfl rfl rfl rfl cQ (fun _ => rfl) VP.one (.t rfl) (.t rfl) (hS.own 0 rfl) (Ak hE92) (by simp only [maxLen, List.length_cons, List.length_nil]; omega) (by simp only [List.length_cons, List.length_nil]; omega)) rfl ?_
  intro v93 w26 Gw26
  replace hS := hS.Dh 0 rfl Gw26
  refine LW.A rfl (LW.nil (KW.inBlock (KW.then (CW.region (LW.M rfl (LW.pp (.inc (.t rfl) oQ) (LW.A rfl (LW.nil (KW.round ?_)))))))))
  exact ⟨(i + 1, v93, L ++ [e]), ⟨by show i + 1 ≤ _; omega, by show (L ++ [e]).map VP.vd = _; rw [List.map_append, hL, Ar hwf, List.map_append]; show _ ++ [e.vd] = _ ++ [iP b x wf]; rw [hev], by rw [← Ji]; subst hee; exact Gu (Bs := [_]) (hS.sub (.cons_cons _ (.cons_cons _ (.cons _ (.cons_cons _ .slnil)))))⟩, ⟨rfl, rfl, rfl, rfl, rfl, rfl, trivial⟩, by show (Bq b.Lots b.Processes b.Swaps).length - (i + 1) < (Bq b.Lots b.Processes b.Swaps).length - i; omega⟩
 replace h23 := dQ h23
 refine CW.exit (Aa (Aa (Ad (KW.then (CW.S (LW.M rfl (LW.A rfl (LW.T (CW.ret (Ae rfl rfl ⟨_, rfl, ?_⟩))))))))))
 obtain ⟨a1, c1, rfl, _⟩ := (hS.own 0 rfl).sl (fun _ => rfl)
 exact ⟨⟨a1, c1, L, rfl, by rw [hL, show i = (Bq b.Lots b.Processes b.Swaps).length by omega, List.take_length, nP hxo], (hS.own 0 rfl).els (fun _ => rfl), Nv (hS.get 1 rfl)⟩, hUa.trans hS.Ce⟩
end Go.Proofs.YtmimclgihlhaeaaGreat
end
section
namespace Go.Wx
theorem rZ (f : Fact) (g : Ar2) : decide (F3 f = g) = (decide (f.Time = g.a) && decide (f.Until = g.b)) := by
 rw [Bool.eq_iff_iff]
 simp only [Bool.and_eq_true, decide_eq_true_eq]
 cases g
 unfold F3
 simp [Ar2.mk.injEq]
def sB (why : List Int) (g : Ar2) (f : Fact) : Bool := decide (F3 f = g) && decide (f.ID ∈ why)
theorem vJ {P : List Fact} {why : List Int} {g : Ar2} : P.any (sB why g) = decide (g ∈ Fy P why) := by
 rw [Bool.eq_iff_iff, List.any_eq_true, decide_eq_true_eq, N0]
 unfold sB
 simp only [Bool.and_eq_true, decide_eq_true_eq]
 exact ⟨fun ⟨f, hf, h1, h2⟩ => ⟨f, hf, h2, h1⟩, fun ⟨f, hf, h1, h2⟩ => ⟨f, hf, h2, h1⟩⟩
def S6 (L : List VP) (k : Nat) : List Vd := ((L.take k).map (·.vd)).filter fun v => decide (v.t = 1)
theorem Yv {L : List VP} {k : Nat} {e : VP} (h : L[k]? = some e) : S6 L (k + 1) = if e.vd.t = 1 then S6 L k ++ [e.vd] else S6 L k := by
 unfold S6
 rw [Dq h, List.filter_append]
 by_cases ht : e.vd.t = 1 <;> simp [ht]
theorem Yw {P : List Fact} {L : List VP} {k : Nat} {e : VP} {g : Ar2} (h : L[k]? = some e) : Gw P (S6 L (k + 1)) g = if (decide (g ∈ Fy P e.vd.why) && decide (e.vd.t = 1)) = true then Gw P (S6 L k) g ++ [e.vd.w] else Gw P (S6 L k) g := by
 rw [Yv h]
 unfold Gw
 by_cases ht : e.vd.t = 1
 · rw [if_pos ht, List.filter_append]
   by_cases hg : g ∈ Fy P e.vd.why <;> simp [hg, ht]
 simp [ht]
theorem Yx {b : Base} {L : List VP} {k : Nat} {e : VP} {m : Int} (hm : m ≠ 0) (h : L[k]? = some e) : Es b (S6 L (k + 1)) m = if (decide (e.vd.t = 1) && decide (Eb b e.vd = m)) = true then Es b (S6 L k) m ++ [e.vd.w] else Es b (S6 L k) m := by
 rw [Yv h]
 unfold Es
 by_cases ht : e.vd.t = 1
 · rw [if_pos ht, List.filter_append]
   by_cases hg : Eb b e.vd = m <;> simp [hg, ht, hm]
 simp [ht]
def Y5 (b : Base) (l : List Vd) : List Int := l.foldl (fun X v => if decide (v.t = 1) && !decide (Eb b v = 0) then Dy X (Eb b v) else X) []
theorem Yy {b : Base} {L : List VP} {k : Nat} {e : VP} (h : L[k]? = some e) : Y5 b ((L.take (k + 1)).map (·.vd)) = if (decide (e.vd.t = 1) && !decide (Eb b e.vd = 0)) = true then Dy (Y5 b ((L.take k).map (·.vd))) (Eb b e.vd) else Y5 b ((L.take k).map (·.vd)) := by
 rw [Dq h]
 unfold Y5
 rw [List.foldl_append]
 rfl
theorem Se (b : Base) (l : List Vd) : (Y5 b l).Nodup ∧ ∀ n, n ∈ Y5 b l ↔ n ∈ ((l.filter fun v => decide (v.t = 1)).map (Eb b)).filter fun n => decide (n ≠ 0) := by
 refine Fc (p := fun l => (Y5 b l).Nodup ∧ ∀ n, n ∈ Y5 b l ↔ n ∈ ((l.filter fun v => decide (v.t = 1)).map (Eb b)).filter fun n => decide (n ≠ 0)) ⟨List.nodup_nil, by simp [Y5]⟩ (fun l v h => ?_) l
 have e : Y5 b (l ++ [v]) = if (decide (v.t = 1) && !decide (Eb b v = 0)) = true then Dy (Y5 b l) (Eb b v) else Y5 b l := by
   unfold Y5; rw [List.foldl_append]; rfl
 rw [e, List.filter_append, List.map_append, List.filter_append]
 by_cases ht : v.t = 1
 · by_cases h0 : Eb b v = 0
   · rw [if_neg (by simp [h0])]
     exact ⟨h.1, fun n => by rw [h.2]; simp [ht, h0]⟩
   rw [if_pos (by simp [ht, h0])]
   exact ⟨Ig h.1, fun n => by rw [Kw, h.2]; simp [ht, h0]⟩
 rw [if_neg (by simp [ht])]
 exact ⟨h.1, fun n => by rw [h.2]; simp [ht]⟩
theorem eP (b : Base) (l : List Vd) : (Y5 b l).length ≤ l.length := by
 have h := (Se b l).1.length_le_of_subset (l₂ := l.map (Eb b)) fun n hn => by
   obtain ⟨h1, _⟩ := List.mem_filter.1 (((Se b l).2 n).1 hn)
   obtain ⟨v, hv, e⟩ := List.mem_map.1 h1
   exact List.mem_map.2 ⟨v, (List.mem_filter.1 hv).1, e⟩
 rwa [List.length_map] at h
theorem oI (b : Base) (l : List Vd) : Cc (Y5 b l) = D7 b (l.filter fun v => decide (v.t = 1)) :=
 Gr (G6 (Se b l).1 (J6 _) fun n => by rw [(Se b l).2, G8])
theorem oJ {b : Base} {O : List Vd} {m : Int} (h : m ∈ D7 b O) : m ≠ 0 := by
 unfold D7 at h
 rw [List.mem_mergeSort, G8, List.mem_filter] at h
 exact of_decide_eq_true h.2
def eS (ti : TypeId) (Ts : List TP) : List Asr := Ts.map fun t => Al ti 1 Aq t.v t.l
theorem Yz (ti : TypeId) (Ts : List TP) (t : TP) : eS ti Ts ++ [Al ti 1 Aq t.v t.l] = eS ti (Ts ++ [t]) := by unfold eS; rw [List.map_append]; rfl
theorem sC {ti : TypeId} {Ts : List TP} {w : World} (h : (Db (eS ti Ts)).holds w) : TsOk w Ts := fun t ht => OwnS.sl (h.1 _ (List.mem_map.2 ⟨t, ht, rfl⟩)) (fun _ => rfl)
theorem eT (L : List VP) {k : Nat} (h : k = L.length) : S6 L k = (L.map (·.vd)).filter fun v => decide (v.t = 1) := by unfold S6; rw [h, List.take_length]
theorem eU (L : List VP) (k : Nat) : (S6 L k).length ≤ L.length := by
 unfold S6
 exact Nat.le_trans (List.length_filter_le _ _) (by rw [List.length_map, List.length_take]; omega)
end Go.Wx
namespace Go.Proofs.YtmimclgihlhaeaaGreat
open Go.Proofs.Tryz
open Go.Wx Go.RowKit
set_option maxHeartbeats 4000000 in
theorem bW (bc : Array Go.Value) (b : Base) (ad : Option Addr) (cp : Nat) (L : List VP) (w : World) (hC : BaseC w bc b) (hE0 : Els w ad 3 VP.cells L) (hw0 : WhyS w L) (hlw : ∀ p ∈ L, p.vd.why.length ≤ 100000) (hl : L.length ≤ 10000) (hlP : b.Processes.length ≤ 100000) (hlL : b.Lots.length ≤ 1000000000) : Ret Tryz.prog 26 #[.agg bc, .slice ad L.length cp] w fun r0 w' => ∃ Ts, Ts.map (·.l) = Gk b (L.map (·.vd)) ∧ Sl w' r0 1 TP.cells Ts ∧ TsOk w' Ts ∧ Up w w' := by
 obtain ⟨w0, rfl⟩ : ∃ w0, w0 = w := ⟨_, rfl⟩
 have hS := Sep.start no w0
 refine cS (n := 176) (m := 9) func26 rfl rfl rfl (CW.S (Ah (.C7 (.t rfl)) rfl ?_))
 rintro _ w1 ⟨B2, rfl, NB2⟩
 replace hS := hS.Cj NB2
 refine LW.C (LW.S (CW.region (LW.C (LW.S (CW.region (LW.pp (.Ee isAgg38 sizeOf38 (hC.size) (.t rfl) ((hS.blk 0 rfl).agg)) (LW.M rfl (LW.K (eC (.u rfl rfl) (BQ)) rfl (Yu bc b ad cp L _ (hC.up hS.Ce) (Els.up hE0 hS.Ce) (WhyS.up hw0 hS.Ce) hlw oQ hlP) ?_))))))))
 rintro _ w2 ⟨⟨adA, cpA, rfl, hEA, hAc⟩, uw2⟩
 replace hS := hS.up uw2
 replace hEA : Els w2 adA 2 Ar2.cells (D0 b.Processes ((L.map (·.vd)).filter fun v => decide (v.t = 1))) := hEA
 refine LW.A rfl (LW.S (CW.seq ?_))
 have hUa := hS.Ce
 have hB2z := hS.blk 0 rfl
 have hCz := hC.up hS.Ce
 obtain ⟨v00, h00, hs00⟩ := hCz.at_ (j := 0) cQ
 obtain ⟨adP, cpP, rfl, hEP⟩ := (show Sl w2 v00 19 Fact.cells b.Processes from hs00)
 clear hS
 have hS := Sep.start no w2
 replace hS := hS.J9 (OwnS.nil _ 0 64 1 TP.cells)
 replace hS := hS.add (Up.refl _) (A' := Db (eS 3 [])) ⟨by simp [eS], by simp [eS]⟩ (by rintro i ⟨A, hA, _⟩; simp [eS] at hA)
 have hTKl : (D0 b.Processes ((L.map (·.vd)).filter fun v => decide (v.t = 1))).length ≤ b.Processes.length := by rw [← oF, nZ]; exact eO (bU _ _)
 have hLKl : (D7 b ((L.map (·.vd)).filter fun v => decide (v.t = 1))).length ≤ L.length := by rw [← oI, Co]; exact Nat.le_trans (eP _ _) (by rw [List.length_map]; exact Nat.le_refl _)
 refine CW.region (LW.C (LW.T (CW.block (Am (σ := Nat × Go.Value × List TP) (fun s w => (s.1 ≤ (D0 b.Processes ((L.map (·.vd)).filter fun v => decide (v.t = 1))).length) ∧ (s.2.2.map TP.l = ((D0 b.Processes ((L.map (·.vd)).filter fun v => decide (v.t = 1))).take s.1).map (Gw b.Processes ((L.map (·.vd)).filter fun v => decide (v.t = 1)))) ∧ (Wx.Sep no w2 w [Al 64 1 TP.cells s.2.1 s.2.2, Db (eS 3 s.2.2)])) (fun s => [(7, .eq (vi (s.1 : Int))), (5, .eq (s.2.1))]) ([(1, .eq _), (2, .eq _), (4, .eq _), (6, .eq _)]) (fun s => (D0 b.Processes ((L.map (·.vd)).filter fun v => decide (v.t = 1))).length - s.1) (0, .slice none 0 0, []) ?_ ⟨rfl, rfl, rfl, rfl, rfl, rfl, trivial⟩ ?_))))
 ·exact ⟨Nat.zero_le _, rfl, hS⟩
 rintro ⟨i, v, Ts⟩ w3 ⟨hi, hTs, hS⟩
 dsimp only at hi hTs hS
 change CW _ _ _ _ _ _ _ ([(7, .eq (vi (i : Int))), (5, .eq (v))] ++ _) _
 refine CW.seq (CW.S (LW.M rfl (LW.M rfl (LW.pp (.Ci underlying103 (.t rfl)) (LW.pp (.lss (.t rfl) (.t rfl)) (LW.T (CW.cond (.t rfl) (fun h24 => ?_) (fun h24 => ?_))))))))
 ·replace h24 := dQ h24
  refine CW.skip (KW.then (CW.seq (CW.block (CW.seq ?_))))
  obtain ⟨g, hg⟩ := Ac (xs := (D0 b.Processes ((L.map (·.vd)).filter fun v => decide (v.t = 1)))) (i := i) oQ
  refine CW.region (LW.C (LW.S (CW.seq ?_)))
  replace hS := hS.J9 (OwnS.nil _ 0 3 1 Aq)
  refine CW.region (LW.C (LW.T (CW.block (Am (σ := Nat × Go.Value) (fun s w => (s.1 ≤ L.length) ∧ (Wx.Sep no w2 w [Al 64 1 TP.cells v Ts, Db (eS 3 Ts), Al 3 1 Aq s.2 (Gw b.Processes (S6 L s.1) g)])) (fun s => [(9, .eq (vi (s.1 : Int))), (8, .eq (s.2))]) ([(1, .eq _), (2, .eq _), (4, .eq _), (5, .eq _), (6, .eq _), (7, .eq _)]) (fun s => L.length - s.1) (0, .slice none 0 0) ?_ ⟨rfl, rfl, rfl, rfl, rfl, rfl, rfl, rfl, trivial⟩ ?_))))
  ·exact ⟨Nat.zero_le _, hS⟩
  rintro ⟨k, u⟩ w4 ⟨hk, hS⟩
  dsimp only at hk hS
  change CW _ _ _ _ _ _ _ ([(9, .eq (vi (k : Int))), (8, .eq (u))] ++ _) _
  refine CW.seq (CW.S (LW.M rfl (LW.M rfl (LW.pp (.Ci underlying27 (.t rfl)) (LW.pp (.lss (.t rfl) (.t rfl)) (LW.T (CW.cond (.t rfl) (fun h30 => ?_) (fun h30 => ?_))))))))
  ·replace h30 := dQ h30
   refine CW.skip (KW.then (CW.seq (CW.block (CW.seq ?_))))
   obtain ⟨e, he⟩ := Ac (xs := L) (i := k) oQ
   obtain ⟨Be, oe, ae, hce⟩ := (Els.up hE0 (hUa.trans hS.Ce)) k e he
   have hem := List.mem_of_getElem? he
   have hlwe := hlw e hem
   have hwe : Sl w4 e.uv 1 Aq e.vd.why := Sl.up (hw0 e hem) (hUa.trans hS.Ce)
   refine CW.region (LW.C (LW.S (CW.S (LW.C (LW.T (CW.block (Am (σ := Nat × Bool) (fun s w => (s.1 ≤ b.Processes.length) ∧ (s.2 = (b.Processes.take s.1).any (sB e.vd.why g)) ∧ (Wx.Sep no w2 w [Al 64 1 TP.cells v Ts, Db (eS 3 Ts), Al 3 1 Aq u (Gw b.Processes (S6 L k) g)])) (fun s => [(11, .eq (vi (s.1 : Int))), (10, .eq (.bool s.2))]) ([(1, .eq _), (2, .eq _), (4, .eq _), (5, .eq _), (6, .eq _), (7, .eq _), (8, .eq _), (9, .eq _)]) (fun s => b.Processes.length - s.1) (0, false) ?_ ⟨rfl, rfl, rfl, rfl, rfl, rfl, rfl, rfl, rfl, rfl, trivial⟩ ?_)))))))
   ·exact ⟨Nat.zero_le _, rfl, hS⟩
   rintro ⟨n, bn⟩ w5 ⟨hn, hbn, hS⟩
   dsimp only at hn hbn hS
   change CW _ _ _ _ _ _ _ ([(11, .eq (vi (n : Int))), (10, .eq (.bool bn))] ++ _) _
   refine CW.seq (CW.S (LW.M rfl (LW.pp (.fA 0 underlying38 rfl sizeOf23 rfl) (LW.pp (.ld isAgg23 rfl ((hB2z.up hS.Ce).cell h00)) (LW.pp (.Ci underlying23 (.t rfl)) (LW.pp (.lss (.t rfl) (.t rfl)) (LW.T (CW.cond (.t rfl) (fun h37 => ?_) (fun h37 => ?_)))))))))
   ·replace h37 := dQ h37
    refine CW.skip (KW.then (CW.seq (CW.block (CW.seq ?_))))
    obtain ⟨f, hf⟩ := Ac (xs := b.Processes) (i := n) oQ
    obtain ⟨Bf, of_, af, hcf⟩ := (Els.up hEP hS.Ce) n f hf
    refine CW.region (LW.pp (.fA 0 underlying38 rfl sizeOf23 rfl) (LW.pp (.ld isAgg23 rfl ((hB2z.up hS.Ce).cell h00)) (LW.M rfl (LW.pp (.Aj underlying23 sizeOf36 (j := n) (.t rfl) (.t rfl) oQ af) (LW.pp (.la isAgg36 sizeOf36 rfl (hcf)) (Ah (.Az zeroValue36) rfl ?_))))))
    rintro _ w6 ⟨B12, rfl, MB12⟩
    refine LW.E (.Ay sizeOf36 rfl (.t rfl) (.t rfl) (Fact.one _) MB12.blk rfl) ?_
    intro w7 LB12
    have NB12 := MB12.set LB12
    clear LB12 MB12
    replace hS := hS.Cj NB12
    refine LW.T ?_
    obtain ⟨Be, oe, ae, hce⟩ := (Els.up hE0 (hUa.trans hS.Ce)) k e he
    have hEw : Els w7 e.ad 1 Aq e.vd.why := T4 (Sl.up (hw0 e hem) (hUa.trans hS.Ce))
    obtain ⟨Bg, og, ag, hcg⟩ := (Els.up hEA hS.Ce) i g hg
    cases bn with
    | true =>
     refine C2 31 kQ kQ kQ kQ kQ rfl rfl (HW.pp (.move (.t rfl)) (HW.pp (.tr (PEv.move (.t rfl)) (rfl)) (HW.N (HW.N (HW.N (HW.N (HW.N (HW.N (HW.N (HW.N (HW.N (Cw rfl rfl rfl rfl rfl (Cw rfl rfl rfl rfl rfl (Cw rfl rfl rfl rfl rfl (Cw rfl rfl rfl rfl rfl (Cw rfl rfl rfl rfl rfl (Cw rfl rfl rfl rfl rfl (Cw rfl rfl rfl rfl rfl (Cw rfl rfl rfl rfl rfl (HW.N (HW.N (Cw rfl rfl rfl rfl rfl (Cw rfl rfl rfl rfl rfl (Cw rfl rfl rfl rfl rfl (Cw rfl rfl rfl rfl rfl (Cw rfl rfl rfl rfl rfl (Cw rfl rfl rfl rfl rfl (Cw rfl rfl rfl rfl rfl (Cw rfl rfl rfl rfl rfl (HW.N (HW.pp (.A7 (b := false) (.t rfl) (fun hp => absurd (show true = false from hp) cQ)) (HW.nil ?_))))))))))))))))))))))))))))))))
     intro w8 uw8
     replace hS := hS.up uw8
     refine LW.A rfl (LW.nil (KW.inBlock (KW.then (CW.region (LW.M rfl (LW.pp (.inc (.t rfl) oQ) (LW.A rfl (LW.nil (KW.round ?_)))))))))
     exact ⟨(n + 1, _), ⟨by show n + 1 ≤ _; omega, by show _ = (b.Processes.take (n + 1)).any _; rw [I0 _ hf, ← hbn]; rfl, hS.take 3⟩, ⟨rfl, rfl, rfl, rfl, rfl, rfl, rfl, rfl, rfl, rfl, trivial⟩, by show b.Processes.length - (n + 1) < b.Processes.length - n; omega⟩
    | false =>
     refine C2 31 kQ kQ kQ kQ kQ rfl rfl (HW.pp (.move (.t rfl)) (HW.pp (.fa (PEv.move (.t rfl)) (rfl)) (Cr (.fA 5 underlying36 rfl sizeOf3 rfl) (Cr (.ld isAgg3 rfl ((hS.blk 3 rfl).Ai rfl)) (Cr (.move (.t rfl)) (Cr (.move (.t rfl)) (Cr (.Aj underlying103 sizeOf99 (j := i) (.t rfl) (.t rfl) oQ ag) (Cr (.Bk (j := 0) underlying99 sizeOf3 (.t rfl) (.const _) cQ) (Cr (.ld isAgg3 rfl (hcg.nth (j := 0) rfl)) (Cr (.eql (.t rfl) (.t rfl)) (Cr (.move (.t rfl)) (HW.g rfl rfl rfl rfl rfl rfl (fun hc => PEv.fA 6 underlying36 rfl sizeOf3 rfl) (HW.g rfl rfl rfl rfl rfl rfl (fun hc => PEv.load isAgg3 vQ ((hS.blk 3 rfl).Ai rfl)) (HW.g rfl rfl rfl rfl rfl rfl (fun hc => PEv.move (.t rfl)) (HW.g rfl rfl rfl rfl rfl rfl (fun hc => PEv.move (.t rfl)) (HW.g rfl rfl rfl rfl rfl rfl (fun hc => PEv.Aj underlying103 sizeOf99 (j := i) vQ vQ oQ ag) (HW.g rfl rfl rfl rfl rfl rfl (fun hc => PEv.Bk (j := 1) underlying99 sizeOf3 vQ (.const _) cQ) (HW.g rfl rfl rfl rfl rfl rfl (fun hc => PEv.load isAgg3 vQ (hcg.nth (j := 1) rfl)) (HW.g rfl rfl rfl rfl rfl rfl (fun hc => PEv.eql vQ vQ) (Cr (.Ao (.t rfl) (fun hp => (by exact .cond rfl (by (rw [hp]; rfl))))) (Cr (.move (.t rfl)) (HW.g rfl rfl rfl rfl rfl rfl (fun hc => PEv.move (.t rfl)) (HW.g rfl rfl rfl rfl rfl rfl (fun hc => PEv.move (.t rfl)) (HW.g rfl rfl rfl rfl rfl rfl (fun hc => PEv.Aj underlying27 sizeOf32 (j := k) vQ vQ oQ ae) (HW.g rfl rfl rfl rfl rfl rfl (fun hc => PEv.fieldAddr (off := 2) underlying32 rfl rfl sizeOf30 rfl vQ) (HW.g rfl rfl rfl rfl rfl rfl (fun hc => PEv.load isAgg30 vQ (hce.nth (j := 2) rfl)) (HW.g rfl rfl rfl rfl rfl rfl (fun hc => PEv.fA 1 underlying36 rfl sizeOf3 rfl) (HW.g rfl rfl rfl rfl rfl rfl (fun hc => PEv.load isAgg3 vQ ((hS.blk 3 rfl).Ai rfl)) (HW.gc rfl rfl rfl rfl rfl rfl (fun hc a w _ ha => Aw (.cons vQ (.cons vQ .nil)) (wF) a ha) (fun hc w hu => eK e.ad e.cp e.vd.why f.ID w (Els.up hEw hu) oQ) (Cr (.Ao (.t rfl) (fun hp => (by exact .cond rfl (by (rw [hp]; rfl))))) (HW.pp (.A7 (.t rfl) (fun hp => (by exact .tmp rfl))) (HW.nil ?_))))))))))))))))))))))))))))))))
     intro w9 uw9
     replace hS := hS.up uw9
     refine LW.A rfl (LW.nil (KW.inBlock (KW.then (CW.region (LW.M rfl (LW.pp (.inc (.t rfl) oQ) (LW.A rfl (LW.nil (KW.round ?_)))))))))
     exact ⟨(n + 1, _), ⟨by show n + 1 ≤ _; omega, by show _ = (b.Processes.take (n + 1)).any _; rw [I0 _ hf, ← hbn]; (unfold sB; rw [rZ]; rfl), hS.take 3⟩, ⟨rfl, rfl, rfl, rfl, rfl, rfl, rfl, rfl, rfl, rfl, trivial⟩, by show b.Processes.length - (n + 1) < b.Processes.length - n; omega⟩
   replace h37 := dQ h37
   refine CW.exit (Aa (Aa (Ad (KW.then (CW.seq ?_)))))
   have hnl : n = b.Processes.length := by omega
   rw [hnl, List.take_length, vJ] at hbn
   obtain ⟨Be, oe, ae, hce⟩ := (Els.up hE0 (hUa.trans hS.Ce)) k e he
   have hbl := Rz b.Processes (S6 L k) g
   have hol := eU L k
   refine CW.region (LW.M rfl (LW.M rfl (LW.g rfl rfl rfl rfl rfl rfl rfl (fun hc => PEv.move (.t rfl)) (LW.g rfl rfl rfl rfl rfl rfl rfl (fun hc => PEv.move (.t rfl)) (LW.g rfl rfl rfl rfl rfl rfl rfl (fun hc => PEv.Aj underlying27 sizeOf32 (j := k) vQ vQ oQ ae) (LW.g rfl rfl rfl rfl rfl rfl rfl (fun hc => PEv.fieldAddr (off := 1) underlying32 rfl rfl sizeOf3 rfl vQ) (LW.g rfl rfl rfl rfl rfl rfl rfl (fun hc => PEv.load isAgg3 vQ (hce.nth (j := 1) rfl)) (LW.g rfl rfl rfl rfl rfl rfl rfl (fun hc => PEv.eql vQ (.const _)) (LW.pp (.Ao (.t rfl) (fun hp => (by exact .cond rfl (by (rw [hp]; rfl))))) (LW.T (CW.cond (.t rfl) (fun h84 => ?_) (fun h84 => ?_))))))))))))
   ·replace h84 := dQ h84
    have hin : (decide (g ∈ Fy b.Processes e.vd.why) && decide (e.vd.t = 1)) = true := by rw [← hbn]; simpa using h84
    refine CW.region (LW.M rfl (LW.M rfl (LW.M rfl (LW.pp (.Aj underlying27 sizeOf32 (j := k) (.t rfl) (.t rfl) oQ ae) (LW.pp (.fA 0 underlying32 rfl sizeOf3 rfl) (LW.pp (.ld isAgg3 rfl (hce.nth (j := 0) rfl)) (Ah (.buildSlice (xs := [e.vd.w]) (enc := Aq) (mk := vi) underlying30 sizeOf3 zeroValue3 rfl cQ (fun _ => rfl) (fun _ => rfl) (.cons (.t rfl) .nil) rfl) rfl ?_)))))))
    rintro _ w10 ⟨B91, cB91, rfl, NB91, yB91, xB91⟩
    replace hS := hS.up NB91.up
    have hE91 := xB91
    refine Ah (.A8 (enc := Aq) (bytes := 8) (i := Tryz.t3) underlying30 kQ rfl rfl rfl rfl cQ (fun _ => rfl) Ev (.t rfl) (.t rfl) (hS.own 2 rfl) (Ak hE91) (by simp only [maxLen, List.length_cons, List.length_nil]; omega) (by simp only [List.length_cons, List.length_nil]; omega)) rfl ?_
    intro v92 w11 Gw11
    replace hS := hS.Dh 2 rfl Gw11
    refine LW.A rfl (LW.nil (KW.inBlock (KW.then (CW.region (LW.M rfl (LW.pp (.inc (.t rfl) oQ) (LW.A rfl (LW.nil (KW.round ?_)))))))))
    exact ⟨(k + 1, v92), ⟨by show k + 1 ≤ _; omega, by (rw [Yw he, if_pos hin]; exact hS.take 3)⟩, ⟨rfl, rfl, rfl, rfl, rfl, rfl, rfl, rfl, trivial⟩, by show L.length - (k + 1) < L.length - k; omega⟩
   replace h84 := dQ h84
   have hin : ¬ (decide (g ∈ Fy b.Processes e.vd.why) && decide (e.vd.t = 1)) = true := by rw [← hbn]; intro h; rw [← Bool.not_eq_true] at h84; apply h84; simpa using h
   refine CW.skip (KW.inBlock (KW.then (CW.region (LW.M rfl (LW.pp (.inc (.t rfl) oQ) (LW.A rfl (LW.nil (KW.round ?_))))))))
   exact ⟨(k + 1, u), ⟨by show k + 1 ≤ _; omega, by (rw [Yw he, if_neg hin]; exact hS.take 3)⟩, ⟨rfl, rfl, rfl, rfl, rfl, rfl, rfl, rfl, trivial⟩, by show L.length - (k + 1) < L.length - k; omega⟩
  replace h30 := dQ h30
  refine CW.exit (Aa (Aa (Ad (KW.then ?_))))
  obtain ⟨adu, cpu, rfl, _⟩ := (hS.own 2 rfl).sl (fun _ => rfl)
  obtain ⟨t, hte⟩ : ∃ t : TP, t = ⟨adu, Gw b.Processes (S6 L k) g, cpu⟩ := ⟨_, rfl⟩
  have hTl := congrArg List.length hTs
  simp only [List.length_map, List.length_take] at hTl
  refine CW.region (LW.M rfl (LW.M rfl (LW.pp (.build (cs := t.cells) underlying64 zeroValue64 El (.cons (.t rfl) .nil) (by rw [hte]; rfl)) (Ah (.buildSlice (xs := [t]) (enc := TP.cells) (mk := fun t : TP => .agg t.cells) underlying51 sizeOf64 zeroValue64 rfl cQ (fun _ => rfl) (fun _ => rfl) (.cons (.t rfl) .nil) rfl) rfl ?_))))
  rintro _ w12 ⟨B96, cB96, rfl, NB96, yB96, xB96⟩
  replace hS := hS.up NB96.up
  have hE96 := xB96
  refine Ah (.A8 (enc := TP.cells) (bytes := 24) (i := Tryz.t64) underlying51 kQ rfl rfl rfl rfl cQ (fun _ => rfl) TP.one (.t rfl) (.t rfl) (hS.own 0 rfl) (Ak hE96) (by simp only [maxLen, List.length_cons, List.length_nil]; omega) (by simp only [List.length_cons, List.length_nil]; omega)) rfl ?_
  intro v97 w13 Gw13
  replace hS := hS.Dh 0 rfl Gw13
  refine LW.A rfl (LW.nil (KW.inBlock (KW.then (CW.region (LW.M rfl (LW.pp (.inc (.t rfl) oQ) (LW.A rfl (LW.nil (KW.round ?_)))))))))
  exact ⟨(i + 1, v97, Ts ++ [t]), ⟨by show i + 1 ≤ _; omega, by show (Ts ++ [t]).map TP.l = _; rw [List.map_append, hTs, Dq hg, ← eT L (show k = L.length by omega)]; subst hte; rfl, by rw [← Yz]; subst hte; exact Gu (Bs := [_]) (hS.take 3)⟩, ⟨rfl, rfl, rfl, rfl, rfl, rfl, trivial⟩, by show (D0 b.Processes ((L.map (·.vd)).filter fun v => decide (v.t = 1))).length - (i + 1) < (D0 b.Processes ((L.map (·.vd)).filter fun v => decide (v.t = 1))).length - i; omega⟩
 replace h24 := dQ h24
 refine CW.exit (Aa (Aa (Ad (KW.then (CW.seq ?_)))))
 replace hS := hS.J9 (OwnS.nil _ 0 3 1 Aq)
 refine CW.region (LW.C (LW.S (CW.S (LW.C (LW.T (CW.block (Am (σ := Nat × Go.Value × List Int) (fun s w => (s.1 ≤ L.length) ∧ (s.2.2 = Y5 b ((L.take s.1).map (·.vd))) ∧ (Wx.Sep no w2 w [Al 64 1 TP.cells v Ts, Db (eS 3 Ts), Al 3 1 Aq s.2.1 (Cc s.2.2)])) (fun s => [(14, .eq (vi (s.1 : Int))), (13, .eq (s.2.1))]) ([(1, .eq _), (2, .eq _), (4, .eq _), (5, .eq _)]) (fun s => L.length - s.1) (0, .slice none 0 0, []) ?_ ⟨rfl, rfl, rfl, rfl, rfl, rfl, trivial⟩ ?_)))))))
 ·exact ⟨Nat.zero_le _, rfl, by show Wx.Sep _ _ _ [_, _, Al _ _ _ _ (Cc [])]; rw [show Cc [] = [] by simp [Cc]]; exact hS⟩
 rintro ⟨k, u, X⟩ w14 ⟨hk, hX, hS⟩
 dsimp only at hk hX hS
 change CW _ _ _ _ _ _ _ ([(14, .eq (vi (k : Int))), (13, .eq (u))] ++ _) _
 refine CW.seq (CW.S (LW.M rfl (LW.M rfl (LW.pp (.Ci underlying27 (.t rfl)) (LW.pp (.lss (.t rfl) (.t rfl)) (LW.T (CW.cond (.t rfl) (fun h101 => ?_) (fun h101 => ?_))))))))
 ·replace h101 := dQ h101
  refine CW.skip (KW.then (CW.seq (CW.block (CW.seq ?_))))
  obtain ⟨e, he⟩ := Ac (xs := L) (i := k) oQ
  obtain ⟨Be, oe, ae, hce⟩ := (Els.up hE0 (hUa.trans hS.Ce)) k e he
  have hem := List.mem_of_getElem? he
  have hlwe := hlw e hem
  have hwe : Sl w14 e.uv 1 Aq e.vd.why := Sl.up (hw0 e hem) (hUa.trans hS.Ce)
  have hXl : X.length ≤ L.length := by rw [hX]; exact Nat.le_trans (eP _ _) (by rw [List.length_map, List.length_take]; omega)
  have hXs := Co X
  refine Ch kQ kQ rfl rfl (HW.pp (.move (.t rfl)) (HW.pp (.move (.t rfl)) (HW.pp (.Aj underlying27 sizeOf32 (j := k) (.t rfl) (.t rfl) oQ ae) (HW.pp (.fA 1 underlying32 rfl sizeOf3 rfl) (HW.pp (.ld isAgg3 rfl (hce.nth (j := 1) rfl)) (HW.pp (.eql (.t rfl) (.const _)) (HW.pp (.move (.t rfl)) (HW.g rfl rfl rfl rfl rfl rfl (fun hc => PEv.Ee isAgg38 sizeOf38 (hCz.size) (.t rfl) ((hB2z.up hS.Ce).agg)) (HW.g rfl rfl rfl rfl rfl rfl (fun hc => PEv.move (.t rfl)) (HW.g rfl rfl rfl rfl rfl rfl (fun hc => PEv.move (.t rfl)) (HW.g rfl rfl rfl rfl rfl rfl (fun hc => PEv.Aj underlying27 sizeOf32 (j := k) vQ vQ oQ ae) (HW.g rfl rfl rfl rfl rfl rfl (fun hc => PEv.Ee isAgg32 sizeOf32 rfl vQ (hce)) (HW.gc rfl rfl rfl rfl rfl rfl (fun hc a w _ ha => Aw (.cons vQ (.cons vQ .nil)) (tB) a ha) (fun hc w hu => O8 bc b e w ((hCz.up hS.Ce).up hu) (Sl.up hwe hu) oQ oQ oQ) (HW.g rfl rfl rfl rfl rfl rfl (fun hc => PEv.neq vQ (.const _)) (HW.pp (.Ao (.t rfl) (fun hp => (by exact .cond rfl (by (rw [hp]; rfl))))) (HW.nil ?_))))))))))))))))
  intro w15 uw15
  replace hS := hS.up uw15
  refine KW.then (CW.cond (.t rfl) (fun h118 => ?_) (fun h118 => ?_))
  ·replace h118 := dQ h118
   have hin : (decide (e.vd.t = 1) && !decide (Eb b e.vd = 0)) = true := by simpa using h118
   obtain ⟨adu, cpu, rfl, _⟩ := (hS.own 2 rfl).sl (fun _ => rfl)
   obtain ⟨Be, oe, ae, hce⟩ := (Els.up hE0 (hUa.trans hS.Ce)) k e he
   replace hwe : Sl w15 e.uv 1 Aq e.vd.why := Sl.up (hw0 e hem) (hUa.trans hS.Ce)
   refine C2 7 kQ kQ kQ kQ kQ rfl rfl (HW.pp (.move (.t rfl)) (HW.pp (.Ee isAgg38 sizeOf38 (hCz.size) (.t rfl) ((hB2z.up hS.Ce).agg)) (HW.pp (.move (.t rfl)) (HW.pp (.move (.t rfl)) (HW.pp (.Aj underlying27 sizeOf32 (j := k) (.t rfl) (.t rfl) oQ ae) (HW.pp (.la isAgg32 sizeOf32 rfl (hce)) (HW.c (fun a w _ ha => Aw (.cons (.t rfl) (.cons (.t rfl) .nil)) (tB) a ha) rfl rfl (fun w hu => O8 bc b e w ((hCz.up hS.Ce).up hu) (Sl.up hwe hu) oQ oQ oQ) (HW.nil ?_))))))))
   intro w16 uw16
   replace hS := hS.up uw16
   refine LW.K (eC (.u rfl rfl) (pB)) rfl (N6 adu cpu (Cc X) (Eb b e.vd) _ (hS.own 2 rfl) (by rw [Co]; omega) (G9 (by rw [hX]; exact (Se _ _).1))) ?_
   rintro v126 w17 uw17
   replace hS := hS.Dh 2 rfl uw17
   rw [Gx] at hS
   refine LW.A rfl (LW.nil (KW.inBlock (KW.then (CW.region (LW.M rfl (LW.pp (.inc (.t rfl) oQ) (LW.A rfl (LW.nil (KW.round ?_)))))))))
   exact ⟨(k + 1, v126, Dy X (Eb b e.vd)), ⟨by show k + 1 ≤ _; omega, by show Dy X _ = _; rw [Yy he, if_pos hin, hX], hS.take 3⟩, ⟨rfl, rfl, rfl, rfl, rfl, rfl, trivial⟩, by show L.length - (k + 1) < L.length - k; omega⟩
  replace h118 := dQ h118
  have hin : ¬ (decide (e.vd.t = 1) && !decide (Eb b e.vd = 0)) = true := by intro h; rw [← Bool.not_eq_true] at h118; apply h118; simpa using h
  refine CW.skip (KW.inBlock (KW.then (CW.region (LW.M rfl (LW.pp (.inc (.t rfl) oQ) (LW.A rfl (LW.nil (KW.round ?_))))))))
  exact ⟨(k + 1, u, X), ⟨by show k + 1 ≤ _; omega, by show X = _; rw [Yy he, if_neg hin, hX], hS.take 3⟩, ⟨rfl, rfl, rfl, rfl, rfl, rfl, trivial⟩, by show L.length - (k + 1) < L.length - k; omega⟩
 replace h101 := dQ h101
 refine CW.exit (Aa (Aa (Ad (KW.then (CW.seq (CW.seq ?_))))))
 have hXe : Cc X = (D7 b ((L.map (·.vd)).filter fun v => decide (v.t = 1))) := by rw [hX, show k = L.length by omega, List.take_length, oI]
 rw [hXe] at hS
 obtain ⟨adK, cpK, rfl, _⟩ := (hS.own 2 rfl).sl (fun _ => rfl)
 have hTs0 := hTs
 rw [show i = (D0 b.Processes ((L.map (·.vd)).filter fun v => decide (v.t = 1))).length by omega, List.take_length] at hTs0
 refine CW.region (LW.C (LW.T (CW.block (Am (σ := Nat × Go.Value × List TP) (fun s w => (s.1 ≤ (D7 b ((L.map (·.vd)).filter fun v => decide (v.t = 1))).length) ∧ (s.2.2.map TP.l = (D0 b.Processes ((L.map (·.vd)).filter fun v => decide (v.t = 1))).map (Gw b.Processes ((L.map (·.vd)).filter fun v => decide (v.t = 1))) ++ ((D7 b ((L.map (·.vd)).filter fun v => decide (v.t = 1))).take s.1).map (Es b ((L.map (·.vd)).filter fun v => decide (v.t = 1)))) ∧ (Wx.Sep no w2 w [Al 64 1 TP.cells s.2.1 s.2.2, Db (eS 3 s.2.2), Al 3 1 Aq (.slice adK (D7 b ((L.map (·.vd)).filter fun v => decide (v.t = 1))).length cpK) ((D7 b ((L.map (·.vd)).filter fun v => decide (v.t = 1))))])) (fun s => [(15, .eq (vi (s.1 : Int))), (5, .eq (s.2.1))]) ([(1, .eq _), (2, .eq _), (4, .eq _), (13, .eq _)]) (fun s => (D7 b ((L.map (·.vd)).filter fun v => decide (v.t = 1))).length - s.1) (0, v, Ts) ?_ ⟨rfl, rfl, rfl, rfl, rfl, rfl, trivial⟩ ?_))))
 ·exact ⟨Nat.zero_le _, by show Ts.map TP.l = _ ++ []; rw [hTs0, List.append_nil], hS⟩
 rintro ⟨j, v, Ts⟩ w18 ⟨hj, hTs, hS⟩
 dsimp only at hj hTs hS
 change CW _ _ _ _ _ _ _ ([(15, .eq (vi (j : Int))), (5, .eq (v))] ++ _) _
 refine CW.seq (CW.S (LW.M rfl (LW.M rfl (LW.pp (.Ci underlying30 (.t rfl)) (LW.pp (.lss (.t rfl) (.t rfl)) (LW.T (CW.cond (.t rfl) (fun h130 => ?_) (fun h130 => ?_))))))))
 ·replace h130 := dQ h130
  refine CW.skip (KW.then (CW.seq (CW.block (CW.seq ?_))))
  obtain ⟨m, hm⟩ := Ac (xs := (D7 b ((L.map (·.vd)).filter fun v => decide (v.t = 1)))) (i := j) oQ
  have hm0 := oJ (List.mem_of_getElem? hm)
  refine CW.region (LW.C (LW.S (CW.seq ?_)))
  replace hS := hS.J9 (OwnS.nil _ 0 3 1 Aq)
  refine CW.region (LW.C (LW.T (CW.block (Am (σ := Nat × Go.Value) (fun s w => (s.1 ≤ L.length) ∧ (Wx.Sep no w2 w [Al 64 1 TP.cells v Ts, Db (eS 3 Ts), Al 3 1 Aq (.slice adK (D7 b ((L.map (·.vd)).filter fun v => decide (v.t = 1))).length cpK) ((D7 b ((L.map (·.vd)).filter fun v => decide (v.t = 1)))), Al 3 1 Aq s.2 (Es b (S6 L s.1) m)])) (fun s => [(17, .eq (vi (s.1 : Int))), (16, .eq (s.2))]) ([(1, .eq _), (2, .eq _), (4, .eq _), (5, .eq _), (13, .eq _), (15, .eq _)]) (fun s => L.length - s.1) (0, .slice none 0 0) ?_ ⟨rfl, rfl, rfl, rfl, rfl, rfl, rfl, rfl, trivial⟩ ?_))))
  ·exact ⟨Nat.zero_le _, hS⟩
  rintro ⟨k, u⟩ w19 ⟨hk, hS⟩
  dsimp only at hk hS
  change CW _ _ _ _ _ _ _ ([(17, .eq (vi (k : Int))), (16, .eq (u))] ++ _) _
  refine CW.seq (CW.S (LW.M rfl (LW.M rfl (LW.pp (.Ci underlying27 (.t rfl)) (LW.pp (.lss (.t rfl) (.t rfl)) (LW.T (CW.cond (.t rfl) (fun h136 => ?_) (fun h136 => ?_))))))))
  ·replace h136 := dQ h136
   refine CW.skip (KW.then (CW.seq (CW.block (CW.seq ?_))))
   obtain ⟨e, he⟩ := Ac (xs := L) (i := k) oQ
   obtain ⟨Be, oe, ae, hce⟩ := (Els.up hE0 (hUa.trans hS.Ce)) k e he
   have hem := List.mem_of_getElem? he
   have hlwe := hlw e hem
   have hwe : Sl w19 e.uv 1 Aq e.vd.why := Sl.up (hw0 e hem) (hUa.trans hS.Ce)
   obtain ⟨Bm, om, am, hcm⟩ := (Ed (hS.own 2 rfl) (fun _ => rfl)) j m hm
   have hbl := O4 b (S6 L k) m
   have hol := eU L k
   refine Ch kQ kQ rfl rfl (HW.pp (.move (.t rfl)) (HW.pp (.move (.t rfl)) (HW.pp (.Aj underlying27 sizeOf32 (j := k) (.t rfl) (.t rfl) oQ ae) (HW.pp (.fA 1 underlying32 rfl sizeOf3 rfl) (HW.pp (.ld isAgg3 rfl (hce.nth (j := 1) rfl)) (HW.pp (.eql (.t rfl) (.const _)) (HW.pp (.move (.t rfl)) (HW.g rfl rfl rfl rfl rfl rfl (fun hc => PEv.Ee isAgg38 sizeOf38 (hCz.size) (.t rfl) ((hB2z.up hS.Ce).agg)) (HW.g rfl rfl rfl rfl rfl rfl (fun hc => PEv.move (.t rfl)) (HW.g rfl rfl rfl rfl rfl rfl (fun hc => PEv.move (.t rfl)) (HW.g rfl rfl rfl rfl rfl rfl (fun hc => PEv.Aj underlying27 sizeOf32 (j := k) vQ vQ oQ ae) (HW.g rfl rfl rfl rfl rfl rfl (fun hc => PEv.Ee isAgg32 sizeOf32 rfl vQ (hce)) (HW.gc rfl rfl rfl rfl rfl rfl (fun hc a w _ ha => Aw (.cons vQ (.cons vQ .nil)) (tB) a ha) (fun hc w hu => O8 bc b e w ((hCz.up hS.Ce).up hu) (Sl.up hwe hu) oQ oQ oQ) (HW.g rfl rfl rfl rfl rfl rfl (fun hc => PEv.move (.t rfl)) (HW.g rfl rfl rfl rfl rfl rfl (fun hc => PEv.move (.t rfl)) (HW.g rfl rfl rfl rfl rfl rfl (fun hc => PEv.Aj underlying30 sizeOf3 (j := j) vQ vQ oQ am) (HW.g rfl rfl rfl rfl rfl rfl (fun hc => PEv.load isAgg3 vQ (hcm.nth (j := 0) rfl)) (HW.g rfl rfl rfl rfl rfl rfl (fun hc => PEv.eql vQ vQ) (HW.pp (.Ao (.t rfl) (fun hp => (by exact .cond rfl (by (rw [hp]; rfl))))) (HW.nil ?_))))))))))))))))))))
   intro w20 uw20
   replace hS := hS.up uw20
   refine KW.then (CW.cond (.t rfl) (fun h157 => ?_) (fun h157 => ?_))
   ·replace h157 := dQ h157
    have hin : (decide (e.vd.t = 1) && decide (Eb b e.vd = m)) = true := by simpa using h157
    obtain ⟨Be, oe, ae, hce⟩ := (Els.up hE0 (hUa.trans hS.Ce)) k e he
    refine CW.region (LW.M rfl (LW.M rfl (LW.M rfl (LW.pp (.Aj underlying27 sizeOf32 (j := k) (.t rfl) (.t rfl) oQ ae) (LW.pp (.fA 0 underlying32 rfl sizeOf3 rfl) (LW.pp (.ld isAgg3 rfl (hce.nth (j := 0) rfl)) (Ah (.buildSlice (xs := [e.vd.w]) (enc := Aq) (mk := vi) underlying30 sizeOf3 zeroValue3 rfl cQ (fun _ => rfl) (fun _ => rfl) (.cons (.t rfl) .nil) rfl) rfl ?_)))))))
    rintro _ w21 ⟨B164, cB164, rfl, NB164, yB164, xB164⟩
    replace hS := hS.up NB164.up
    have hE164 := xB164
    refine Ah (.A8 (enc := Aq) (bytes := 8) (i := Tryz.t3) underlying30 kQ rfl rfl rfl rfl cQ (fun _ => rfl) Ev (.t rfl) (.t rfl) (hS.own 3 rfl) (Ak hE164) (by simp only [maxLen, List.length_cons, List.length_nil]; omega) (by simp only [List.length_cons, List.length_nil]; omega)) rfl ?_
    intro v165 w22 Gw22
    replace hS := hS.Dh 3 rfl Gw22
    refine LW.A rfl (LW.nil (KW.inBlock (KW.then (CW.region (LW.M rfl (LW.pp (.inc (.t rfl) oQ) (LW.A rfl (LW.nil (KW.round ?_)))))))))
    exact ⟨(k + 1, v165), ⟨by show k + 1 ≤ _; omega, by (rw [Yx hm0 he, if_pos hin]; exact hS.take 4)⟩, ⟨rfl, rfl, rfl, rfl, rfl, rfl, rfl, rfl, trivial⟩, by show L.length - (k + 1) < L.length - k; omega⟩
   replace h157 := dQ h157
   have hin : ¬ (decide (e.vd.t = 1) && decide (Eb b e.vd = m)) = true := by intro h; rw [← Bool.not_eq_true] at h157; apply h157; simpa using h
   refine CW.skip (KW.inBlock (KW.then (CW.region (LW.M rfl (LW.pp (.inc (.t rfl) oQ) (LW.A rfl (LW.nil (KW.round ?_))))))))
   exact ⟨(k + 1, u), ⟨by show k + 1 ≤ _; omega, by (rw [Yx hm0 he, if_neg hin]; exact hS.take 4)⟩, ⟨rfl, rfl, rfl, rfl, rfl, rfl, rfl, rfl, trivial⟩, by show L.length - (k + 1) < L.length - k; omega⟩
  replace h136 := dQ h136
  refine CW.exit (Aa (Aa (Ad (KW.then ?_))))
  obtain ⟨adu, cpu, rfl, _⟩ := (hS.own 3 rfl).sl (fun _ => rfl)
  obtain ⟨t, hte⟩ : ∃ t : TP, t = ⟨adu, Es b (S6 L k) m, cpu⟩ := ⟨_, rfl⟩
  have hTl := congrArg List.length hTs
  simp only [List.length_append, List.length_map, List.length_take] at hTl
  refine CW.region (LW.M rfl (LW.M rfl (LW.pp (.build (cs := t.cells) underlying64 zeroValue64 El (.cons (.t rfl) .nil) (by rw [hte]; rfl)) (Ah (.buildSlice (xs := [t]) (enc := TP.cells) (mk := fun t : TP => .agg t.cells) underlying51 sizeOf64 zeroValue64 rfl cQ (fun _ => rfl) (fun _ => rfl) (.cons (.t rfl) .nil) rfl) rfl ?_))))
  rintro _ w23 ⟨B169, cB169, rfl, NB169, yB169, xB169⟩
  replace hS := hS.up NB169.up
  have hE169 := xB169
  refine Ah (.A8 (enc := TP.cells) (bytes := 24) (i := Tryz.t64) underlying51 kQ rfl rfl rfl rfl cQ (fun _ => rfl) TP.one (.t rfl) (.t rfl) (hS.own 0 rfl) (Ak hE169) (by simp only [maxLen, List.length_cons, List.length_nil]; omega) (by simp only [List.length_cons, List.length_nil]; omega)) rfl ?_
  intro v170 w24 Gw24
  replace hS := hS.Dh 0 rfl Gw24
  refine LW.A rfl (LW.nil (KW.inBlock (KW.then (CW.region (LW.M rfl (LW.pp (.inc (.t rfl) oQ) (LW.A rfl (LW.nil (KW.round ?_)))))))))
  exact ⟨(j + 1, v170, Ts ++ [t]), ⟨by show j + 1 ≤ _; omega, by show (Ts ++ [t]).map TP.l = _; rw [List.map_append, hTs, List.append_assoc, Dq hm, ← eT L (show k = L.length by omega)]; subst hte; rfl, by rw [← Yz]; subst hte; exact (Gu (Bs := [_, _]) ((hS.Py 1 rfl).Py 2 rfl)).Py 1 rfl⟩, ⟨rfl, rfl, rfl, rfl, rfl, rfl, trivial⟩, by show (D7 b ((L.map (·.vd)).filter fun v => decide (v.t = 1))).length - (j + 1) < (D7 b ((L.map (·.vd)).filter fun v => decide (v.t = 1))).length - j; omega⟩
 replace h130 := dQ h130
 refine CW.exit (Aa (Aa (Ad (KW.then (CW.seq ?_)))))
 obtain ⟨ado, cpo, rfl, hEo⟩ := (hS.own 0 rfl).sl (fun _ => rfl)
 have hco := (hS.own 0 rfl).cap
 have hTsz := sC (hS.get 1 rfl)
 rw [show j = (D7 b ((L.map (·.vd)).filter fun v => decide (v.t = 1))).length by omega, List.take_length] at hTs
 refine CW.region (LW.M rfl (LW.M rfl (LW.pp (.Ci underlying51 (.t rfl)) (LW.pp (.jN (i := Ts.length) (j := 16) (.t rfl) (.const _)) (LW.pp (.K9 underlying51 sizeOf64 (.t rfl) (.t rfl) (by have := hco.1; omega)) (LW.A rfl (LW.T (CW.ret (Ae rfl rfl ⟨_, rfl, ?_⟩)))))))))
 exact ⟨Ts.take 16, by rw [List.map_take, show Ts.map (·.l) = _ from hTs]; rfl, Yl hEo, fun t ht => hTsz t (List.mem_of_mem_take ht), hUa.trans hS.Ce⟩
end Go.Proofs.YtmimclgihlhaeaaGreat
end
