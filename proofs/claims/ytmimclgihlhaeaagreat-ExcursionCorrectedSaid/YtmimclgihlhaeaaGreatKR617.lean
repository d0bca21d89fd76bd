import Derived.Test.YtmimclgihlhaeaaGreatKR616
import Derived.DeepKeys4
section
namespace Go.Wx
structure Ar2 where
 a : Int
 b : Int
deriving DecidableEq
def Ar2.cells (g : Ar2) : Array Go.Value := #[vi g.a, vi g.b]
theorem Ar2.one (g : Ar2) : g.cells.all (·.oneCell') = true := by simp [Ar2.cells, Value.oneCell']
def Ar2.ok (g : Ar2) : Prop := Qb g.a ∧ Qb g.b
def Sq : Mk.KT Ar2 where
 vk g := .agg g.cells
 ok g := g.ok
 inj {a b} h := by
   obtain ⟨a1, a2⟩ := a
   obtain ⟨b1, b2⟩ := b
   simp only [Ar2.cells, Value.agg.injEq, Array.mk.injEq, List.cons.injEq, Value.int.injEq, true_and, and_true] at h
   obtain ⟨rfl, rfl⟩ := h
   rfl
end Go.Wx
namespace Go.Proofs.YtmimclgihlhaeaaGreat
open Go.Proofs.Tryz
open Go.Wx Go.RowKit
theorem jX : laidOutB Tryz.prog = true := by kernel_rfl
theorem uC : (99 : TypeId) < Tryz.prog.types.size := of_decide_eq_true kQ
theorem uD : Tryz.prog.keyType 99 = true := by kernel_rfl
theorem qP : 3 ≤ Tryz.prog.types.size := of_decide_eq_true kQ
theorem Xz : Tryz.prog.cellsOf 99 = 2 := by kernel_rfl
theorem jY : Tryz.prog.cellsOf 3 = 1 := by kernel_rfl
theorem jZ {i : Int} (h : Qb i) : (Lit.int .i64 i).wf = true := by
 obtain ⟨h1, h2⟩ := h
 have e1 : IntKind.i64.min = -9223372036854775808 := by decide
 have e2 : IntKind.i64.max = 9223372036854775807 := by decide
 show (decide (IntKind.i64.min ≤ i) && decide (i ≤ IntKind.i64.max)) = true
 rw [e1, e2, decide_eq_true h1, decide_eq_true h2]
 rfl
theorem nN (s : Ar2) (h : s.ok) : ∃ l, keyOf Tryz.prog 99 (Sq.vk s) = some l := by
 obtain ⟨l, r⟩ := s
 obtain ⟨h1, h2⟩ := h
 have e1 := jZ h1
 have e2 := jZ h2
 obtain ⟨m, hm⟩ : ∃ m, Tryz.prog.types.size + 1 = m + 4 := ⟨Tryz.prog.types.size - 3, by have := qP; omega⟩
 unfold keyOf
 simp only [underlying99]
 rw [if_pos (by simp [uD, Value.formed, underlying99, Xz, Sq, Ar2.cells]), hm]
 simp [Program.keyLits, underlying99, underlying3, Xz, jY, Sq, Ar2.cells, Value.cells, e1, e2, List.range_succ]
theorem kA : Sq.Law Tryz.prog 99 := Mk.KT.Law.of (deep_law_laid jX (m := 3) oQ uC kQ (by rw [underlying99])) nN
end Go.Proofs.YtmimclgihlhaeaaGreat
end
section
namespace Go.Wx
open Go.Wx.Mk
def nO (s : Ar2) : Array Go.Value := #[.agg s.cells]
end Go.Wx
namespace Go.Proofs.YtmimclgihlhaeaaGreat
open Go.Proofs.Tryz
open Go.Wx Go.RowKit
namespace Hk
theorem Kh (b : Nat) (w : World) : Ret Tryz.prog 54 #[.map (some b)] w fun r w' => (∃ B, r = .func (.func 111) #[] #[.pointer (some ⟨B, 0, none⟩)] ∧ Blk w' B #[.map (some b)] 96 ∧ w.heap.size ≤ B) ∧ Up w w' := by
 have hW := Up.refl w
 refine cS (n := 4) (m := 9) func54 rfl rfl rfl ?_
 refine CW.S ?_
 refine Ah (.Mi (.t rfl) rfl) rfl ?_
 rintro _ w1 ⟨B1, rfl, NB1⟩
 have eB1 := NB1.at_
 have zB1 := NB1.size
 replace hW := hW.up NB1.up
 have hB1 := NB1.blk
 refine LW.C (LW.S (CW.region ?_))
 refine LW.pp (.makeFunc (.cons (.t rfl) .nil)) ?_
 refine LW.A rfl (LW.T (CW.ret ?_))
 refine Af rfl rfl ⟨_, rfl, ?_⟩
 exact ⟨⟨_, rfl, hB1, by omega⟩, hW⟩
theorem Jd (X Y : Nat → Prop) (B1 b : Nat) (kv : List (Int × Value)) (w : World) (hYY : ∀ i, Y i → i < w.heap.size) (hQX : ¬ X B1) (hbY : ¬ Y b) (hQ0 : Blk w B1 #[.map (some b)] 96) (hM0 : IMap w b kv) :
   IterS Tryz.prog 111 #[.pointer (some ⟨B1, 0, none⟩)] A8 X Y (fun ys => ys.Perm (kv.map (·.1))) (fun pre => pre.Nodup ∧ ∀ k ∈ pre, k ∈ kv.map (·.1)) kv.length w := by
 refine IterS.of ?_
 intro lp J Jx w0 hUw _ hY hJ
 obtain ⟨Bd, hBd⟩ : ∃ Bd, Bd = w0.heap.size := ⟨_, rfl⟩
 rw [← hBd] at hJ hY
 have zU := hUw.size
 have hQ := hQ0.up hUw
 have hM := hM0.up hUw
 have zQ0 := hQ.lt
 refine cS (n := 14) (m := 9) func111 rfl rfl rfl ?_
 refine CW.S ?_
 refine LW.pp (.ld isAgg96 rfl (hQ.Ak rfl)) ?_
 refine Ah (.range underlying96 (.t rfl) hM) rfl ?_
 rintro _ w1 ⟨r5, rfl, hR5, uw1, ew1, zw1⟩
 replace hQ := hQ.up uw1
 replace hM := hM.up uw1
 replace hJ := hJ.up uw1
 refine LW.T (CW.block ?_)
 refine CW.loop (σ := List Int) (fun s w => Jw Bd J s w ∧ Blk w B1 #[.map (some b)] 96 ∧ IRng w b r5 kv s) (fun s => [(0, .eq (.func (.yield lp) #[] #[])), (5, .eq (.pointer (some ⟨r5, 0, none⟩)))]) (fun s => kv.length - s.length) [] ?_ ?_ ?_
 ·exact ⟨hJ, hQ, hR5⟩
 ·exact ⟨rfl, rfl, trivial⟩
 rintro done w2 ⟨hJ, hQ, hR5⟩
 have zQ := hQ.lt
 refine CW.S ?_
 refine Ah (.next (.t rfl) hR5) rfl ?_
 rintro _ w3 (⟨rfl, rfl, hPm⟩ | ⟨k, u, rfl, hNx⟩)
 ·skip
  refine LW.pp (.extract (.t rfl) rfl) (LW.S ?_)
  refine CW.cond_false (.t rfl) ?_
  refine CW.exit (Aa (Aa (Ad ?_)))
  refine Ci rfl ⟨_, rfl, ?_⟩
  first | exact .inl ⟨_, hPm, hJ.j⟩ | exact .inr ⟨_, hR5.sub, hJx⟩
 skip
 obtain ⟨_, ho, hwk⟩ := hNx.walk
 replace hJ := hJ.walk hNx.grown oQ ho hwk
 replace hQ := hQ.sto hNx.sto oQ
 replace hR5 := hNx.rng
 have zw3 := hNx.size
 refine LW.pp (.extract (.t rfl) rfl) (LW.S ?_)
 refine CW.cond_true (.t rfl) ?_
 refine CW.skip (KW.then (CW.block (CW.S ?_)))
 refine Ah (.entry (.t rfl) hNx.entry) rfl ?_
 rintro _ _ ⟨rfl, rfl⟩
 refine LW.pp (.extract (.t rfl) rfl) (LW.A rfl (LW.S (CW.region (LW.M rfl (LW.M rfl ?_)))))
 refine LW.y (.t rfl) (.cons (.t rfl) .nil) rfl rfl (hY done k _ hJ (by have := hR5.length; simp at this; omega)) ?_
 rintro _ w4 ⟨y, rfl, hcase⟩
 refine LW.pp (.not (.t rfl)) ?_
 refine LW.T ?_
 refine CW.cond (.t rfl) (fun h13 => ?_) (fun h13 => ?_)
 ·replace h13 := dQ h13
  have hy : y = false := by simpa using h13
  subst hy
  obtain ⟨_, hJx⟩ := hcase.resolve_left (by simp)
  refine CW.ret (Ao (Ae (Ao ?_)))
  refine G1 rfl ⟨_, rfl, ?_⟩
  first | exact .inl ⟨_, hPm, hJ.j⟩ | exact .inr ⟨_, hR5.sub, hJx⟩
 replace h13 := dQ h13
 have hy : y = true := by simpa using h13
 subst hy
 obtain ⟨_, hJ2, hN⟩ := hcase.resolve_right (by simp)
 replace hQ := hQ.kx hN hQX
 replace hR5 := hR5.kx hN hbY (fun h => by have := hYY _ h; omega)
 refine CW.skip (KW.inBlock (KW.round ?_))
 exact ⟨done ++ [k], ⟨hJ2, hQ, hR5⟩, ⟨rfl, rfl, trivial⟩, by have := hR5.length; simp at this ⊢; omega⟩
end Hk
theorem fJ (b : Nat) (w : World) : Ret Tryz.prog 52 #[.map (some b)] w fun r w' => (∃ B, r = .func (.func 109) #[] #[.pointer (some ⟨B, 0, none⟩)] ∧ Blk w' B #[.map (some b)] 95 ∧ w.heap.size ≤ B) ∧ Up w w' := by
 have hW := Up.refl w
 refine cS (n := 4) (m := 9) func52 rfl rfl rfl ?_
 refine CW.S ?_
 refine Ah (.Mi (.t rfl) rfl) rfl ?_
 rintro _ w1 ⟨B1, rfl, NB1⟩
 have eB1 := NB1.at_
 have zB1 := NB1.size
 replace hW := hW.up NB1.up
 have hB1 := NB1.blk
 refine LW.C (LW.S (CW.region ?_))
 refine LW.pp (.makeFunc (.cons (.t rfl) .nil)) ?_
 refine LW.A rfl (LW.T (CW.ret ?_))
 refine Af rfl rfl ⟨_, rfl, ?_⟩
 exact ⟨⟨_, rfl, hB1, by omega⟩, hW⟩
theorem aA (X Y : Nat → Prop) (B1 b : Nat) (kv : List (Ar2 × Go.Value)) (w : World) (hYY : ∀ i, Y i → i < w.heap.size) (hQX : ¬ X B1) (hbY : ¬ Y b) (hQ0 : Blk w B1 #[.map (some b)] 95) (hM0 : Mk.IMap Sq w b kv) :
   IterS Tryz.prog 109 #[.pointer (some ⟨B1, 0, none⟩)] nO X Y (fun ys => ys.Perm (kv.map (·.1))) (fun pre => pre.Nodup ∧ ∀ k ∈ pre, k ∈ kv.map (·.1)) kv.length w := by
 refine IterS.of ?_
 intro lp J Jx w0 hUw _ hY hJ
 obtain ⟨Bd, hBd⟩ : ∃ Bd, Bd = w0.heap.size := ⟨_, rfl⟩
 rw [← hBd] at hJ hY
 have zU := hUw.size
 have hQ := hQ0.up hUw
 have hM := hM0.up hUw
 have zQ0 := hQ.lt
 refine cS (n := 14) (m := 9) func109 rfl rfl rfl ?_
 refine CW.S ?_
 refine LW.pp (.ld isAgg95 rfl (hQ.Ak rfl)) ?_
 refine Ah (Mk.REv.range (Q := Sq) underlying95 (.t rfl) hM) rfl ?_
 rintro _ w1 ⟨r5, rfl, hR5, uw1, ew1, zw1⟩
 replace hQ := hQ.up uw1
 replace hM := hM.up uw1
 replace hJ := hJ.up uw1
 refine LW.T (CW.block ?_)
 refine CW.loop (σ := List Ar2) (fun s w => Jw Bd J s w ∧ Blk w B1 #[.map (some b)] 95 ∧ Mk.IRng Sq w b r5 kv s) (fun s => [(0, .eq (.func (.yield lp) #[] #[])), (5, .eq (.pointer (some ⟨r5, 0, none⟩)))]) (fun s => kv.length - s.length) [] ?_ ?_ ?_
 ·exact ⟨hJ, hQ, hR5⟩
 ·exact ⟨rfl, rfl, trivial⟩
 rintro done w2 ⟨hJ, hQ, hR5⟩
 have zQ := hQ.lt
 refine CW.S ?_
 refine Ah (Mk.REv.next (.t rfl) hR5) rfl ?_
 rintro _ w3 (⟨rfl, rfl, hPm⟩ | ⟨k, u, rfl, hNx⟩)
 ·skip
  refine LW.pp (.extract (.t rfl) rfl) (LW.S ?_)
  refine CW.cond_false (.t rfl) ?_
  refine CW.exit (Aa (Aa (Ad ?_)))
  refine Ci rfl ⟨_, rfl, ?_⟩
  first | exact .inl ⟨_, hPm, hJ.j⟩ | exact .inr ⟨_, hR5.sub, hJx⟩
 skip
 obtain ⟨_, ho, hwk⟩ := hNx.walk
 replace hJ := hJ.walk hNx.grown oQ ho hwk
 replace hQ := hQ.sto hNx.sto oQ
 replace hR5 := hNx.rng
 have zw3 := hNx.size
 refine LW.pp (.extract (.t rfl) rfl) (LW.S ?_)
 refine CW.cond_true (.t rfl) ?_
 refine CW.skip (KW.then (CW.block (CW.S ?_)))
 refine Ah (.entry (.t rfl) hNx.entry) rfl ?_
 rintro _ _ ⟨rfl, rfl⟩
 refine LW.pp (.extract (.t rfl) rfl) ?_
 refine Ah (.A7 zeroValue99) rfl ?_
 rintro _ w4 ⟨B3, rfl, MB3⟩
 refine LW.E (.A3 sizeOf99 rfl (.t rfl) (.t rfl) (Ar2.one _) MB3.blk rfl) ?_
 intro w5 LB3
 have NB3 := MB3.set LB3
 clear LB3 MB3
 have eB3 := NB3.at_
 have zB3 := NB3.size
 replace hJ := hJ.up NB3.up
 replace hQ := hQ.up NB3.up
 replace hR5 := hR5.up NB3.up
 have hB3 := NB3.blk
 refine LW.S (CW.region (LW.M rfl ?_))
 refine LW.pp (.la isAgg99 sizeOf99 rfl (hB3.agg)) ?_
 refine LW.y (.t rfl) (.cons (.t rfl) .nil) rfl rfl (hY done k _ hJ (by have := hR5.length; simp at this; omega)) ?_
 rintro _ w6 ⟨y, rfl, hcase⟩
 refine LW.pp (.not (.t rfl)) ?_
 refine LW.T ?_
 refine CW.cond (.t rfl) (fun h13 => ?_) (fun h13 => ?_)
 ·replace h13 := dQ h13
  have hy : y = false := by simpa using h13
  subst hy
  obtain ⟨_, hJx⟩ := hcase.resolve_left (by simp)
  refine CW.ret (Ao (Ae (Ao ?_)))
  refine G1 rfl ⟨_, rfl, ?_⟩
  first | exact .inl ⟨_, hPm, hJ.j⟩ | exact .inr ⟨_, hR5.sub, hJx⟩
 replace h13 := dQ h13
 have hy : y = true := by simpa using h13
 subst hy
 obtain ⟨_, hJ2, hN⟩ := hcase.resolve_right (by simp)
 replace hQ := hQ.kx hN hQX
 replace hR5 := hR5.kx hN hbY (fun h => by have := hYY _ h; omega)
 refine CW.skip (KW.inBlock (KW.round ?_))
 exact ⟨done ++ [k], ⟨hJ2, hQ, hR5⟩, ⟨rfl, rfl, trivial⟩, by have := hR5.length; simp at this ⊢; omega⟩
theorem Sa (g : Nat) (lb : Array Go.Value) (S Sp : List Ar2 → Prop) (N : Nat) (w : World) (en : ∀ args w, (callFunc g args).run Tryz.prog w = .ok (.enter g args) w) (hit : ∀ W (X Y : Nat → Prop), Up w W → (∀ i, X i → w.heap.size ≤ i) → (∀ i, Y i → w.heap.size ≤ i ∧ i < W.heap.size) → IterS Tryz.prog g lb nO X Y S Sp N W) (hN0 : N ≤ 1000000000) : Ret Tryz.prog 158 #[.slice none 0 0, .func (.func g) #[] lb] w fun r w' => ∃ ks, S ks ∧ (Ai 99 2 Ar2.cells r ks).holds w' ∧ (∀ i, (Ai 99 2 Ar2.cells r ks).foot i → w.heap.size ≤ i) ∧ Up w w' := by
 obtain ⟨w0, rfl⟩ : ∃ w0, w0 = w := ⟨_, rfl⟩
 have hS := (Sep.start no w0).qK
 change Wx.Sep _ _ _ [_] at hS
 refine Hj (n := 13) func158 rfl rfl rfl ?_
 refine CW.S ?_
 refine Ah (.Mi (.t rfl) rfl) rfl ?_
 rintro _ w1 ⟨B2, rfl, NB2⟩
 have eB2 := NB2.at_
 have zB2 := NB2.size
 replace hS := hS.C7 NB2
 change Wx.Sep _ _ _ [_, _] at hS
 refine LW.C (LW.S (CW.S (LW.M rfl (LW.T (CW.block ?_)))))
 obtain ⟨bq, hbq⟩ : ∃ bq, bq = w1.heap.size := ⟨_, rfl⟩
 replace hS := hS.add (Up.refl _) (A' := Ai 99 2 Ar2.cells (.slice none 0 0) ([] : List Ar2)) (OwnS.nil _ _ _ _ _) (fun i h => by cases h)
 change Wx.Sep _ _ _ [_, _, _] at hS
 refine Xt (Zs := [_]) (σ := Go.Value × List Ar2) (fun s => [Cq B2 #[s.1] 103, Ai 99 2 Ar2.cells s.1 s.2]) (fun pre s => (s.2 = pre)) (fun _ _ _ => False) (fun x b => [Cq b x.cells 99]) (fun x b => [(5, .eq (.pointer (some ⟨b, 0, none⟩))), (2, .eq (.pointer (some ⟨B2, 0, none⟩)))]) (.slice none 0 0, []) (.t rfl) en (hit _ _ _ hS.Cu (fun i h => h.1.elim (fun h => h.elim) id) (fun i h => ⟨h.1.elim (fun h => h.elim) id, h.2.1⟩)) (fun _ => rfl) rfl (fun _ _ => rfl) (show Wx.Sep _ _ _ ([_] ++ [_, _]) from hS) rfl ?_ ?_ ?_ ?_
 ·intro lp x w2
  have hS := Sep.start no w2
  refine Mm rfl ?_
  refine CW.region ?_
  refine Ah (.A7 zeroValue99) rfl ?_
  rintro _ w3 ⟨B5, rfl, MB5⟩
  refine LW.E (.A3 sizeOf99 rfl (.t rfl) (.t rfl) (Ar2.one _) MB5.blk rfl) ?_
  intro w4 LB5
  have NB5 := MB5.set LB5
  clear LB5 MB5
  have eB5 := NB5.at_
  have zB5 := NB5.size
  replace hS := hS.C7 NB5
  change Wx.Sep _ _ _ [_] at hS
  refine LW.nil ?_
  exact fun a ha => ⟨_, hS, .cons (tZ (hS.blk 0 rfl)) (.nil _ _), ha.sub ⟨rfl, rfl, trivial⟩⟩
 ·rintro lp pre x ⟨v, ks⟩ b w5 hJ hlt hqw hS0 hS
  rw [← hbq] at hqw ⊢
  have zq := hqw
  change Wx.Sep _ _ _ [_, _, _] at hS
  subst hJ
  dsimp only at hlt
  refine CW.block (CW.region ?_)
  refine LW.pp (.ld isAgg103 rfl ((hS.blk 0 rfl).Ak rfl)) ?_
  refine LW.pp (.la isAgg99 sizeOf99 rfl ((hS.blk 2 rfl).agg)) ?_
  refine Ah (.buildSlice (xs := [x]) (enc := Ar2.cells) (mk := fun s : Ar2 => .agg s.cells) underlying103 sizeOf99 zeroValue99 rfl cQ (fun _ => rfl) (fun _ => rfl) (.cons (.t rfl) .nil) rfl) rfl ?_
  rintro _ w6 ⟨B10, cB10, rfl, NB10, yB10, xB10⟩
  have eB10 := NB10.at_
  have zB10 := NB10.size
  replace hS := hS.up NB10.up
  have hE10 := xB10
  refine Ah (.C3 (enc := Ar2.cells) (bytes := 16) (i := Tryz.t99) underlying103 kQ rfl rfl rfl rfl cQ (fun _ => rfl) Ar2.one (.t rfl) (.t rfl) (hS.own 1 rfl) (Aj hE10) (by simp only [maxLen, List.length_cons, List.length_nil]; omega) (by simp only [List.length_cons, List.length_nil]; omega)) rfl ?_
  intro v11 w7 Gw7
  have zw7 := Gw7.fr.size
  replace hS := hS.Dj 1 rfl Gw7
  change Wx.Sep _ _ _ [_, _, _] at hS
  refine LW.E (.store sizeOf103 (.t rfl) (.t rfl) (hS.own 1 rfl).one (hS.blk 0 rfl) (Nat.le_of_ble_eq_true rfl)) ?_
  intro w8 Nw8
  have zw8 := Nw8.size
  replace hS := hS.Gf 0 rfl Nw8
  change Wx.Sep _ _ _ [_, _, _] at hS
  refine LW.nil (KW.inBlock ?_)
  exact fun _ _ => ⟨(v11, ks ++ [x]), _, rfl, hS, .cons (tZ (hS.blk 0 rfl)) (.cons (wN (hS.own 1 rfl)) (.nil _ _))⟩
 ·rintro Dm ys ⟨v, ks⟩ w9 hDq hYs hJ hqw hS
  rw [← hbq] at hDq hqw
  have zq := hqw
  replace hS := nI (Ds := []) (As := []) (Bs := [_, _]) hS
  change Wx.Sep _ _ _ [_, _, _] at hS
  refine KW.inBlock (KW.then (CW.S ?_))
  refine LW.pp (.ld isAgg103 rfl ((hS.blk 1 rfl).Ak rfl)) ?_
  refine LW.A rfl (LW.T (CW.ret ?_))
  refine Z2 rfl (Dm :: []) _ (hS.get 0 rfl).1 (hS.get 0 rfl).2 ?_
  intro w10 hF_
  replace hS := hS.step 0 rfl (A' := wO) hF_ trivial (fun _ h => h.elim)
  change Wx.Sep _ _ _ [_, _, _] at hS
  have zw10 := hF_.size
  refine Af rfl rfl ⟨_, rfl, ?_⟩
  obtain ⟨rfl⟩ := hJ
  exact ⟨ks, hYs, hS.get 2 rfl, fun i hi => (hS.foot 2 rfl i hi).elim (fun h => h.elim) id, hS.Cu⟩
 exact fun _ _ _ _ _ _ _ h => h.elim
theorem Vh (g : Nat) (lb : Array Go.Value) (S Sp : List Ar2 → Prop) (N : Nat) (w : World) (en : ∀ args w, (callFunc g args).run Tryz.prog w = .ok (.enter g args) w) (hit : ∀ W (X Y : Nat → Prop), Up w W → (∀ i, X i → w.heap.size ≤ i) → (∀ i, Y i → w.heap.size ≤ i ∧ i < W.heap.size) → IterS Tryz.prog g lb nO X Y S Sp N W) (hN0 : N ≤ 1000000000) : Ret Tryz.prog 107 #[.func (.func g) #[] lb] w fun r w' => ∃ ks, S ks ∧ (Ai 99 2 Ar2.cells r ks).holds w' ∧ (∀ i, (Ai 99 2 Ar2.cells r ks).foot i → w.heap.size ≤ i) ∧ Up w w' := by
 have hW := Up.refl w
 refine cS (n := 5) (m := 9) func107 rfl rfl rfl ?_
 refine CW.S (LW.C (LW.S (CW.region (LW.M rfl ?_))))
 refine LW.K (eC (.cons (.const _) (.cons (.t rfl) .nil)) (sU)) rfl (Sa _ _ _ _ _ _ en hit hN0) ?_
 rintro _ w1 ⟨ks, hS, hO, hF, uw1⟩
 have zw1 := uw1.size
 replace hW := hW.up uw1
 refine LW.A rfl (LW.T (CW.ret ?_))
 refine Af rfl rfl ⟨_, rfl, ?_⟩
 exact ⟨ks, hS, hO, hF, hW⟩
end Go.Proofs.YtmimclgihlhaeaaGreat
end
