import Derived.Test.YtmimclgihlhaeaaGreatKR716
import Derived.DeepKeys4
section
namespace Go.Wx
structure Ar2 where
 a : Int
 b : Int
deriving DecidableEq
def Ar2.cells (g : Ar2) : Array Go.Value := #[vi g.a, vi g.b]
theorem Ar2.one (g : Ar2) : g.cells.all (·.oneCell') = true := by simp [Ar2.cells, Value.oneCell']
def Ar2.ok (g : Ar2) : Prop := K7 g.a ∧ K7 g.b
def Si : Mk.KT Ar2 where
 vk g := .agg g.cells
 ok g := g.ok
 inj {a b} h := by
   obtain ⟨a1, a2⟩ := a
   obtain ⟨b1, b2⟩ := b
   simp only [Ar2.cells, Value.agg.injEq, Array.mk.injEq, List.cons.injEq, Value.int.injEq, true_and, and_true] at h
   obtain ⟨rfl, rfl⟩ := h
   rfl
end Go.Wx
namespace Go.Proofs.YtmimclgihlhaeaaGreat
open Go.Proofs.Tryz
open Go.Wx Go.RowKit
theorem mL : laidOutB Tryz.prog = true := by kernel_rfl
theorem zP : (99 : TypeId) < Tryz.prog.types.size := of_decide_eq_true kQ
theorem zS : Tryz.prog.keyType 99 = true := by kernel_rfl
theorem uY : 3 ≤ Tryz.prog.types.size := of_decide_eq_true kQ
theorem X9 : Tryz.prog.cellsOf 99 = 2 := by kernel_rfl
theorem Ya : Tryz.prog.cellsOf 3 = 1 := by kernel_rfl
theorem mM {i : Int} (h : K7 i) : (Lit.int .i64 i).wf = true := by
 obtain ⟨h1, h2⟩ := h
 have e1 : IntKind.i64.min = -9223372036854775808 := by decide
 have e2 : IntKind.i64.max = 9223372036854775807 := by decide
 show (decide (IntKind.i64.min ≤ i) && decide (i ≤ IntKind.i64.max)) = true
 rw [e1, e2, decide_eq_true h1, decide_eq_true h2]
 rfl
theorem rH (s : Ar2) (h : s.ok) : ∃ l, keyOf Tryz.prog 99 (Si.vk s) = some l := by
 obtain ⟨l, r⟩ := s
 obtain ⟨h1, h2⟩ := h
 have e1 := mM h1
 have e2 := mM h2
 obtain ⟨m, hm⟩ : ∃ m, Tryz.prog.types.size + 1 = m + 4 := ⟨Tryz.prog.types.size - 3, by have := uY; omega⟩
 unfold keyOf
 simp only [underlying99]
 rw [if_pos (by simp [zS, Value.formed, underlying99, X9, Si, Ar2.cells]), hm]
 simp [Program.keyLits, underlying99, underlying3, X9, Ya, Si, Ar2.cells, Value.cells, e1, e2, List.range_succ]
theorem mN : Si.Law Tryz.prog 99 := Mk.KT.Law.of (deep_law_laid mL (m := 3) oQ zP kQ (by rw [underlying99])) rH
end Go.Proofs.YtmimclgihlhaeaaGreat
end
section
namespace Go.Wx
open Go.Wx.Mk
def rI (s : Ar2) : Array Go.Value := #[.agg s.cells]
end Go.Wx
namespace Go.Proofs.YtmimclgihlhaeaaGreat
open Go.Proofs.Tryz
open Go.Wx Go.RowKit
namespace Hk
theorem J2 (b : Nat) (w : World) : Ret Tryz.prog 54 #[.map (some b)] w fun r w' => (∃ B, r = .func (.func 111) #[] #[.pointer (some ⟨B, 0, none⟩)] ∧ Blk w' B #[.map (some b)] 96 ∧ w.heap.size ≤ B) ∧ Up w w' := by
 have hW := Up.refl w
 refine cS (n := 4) (m := 9) func54 rfl rfl rfl (CW.S (Ah (.L5 (.t rfl) rfl) rfl ?_))
 rintro _ w1 ⟨B1, rfl, NB1⟩
 have eB1 := NB1.at_
 replace hW := hW.up NB1.up
 have hB1 := NB1.blk
 refine LW.C (LW.S (CW.region (LW.pp (.makeFunc (.cons (.t rfl) .nil)) (LW.A rfl (LW.T (CW.ret (Ae rfl rfl ⟨_, rfl, ?_⟩)))))))
 exact ⟨⟨_, rfl, hB1, by omega⟩, hW⟩
theorem Iz (X Y : Nat → Prop) (B1 b : Nat) (kv : List (Int × Value)) (w : World) (hYY : ∀ i, Y i → i < w.heap.size) (hQX : ¬ X B1) (hbY : ¬ Y b) (hQ0 : Blk w B1 #[.map (some b)] 96) (hM0 : IMap w b kv) :
   IterS Tryz.prog 111 #[.pointer (some ⟨B1, 0, none⟩)] Aq X Y (fun ys => ys.Perm (kv.map (·.1))) (fun pre => pre.Nodup ∧ ∀ k ∈ pre, k ∈ kv.map (·.1)) kv.length w := by
 refine IterS.of ?_
 intro lp J Jx w0 hUw _ hY hJ
 obtain ⟨Bd, hBd⟩ : ∃ Bd, Bd = w0.heap.size := ⟨_, rfl⟩
 rw [← hBd] at hJ hY
 have zU := hUw.size
 have hQ := hQ0.up hUw
 have hM := hM0.up hUw
 have zQ0 := hQ.lt
 refine cS (n := 14) (m := 9) func111 rfl rfl rfl (CW.S (LW.pp (.ld isAgg96 rfl (hQ.Ai rfl)) (Ah (.range underlying96 (.t rfl) hM) rfl ?_)))
 rintro _ w1 ⟨r5, rfl, hR5, uw1, ew1, zw1⟩
 replace hQ := hQ.up uw1
 replace hM := hM.up uw1
 replace hJ := hJ.up uw1
 refine LW.T (CW.block (CW.loop (σ := List Int) (fun s w => Jw Bd J s w ∧ Blk w B1 #[.map (some b)] 96 ∧ IRng w b r5 kv s) (fun s => [(0, .eq (.func (.yield lp) #[] #[])), (5, .eq (.pointer (some ⟨r5, 0, none⟩)))]) (fun s => kv.length - s.length) [] ?_ ?_ ?_))
 ·exact ⟨hJ, hQ, hR5⟩
 ·exact ⟨rfl, rfl, trivial⟩
 rintro done w2 ⟨hJ, hQ, hR5⟩
 have zQ := hQ.lt
 refine CW.S (Ah (.next (.t rfl) hR5) rfl ?_)
 rintro _ w3 (⟨rfl, rfl, hPm⟩ | ⟨k, u, rfl, hNx⟩)
 ·skip
  refine LW.pp (.extract (.t rfl) rfl) (LW.S (CW.cond_false (.t rfl) (CW.exit (Aa (Aa (Ad (Dl rfl ⟨_, rfl, ?_⟩)))))))
  exact .inl ⟨_, hPm, hJ.j⟩
 skip
 obtain ⟨_, ho, hwk⟩ := hNx.walk
 replace hJ := hJ.walk hNx.grown oQ ho hwk
 replace hQ := hQ.sto hNx.sto oQ
 replace hR5 := hNx.rng
 have zw3 := hNx.size
 refine LW.pp (.extract (.t rfl) rfl) (LW.S (CW.cond_true (.t rfl) (CW.skip (KW.then (CW.block (CW.S (Ah (.entry (.t rfl) hNx.entry) rfl ?_)))))))
 rintro _ _ ⟨rfl, rfl⟩
 refine LW.pp (.extract (.t rfl) rfl) (LW.A rfl (LW.S (CW.region (LW.M rfl (LW.M rfl (LW.y (.t rfl) (.cons (.t rfl) .nil) rfl rfl (hY done k _ hJ (by have := hR5.length; simp at this; omega)) ?_))))))
 rintro _ w4 ⟨y, rfl, hcase⟩
 refine LW.pp (.not (.t rfl)) (LW.T (CW.cond (.t rfl) (fun h13 => ?_) (fun h13 => ?_)))
 ·have hy : y = false := by simpa using h13
  subst hy
  obtain ⟨_, hJx⟩ := hcase.resolve_left (by simp)
  refine CW.ret (An (Af (An (Ij rfl ⟨_, rfl, ?_⟩))))
  exact .inr ⟨_, hR5.sub, hJx⟩
 have hy : y = true := by simpa using h13
 subst hy
 obtain ⟨_, hJ2, hN⟩ := hcase.resolve_right (by simp)
 replace hQ := hQ.kx hN hQX
 replace hR5 := hR5.kx hN hbY (fun h => by have := hYY _ h; omega)
 refine CW.skip (KW.inBlock (KW.round ?_))
 exact ⟨done ++ [k], ⟨hJ2, hQ, hR5⟩, ⟨rfl, rfl, trivial⟩, by have := hR5.length; simp at this ⊢; omega⟩
end Hk
theorem iE (b : Nat) (w : World) : Ret Tryz.prog 52 #[.map (some b)] w fun r w' => (∃ B, r = .func (.func 109) #[] #[.pointer (some ⟨B, 0, none⟩)] ∧ Blk w' B #[.map (some b)] 95 ∧ w.heap.size ≤ B) ∧ Up w w' := by
 have hW := Up.refl w
 refine cS (n := 4) (m := 9) func52 rfl rfl rfl (CW.S (Ah (.L5 (.t rfl) rfl) rfl ?_))
 rintro _ w1 ⟨B1, rfl, NB1⟩
 have eB1 := NB1.at_
 replace hW := hW.up NB1.up
 have hB1 := NB1.blk
 refine LW.C (LW.S (CW.region (LW.pp (.makeFunc (.cons (.t rfl) .nil)) (LW.A rfl (LW.T (CW.ret (Ae rfl rfl ⟨_, rfl, ?_⟩)))))))
 exact ⟨⟨_, rfl, hB1, by omega⟩, hW⟩
theorem bE (X Y : Nat → Prop) (B1 b : Nat) (kv : List (Ar2 × Go.Value)) (w : World) (hYY : ∀ i, Y i → i < w.heap.size) (hQX : ¬ X B1) (hbY : ¬ Y b) (hQ0 : Blk w B1 #[.map (some b)] 95) (hM0 : Mk.IMap Si w b kv) :
   IterS Tryz.prog 109 #[.pointer (some ⟨B1, 0, none⟩)] rI X Y (fun ys => ys.Perm (kv.map (·.1))) (fun pre => pre.Nodup ∧ ∀ k ∈ pre, k ∈ kv.map (·.1)) kv.length w := by
 refine IterS.of ?_
 intro lp J Jx w0 hUw _ hY hJ
 obtain ⟨Bd, hBd⟩ : ∃ Bd, Bd = w0.heap.size := ⟨_, rfl⟩
 rw [← hBd] at hJ hY
 have zU := hUw.size
 have hQ := hQ0.up hUw
 have hM := hM0.up hUw
 have zQ0 := hQ.lt
 refine cS (n := 14) (m := 9) func109 rfl rfl rfl (CW.S (LW.pp (.ld isAgg95 rfl (hQ.Ai rfl)) (Ah (Mk.REv.range (Q := Si) underlying95 (.t rfl) hM) rfl ?_)))
 rintro _ w1 ⟨r5, rfl, hR5, uw1, ew1, zw1⟩
 replace hQ := hQ.up uw1
 replace hM := hM.up uw1
 replace hJ := hJ.up uw1
 refine LW.T (CW.block (CW.loop (σ := List Ar2) (fun s w => Jw Bd J s w ∧ Blk w B1 #[.map (some b)] 95 ∧ Mk.IRng Si w b r5 kv s) (fun s => [(0, .eq (.func (.yield lp) #[] #[])), (5, .eq (.pointer (some ⟨r5, 0, none⟩)))]) (fun s => kv.length - s.length) [] ?_ ?_ ?_))
 ·exact ⟨hJ, hQ, hR5⟩
 ·exact ⟨rfl, rfl, trivial⟩
 rintro done w2 ⟨hJ, hQ, hR5⟩
 have zQ := hQ.lt
 refine CW.S (Ah (Mk.REv.next (.t rfl) hR5) rfl ?_)
 rintro _ w3 (⟨rfl, rfl, hPm⟩ | ⟨k, u, rfl, hNx⟩)
 ·skip
  refine LW.pp (.extract (.t rfl) rfl) (LW.S (CW.cond_false (.t rfl) (CW.exit (Aa (Aa (Ad (Dl rfl ⟨_, rfl, ?_⟩)))))))
  exact .inl ⟨_, hPm, hJ.j⟩
 skip
 obtain ⟨_, ho, hwk⟩ := hNx.walk
 replace hJ := hJ.walk hNx.grown oQ ho hwk
 replace hQ := hQ.sto hNx.sto oQ
 replace hR5 := hNx.rng
 have zw3 := hNx.size
 refine LW.pp (.extract (.t rfl) rfl) (LW.S (CW.cond_true (.t rfl) (CW.skip (KW.then (CW.block (CW.S (Ah (.entry (.t rfl) hNx.entry) rfl ?_)))))))
 rintro _ _ ⟨rfl, rfl⟩
 refine LW.pp (.extract (.t rfl) rfl) (Ah (.Az zeroValue99) rfl ?_)
 rintro _ w4 ⟨B3, rfl, MB3⟩
 refine LW.E (.Ay sizeOf99 rfl (.t rfl) (.t rfl) (Ar2.one _) MB3.blk rfl) ?_
 intro w5 LB3
 have NB3 := MB3.set LB3
 replace hJ := hJ.up NB3.up
 replace hQ := hQ.up NB3.up
 replace hR5 := hR5.up NB3.up
 have hB3 := NB3.blk
 refine LW.S (CW.region (LW.M rfl (LW.pp (.la isAgg99 sizeOf99 rfl (hB3.agg)) (LW.y (.t rfl) (.cons (.t rfl) .nil) rfl rfl (hY done k _ hJ (by have := hR5.length; simp at this; omega)) ?_))))
 rintro _ w6 ⟨y, rfl, hcase⟩
 refine LW.pp (.not (.t rfl)) (LW.T (CW.cond (.t rfl) (fun h13 => ?_) (fun h13 => ?_)))
 ·have hy : y = false := by simpa using h13
  subst hy
  obtain ⟨_, hJx⟩ := hcase.resolve_left (by simp)
  refine CW.ret (An (Af (An (Ij rfl ⟨_, rfl, ?_⟩))))
  exact .inr ⟨_, hR5.sub, hJx⟩
 have hy : y = true := by simpa using h13
 subst hy
 obtain ⟨_, hJ2, hN⟩ := hcase.resolve_right (by simp)
 replace hQ := hQ.kx hN hQX
 replace hR5 := hR5.kx hN hbY (fun h => by have := hYY _ h; omega)
 refine CW.skip (KW.inBlock (KW.round ?_))
 exact ⟨done ++ [k], ⟨hJ2, hQ, hR5⟩, ⟨rfl, rfl, trivial⟩, by have := hR5.length; simp at this ⊢; omega⟩
theorem Rx (g : Nat) (lb : Array Go.Value) (S Sp : List Ar2 → Prop) (N : Nat) (w : World) (en : ∀ args w, (callFunc g args).run Tryz.prog w = .ok (.enter g args) w) (hit : ∀ W (X Y : Nat → Prop), Up w W → (∀ i, X i → w.heap.size ≤ i) → (∀ i, Y i → w.heap.size ≤ i ∧ i < W.heap.size) → IterS Tryz.prog g lb rI X Y S Sp N W) (hN0 : N ≤ 1000000000) : Ret Tryz.prog 158 #[.slice none 0 0, .func (.func g) #[] lb] w fun r w' => ∃ ks, S ks ∧ (Al 99 2 Ar2.cells r ks).holds w' ∧ (∀ i, (Al 99 2 Ar2.cells r ks).foot i → w.heap.size ≤ i) ∧ Up w w' := by
 obtain ⟨w0, rfl⟩ : ∃ w0, w0 = w := ⟨_, rfl⟩
 have hS := (Sep.start no w0).uT
 refine Hm (n := 13) func158 rfl rfl rfl (CW.S (Ah (.L5 (.t rfl) rfl) rfl ?_))
 rintro _ w1 ⟨B2, rfl, NB2⟩
 replace hS := hS.Cj NB2
 refine LW.C (LW.S (CW.S (LW.M rfl (LW.T (CW.block ?_)))))
 obtain ⟨bq, hbq⟩ : ∃ bq, bq = w1.heap.size := ⟨_, rfl⟩
 replace hS := hS.add (Up.refl _) (A' := Al 99 2 Ar2.cells (.slice none 0 0) ([] : List Ar2)) (OwnS.nil _ _ _ _ _) (fun i h => by cases h)
 refine X2 (Zs := [_]) (σ := Go.Value × List Ar2) (fun s => [Ck B2 #[s.1] 103, Al 99 2 Ar2.cells s.1 s.2]) (fun pre s => (s.2 = pre)) (fun _ _ _ => False) (fun x b => [Ck b x.cells 99]) (fun x b => [(5, .eq (.pointer (some ⟨b, 0, none⟩))), (2, .eq (.pointer (some ⟨B2, 0, none⟩)))]) (.slice none 0 0, []) (.t rfl) en (hit _ _ _ hS.Ce (fun i h => h.1.elim (fun h => h.elim) id) (fun i h => ⟨h.1.elim (fun h => h.elim) id, h.2.1⟩)) (fun _ => rfl) rfl (fun _ _ => rfl) (show Wx.Sep _ _ _ ([_] ++ [_, _]) from hS) rfl ?_ ?_ ?_ ?_
 ·intro lp x w2
  have hS := Sep.start no w2
  refine L7 rfl (CW.region (Ah (.Az zeroValue99) rfl ?_))
  rintro _ w3 ⟨B5, rfl, MB5⟩
  refine LW.E (.Ay sizeOf99 rfl (.t rfl) (.t rfl) (Ar2.one _) MB5.blk rfl) ?_
  intro w4 LB5
  have NB5 := MB5.set LB5
  replace hS := hS.Cj NB5
  refine LW.nil ?_
  exact fun a ha => ⟨_, hS, .cons (zL (hS.blk 0 rfl)) (.nil _ _), ha.sub ⟨rfl, rfl, trivial⟩⟩
 ·rintro lp pre x ⟨v, ks⟩ b w5 hJ hlt hqw hS0 hS
  rw [← hbq] at hqw ⊢
  subst hJ
  dsimp only at hlt
  refine CW.block (CW.region (LW.pp (.ld isAgg103 rfl ((hS.blk 0 rfl).Ai rfl)) (LW.pp (.la isAgg99 sizeOf99 rfl ((hS.blk 2 rfl).agg)) (Ah (.buildSlice (xs := [x]) (enc := Ar2.cells) (mk := fun s : Ar2 => .agg s.cells) underlying103 sizeOf99 zeroValue99 rfl cQ (fun _ => rfl) (fun _ => rfl) (.cons (.t rfl) .nil) rfl) rfl ?_))))
  rintro _ w6 ⟨B10, cB10, rfl, NB10, yB10, xB10⟩
  replace hS := hS.up NB10.up
  have hE10 := xB10
  refine Ah (.A8 (enc := Ar2.cells) (bytes := 16) (i := Tryz.t99) underlying103 kQ rfl rfl rfl rfl cQ (fun _ => rfl) Ar2.one (.t rfl) (.t rfl) (hS.own 1 rfl) (Ak hE10) (by simp only [maxLen, List.length_cons, List.length_nil]; omega) (by simp only [List.length_cons, List.length_nil]; omega)) rfl ?_
  intro v11 w7 Gw7
  replace hS := hS.Dh 1 rfl Gw7
  refine LW.E (.store sizeOf103 (.t rfl) (.t rfl) (hS.own 1 rfl).one (hS.blk 0 rfl) (Nat.le_of_ble_eq_true rfl)) ?_
  intro w8 Nw8
  replace hS := hS.Gf 0 rfl Nw8
  refine LW.nil (KW.inBlock ?_)
  exact fun _ _ => ⟨(v11, ks ++ [x]), _, rfl, hS, .cons (zL (hS.blk 0 rfl)) (.cons (CX (hS.own 1 rfl)) (.nil _ _))⟩
 ·rintro Dm ys ⟨v, ks⟩ w9 hDq hYs hJ hqw hS
  rw [← hbq] at hDq hqw
  replace hS := rD (Ds := []) (As := []) (Bs := [_, _]) hS
  refine KW.inBlock (KW.then (CW.S (LW.pp (.ld isAgg103 rfl ((hS.blk 1 rfl).Ai rfl)) (LW.A rfl (LW.T (CW.ret (aV rfl (Dm :: []) _ (hS.get 0 rfl).1 (hS.get 0 rfl).2 ?_)))))))
  intro w10 hF_
  replace hS := hS.step 0 rfl (A' := CY) hF_ trivial (fun _ h => h.elim)
  refine Ae rfl rfl ⟨_, rfl, ?_⟩
  obtain ⟨rfl⟩ := hJ
  exact ⟨ks, hYs, hS.get 2 rfl, fun i hi => (hS.foot 2 rfl i hi).elim (fun h => h.elim) id, hS.Ce⟩
 exact fun _ _ _ _ _ _ _ h => h.elim
theorem Vf (g : Nat) (lb : Array Go.Value) (S Sp : List Ar2 → Prop) (N : Nat) (w : World) (en : ∀ args w, (callFunc g args).run Tryz.prog w = .ok (.enter g args) w) (hit : ∀ W (X Y : Nat → Prop), Up w W → (∀ i, X i → w.heap.size ≤ i) → (∀ i, Y i → w.heap.size ≤ i ∧ i < W.heap.size) → IterS Tryz.prog g lb rI X Y S Sp N W) (hN0 : N ≤ 1000000000) : Ret Tryz.prog 107 #[.func (.func g) #[] lb] w fun r w' => ∃ ks, S ks ∧ (Al 99 2 Ar2.cells r ks).holds w' ∧ (∀ i, (Al 99 2 Ar2.cells r ks).foot i → w.heap.size ≤ i) ∧ Up w w' := by
 have hW := Up.refl w
 refine cS (n := 5) (m := 9) func107 rfl rfl rfl (CW.S (LW.C (LW.S (CW.region (LW.M rfl (LW.K (eC (.cons (.const _) (.cons (.t rfl) .nil)) (xZ)) rfl (Rx _ _ _ _ _ _ en hit hN0) ?_))))))
 rintro _ w1 ⟨ks, hS, hO, hF, uw1⟩
 replace hW := hW.up uw1
 refine LW.A rfl (LW.T (CW.ret (Ae rfl rfl ⟨_, rfl, ?_⟩)))
 exact ⟨ks, hS, hO, hF, hW⟩
end Go.Proofs.YtmimclgihlhaeaaGreat
end
