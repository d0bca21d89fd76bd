import Derived.Test.YthfjagphcekcbaaGreatKR815
import Derived.Sort.OwnSortedInts
section
namespace Go.Wx
def keyTI (f : Fact) : K2 := (f.Time, f.ID)
def isIDb (n : Int) : Bool := decide (1 ≤ n) && decide (n ≤ 1000000)
def ordG (p : Fact → Bool) (l : List Fact) : List Fact := sortK keyTI (l.filter p)
theorem OwnS.ofSep {α : Type} {enc : α → Array Value} {e k : Nat} {w0 w : World} {v : Value} {xs : List α} {rest : List Asr} (h : Wx.Sep no w0 w (aOwn e k enc v xs :: rest)) : OwnS w w0.heap.size e k enc v xs := by
  have hf := h.foot 0 rfl
  obtain ⟨h1, h2⟩ := h.own 0 rfl
  refine ⟨h1, ?_⟩
  rcases h2 with h2 | ⟨g, cap, cur, e, hb, rest⟩
  · exact .inl h2
  · exact .inr ⟨g, cap, cur, e, (hf g (by rw [e]; rfl)).resolve_left (fun h => h), rest⟩
end Go.Wx
namespace Go.Proofs.YthfjagphcekcbaaGreat
open Go.Wx Go.RowKit
theorem compareG_any (a b : Fact) (w : World) : Ret Tryz.prog 84 #[.agg a.cells, .agg b.cells] w fun r w' => r = vi (cmpK (keyTI a) (keyTI b)) ∧ Up w w' := by
  have hW := Up.refl w
  refine Calls_start (n := 17) (m := 9) Tryz.func84 rfl rfl rfl ?_
  refine CW.seq (CW.region ?_)
  refine LW.r (REv.boxA (.tmp rfl)) rfl rfl rfl rfl ?_
  rintro _ w1 ⟨B2, rfl, NB2⟩
  have eB2 := NB2.at_
  have zB2 := NB2.size
  replace hW := hW.up NB2.up
  have hB2 := NB2.blk
  refine LW.r (REv.boxA (.tmp rfl)) rfl rfl rfl rfl ?_
  rintro _ w2 ⟨B3, rfl, NB3⟩
  have eB3 := NB3.at_
  have zB3 := NB3.size
  replace hW := hW.up NB3.up
  replace hB2 := hB2.up NB3.up
  have hB3 := NB3.blk
  refine LW.p (PEv.assign (.const _)) rfl rfl rfl (LW.nil (KW.then (CW.seq ?_)))
  refine CW.free 11 [.eq (.pointer (some ⟨B2, 5, none⟩)), .eq (vi (keyTI a).1), .eq (.pointer (some ⟨B3, 5, none⟩)), .eq (vi (keyTI b).1), .eq (vi (cmpI (keyTI a).1 (keyTI b).1)), .eq (.pointer (some ⟨B2, 1, none⟩)), .eq (vi (keyTI a).2), .eq (.pointer (some ⟨B3, 1, none⟩)), .eq (vi (keyTI b).2), .eq (vi (cmpI (keyTI a).2 (keyTI b).2)), .pred (fun v w => SlT 3 w v 1 eInt [cmpI (keyTI a).1 (keyTI b).1, cmpI (keyTI a).2 (keyTI b).2])] [15] (by kernel_rfl) rfl (by kernel_rfl) (by kernel_rfl) (by kernel_rfl) (by kernel_rfl) (by kernel_rfl) (by kernel_rfl) (by kernel_rfl) ⟨PhU.eq _, PhU.eq _, PhU.eq _, PhU.eq _, PhU.eq _, PhU.eq _, PhU.eq _, PhU.eq _, PhU.eq _, PhU.eq _, PhU.pred fun _ _ _ h u => SlT.cel h u.cel, trivial⟩ ?_ ?_
  ·intro W hU0
   have hU := (Up.drew w2).trans hU0
   refine allL.cons ⟨rfl, TU.p (PEv.fieldAddr (off := 5) Tryz.underlying114 rfl rfl Tryz.sizeOf3 rfl (.tmp rfl)) rfl⟩ ?_
   refine allL.cons ⟨rfl, TU.p (PEv.load Tryz.isAgg3 (.tmp rfl) ((hB2.up hU).celln rfl)) rfl⟩ ?_
   refine allL.cons ⟨rfl, TU.p (PEv.fieldAddr (off := 5) Tryz.underlying114 rfl rfl Tryz.sizeOf3 rfl (.tmp rfl)) rfl⟩ ?_
   refine allL.cons ⟨rfl, TU.p (PEv.load Tryz.isAgg3 (.tmp rfl) ((hB3.up hU).celln rfl)) rfl⟩ ?_
   refine allL.cons ⟨rfl, TU.c (enter_call0 (.cons (.tmp rfl) (.cons (.tmp rfl) .nil)) (Tryz.en78)) (cmpInt_any _ _ _) (by rintro _ W1 ⟨rfl, u⟩; exact ⟨u, rfl⟩)⟩ ?_
   refine allL.cons ⟨rfl, TU.p (PEv.fieldAddr (off := 1) Tryz.underlying114 rfl rfl Tryz.sizeOf3 rfl (.tmp rfl)) rfl⟩ ?_
   refine allL.cons ⟨rfl, TU.p (PEv.load Tryz.isAgg3 (.tmp rfl) ((hB2.up hU).celln rfl)) rfl⟩ ?_
   refine allL.cons ⟨rfl, TU.p (PEv.fieldAddr (off := 1) Tryz.underlying114 rfl rfl Tryz.sizeOf3 rfl (.tmp rfl)) rfl⟩ ?_
   refine allL.cons ⟨rfl, TU.p (PEv.load Tryz.isAgg3 (.tmp rfl) ((hB3.up hU).celln rfl)) rfl⟩ ?_
   refine allL.cons ⟨rfl, TU.c (enter_call0 (.cons (.tmp rfl) (.cons (.tmp rfl) .nil)) (Tryz.en78)) (cmpInt_any _ _ _) (by rintro _ W1 ⟨rfl, u⟩; exact ⟨u, rfl⟩)⟩ ?_
   refine allL.cons ⟨rfl, TU.r (REv.buildSlice (xs := [cmpI (keyTI a).1 (keyTI b).1, cmpI (keyTI a).2 (keyTI b).2]) (enc := eInt) (mk := vi) Tryz.underlying32 Tryz.sizeOf3 Tryz.zeroValue3 rfl (by decide) (fun _ => rfl) (fun _ => rfl) (.cons (.tmp rfl) (.cons (.tmp rfl) .nil)) rfl) (by rintro _ W1 ⟨B, c, rfl, N, y, x⟩; exact ⟨N.up, SlT.lit ⟨B, c, rfl, N, y, x⟩⟩)⟩ ?_
   exact allL.nil
  ·intro w3 g hU0 hg
   have hU := (Up.drew w2).trans hU0
   have zw3 := hU.size
   replace hW := hW.up hU
   replace hB2 := hB2.up hU
   replace hB3 := hB3.up hU
   obtain ⟨⟨ad, cp, e15, hE⟩, _⟩ := hg 10 _ 15 (by decide) rfl rfl
   change LW _ _ _ _ _ _ _ _ ((15, .eq (g 15)) :: _) _
   rw [e15]
   refine LW.c (enter_call0 (.cons (.tmp rfl) .nil) (Tryz.en77)) rfl rfl rfl rfl (or_any ad cp _ _ hE (by simp)) ?_
   rintro _ w4 ⟨rfl, uw4⟩
   have zw4 := uw4.size
   replace hW := hW.up uw4
   replace hB2 := hB2.up uw4
   replace hB3 := hB3.up uw4
   refine LW.p (PEv.assign (.tmp rfl)) rfl rfl rfl (LW.nil (KW.then (CW.ret ?_)))
   refine KW.ret1 rfl rfl ⟨_, rfl, ?_⟩
   exact ⟨rfl, hW⟩
theorem toG_any (x : Fact) (w : World) : Ret Tryz.prog 82 #[.agg x.cells] w fun r w' => r = .agg x.cells ∧ Up w w' := by
  have hW := Up.refl w
  refine Calls_start (n := 4) (m := 9) Tryz.func82 rfl rfl rfl ?_
  refine CW.seq (CW.region ?_)
  refine LW.r (REv.boxA (.tmp rfl)) rfl rfl rfl rfl ?_
  rintro _ w1 ⟨B1, rfl, NB1⟩
  have eB1 := NB1.at_
  have zB1 := NB1.size
  replace hW := hW.up NB1.up
  have hB1 := NB1.blk
  refine LW.r (REv.allocA Tryz.zeroValue114) rfl rfl rfl rfl ?_
  rintro _ w2 ⟨B2, rfl, NB2⟩
  have eB2 := NB2.at_
  have zB2 := NB2.size
  replace hW := hW.up NB2.up
  replace hB1 := hB1.up NB2.up
  have hB2 := NB2.blk
  refine LW.nil (KW.then (CW.seq (CW.region ?_)))
  refine LW.p (PEv.loadA Tryz.isAgg46 Tryz.sizeOf46 rfl (.tmp rfl) (hB1.agg)) rfl rfl rfl ?_
  refine LW.s (SEv.storeA Tryz.sizeOf114 rfl (.tmp rfl) (.tmp rfl) (Fact.one _) hB2 rfl) rfl rfl rfl ?_
  intro w3 Nw3
  have zw3 := Nw3.size
  replace hW := hW.sto Nw3.sto (by omega)
  replace hB1 := hB1.sto Nw3.sto (by omega)
  replace hB2 := Nw3.blk
  replace hB2 : Blk w3 B2 x.cells _ := hB2
  refine LW.nil (KW.then (CW.ret ?_))
  refine KW.retA rfl rfl Tryz.isAgg114 Tryz.sizeOf114 rfl (hB2.agg) ⟨_, rfl, ?_⟩
  exact ⟨rfl, hW⟩
theorem ofG_any (x : Fact) (w : World) : Ret Tryz.prog 86 #[.agg x.cells] w fun r w' => r = .agg x.cells ∧ Up w w' := by
  have hW := Up.refl w
  refine Calls_start (n := 4) (m := 9) Tryz.func86 rfl rfl rfl ?_
  refine CW.seq (CW.region ?_)
  refine LW.r (REv.boxA (.tmp rfl)) rfl rfl rfl rfl ?_
  rintro _ w1 ⟨B1, rfl, NB1⟩
  have eB1 := NB1.at_
  have zB1 := NB1.size
  replace hW := hW.up NB1.up
  have hB1 := NB1.blk
  refine LW.r (REv.allocA Tryz.zeroValue46) rfl rfl rfl rfl ?_
  rintro _ w2 ⟨B2, rfl, NB2⟩
  have eB2 := NB2.at_
  have zB2 := NB2.size
  replace hW := hW.up NB2.up
  replace hB1 := hB1.up NB2.up
  have hB2 := NB2.blk
  refine LW.nil (KW.then (CW.seq (CW.region ?_)))
  refine LW.p (PEv.loadA Tryz.isAgg114 Tryz.sizeOf114 rfl (.tmp rfl) (hB1.agg)) rfl rfl rfl ?_
  refine LW.s (SEv.storeA Tryz.sizeOf46 rfl (.tmp rfl) (.tmp rfl) (Fact.one _) hB2 rfl) rfl rfl rfl ?_
  intro w3 Nw3
  have zw3 := Nw3.size
  replace hW := hW.sto Nw3.sto (by omega)
  replace hB1 := hB1.sto Nw3.sto (by omega)
  replace hB2 := Nw3.blk
  replace hB2 : Blk w3 B2 x.cells _ := hB2
  refine LW.nil (KW.then (CW.ret ?_))
  refine KW.retA rfl rfl Tryz.isAgg46 Tryz.sizeOf46 rfl (hB2.agg) ⟨_, rfl, ?_⟩
  exact ⟨rfl, hW⟩
theorem trueG_any (x : Fact) (w : World) : Ret Tryz.prog 87 #[.agg x.cells] w fun r w' => r = .bool true ∧ Up w w' := by
  have hW := Up.refl w
  refine Calls_start (n := 3) (m := 9) Tryz.func87 rfl rfl rfl ?_
  refine CW.seq (CW.region ?_)
  refine LW.r (REv.boxA (.tmp rfl)) rfl rfl rfl rfl ?_
  rintro _ w1 ⟨B1, rfl, NB1⟩
  have eB1 := NB1.at_
  have zB1 := NB1.size
  replace hW := hW.up NB1.up
  have hB1 := NB1.blk
  refine LW.p (PEv.assign (.const _)) rfl rfl rfl (LW.nil (KW.then (CW.seq (CW.region (LW.p (PEv.assign (.const _)) rfl rfl rfl (LW.nil (KW.then (CW.ret ?_))))))))
  refine KW.ret1 rfl rfl ⟨_, rfl, ?_⟩
  exact ⟨rfl, hW⟩
theorem selG_any (pf : Nat) (lb : Array Go.Value) (p : Fact → Bool) (hen : ∀ args w, (callFunc pf args).run Tryz.prog w = .ok (.enter pf args) w) (ad : Option Addr) (cp : Nat) (l : List Fact) (w : World) (hE0 : Els w ad 19 Fact.cells l) (hl : l.length ≤ 1000000000) (hp : ∀ W, Up w W → ∀ x ∈ l, Ret Tryz.prog pf (#[.agg x.cells] ++ lb) W fun r W' => r = .bool (p x) ∧ Up W W') : Ret Tryz.prog 81 #[.slice ad l.length cp, .func (.func 82) #[] #[], .func (.func pf) #[] lb] w fun r w' => OwnS w' w.heap.size 114 19 Fact.cells r (l.filter p) ∧ Up w w' := by
  obtain ⟨w0, rfl⟩ : ∃ w0, w0 = w := ⟨_, rfl⟩
  have hS := Sep.start no w0
  refine Calls_start (n := 27) (m := 9) Tryz.func81 rfl rfl rfl ?_
  refine CW.seq (CW.region (LW.p (PEv.assign (.const _)) rfl rfl rfl (LW.nil (KW.then (CW.seq (CW.region (LW.p (PEv.assign (.const _)) rfl rfl rfl (LW.nil (KW.then (CW.seq (CW.seq ?_)))))))))))
  replace hS := hS.add (Up.refl _) (A' := aOwn 114 19 Fact.cells (.slice none 0 0) ([] : List Fact)) (OwnS.nil _ _ _ _ _) (fun i h => by cases h)
  change Wx.Sep _ _ _ [_] at hS
  refine CW.region (LW.p (PEv.move (.tmp rfl)) rfl rfl rfl ?_)
  refine LW.p (PEv.lenS Tryz.underlying22 (.tmp rfl)) rfl rfl rfl ?_
  refine LW.p (PEv.move (.const _)) rfl rfl rfl ?_
  refine LW.nil (KW.then (CW.block ?_))
  refine CW.loopB (σ := Nat × Go.Value) (fun s w => (s.1 ≤ l.length) ∧ (Wx.Sep no w0 w [aOwn 114 19 Fact.cells s.2 ((l.take s.1).filter p)])) (fun s => [(12, .eq (vi (s.1 : Int))), (7, .eq (s.2))]) ([(1, .eq _), (2, .eq _), (6, .eq _), (10, .eq _), (11, .eq _)]) (fun s => l.length - s.1) (0, .slice none 0 0) ?_ ⟨rfl, rfl, rfl, rfl, rfl, rfl, rfl, trivial⟩ ?_
  ·exact ⟨Nat.zero_le _, hS⟩
  ·rintro ⟨k, v⟩ w1 ⟨hk, hS⟩
   dsimp only at hk hS
   change CW _ _ _ _ _ _ _ ([(12, .eq (vi (k : Int))), (7, .eq (v))] ++ _) _
   refine CW.seq (CW.region ?_)
   refine LW.p (PEv.lss (.tmp rfl) (.tmp rfl)) rfl rfl rfl ?_
   refine LW.nil (KW.then (CW.seq ?_))
   refine CW.cond (.tmp rfl) (fun h13 => ?_) (fun h13 => ?_)
   ·first | replace h13 := of_decide_eq_true h13 | replace h13 := of_decide_eq_false h13 | skip
    refine CW.skip (KW.then (CW.seq (CW.block (CW.seq ?_))))
    have hE := hE0.up hS.upd
    refine CW.region ?_
    obtain ⟨x, hx⟩ := getElem?_of_lt (xs := l) (i := k) (by omega)
    obtain ⟨Bx, ox, ax, hcx⟩ := hE _ x hx
    refine LW.p (PEv.indexAddr' Tryz.underlying22 Tryz.sizeOf46 (.tmp rfl) (.tmp rfl) (by omega) ax) rfl rfl rfl ?_
    refine LW.p (PEv.loadA Tryz.isAgg46 Tryz.sizeOf46 rfl (.tmp rfl) (hcx)) rfl rfl rfl ?_
    refine LW.r (REv.allocA Tryz.zeroValue46) rfl rfl rfl rfl ?_
    rintro _ w2 ⟨B9, rfl, MB9⟩
    refine LW.s (SEv.storeA Tryz.sizeOf46 rfl (.tmp rfl) (.tmp rfl) (Fact.one _) MB9.blk rfl) rfl rfl rfl ?_
    intro w3 LB9
    have NB9 := MB9.set LB9
    clear LB9 MB9
    have eB9 := NB9.at_
    have zB9 := NB9.size
    replace hcx := hcx.up NB9.up
    replace hS := hS.addB NB9
    change Wx.Sep _ _ _ [_, _] at hS
    refine LW.nil (KW.then (CW.seq (CW.region (LW.p (PEv.move (.tmp rfl)) rfl rfl rfl ?_))))
    refine LW.p (PEv.loadA Tryz.isAgg46 Tryz.sizeOf46 rfl (.tmp rfl) ((hS.blk 1 rfl).agg)) rfl rfl rfl ?_
    refine LW.c (enter_call (.tmp rfl) (.cons (.tmp rfl) .nil) (hen)) rfl rfl rfl rfl (hp _ hS.upd x (List.mem_of_getElem? hx)) ?_
    rintro _ w4 ⟨rfl, uw4⟩
    have zw4 := uw4.size
    replace hS := hS.up uw4
    refine LW.nil (KW.then ?_)
    refine CW.cond (.tmp rfl) (fun h18 => ?_) (fun h18 => ?_)
    ·first | replace h18 := of_decide_eq_true h18 | replace h18 := of_decide_eq_false h18 | skip
     have hfl := filt_len p l k
     refine CW.region (LW.p (PEv.move (.tmp rfl)) rfl rfl rfl (LW.p (PEv.move (.tmp rfl)) rfl rfl rfl ?_))
     refine LW.p (PEv.loadA Tryz.isAgg46 Tryz.sizeOf46 rfl (.tmp rfl) ((hS.blk 1 rfl).agg)) rfl rfl rfl ?_
     refine LW.c (enter_callv (.tmp rfl) (.cons (.tmp rfl) .nil) (Tryz.en82)) rfl rfl rfl rfl (toG_any _ _) ?_
     rintro _ w5 ⟨rfl, uw5⟩
     have zw5 := uw5.size
     replace hS := hS.up uw5
     refine LW.r (REv.buildSlice (xs := [x]) (enc := Fact.cells) (mk := fun f : Fact => .agg f.cells) Tryz.underlying112 Tryz.sizeOf114 Tryz.zeroValue114 rfl (by decide) (fun _ => rfl) (fun _ => rfl) (.cons (.tmp rfl) .nil) rfl) rfl rfl rfl rfl ?_
     rintro _ w6 ⟨B23, cB23, rfl, NB23, yB23, xB23⟩
     have eB23 := NB23.at_
     have zB23 := NB23.size
     replace hS := hS.up NB23.up
     have hE23 := xB23
     refine LW.r (REv.appendF (enc := Fact.cells) (bytes := 160) (i := Tryz.t114) Tryz.underlying112 (by kernel_rfl) rfl rfl rfl rfl (by decide) (fun _ => rfl) Fact.one (.tmp rfl) (.tmp rfl) (hS.own 0 rfl) (Sl.of_els hE23) (by have := hfl; simp [maxLen]; omega) (by have := hfl; simp; omega)) rfl rfl rfl rfl ?_
     intro v24 w7 Gw7
     have zw7 := Gw7.fr.size
     replace hS := hS.stp 0 rfl Gw7
     change Wx.Sep _ _ _ [_, _] at hS
     refine LW.p (PEv.assign (.tmp rfl)) rfl rfl rfl (LW.nil (KW.inBlock (KW.then (CW.region ?_))))
     refine LW.p (PEv.inc (.tmp rfl) (by omega)) rfl rfl rfl ?_
     refine LW.p (PEv.move (.tmp rfl)) rfl rfl rfl (LW.nil (KW.round ?_))
     first | exact ⟨(k + 1, v24), ⟨by show k + 1 ≤ _; omega, by first | (rw [fp_yes hx h18]; exact hS.take 1) | (rw [fp_no hx h18]; exact hS.take 1)⟩, ⟨rfl, rfl, rfl, rfl, rfl, rfl, rfl, trivial⟩, by show l.length - (k + 1) < l.length - k; omega⟩ | exact ⟨(k + 1, v), ⟨by show k + 1 ≤ _; omega, by first | (rw [fp_yes hx h18]; exact hS.take 1) | (rw [fp_no hx h18]; exact hS.take 1)⟩, ⟨rfl, rfl, rfl, rfl, rfl, rfl, rfl, trivial⟩, by show l.length - (k + 1) < l.length - k; omega⟩
    ·first | replace h18 := of_decide_eq_true h18 | replace h18 := of_decide_eq_false h18 | skip
     refine CW.skip (KW.inBlock (KW.then (CW.region ?_)))
     refine LW.p (PEv.inc (.tmp rfl) (by omega)) rfl rfl rfl ?_
     refine LW.p (PEv.move (.tmp rfl)) rfl rfl rfl (LW.nil (KW.round ?_))
     first | exact ⟨(k + 1, v24), ⟨by show k + 1 ≤ _; omega, by first | (rw [fp_yes hx h18]; exact hS.take 1) | (rw [fp_no hx h18]; exact hS.take 1)⟩, ⟨rfl, rfl, rfl, rfl, rfl, rfl, rfl, trivial⟩, by show l.length - (k + 1) < l.length - k; omega⟩ | exact ⟨(k + 1, v), ⟨by show k + 1 ≤ _; omega, by first | (rw [fp_yes hx h18]; exact hS.take 1) | (rw [fp_no hx h18]; exact hS.take 1)⟩, ⟨rfl, rfl, rfl, rfl, rfl, rfl, rfl, trivial⟩, by show l.length - (k + 1) < l.length - k; omega⟩
   ·first | replace h13 := of_decide_eq_true h13 | replace h13 := of_decide_eq_false h13 | skip
    refine CW.exit (KW.then_exit (KW.then_exit (KW.block_hit (KW.then (CW.seq (CW.region (LW.p (PEv.move (.tmp rfl)) rfl rfl rfl (LW.p (PEv.assign (.tmp rfl)) rfl rfl rfl (LW.nil (KW.then (CW.ret ?_)))))))))))
    refine KW.ret1 rfl rfl ⟨_, rfl, ?_⟩
    have hkl : k = l.length := by omega
    rw [hkl, List.take_length] at hS
    exact ⟨OwnS.ofSep hS, hS.upd⟩
theorem selF_any (pf : Nat) (lb : Array Go.Value) (p : Fact → Bool) (hen : ∀ args w, (callFunc pf args).run Tryz.prog w = .ok (.enter pf args) w) (ad : Option Addr) (cp : Nat) (l : List Fact) (w : World) (hE0 : Els w ad 19 Fact.cells l) (hl : l.length ≤ 1000000000) (hp : ∀ W, Up w W → ∀ x ∈ l, Ret Tryz.prog pf (#[.agg x.cells] ++ lb) W fun r W' => r = .bool (p x) ∧ Up W W') : Ret Tryz.prog 85 #[.slice ad l.length cp, .func (.func 86) #[] #[], .func (.func pf) #[] lb] w fun r w' => OwnS w' w.heap.size 46 19 Fact.cells r (l.filter p) ∧ Up w w' := by
  obtain ⟨w0, rfl⟩ : ∃ w0, w0 = w := ⟨_, rfl⟩
  have hS := Sep.start no w0
  refine Calls_start (n := 27) (m := 9) Tryz.func85 rfl rfl rfl ?_
  refine CW.seq (CW.region (LW.p (PEv.assign (.const _)) rfl rfl rfl (LW.nil (KW.then (CW.seq (CW.region (LW.p (PEv.assign (.const _)) rfl rfl rfl (LW.nil (KW.then (CW.seq (CW.seq ?_)))))))))))
  replace hS := hS.add (Up.refl _) (A' := aOwn 46 19 Fact.cells (.slice none 0 0) ([] : List Fact)) (OwnS.nil _ _ _ _ _) (fun i h => by cases h)
  change Wx.Sep _ _ _ [_] at hS
  refine CW.region (LW.p (PEv.move (.tmp rfl)) rfl rfl rfl ?_)
  refine LW.p (PEv.lenS Tryz.underlying112 (.tmp rfl)) rfl rfl rfl ?_
  refine LW.p (PEv.move (.const _)) rfl rfl rfl ?_
  refine LW.nil (KW.then (CW.block ?_))
  refine CW.loopB (σ := Nat × Go.Value) (fun s w => (s.1 ≤ l.length) ∧ (Wx.Sep no w0 w [aOwn 46 19 Fact.cells s.2 ((l.take s.1).filter p)])) (fun s => [(12, .eq (vi (s.1 : Int))), (7, .eq (s.2))]) ([(1, .eq _), (2, .eq _), (6, .eq _), (10, .eq _), (11, .eq _)]) (fun s => l.length - s.1) (0, .slice none 0 0) ?_ ⟨rfl, rfl, rfl, rfl, rfl, rfl, rfl, trivial⟩ ?_
  ·exact ⟨Nat.zero_le _, hS⟩
  ·rintro ⟨k, v⟩ w1 ⟨hk, hS⟩
   dsimp only at hk hS
   change CW _ _ _ _ _ _ _ ([(12, .eq (vi (k : Int))), (7, .eq (v))] ++ _) _
   refine CW.seq (CW.region ?_)
   refine LW.p (PEv.lss (.tmp rfl) (.tmp rfl)) rfl rfl rfl ?_
   refine LW.nil (KW.then (CW.seq ?_))
   refine CW.cond (.tmp rfl) (fun h13 => ?_) (fun h13 => ?_)
   ·first | replace h13 := of_decide_eq_true h13 | replace h13 := of_decide_eq_false h13 | skip
    refine CW.skip (KW.then (CW.seq (CW.block (CW.seq ?_))))
    have hE := hE0.up hS.upd
    refine CW.region ?_
    obtain ⟨x, hx⟩ := getElem?_of_lt (xs := l) (i := k) (by omega)
    obtain ⟨Bx, ox, ax, hcx⟩ := hE _ x hx
    refine LW.p (PEv.indexAddr' Tryz.underlying112 Tryz.sizeOf114 (.tmp rfl) (.tmp rfl) (by omega) ax) rfl rfl rfl ?_
    refine LW.p (PEv.loadA Tryz.isAgg114 Tryz.sizeOf114 rfl (.tmp rfl) (hcx)) rfl rfl rfl ?_
    refine LW.r (REv.allocA Tryz.zeroValue114) rfl rfl rfl rfl ?_
    rintro _ w2 ⟨B9, rfl, MB9⟩
    refine LW.s (SEv.storeA Tryz.sizeOf114 rfl (.tmp rfl) (.tmp rfl) (Fact.one _) MB9.blk rfl) rfl rfl rfl ?_
    intro w3 LB9
    have NB9 := MB9.set LB9
    clear LB9 MB9
    have eB9 := NB9.at_
    have zB9 := NB9.size
    replace hcx := hcx.up NB9.up
    replace hS := hS.addB NB9
    change Wx.Sep _ _ _ [_, _] at hS
    refine LW.nil (KW.then (CW.seq (CW.region (LW.p (PEv.move (.tmp rfl)) rfl rfl rfl ?_))))
    refine LW.p (PEv.loadA Tryz.isAgg114 Tryz.sizeOf114 rfl (.tmp rfl) ((hS.blk 1 rfl).agg)) rfl rfl rfl ?_
    refine LW.c (enter_call (.tmp rfl) (.cons (.tmp rfl) .nil) (hen)) rfl rfl rfl rfl (hp _ hS.upd x (List.mem_of_getElem? hx)) ?_
    rintro _ w4 ⟨rfl, uw4⟩
    have zw4 := uw4.size
    replace hS := hS.up uw4
    refine LW.nil (KW.then ?_)
    refine CW.cond (.tmp rfl) (fun h18 => ?_) (fun h18 => ?_)
    ·first | replace h18 := of_decide_eq_true h18 | replace h18 := of_decide_eq_false h18 | skip
     have hfl := filt_len p l k
     refine CW.region (LW.p (PEv.move (.tmp rfl)) rfl rfl rfl (LW.p (PEv.move (.tmp rfl)) rfl rfl rfl ?_))
     refine LW.p (PEv.loadA Tryz.isAgg114 Tryz.sizeOf114 rfl (.tmp rfl) ((hS.blk 1 rfl).agg)) rfl rfl rfl ?_
     refine LW.c (enter_callv (.tmp rfl) (.cons (.tmp rfl) .nil) (Tryz.en86)) rfl rfl rfl rfl (ofG_any _ _) ?_
     rintro _ w5 ⟨rfl, uw5⟩
     have zw5 := uw5.size
     replace hS := hS.up uw5
     refine LW.r (REv.buildSlice (xs := [x]) (enc := Fact.cells) (mk := fun f : Fact => .agg f.cells) Tryz.underlying22 Tryz.sizeOf46 Tryz.zeroValue46 rfl (by decide) (fun _ => rfl) (fun _ => rfl) (.cons (.tmp rfl) .nil) rfl) rfl rfl rfl rfl ?_
     rintro _ w6 ⟨B23, cB23, rfl, NB23, yB23, xB23⟩
     have eB23 := NB23.at_
     have zB23 := NB23.size
     replace hS := hS.up NB23.up
     have hE23 := xB23
     refine LW.r (REv.appendF (enc := Fact.cells) (bytes := 160) (i := Tryz.t46) Tryz.underlying22 (by kernel_rfl) rfl rfl rfl rfl (by decide) (fun _ => rfl) Fact.one (.tmp rfl) (.tmp rfl) (hS.own 0 rfl) (Sl.of_els hE23) (by have := hfl; simp [maxLen]; omega) (by have := hfl; simp; omega)) rfl rfl rfl rfl ?_
     intro v24 w7 Gw7
     have zw7 := Gw7.fr.size
     replace hS := hS.stp 0 rfl Gw7
     change Wx.Sep _ _ _ [_, _] at hS
     refine LW.p (PEv.assign (.tmp rfl)) rfl rfl rfl (LW.nil (KW.inBlock (KW.then (CW.region ?_))))
     refine LW.p (PEv.inc (.tmp rfl) (by omega)) rfl rfl rfl ?_
     refine LW.p (PEv.move (.tmp rfl)) rfl rfl rfl (LW.nil (KW.round ?_))
     first | exact ⟨(k + 1, v24), ⟨by show k + 1 ≤ _; omega, by first | (rw [fp_yes hx h18]; exact hS.take 1) | (rw [fp_no hx h18]; exact hS.take 1)⟩, ⟨rfl, rfl, rfl, rfl, rfl, rfl, rfl, trivial⟩, by show l.length - (k + 1) < l.length - k; omega⟩ | exact ⟨(k + 1, v), ⟨by show k + 1 ≤ _; omega, by first | (rw [fp_yes hx h18]; exact hS.take 1) | (rw [fp_no hx h18]; exact hS.take 1)⟩, ⟨rfl, rfl, rfl, rfl, rfl, rfl, rfl, trivial⟩, by show l.length - (k + 1) < l.length - k; omega⟩
    ·first | replace h18 := of_decide_eq_true h18 | replace h18 := of_decide_eq_false h18 | skip
     refine CW.skip (KW.inBlock (KW.then (CW.region ?_)))
     refine LW.p (PEv.inc (.tmp rfl) (by omega)) rfl rfl rfl ?_
     refine LW.p (PEv.move (.tmp rfl)) rfl rfl rfl (LW.nil (KW.round ?_))
     first | exact ⟨(k + 1, v24), ⟨by show k + 1 ≤ _; omega, by first | (rw [fp_yes hx h18]; exact hS.take 1) | (rw [fp_no hx h18]; exact hS.take 1)⟩, ⟨rfl, rfl, rfl, rfl, rfl, rfl, rfl, trivial⟩, by show l.length - (k + 1) < l.length - k; omega⟩ | exact ⟨(k + 1, v), ⟨by show k + 1 ≤ _; omega, by first | (rw [fp_yes hx h18]; exact hS.take 1) | (rw [fp_no hx h18]; exact hS.take 1)⟩, ⟨rfl, rfl, rfl, rfl, rfl, rfl, rfl, trivial⟩, by show l.length - (k + 1) < l.length - k; omega⟩
   ·first | replace h13 := of_decide_eq_true h13 | replace h13 := of_decide_eq_false h13 | skip
    refine CW.exit (KW.then_exit (KW.then_exit (KW.block_hit (KW.then (CW.seq (CW.region (LW.p (PEv.move (.tmp rfl)) rfl rfl rfl (LW.p (PEv.assign (.tmp rfl)) rfl rfl rfl (LW.nil (KW.then (CW.ret ?_)))))))))))
    refine KW.ret1 rfl rfl ⟨_, rfl, ?_⟩
    have hkl : k = l.length := by omega
    rw [hkl, List.take_length] at hS
    exact ⟨OwnS.ofSep hS, hS.upd⟩
end Go.Proofs.YthfjagphcekcbaaGreat
namespace Go.Wx
def lkI (m : List (Int × Int)) (k : Int) : Option Int := (m.find? fun p => decide (p.1 = k)).map (·.2)
def mkv (m : List (Int × Int)) : List (Int × Go.Value) := m.map fun p => (p.1, vi p.2)
def setI (m : List (Int × Int)) (k v : Int) : List (Int × Int) := if k ∈ m.map (·.1) then m.map (fun p => if p.1 = k then (k, v) else p) else m ++ [(k, v)]
def whoM (m : List (Int × Int)) (k : Int) : Int := (lkI m k).getD k
def swapM (m : List (Int × Int)) (f : Fact) : List (Int × Int) := setI (setI m f.Wafer (whoM m f.Other)) f.Other (whoM m f.Wafer)
def swOk (t : Int) (f : Fact) : Bool := isIDb f.Wafer && isIDb f.Other && decide (f.Time ≤ t)
def marksAt (l : List Fact) (t : Int) : List (Int × Int) := (ordG (swOk t) l).foldl swapM []
def whoL (l : List Fact) (t mark : Int) : Int := if isIDb mark = true then whoM (marksAt l t) mark else 0
theorem ordG_len (p : Fact → Bool) (l : List Fact) : (ordG p l).length ≤ l.length := by
  unfold ordG
  rw [(sortK_sts _).same.length]
  exact List.length_filter_le _ _
theorem mkv_keys (m : List (Int × Int)) : (mkv m).map (·.1) = m.map (·.1) := by unfold mkv; rw [List.map_map]; rfl
theorem mset_mkv (m : List (Int × Int)) (k v : Int) : mset (mkv m) k (vi v) = mkv (setI m k v) := by
  unfold mset setI
  rw [mkv_keys]
  split
  · unfold mkv
    rw [List.map_map, List.map_map]
    refine List.map_congr_left fun p _ => ?_
    simp only [Function.comp]
    split <;> rfl
  · unfold mkv
    rw [List.map_append]; rfl
theorem lkI_some {m : List (Int × Int)} {k v : Int} (h : lkI m k = some v) : (k, v) ∈ m := by
  unfold lkI at h
  cases hf : m.find? (fun p => decide (p.1 = k)) with
  | none => rw [hf] at h; cases h
  | some p =>
    rw [hf] at h
    have h1 : p.1 = k := by simpa using List.find?_some hf
    have h2 := List.mem_of_find?_eq_some hf
    simp at h
    rw [← h, ← h1]
    exact h2
theorem lkI_none {m : List (Int × Int)} {k : Int} (h : lkI m k = none) : k ∉ m.map (·.1) := by
  unfold lkI at h
  rw [Option.map_eq_none_iff, List.find?_eq_none] at h
  intro hm
  obtain ⟨p, hp, e⟩ := List.mem_map.1 hm
  exact h p hp (decide_eq_true e)
theorem PEv.lookupI {P : Program} {n : Nat} {ds : List Deferred} {l : Env} {w : World} {d : Option Tmp} {ty : TypeId} {ps : String} {af : Array Edge} {g : Option (Nat × Bool)} {T K E : TypeId} {mo x : Operand} {b : Nat} {k : Int} {m : List (Int × Int)} (hT : P.underlying T = some (.map K E)) (hK : P.underlying K = some (.int .i64)) (hz : ∀ w, (zeroValue E).run P w = .ok (vi 0) w) (hm : Val l mo (.map (some b))) (hx : Val l x (vi k)) (h : IMap w b (mkv m)) :
    PEv P n ds l w ⟨d, .lookup T mo x true, ty, ps, af, g⟩ (.tuple #[vi ((lkI m k).getD 0), .bool (lkI m k).isSome]) := by
  cases hl : lkI m k with
  | none => exact PEv.lookupNo (ok := true) hT hK hz hm hx h (by rw [mkv_keys]; exact lkI_none hl)
  | some v => exact PEv.lookupYes (ok := true) (v := vi v) hT hK hm hx h (List.mem_map.2 ⟨(k, v), lkI_some hl, rfl⟩)
theorem stp_map {b : Nat} {kv kv' : List (Int × Go.Value)} {w w' : World} (h : IMap w' b kv') (k : Fr (· = b) w w') : Stp (aIMap b kv) (aIMap b kv') w w' := ⟨k, h, fun _ h => .inl h⟩
end Go.Wx
namespace Go.Proofs.YthfjagphcekcbaaGreat
open Go.Wx Go.RowKit
theorem isID_any (n : Int) (w : World) : Ret Tryz.prog 38 #[vi n] w fun r w' => r = .bool (isIDb n) ∧ Up w w' := by
  have hW := Up.refl w
  refine Calls_start (n := 9) (m := 9) Tryz.func38 rfl rfl rfl ?_
  refine CW.seq (CW.region (LW.p (PEv.assign (.const _)) rfl rfl rfl (LW.nil (KW.then (CW.seq (CW.region (LW.p (PEv.move (.tmp rfl)) rfl rfl rfl ?_)))))))
  refine LW.p (PEv.geq (.tmp rfl) (.const _)) rfl rfl rfl ?_
  refine LW.p (PEv.move (.tmp rfl)) rfl rfl rfl ?_
  refine LW.g rfl rfl rfl rfl rfl rfl rfl (fun hc => PEv.move (.tmp rfl)) ?_
  refine LW.g rfl rfl rfl rfl rfl rfl rfl (fun hc => PEv.leq (by first | exact .tmp rfl | exact .cond rfl (by first | assumption | simp_all)) (.const _)) ?_
  refine LW.p (PEv.pick_and (.tmp rfl) (fun hp => (by first | exact .const _ | exact .tmp rfl | exact .cond rfl (by first | assumption | simp_all)))) rfl rfl rfl ?_
  refine LW.p (PEv.assign (.tmp rfl)) rfl rfl rfl (LW.nil (KW.then (CW.ret ?_)))
  refine KW.ret1 rfl rfl ⟨_, rfl, ?_⟩
  exact ⟨rfl, hW⟩
theorem ofM_any (b : Nat) (m : List (Int × Int)) (mark : Int) (w : World) (hM : IMap w b (mkv m)) : Ret Tryz.prog 41 #[.map (some b), vi mark] w fun r w' => r = vi (whoM m mark) ∧ Up w w' := by
  have hW := Up.refl w
  refine Calls_start (n := 16) (m := 9) Tryz.func41 rfl rfl rfl ?_
  refine CW.seq (CW.region (LW.p (PEv.assign (.const _)) rfl rfl rfl (LW.nil (KW.then (CW.seq (CW.seq (CW.region (LW.p (PEv.move (.tmp rfl)) rfl rfl rfl (LW.p (PEv.move (.tmp rfl)) rfl rfl rfl ?_)))))))))
  refine LW.p (PEv.lookupI Tryz.underlying71 Tryz.underlying3 Tryz.zeroValue3 (.tmp rfl) (.tmp rfl) hM) rfl rfl rfl ?_
  refine LW.p (PEv.move (.tmp rfl)) rfl rfl rfl (LW.p (PEv.extract (.tmp rfl) rfl) rfl rfl rfl (LW.p (PEv.extract (.tmp rfl) rfl) rfl rfl rfl (LW.p (PEv.assign (.tmp rfl)) rfl rfl rfl (LW.p (PEv.assign (.tmp rfl)) rfl rfl rfl (LW.nil (KW.then (CW.seq (CW.region (LW.p (PEv.move (.tmp rfl)) rfl rfl rfl (LW.nil (KW.then ?_)))))))))))
  refine CW.cond (.tmp rfl) (fun h13 => ?_) (fun h13 => ?_)
  ·first | replace h13 := of_decide_eq_true h13 | replace h13 := of_decide_eq_false h13 | skip
   obtain ⟨v, hv⟩ := Option.isSome_iff_exists.1 h13
   refine CW.seq (CW.region (LW.p (PEv.move (.tmp rfl)) rfl rfl rfl (LW.p (PEv.assign (.tmp rfl)) rfl rfl rfl (LW.nil (KW.then (CW.ret (KW.then_ret ?_)))))))
   refine KW.ret1 rfl rfl ⟨_, rfl, ?_⟩
   exact ⟨by unfold whoM; rw [hv]; rfl, hW⟩
  ·first | replace h13 := of_decide_eq_true h13 | replace h13 := of_decide_eq_false h13 | skip
   have hv : lkI m mark = none := by simpa using h13
   refine CW.skip (KW.then (CW.seq (CW.region (LW.p (PEv.move (.tmp rfl)) rfl rfl rfl (LW.p (PEv.assign (.tmp rfl)) rfl rfl rfl (LW.nil (KW.then (CW.ret ?_))))))))
   refine KW.ret1 rfl rfl ⟨_, rfl, ?_⟩
   exact ⟨by unfold whoM; rw [hv]; rfl, hW⟩
theorem swapAt_any (f : Fact) (Bm b : Nat) (m : List (Int × Int)) (w : World) (hB : Blk w Bm #[.map (some b)] 71) (hM : IMap w b (mkv m)) : Ret Tryz.prog 79 #[.agg f.cells, .pointer (some ⟨Bm, 0, none⟩)] w fun r w' => r = .tuple #[] ∧ Stp (aIMap b (mkv m)) (aIMap b (mkv (swapM m f))) w w' := by
  have hW := Up.refl w
  refine Calls_start (n := 19) (m := 9) Tryz.func79 rfl rfl rfl ?_
  refine CW.seq (CW.region ?_)
  refine LW.r (REv.boxA (.tmp rfl)) rfl rfl rfl rfl ?_
  rintro _ w1 ⟨B2, rfl, NB2⟩
  have eB2 := NB2.at_
  have zB2 := NB2.size
  replace hB := hB.up NB2.up
  replace hM := hM.up NB2.up
  replace hW := hW.up NB2.up
  have hB2 := NB2.blk
  refine LW.nil (KW.then ?_)
  refine CW.mapswap 18 b 14 15 16 17 13 9 17 18 3 5 12 6 8 16 [.eq (.map (some b)), .eq (.pointer (some ⟨B2, 7, none⟩)), .eq (vi (f.Wafer)), .eq (.map (some b)), .eq (.pointer (some ⟨B2, 8, none⟩)), .eq (vi (f.Other)), .eq (.map (some b)), .eq (.pointer (some ⟨B2, 8, none⟩)), .eq (vi (f.Other)), .eq (vi (whoM m f.Other)), .eq (.map (some b)), .eq (.pointer (some ⟨B2, 7, none⟩)), .eq (vi (f.Wafer)), .eq (vi (whoM m f.Wafer)), .pred fun _ _ => True, .pred fun _ _ => True, .eq undef, .eq undef] (k1 := f.Wafer) (k2 := f.Other) (v1 := vi (whoM m f.Other)) (v2 := vi (whoM m f.Wafer)) Tryz.underlying71 Tryz.underlying3 Tryz.zeroValue3 (by kernel_rfl) rfl (by kernel_rfl) (by kernel_rfl) (by kernel_rfl) (by kernel_rfl) (by kernel_rfl) (by kernel_rfl) (by kernel_rfl) (by kernel_rfl) (by kernel_rfl) ⟨_, _, _, rfl⟩ ⟨_, _, _, rfl⟩ ⟨_, _, _, rfl⟩ ⟨_, _, _, rfl⟩ ⟨PhC.eq _, PhC.eq _, PhC.eq _, PhC.eq _, PhC.eq _, PhC.eq _, PhC.eq _, PhC.eq _, PhC.eq _, PhC.eq _, PhC.eq _, PhC.eq _, PhC.eq _, PhC.eq _, PhC.pred (fun _ _ _ _ _ => trivial), PhC.pred (fun _ _ _ _ _ => trivial), PhC.eq _, PhC.eq _, trivial⟩ (fun _ _ => trivial) (fun _ _ => trivial) (fun _ h => by cases h; exact ⟨rfl, rfl⟩) (fun _ h => by cases h; exact ⟨rfl, rfl⟩) (fun _ h => by cases h; exact ⟨rfl, rfl, rfl⟩) hM ?_ ?_
  ·intro W hU
   refine allL.cons (.inr ⟨rfl, fun hI => TU.p (PEv.load Tryz.isAgg71 (.tmp rfl) (hU.cell _ _ (cell_up (hB.celln rfl) (Up.drew _)))) rfl⟩) ?_
   refine allL.cons (.inr ⟨rfl, fun hI => TU.p (PEv.fieldAddr (off := 7) Tryz.underlying46 rfl rfl Tryz.sizeOf3 rfl (.tmp rfl)) rfl⟩) ?_
   refine allL.cons (.inr ⟨rfl, fun hI => TU.p (PEv.load Tryz.isAgg3 (.tmp rfl) (hU.cell _ _ (cell_up (hB2.celln rfl) (Up.drew _)))) rfl⟩) ?_
   refine allL.cons (.inr ⟨rfl, fun hI => TU.p (PEv.load Tryz.isAgg71 (.tmp rfl) (hU.cell _ _ (cell_up (hB.celln rfl) (Up.drew _)))) rfl⟩) ?_
   refine allL.cons (.inr ⟨rfl, fun hI => TU.p (PEv.fieldAddr (off := 8) Tryz.underlying46 rfl rfl Tryz.sizeOf3 rfl (.tmp rfl)) rfl⟩) ?_
   refine allL.cons (.inr ⟨rfl, fun hI => TU.p (PEv.load Tryz.isAgg3 (.tmp rfl) (hU.cell _ _ (cell_up (hB2.celln rfl) (Up.drew _)))) rfl⟩) ?_
   refine allL.cons (.inr ⟨rfl, fun hI => TU.p (PEv.load Tryz.isAgg71 (.tmp rfl) (hU.cell _ _ (cell_up (hB.celln rfl) (Up.drew _)))) rfl⟩) ?_
   refine allL.cons (.inr ⟨rfl, fun hI => TU.p (PEv.fieldAddr (off := 8) Tryz.underlying46 rfl rfl Tryz.sizeOf3 rfl (.tmp rfl)) rfl⟩) ?_
   refine allL.cons (.inr ⟨rfl, fun hI => TU.p (PEv.load Tryz.isAgg3 (.tmp rfl) (hU.cell _ _ (cell_up (hB2.celln rfl) (Up.drew _)))) rfl⟩) ?_
   refine allL.cons (.inr ⟨rfl, fun hI => TU.c (enter_call0 (.cons (.tmp rfl) (.cons (.tmp rfl) .nil)) (Tryz.en41)) (ofM_any _ _ _ _ (hI (.inr rfl))) (by rintro _ W1 ⟨rfl, u⟩; exact ⟨u, rfl⟩)⟩) ?_
   refine allL.cons (.inr ⟨rfl, fun hI => TU.p (PEv.load Tryz.isAgg71 (.tmp rfl) (hU.cell _ _ (cell_up (hB.celln rfl) (Up.drew _)))) rfl⟩) ?_
   refine allL.cons (.inr ⟨rfl, fun hI => TU.p (PEv.fieldAddr (off := 7) Tryz.underlying46 rfl rfl Tryz.sizeOf3 rfl (.tmp rfl)) rfl⟩) ?_
   refine allL.cons (.inr ⟨rfl, fun hI => TU.p (PEv.load Tryz.isAgg3 (.tmp rfl) (hU.cell _ _ (cell_up (hB2.celln rfl) (Up.drew _)))) rfl⟩) ?_
   refine allL.cons (.inr ⟨rfl, fun hI => TU.c (enter_call0 (.cons (.tmp rfl) (.cons (.tmp rfl) .nil)) (Tryz.en41)) (ofM_any _ _ _ _ (hI (.inl rfl))) (by rintro _ W1 ⟨rfl, u⟩; exact ⟨u, rfl⟩)⟩) ?_
   refine allL.cons (.inl (by decide)) ?_
   refine allL.cons (.inl (by decide)) ?_
   refine allL.cons (.inl (by decide)) ?_
   refine allL.cons (.inl (by decide)) ?_
   exact allL.nil
  ·intro w2 hFr hM2
   rw [mset_mkv, mset_mkv] at hM2
   refine LW.nil ?_
   refine KW.end0 rfl ⟨_, rfl, ?_⟩
   exact ⟨rfl, stp_map hM2 ((hW.trans (Up.drew _)).fr _ |>.trans hFr)⟩
theorem swOk_any (f : Fact) (Bt : Nat) (t : Int) (w : World) (hB : Blk w Bt #[vi t] 3) : Ret Tryz.prog 80 #[.agg f.cells, .pointer (some ⟨Bt, 0, none⟩)] w fun r w' => r = .bool (swOk t f) ∧ Up w w' := by
  have hW := Up.refl w
  refine Calls_start (n := 18) (m := 9) Tryz.func80 rfl rfl rfl ?_
  refine CW.seq (CW.region ?_)
  refine LW.r (REv.boxA (.tmp rfl)) rfl rfl rfl rfl ?_
  rintro _ w1 ⟨B2, rfl, NB2⟩
  have eB2 := NB2.at_
  have zB2 := NB2.size
  replace hB := hB.up NB2.up
  replace hW := hW.up NB2.up
  have hB2 := NB2.blk
  refine LW.p (PEv.assign (.const _)) rfl rfl rfl (LW.nil (KW.then (CW.seq (CW.region ?_))))
  refine LW.p (PEv.fieldAddr (off := 7) Tryz.underlying46 rfl rfl Tryz.sizeOf3 rfl (.tmp rfl)) rfl rfl rfl ?_
  refine LW.p (PEv.load Tryz.isAgg3 (.tmp rfl) (hB2.celln rfl)) rfl rfl rfl ?_
  refine LW.c (enter_call0 (.cons (.tmp rfl) .nil) (Tryz.en38)) rfl rfl rfl rfl (isID_any _ _) ?_
  rintro _ w2 ⟨rfl, uw2⟩
  have zw2 := uw2.size
  replace hB := hB.up uw2
  replace hW := hW.up uw2
  replace hB2 := hB2.up uw2
  refine LW.p (PEv.move (.tmp rfl)) rfl rfl rfl ?_
  refine LW.g rfl rfl rfl rfl rfl rfl rfl (fun hc => PEv.fieldAddr (off := 8) Tryz.underlying46 rfl rfl Tryz.sizeOf3 rfl (.tmp rfl)) ?_
  refine LW.g rfl rfl rfl rfl rfl rfl rfl (fun hc => PEv.load Tryz.isAgg3 (by first | exact .tmp rfl | exact .cond rfl (by first | assumption | simp_all)) (hB2.celln rfl)) ?_
  refine LW.gc rfl rfl rfl rfl rfl rfl rfl rfl (fun hc => enter_call0 (.cons (by first | exact .tmp rfl | exact .cond rfl (by first | assumption | simp_all)) .nil) (Tryz.en38)) (fun hc => isID_any _ _) ?_
  intro w3 uw3
  have zw3 := uw3.size
  replace hB := hB.up uw3
  replace hW := hW.up uw3
  replace hB2 := hB2.up uw3
  refine LW.p (PEv.pick_and (.tmp rfl) (fun hp => (by first | exact .const _ | exact .tmp rfl | exact .cond rfl (by first | assumption | simp_all)))) rfl rfl rfl ?_
  refine LW.p (PEv.move (.tmp rfl)) rfl rfl rfl ?_
  refine LW.g rfl rfl rfl rfl rfl rfl rfl (fun hc => PEv.fieldAddr (off := 5) Tryz.underlying46 rfl rfl Tryz.sizeOf3 rfl (.tmp rfl)) ?_
  refine LW.g rfl rfl rfl rfl rfl rfl rfl (fun hc => PEv.load Tryz.isAgg3 (by first | exact .tmp rfl | exact .cond rfl (by first | assumption | simp_all)) (hB2.celln rfl)) ?_
  refine LW.g rfl rfl rfl rfl rfl rfl rfl (fun hc => PEv.load Tryz.isAgg3 (.tmp rfl) (hB.celln rfl)) ?_
  refine LW.g rfl rfl rfl rfl rfl rfl rfl (fun hc => PEv.leq (by first | exact .tmp rfl | exact .cond rfl (by first | assumption | simp_all)) (by first | exact .tmp rfl | exact .cond rfl (by first | assumption | simp_all))) ?_
  refine LW.p (PEv.pick_and (.tmp rfl) (fun hp => (by first | exact .const _ | exact .tmp rfl | exact .cond rfl (by first | assumption | simp_all)))) rfl rfl rfl ?_
  refine LW.p (PEv.assign (.tmp rfl)) rfl rfl rfl (LW.nil (KW.then (CW.ret ?_)))
  refine KW.ret1 rfl rfl ⟨_, rfl, ?_⟩
  exact ⟨rfl, hW⟩
theorem ssfG_any (v : Go.Value) (xs : List Fact) (w : World) (ho : OwnS w 0 114 19 Fact.cells v xs) (h63 : xs.length ≤ 1000000000) : Ret Tryz.prog 83 #[v, .func (.func 84) #[] #[]] w fun r w' => r = .tuple #[] ∧ Stp (aOwn 114 19 Fact.cells v xs) (aOwn 114 19 Fact.cells v (sortK keyTI xs)) w w' := by
  have h0 := ho
  obtain ⟨_, ⟨rfl, hn⟩ | ⟨g, cap, cur, rfl, _⟩⟩ := h0
  · have hx : xs = [] := List.eq_nil_of_length_eq_zero hn
    subst hx
    exact (Gs.stableFunc_nil _ w).mono fun r w' ⟨e, u⟩ => ⟨e, (Stp.refl ho).up u⟩
  · refine (Gs.stableFunc_any 84 #[] keyTI Tryz.en84 g xs.length cap xs w ho h63 (fun W _ x y => compareG_any x y W)).mono ?_
    rintro r w' ⟨e, zs, hz, hs⟩
    rw [hz.eq] at hs
    exact ⟨e, hs⟩
theorem ordered_any (pf : Nat) (lb : Array Go.Value) (p : Fact → Bool) (hen : ∀ args w, (callFunc pf args).run Tryz.prog w = .ok (.enter pf args) w) (ad : Option Addr) (cp : Nat) (l : List Fact) (w : World) (hE0 : Els w ad 19 Fact.cells l) (hl : l.length ≤ 1000000000) (hp : ∀ W, Up w W → ∀ x ∈ l, Ret Tryz.prog pf (#[.agg x.cells] ++ lb) W fun r W' => r = .bool (p x) ∧ Up W W') : Ret Tryz.prog 43 #[.slice ad l.length cp, .func (.func pf) #[] lb] w fun r w' => OwnS w' w.heap.size 46 19 Fact.cells r (ordG p l) ∧ Up w w' := by
  obtain ⟨w0, rfl⟩ : ∃ w0, w0 = w := ⟨_, rfl⟩
  have hS := Sep.start no w0
  refine Calls_start (n := 13) (m := 9) Tryz.func43 rfl rfl rfl ?_
  refine CW.seq (CW.region (LW.p (PEv.assign (.const _)) rfl rfl rfl (LW.nil (KW.then (CW.seq (CW.region (LW.p (PEv.move (.tmp rfl)) rfl rfl rfl (LW.p (PEv.move (.tmp rfl)) rfl rfl rfl ?_))))))))
  refine LW.c (enter_call0 (.cons (.tmp rfl) (.cons (.func _) (.cons (.tmp rfl) .nil))) (Tryz.en81)) rfl rfl rfl rfl (selG_any pf lb p hen ad cp l _ (Els.up hE0 hS.upd) hl (fun W hU => hp W (hS.upd.trans hU))) ?_
  rintro v8 w1 ⟨hO8, uw1⟩
  have zw1 := uw1.size
  replace hS := hS.add uw1 (A' := aOwn 114 19 Fact.cells v8 (l.filter p)) (hO8.mono (Nat.zero_le _)) (fun i h => hO8.base i h)
  change Wx.Sep _ _ _ [_] at hS
  clear hO8
  refine LW.p (PEv.assign (.tmp rfl)) rfl rfl rfl (LW.nil (KW.then (CW.seq (CW.region (LW.p (PEv.move (.tmp rfl)) rfl rfl rfl ?_)))))
  refine LW.c (enter_call0 (.cons (.tmp rfl) (.cons (.func _) .nil)) (Tryz.en83)) rfl rfl rfl rfl (ssfG_any v8 (l.filter p) _ (hS.own 0 rfl) (Nat.le_trans (List.length_filter_le _ _) hl)) ?_
  rintro _ w2 ⟨rfl, uw2⟩
  have zw2 := uw2.fr.size
  replace hS := hS.stp 0 rfl uw2
  change Wx.Sep _ _ _ [_] at hS
  obtain ⟨ad9, cp9, rfl, hE9⟩ := (hS.own 0 rfl).sl (fun _ => rfl)
  have hl9 : (sortK keyTI (l.filter p)).length ≤ 1000000000 := by rw [(sortK_sts _).same.length]; exact Nat.le_trans (List.length_filter_le _ _) hl
  refine LW.nil (KW.then (CW.seq (CW.region (LW.p (PEv.move (.tmp rfl)) rfl rfl rfl ?_))))
  refine LW.c (enter_call0 (.cons (.tmp rfl) (.cons (.func _) (.cons (.func _) .nil))) (Tryz.en85)) rfl rfl rfl rfl (selF_any 87 #[] (fun _ => true) Tryz.en87 ad9 cp9 (sortK keyTI (l.filter p)) _ hE9 hl9 (fun W _ x _ => trueG_any x W)) ?_
  rintro v12 w3 ⟨hO12, uw3⟩
  have zw3 := uw3.size
  replace hS := hS.up uw3
  rw [List.filter_eq_self.2 (fun _ _ => rfl)] at hO12
  replace hO12 := hO12.mono (show w0.heap.size ≤ _ by omega)
  refine LW.p (PEv.assign (.tmp rfl)) rfl rfl rfl (LW.nil (KW.then (CW.ret ?_)))
  refine KW.ret1 rfl rfl ⟨_, rfl, ?_⟩
  exact ⟨hO12, hS.upd⟩
theorem at_any (bc : Array Go.Value) (bs : Base) (time : Int) (w : World) (hC : BaseC w bc bs) (hl : bs.Swaps.length ≤ 1000000000) : Ret Tryz.prog 40 #[.agg bc, vi time] w fun r w' => ∃ b, r = .map (some b) ∧ IMap w' b (mkv (marksAt bs.Swaps time)) ∧ w.heap.size ≤ b ∧ Up w w' := by
  obtain ⟨w0, rfl⟩ : ∃ w0, w0 = w := ⟨_, rfl⟩
  have hS := Sep.start no w0
  refine Calls_start (n := 25) (m := 9) Tryz.func40 rfl rfl rfl ?_
  refine CW.seq (CW.region ?_)
  refine LW.r (REv.boxA (.tmp rfl)) rfl rfl rfl rfl ?_
  rintro _ w1 ⟨B2, rfl, NB2⟩
  have eB2 := NB2.at_
  have zB2 := NB2.size
  replace hS := hS.addB NB2
  change Wx.Sep _ _ _ [_] at hS
  refine LW.r (REv.box1 (.tmp rfl) rfl) rfl rfl rfl rfl ?_
  rintro _ w2 ⟨B3, rfl, NB3⟩
  have eB3 := NB3.at_
  have zB3 := NB3.size
  replace hS := hS.addB NB3
  change Wx.Sep _ _ _ [_, _] at hS
  refine LW.p (PEv.assign (.const _)) rfl rfl rfl (LW.nil (KW.then (CW.seq ?_)))
  skip
  refine CW.region ?_
  refine LW.r REv.makeMap rfl rfl rfl rfl ?_
  rintro _ w3 ⟨M9, rfl, hMM9, uw3, eM9, zw3⟩
  replace hS := hS.add uw3 (A' := aIMap M9 (mkv [])) hMM9 (fun i (h : i = M9) => by omega)
  change Wx.Sep _ _ _ [_, _, _] at hS
  refine LW.r (REv.alloc1 Tryz.zeroValue71 rfl) rfl rfl rfl rfl ?_
  rintro _ w4 ⟨B5, rfl, MB5⟩
  refine LW.s (SEv.store Tryz.sizeOf71 (.tmp rfl) (.tmp rfl) rfl MB5.blk (by decide)) rfl rfl rfl ?_
  intro w5 LB5
  have NB5 := MB5.set LB5
  clear LB5 MB5
  have eB5 := NB5.at_
  have zB5 := NB5.size
  replace hS := hS.addB NB5
  change Wx.Sep _ _ _ [_, _, _, _] at hS
  refine LW.nil (KW.then (CW.seq (CW.region ?_)))
  refine LW.p (PEv.makeFunc (.cons (.tmp rfl) .nil)) rfl rfl rfl ?_
  refine LW.p (PEv.assign (.tmp rfl)) rfl rfl rfl (LW.nil (KW.then (CW.seq (CW.seq ?_))))
  obtain ⟨v2, h2, ad, cp, rfl, hEs⟩ := (hC.up hS.upd).at2
  refine CW.region ?_
  refine LW.p (PEv.fieldAddr (off := 2) Tryz.underlying24 rfl rfl Tryz.sizeOf22 rfl (.tmp rfl)) rfl rfl rfl ?_
  refine LW.p (PEv.load Tryz.isAgg22 (.tmp rfl) ((hS.blk 0 rfl).cell h2)) rfl rfl rfl ?_
  refine LW.p (PEv.makeFunc (.cons (.tmp rfl) .nil)) rfl rfl rfl ?_
  refine LW.c (enter_call0 (.cons (.tmp rfl) (.cons (.tmp rfl) .nil)) (Tryz.en43)) rfl rfl rfl rfl (ordered_any 80 #[.pointer (some ⟨B3, 0, none⟩)] (swOk time) Tryz.en80 ad cp bs.Swaps _ hEs hl (fun W hU x _ => swOk_any x B3 time W (((hS.blk 1 rfl)).up hU))) ?_
  rintro v14 w6 ⟨hO14, uw6⟩
  have zw6 := uw6.size
  replace hS := hS.add uw6 (A' := aOwn 46 19 Fact.cells v14 ((ordG (swOk time) bs.Swaps))) (hO14.mono (Nat.zero_le _)) (fun i h => hO14.base i h)
  change Wx.Sep _ _ _ [_, _, _, _, _] at hS
  clear hO14
  obtain ⟨ad14, cp14, rfl, _⟩ := (hS.own 4 rfl).sl (fun _ => rfl)
  refine LW.p (PEv.lenS Tryz.underlying22 (.tmp rfl)) rfl rfl rfl ?_
  refine LW.p (PEv.move (.const _)) rfl rfl rfl ?_
  refine LW.nil (KW.then (CW.block ?_))
  refine CW.loopB (σ := Nat) (fun s w => (s ≤ (ordG (swOk time) bs.Swaps).length) ∧ (Wx.Sep no w0 w [aBlk B2 bc 24, aBlk B3 #[vi time] 3, aIMap M9 (mkv (((ordG (swOk time) bs.Swaps).take s).foldl swapM [])), aBlk B5 #[.map (some M9)] 71, aOwn 46 19 Fact.cells (.slice ad14 (ordG (swOk time) bs.Swaps).length cp14) ((ordG (swOk time) bs.Swaps))])) (fun s => [(16, .eq (vi (s : Int)))]) ([(4, .eq _), (5, .eq _), (6, .eq _), (14, .eq _), (15, .eq _)]) (fun s => (ordG (swOk time) bs.Swaps).length - s) 0 ?_ ⟨rfl, rfl, rfl, rfl, rfl, rfl, trivial⟩ ?_
  ·exact ⟨Nat.zero_le _, hS⟩
  ·rintro k w7 ⟨hk, hS⟩
   refine CW.seq (CW.region ?_)
   refine LW.p (PEv.lss (.tmp rfl) (.tmp rfl)) rfl rfl rfl ?_
   refine LW.nil (KW.then (CW.seq ?_))
   refine CW.cond (.tmp rfl) (fun h17 => ?_) (fun h17 => ?_)
   ·first | replace h17 := of_decide_eq_true h17 | replace h17 := of_decide_eq_false h17 | skip
    refine CW.skip (KW.then (CW.seq (CW.block (CW.seq ?_))))
    have hE := (hS.own 4 rfl).els (fun _ => rfl)
    have hol := ordG_len (swOk time) bs.Swaps
    refine CW.region ?_
    obtain ⟨x, hx⟩ := getElem?_of_lt (xs := (ordG (swOk time) bs.Swaps)) (i := k) (by omega)
    obtain ⟨Bx, ox, ax, hcx⟩ := hE _ x hx
    refine LW.p (PEv.indexAddr' Tryz.underlying22 Tryz.sizeOf46 (.tmp rfl) (.tmp rfl) (by omega) ax) rfl rfl rfl ?_
    refine LW.p (PEv.loadA Tryz.isAgg46 Tryz.sizeOf46 rfl (.tmp rfl) (hcx)) rfl rfl rfl ?_
    refine LW.r (REv.allocA Tryz.zeroValue46) rfl rfl rfl rfl ?_
    rintro _ w8 ⟨B8, rfl, MB8⟩
    refine LW.s (SEv.storeA Tryz.sizeOf46 rfl (.tmp rfl) (.tmp rfl) (Fact.one _) MB8.blk rfl) rfl rfl rfl ?_
    intro w9 LB8
    have NB8 := MB8.set LB8
    clear LB8 MB8
    have eB8 := NB8.at_
    have zB8 := NB8.size
    replace hcx := hcx.up NB8.up
    replace hS := hS.addB NB8
    change Wx.Sep _ _ _ [_, _, _, _, _, _] at hS
    refine LW.nil (KW.then (CW.region (LW.p (PEv.move (.tmp rfl)) rfl rfl rfl ?_)))
    refine LW.p (PEv.loadA Tryz.isAgg46 Tryz.sizeOf46 rfl (.tmp rfl) ((hS.blk 5 rfl).agg)) rfl rfl rfl ?_
    refine LW.c (enter_call (.tmp rfl) (.cons (.tmp rfl) .nil) (Tryz.en79)) rfl rfl rfl rfl (swapAt_any x B5 M9 _ _ (hS.blk 3 rfl) (hS.get 2 rfl)) ?_
    rintro _ w10 ⟨rfl, uw10⟩
    have zw10 := uw10.fr.size
    replace hS := hS.stp 2 rfl uw10
    change Wx.Sep _ _ _ [_, _, _, _, _, _] at hS
    refine LW.nil (KW.inBlock (KW.then (CW.region ?_)))
    refine LW.p (PEv.inc (.tmp rfl) (by omega)) rfl rfl rfl ?_
    refine LW.p (PEv.move (.tmp rfl)) rfl rfl rfl (LW.nil (KW.round ?_))
    exact ⟨k + 1, ⟨by omega, by rw [take_succ_of hx, List.foldl_append]; exact hS.take 5⟩, ⟨rfl, rfl, rfl, rfl, rfl, rfl, trivial⟩, by first | omega | (dsimp only; omega)⟩
   ·first | replace h17 := of_decide_eq_true h17 | replace h17 := of_decide_eq_false h17 | skip
    refine CW.exit (KW.then_exit (KW.then_exit (KW.block_hit (KW.then (CW.seq (CW.region ?_))))))
    refine LW.p (PEv.load Tryz.isAgg71 (.tmp rfl) ((hS.blk 3 rfl).celln rfl)) rfl rfl rfl ?_
    refine LW.p (PEv.assign (.tmp rfl)) rfl rfl rfl (LW.nil (KW.then (CW.ret ?_)))
    refine KW.ret1 rfl rfl ⟨_, rfl, ?_⟩
    have hkl : k = (ordG (swOk time) bs.Swaps).length := by omega
    rw [hkl, List.take_length] at hS
    exact ⟨M9, rfl, hS.get 2 rfl, (hS.foot 2 rfl M9 rfl).resolve_left (fun h => h), hS.upd⟩
end Go.Proofs.YthfjagphcekcbaaGreat
namespace Go.Wx
def lotTakes (wafer time : Int) (best : Option Fact) (f : Fact) : Bool := isIDb wafer && decide (f.Wafer = wafer) && decide (f.Time ≤ time) && (match best with | none => true | some g => decide (g.Time < f.Time))
def lotStep (wafer time : Int) (best : Option Fact) (f : Fact) : Option Fact := if lotTakes wafer time best f = true then some f else best
def lotBest (l : List Fact) (wafer time : Int) : Option Fact := l.foldl (lotStep wafer time) none
def lotOf (l : List Fact) (wafer time : Int) : Int × Int := match lotBest l wafer time with | none => (0, 0) | some f => (f.Lot, f.Product)
theorem lotBest_snoc (l : List Fact) (f : Fact) (wafer time : Int) : lotBest (l ++ [f]) wafer time = lotStep wafer time (lotBest l wafer time) f := by simp [lotBest]
def ptrBest (ad : Option Addr) (k : Nat) : Option Nat → Option Addr
  | none => none
  | some j => ad.map fun a => ⟨a.block, a.off + j * k, none⟩
def tau (f : Fact) (k : Int) : Int := if k = f.Wafer then f.Other else if k = f.Other then f.Wafer else k
def whoF (L : List Fact) (k : Int) : Int := L.foldr tau k
def markF (L : List Fact) (k : Int) : Int := L.foldl (fun k f => tau f k) k
def markL (l : List Fact) (t w : Int) : Int := if isIDb w = true then markF (ordG (swOk t) l) w else 0
theorem tau_tau (f : Fact) (k : Int) : tau f (tau f k) = k := by
  unfold tau
  by_cases h1 : k = f.Wafer
  · rw [if_pos h1]
    by_cases h2 : f.Other = f.Wafer
    · rw [if_pos h2, h1]; exact h2
    · rw [if_neg h2, if_pos rfl, h1]
  · rw [if_neg h1]
    by_cases h2 : k = f.Other
    · rw [if_pos h2, if_pos rfl, h2]
    · rw [if_neg h2, if_neg h1, if_neg h2]
theorem lkI_cons (p : Int × Int) (m : List (Int × Int)) (j : Int) : lkI (p :: m) j = if p.1 = j then some p.2 else lkI m j := by
  unfold lkI
  rw [List.find?_cons]
  by_cases h : p.1 = j
  · rw [decide_eq_true h, if_pos h]; rfl
  · rw [decide_eq_false h, if_neg h]
theorem lkI_app (m : List (Int × Int)) (k v j : Int) (hk : k ∉ m.map (·.1)) : lkI (m ++ [(k, v)]) j = if j = k then some v else lkI m j := by
  induction m with
  | nil =>
    rw [List.nil_append, lkI_cons]
    by_cases h : j = k
    · rw [if_pos h, if_pos h.symm]
    · rw [if_neg h, if_neg (Ne.symm h)]
  | cons p m ih =>
    rw [List.map_cons, List.mem_cons, not_or] at hk
    rw [List.cons_append, lkI_cons, lkI_cons, ih hk.2]
    by_cases h : p.1 = j
    · rw [if_pos h, if_pos h, if_neg (fun e => hk.1 (by rw [h, e]))]
    · rw [if_neg h, if_neg h]
theorem lkI_rep (m : List (Int × Int)) (k v j : Int) (hk : k ∈ m.map (·.1)) : lkI (m.map fun p => if p.1 = k then (k, v) else p) j = if j = k then some v else lkI m j := by
  have gen : ∀ m : List (Int × Int), lkI (m.map fun p => if p.1 = k then (k, v) else p) j = if j = k then (if k ∈ m.map (·.1) then some v else none) else lkI m j := by
    intro m
    induction m with
    | nil => by_cases h : j = k <;> simp [h, lkI]
    | cons p m ih =>
      rw [List.map_cons, lkI_cons, ih, lkI_cons]
      by_cases h : j = k
      · subst h
        by_cases e : p.1 = j
        · simp [e]
        · have hm : (j ∈ (p :: m).map (·.1)) ↔ j ∈ m.map (·.1) := by rw [List.map_cons, List.mem_cons]; exact ⟨fun h => h.resolve_left (fun x => e x.symm), .inr⟩
          rw [if_neg e, if_neg e, if_pos rfl, if_pos rfl]
          by_cases hk : j ∈ m.map (·.1)
          · rw [if_pos hk, if_pos (hm.2 hk)]
          · rw [if_neg hk, if_neg (fun x => hk (hm.1 x))]
      · by_cases e : p.1 = k
        · rw [if_pos e, if_neg (Ne.symm h), if_neg h, if_neg h, if_neg (by rw [e]; exact Ne.symm h)]
        · rw [if_neg e, if_neg h, if_neg h]
  rw [gen, if_pos hk]
theorem lkI_set (m : List (Int × Int)) (k v j : Int) : lkI (setI m k v) j = if j = k then some v else lkI m j := by
  unfold setI
  split
  · exact lkI_rep m k v j (by assumption)
  · exact lkI_app m k v j (by assumption)
theorem whoM_swap (m : List (Int × Int)) (f : Fact) (k : Int) : whoM (swapM m f) k = whoM m (tau f k) := by
  unfold swapM
  show (lkI (setI (setI m f.Wafer (whoM m f.Other)) f.Other (whoM m f.Wafer)) k).getD k = whoM m (tau f k)
  rw [lkI_set, lkI_set]
  unfold tau
  by_cases h1 : k = f.Wafer
  · rw [if_pos h1, if_pos h1]
    by_cases h2 : k = f.Other
    · rw [if_pos h2, ← h1, ← h2]; rfl
    · rw [if_neg h2]; rfl
  · rw [if_neg h1, if_neg h1]
    by_cases h2 : k = f.Other
    · rw [if_pos h2, if_pos h2]; rfl
    · rw [if_neg h2, if_neg h2]; rfl
theorem whoM_fold (L : List Fact) : ∀ (m : List (Int × Int)) (k : Int), whoM (L.foldl swapM m) k = whoM m (whoF L k) := by
  induction L with
  | nil => intro m k; rfl
  | cons f L ih => intro m k; rw [List.foldl_cons, ih, whoM_swap]; rfl
theorem whoM_marks (L : List Fact) (k : Int) : whoM (L.foldl swapM []) k = whoF L k := by rw [whoM_fold]; rfl
theorem whoL_eq (l : List Fact) (t k : Int) : whoL l t k = if isIDb k = true then whoF (ordG (swOk t) l) k else 0 := by unfold whoL marksAt; rw [whoM_marks]
theorem mark_who (L : List Fact) (k : Int) : markF L (whoF L k) = k := by
  induction L with
  | nil => rfl
  | cons f L ih =>
    show markF L (tau f (tau f (whoF L k))) = k
    rw [tau_tau, ih]
theorem who_mark (L : List Fact) : ∀ w : Int, whoF L (markF L w) = w := by
  induction L with
  | nil => intro w; rfl
  | cons f L ih =>
    intro w
    show tau f (whoF L (markF L (tau f w))) = w
    rw [ih, tau_tau]
theorem lkI_mem {m : List (Int × Int)} {k v : Int} (hn : (m.map (·.1)).Nodup) (h : (k, v) ∈ m) : lkI m k = some v := by
  induction m with
  | nil => cases h
  | cons p m ih =>
    rw [List.map_cons, List.nodup_cons] at hn
    rw [lkI_cons]
    rcases List.mem_cons.1 h with e | e
    · rw [← e, if_pos rfl]
    · rw [if_neg (fun x => hn.1 (by rw [x]; exact List.mem_map.2 ⟨_, e, rfl⟩)), ih hn.2 e]
theorem mkv_mem {m : List (Int × Int)} {k : Int} {u : Go.Value} (h : (k, u) ∈ mkv m) : ∃ v, (k, v) ∈ m ∧ u = vi v := by
  obtain ⟨p, hp, e⟩ := List.mem_map.1 h
  cases e
  exact ⟨p.2, hp, rfl⟩
theorem mark_found {L : List Fact} {k v w : Int} (hn : ((L.foldl swapM []).map (·.1)).Nodup) (h : (k, v) ∈ L.foldl swapM []) (e : v = w) : markF L w = k := by
  have h1 : whoM (L.foldl swapM []) k = v := by unfold whoM; rw [lkI_mem hn h]; rfl
  rw [whoM_marks] at h1
  rw [← e, ← h1, mark_who]
theorem mark_none {L : List Fact} {w : Int} (h : ∀ k v, (k, v) ∈ L.foldl swapM [] → v ≠ w) : markF L w = w := by
  have h1 := who_mark L w
  rw [← whoM_marks] at h1
  unfold whoM at h1
  cases hl : lkI (L.foldl swapM []) (markF L w) with
  | none => rw [hl] at h1; exact h1
  | some v => rw [hl] at h1; exact absurd h1 (h _ v (lkI_some hl))
def histL (ps ss : List Fact) (w : Int) : List Fact := if isIDb w = true then ordG (fun f => decide (whoL ss f.Time f.Wafer = w)) ps else []
theorem take_eq_step {xs ys : List Int} {k : Nat} {x y : Int} (h : xs.take k = ys.take k) (hx : xs[k]? = some x) (hy : ys[k]? = some y) (e : x = y) : xs.take (k + 1) = ys.take (k + 1) := by rw [take_succ_of hx, take_succ_of hy, h, e]
theorem ne_of_at {xs ys : List Int} {k : Nat} {x y : Int} (hx : xs[k]? = some x) (hy : ys[k]? = some y) (e : ¬ x = y) : ¬ xs = ys := fun h => e (by subst h; rw [hx] at hy; cases hy; rfl)
end Go.Wx
namespace Go.Proofs.YthfjagphcekcbaaGreat
open Go.Wx Go.RowKit
set_option maxHeartbeats 1000000 in
theorem lot_any (bc : Array Go.Value) (b : Base) (wafer time : Int) (w : World) (hC : BaseC w bc b) (hlen : b.Lots.length < 9223372036854775807) : Ret Tryz.prog 16 #[.agg bc, vi wafer, vi time] w fun r w' => r = .tuple #[vi (lotOf b.Lots wafer time).1, vi (lotOf b.Lots wafer time).2] ∧ Up w w' := by
  have hW := Up.refl w
  obtain ⟨w0, rfl⟩ : ∃ w0, w0 = w := ⟨_, rfl⟩
  refine Calls_start (n := 61) (m := 9) Tryz.func16 rfl rfl rfl ?_
  refine CW.seq (CW.region ?_)
  refine LW.r (REv.boxA (.tmp rfl)) rfl rfl rfl rfl ?_
  rintro _ w1 ⟨B3, rfl, NB3⟩
  have eB3 := NB3.at_
  have zB3 := NB3.size
  replace hC := hC.up NB3.up
  replace hW := hW.up NB3.up
  have hB3 := NB3.blk
  refine LW.p (PEv.assign (.const _)) rfl rfl rfl (LW.p (PEv.assign (.const _)) rfl rfl rfl (LW.nil (KW.then (CW.seq (CW.region (LW.p (PEv.assign (.const _)) rfl rfl rfl (LW.nil (KW.then (CW.seq (CW.seq ?_))))))))))
  obtain ⟨v3, h3, hr⟩ := hC.at3
  obtain ⟨ad, cp, rfl, hE⟩ := hr
  refine CW.region ?_
  refine LW.p (PEv.fieldAddr (off := 3) Tryz.underlying24 rfl rfl Tryz.sizeOf22 rfl (.tmp rfl)) rfl rfl rfl ?_
  refine LW.p (PEv.load Tryz.isAgg22 (.tmp rfl) (hB3.cell h3)) rfl rfl rfl ?_
  refine LW.p (PEv.lenS Tryz.underlying22 (.tmp rfl)) rfl rfl rfl ?_
  refine LW.p (PEv.move (.const _)) rfl rfl rfl ?_
  refine LW.nil (KW.then (CW.block ?_))
  refine CW.loop (σ := Nat × Option Nat) (fun s w => (s.1 ≤ b.Lots.length ∧ (∀ j, s.2 = some j → j < s.1) ∧ (s.2.bind fun j => b.Lots[j]?) = lotBest (b.Lots.take s.1) wafer time) ∧ Els w ad 19 Fact.cells b.Lots ∧ Blk w B3 bc 24 ∧ Up w0 w) (fun s => [(8, .eq (.pointer (ptrBest ad 19 s.2))), (14, .eq (vi (s.1 : Int))), (1, .eq (vi wafer)), (2, .eq (vi time)), (3, .eq (.pointer (some ⟨B3, 0, none⟩))), (12, .eq (.slice ad b.Lots.length cp)), (13, .eq (vi (b.Lots.length : Int)))]) (fun s => b.Lots.length - s.1) (0, none) ?_ ?_ ?_
  ·exact ⟨⟨Nat.zero_le _, fun j e => (by cases e), rfl⟩, hE, hB3, hW⟩
  ·exact ⟨rfl, rfl, rfl, rfl, rfl, rfl, rfl, trivial⟩
  ·rintro ⟨k, best⟩ w2 ⟨⟨hk, hj, hbest⟩, hE, hB3, hW⟩
   dsimp only at hk hj hbest
   rcases best with _ | j
   ·skip
    refine CW.seq (CW.region ?_)
    refine LW.p (PEv.lss (.tmp rfl) (.tmp rfl)) rfl rfl rfl ?_
    refine LW.nil (KW.then (CW.seq ?_))
    refine CW.cond (.tmp rfl) (fun h15 => ?_) (fun h15 => ?_)
    ·first | replace h15 := of_decide_eq_true h15 | replace h15 := of_decide_eq_false h15 | skip
     refine CW.skip (KW.then (CW.seq (CW.block (CW.seq ?_))))
     obtain ⟨x, hx⟩ := getElem?_of_lt (xs := b.Lots) (i := k) (by omega)
     obtain ⟨B, o, had, hcell⟩ := hE k x hx
     subst had
     refine CW.region (LW.p (PEv.move (.tmp rfl)) rfl rfl rfl ?_)
     refine LW.p (PEv.indexAddr Tryz.underlying22 Tryz.sizeOf46 (.tmp rfl) (.tmp rfl) (by omega)) rfl rfl rfl ?_
     refine LW.p (PEv.loadA Tryz.isAgg46 Tryz.sizeOf46 rfl (.tmp rfl) (hcell)) rfl rfl rfl ?_
     refine LW.r (REv.allocA Tryz.zeroValue46) rfl rfl rfl rfl ?_
     rintro _ w3 ⟨B10, rfl, MB10⟩
     refine LW.p (PEv.assign (.tmp rfl)) rfl rfl rfl ?_
     refine LW.s (SEv.storeA Tryz.sizeOf46 rfl (.tmp rfl) (.tmp rfl) (by first | rfl | exact Fact.one _ | exact GAct.one _ | exact holdCells_one _ _ | exact hold0_one | (simp [Value.oneCell'])) MB10.blk rfl) rfl rfl rfl ?_
     intro w4 LB10
     have NB10 := MB10.set LB10
     clear LB10 MB10
     have eB10 := NB10.at_
     have zB10 := NB10.size
     replace hE := hE.up NB10.up
     replace hB3 := hB3.up NB10.up
     replace hW := hW.up NB10.up
     have hB10 := NB10.blk
     refine LW.nil (KW.then (CW.seq ?_))
     refine CW.draws (by kernel_rfl) (by kernel_rfl) rfl rfl ?_
     refine HW.p (PEv.move (.tmp rfl)) rfl rfl ?_
     refine HW.c (fun a w _ ha => enter_call0 (.cons (.tmp rfl) .nil) (Tryz.en38) a ha) rfl rfl (fun w hu => isID_any _ _) ?_
     refine HW.p (PEv.move (.tmp rfl)) rfl rfl ?_
     refine HW.g rfl rfl rfl rfl rfl rfl (fun hc => PEv.fieldAddr (off := 7) Tryz.underlying46 rfl rfl Tryz.sizeOf3 rfl (.tmp rfl)) ?_
     refine HW.g rfl rfl rfl rfl rfl rfl (fun hc => PEv.load Tryz.isAgg3 (by first | exact .tmp rfl | exact .cond rfl (by first | assumption | simp_all)) (hB10.celln rfl)) ?_
     refine HW.g rfl rfl rfl rfl rfl rfl (fun hc => PEv.move (.tmp rfl)) ?_
     refine HW.g rfl rfl rfl rfl rfl rfl (fun hc => PEv.eql (by first | exact .tmp rfl | exact .cond rfl (by first | assumption | simp_all)) (by first | exact .tmp rfl | exact .cond rfl (by first | assumption | simp_all))) ?_
     refine HW.p (PEv.pick_and (.tmp rfl) (fun hp => (by first | exact .const _ | exact .tmp rfl | exact .cond rfl (by first | assumption | simp_all)))) rfl rfl ?_
     refine HW.p (PEv.move (.tmp rfl)) rfl rfl ?_
     refine HW.g rfl rfl rfl rfl rfl rfl (fun hc => PEv.fieldAddr (off := 5) Tryz.underlying46 rfl rfl Tryz.sizeOf3 rfl (.tmp rfl)) ?_
     refine HW.g rfl rfl rfl rfl rfl rfl (fun hc => PEv.load Tryz.isAgg3 (by first | exact .tmp rfl | exact .cond rfl (by first | assumption | simp_all)) (hB10.celln rfl)) ?_
     refine HW.g rfl rfl rfl rfl rfl rfl (fun hc => PEv.move (.tmp rfl)) ?_
     refine HW.g rfl rfl rfl rfl rfl rfl (fun hc => PEv.leq (by first | exact .tmp rfl | exact .cond rfl (by first | assumption | simp_all)) (by first | exact .tmp rfl | exact .cond rfl (by first | assumption | simp_all))) ?_
     refine HW.p (PEv.pick_and (.tmp rfl) (fun hp => (by first | exact .const _ | exact .tmp rfl | exact .cond rfl (by first | assumption | simp_all)))) rfl rfl ?_
     refine HW.p (PEv.move (.tmp rfl)) rfl rfl ?_
     refine HW.g rfl rfl rfl rfl rfl rfl (fun hc => PEv.move (.tmp rfl)) ?_
     refine HW.g rfl rfl rfl rfl rfl rfl (fun hc => PEv.eqlNil Tryz.underlying68 (by first | exact .tmp rfl | exact .cond rfl (by first | assumption | simp_all))) ?_
     refine HW.g rfl rfl rfl rfl rfl rfl (fun hc => PEv.move (by first | exact .tmp rfl | exact .cond rfl (by first | assumption | simp_all))) ?_
     refine HW.nog rfl rfl rfl rfl rfl rfl rfl ?_
     refine HW.nog rfl rfl rfl rfl rfl rfl rfl ?_
     refine HW.nog rfl rfl rfl rfl rfl rfl rfl ?_
     refine HW.nog rfl rfl rfl rfl rfl rfl rfl ?_
     refine HW.nog rfl rfl rfl rfl rfl rfl rfl ?_
     refine HW.nog rfl rfl rfl rfl rfl rfl rfl ?_
     refine HW.nog rfl rfl rfl rfl rfl rfl rfl ?_
     refine HW.g rfl rfl rfl rfl rfl rfl (fun hc => PEv.pick_or (b := true) (by first | exact .tmp rfl | exact .cond rfl (by first | assumption | simp_all)) (fun hp => absurd (show true = false from hp) (by decide))) ?_
     refine HW.p (PEv.pick_and (.tmp rfl) (fun hp => (by first | exact .const _ | exact .tmp rfl | exact .cond rfl (by first | assumption | simp_all)))) rfl rfl ?_
     refine HW.nil ?_
     intro w5 uw5
     have zw5 := uw5.size
     replace hE := hE.up uw5
     replace hB3 := hB3.up uw5
     replace hW := hW.up uw5
     replace hB10 := hB10.up uw5
     refine KW.then ?_
     refine CW.cond (.tmp rfl) (fun h45 => ?_) (fun h45 => ?_)
     ·first | replace h45 := of_decide_eq_true h45 | replace h45 := of_decide_eq_false h45 | skip
      have hnew : lotBest (b.Lots.take (k + 1)) wafer time = some x := by rw [take_succ_of hx, lotBest_snoc, ← hbest]; exact if_pos (by simpa [lotTakes, ptrBest] using h45)
      have hend : ∃ s' : Nat × Option Nat, s'.2 = some k ∧ s'.1 = k + 1 := ⟨(k + 1, some k), rfl, rfl⟩
      refine CW.region ?_
      refine LW.p (PEv.fieldAddr (off := 3) Tryz.underlying24 rfl rfl Tryz.sizeOf22 rfl (.tmp rfl)) rfl rfl rfl ?_
      refine LW.p (PEv.load Tryz.isAgg22 (.tmp rfl) (hB3.cell h3)) rfl rfl rfl ?_
      refine LW.p (PEv.move (.tmp rfl)) rfl rfl rfl ?_
      refine LW.p (PEv.indexAddr Tryz.underlying22 Tryz.sizeOf46 (.tmp rfl) (.tmp rfl) (by omega)) rfl rfl rfl ?_
      refine LW.p (PEv.assign (.tmp rfl)) rfl rfl rfl (LW.nil (KW.inBlock (KW.then (CW.region ?_))))
      refine LW.p (PEv.inc (.tmp rfl) (by omega)) rfl rfl rfl ?_
      refine LW.p (PEv.move (.tmp rfl)) rfl rfl rfl (LW.nil (KW.round ?_))
      first | exact ⟨(k + 1, some k), ⟨⟨by omega, fun j e => (by cases e; omega), by rw [hnew]; exact hx⟩, hE, hB3, hW⟩, ⟨rfl, rfl, rfl, rfl, rfl, rfl, rfl, trivial⟩, by omega⟩ | exact ⟨(k + 1, none), ⟨⟨by omega, fun j e => (by cases e), by rw [hnew]; rfl⟩, hE, hB3, hW⟩, ⟨rfl, rfl, rfl, rfl, rfl, rfl, rfl, trivial⟩, by dsimp only; omega⟩ | exact ⟨(k + 1, some j), ⟨⟨by omega, fun i e => (by cases e; have := hj j rfl; omega), by rw [hnew]; exact hy⟩, hE, hB3, hW⟩, ⟨rfl, rfl, rfl, rfl, rfl, rfl, rfl, trivial⟩, by dsimp only; omega⟩
     ·first | replace h45 := of_decide_eq_true h45 | replace h45 := of_decide_eq_false h45 | skip
      have hnew : lotBest (b.Lots.take (k + 1)) wafer time = none := by rw [take_succ_of hx, lotBest_snoc, ← hbest]; exact if_neg (by simpa [lotTakes, ptrBest] using h45)
      refine CW.skip (KW.inBlock (KW.then (CW.region ?_)))
      refine LW.p (PEv.inc (.tmp rfl) (by omega)) rfl rfl rfl ?_
      refine LW.p (PEv.move (.tmp rfl)) rfl rfl rfl (LW.nil (KW.round ?_))
      first | exact ⟨(k + 1, some k), ⟨⟨by omega, fun j e => (by cases e; omega), by rw [hnew]; exact hx⟩, hE, hB3, hW⟩, ⟨rfl, rfl, rfl, rfl, rfl, rfl, rfl, trivial⟩, by omega⟩ | exact ⟨(k + 1, none), ⟨⟨by omega, fun j e => (by cases e), by rw [hnew]; rfl⟩, hE, hB3, hW⟩, ⟨rfl, rfl, rfl, rfl, rfl, rfl, rfl, trivial⟩, by dsimp only; omega⟩ | exact ⟨(k + 1, some j), ⟨⟨by omega, fun i e => (by cases e; have := hj j rfl; omega), by rw [hnew]; exact hy⟩, hE, hB3, hW⟩, ⟨rfl, rfl, rfl, rfl, rfl, rfl, rfl, trivial⟩, by dsimp only; omega⟩
    ·first | replace h15 := of_decide_eq_true h15 | replace h15 := of_decide_eq_false h15 | skip
     have hkk : k = b.Lots.length := by omega
     subst hkk
     rw [List.take_length] at hbest
     have hres : lotOf b.Lots wafer time = (0, 0) := by unfold lotOf; rw [← hbest]; rfl
     refine CW.exit (KW.then_exit (KW.then_exit (KW.block_hit (KW.then (CW.seq (CW.seq (CW.region (LW.p (PEv.move (.tmp rfl)) rfl rfl rfl ?_))))))))
     refine LW.p (PEv.eqlNil Tryz.underlying68 (.tmp rfl)) rfl rfl rfl ?_
     refine LW.nil (KW.then ?_)
     refine CW.cond_true (.tmp rfl) ?_
     refine CW.seq (CW.region (LW.p (PEv.assign (.const _)) rfl rfl rfl (LW.p (PEv.assign (.const _)) rfl rfl rfl (LW.nil (KW.then (CW.ret (KW.then_ret ?_)))))))
     refine KW.ret2 rfl rfl rfl ⟨_, rfl, ?_⟩
     exact ⟨by rw [hres] <;> rfl, hW⟩
   ·obtain ⟨y, hy⟩ := getElem?_of_lt (xs := b.Lots) (i := j) (by have := hj j rfl; omega)
    obtain ⟨B, o, had, hyc⟩ := hE j y hy
    subst had
    have hby : lotBest (b.Lots.take k) wafer time = some y := by rw [← hbest]; exact hy
    refine CW.seq (CW.region ?_)
    refine LW.p (PEv.lss (.tmp rfl) (.tmp rfl)) rfl rfl rfl ?_
    refine LW.nil (KW.then (CW.seq ?_))
    refine CW.cond (.tmp rfl) (fun h15 => ?_) (fun h15 => ?_)
    ·first | replace h15 := of_decide_eq_true h15 | replace h15 := of_decide_eq_false h15 | skip
     refine CW.skip (KW.then (CW.seq (CW.block (CW.seq ?_))))
     obtain ⟨x, hx⟩ := getElem?_of_lt (xs := b.Lots) (i := k) (by omega)
     obtain ⟨B', o', e', hcell⟩ := hE k x hx
     cases e'
     refine CW.region (LW.p (PEv.move (.tmp rfl)) rfl rfl rfl ?_)
     refine LW.p (PEv.indexAddr Tryz.underlying22 Tryz.sizeOf46 (.tmp rfl) (.tmp rfl) (by omega)) rfl rfl rfl ?_
     refine LW.p (PEv.loadA Tryz.isAgg46 Tryz.sizeOf46 rfl (.tmp rfl) (hcell)) rfl rfl rfl ?_
     refine LW.r (REv.allocA Tryz.zeroValue46) rfl rfl rfl rfl ?_
     rintro _ w6 ⟨B10, rfl, MB10⟩
     refine LW.p (PEv.assign (.tmp rfl)) rfl rfl rfl ?_
     refine LW.s (SEv.storeA Tryz.sizeOf46 rfl (.tmp rfl) (.tmp rfl) (by first | rfl | exact Fact.one _ | exact GAct.one _ | exact holdCells_one _ _ | exact hold0_one | (simp [Value.oneCell'])) MB10.blk rfl) rfl rfl rfl ?_
     intro w7 LB10
     have NB10 := MB10.set LB10
     clear LB10 MB10
     have eB10 := NB10.at_
     have zB10 := NB10.size
     replace hE := hE.up NB10.up
     replace hB3 := hB3.up NB10.up
     replace hW := hW.up NB10.up
     replace hyc := hyc.up NB10.up
     have hB10 := NB10.blk
     refine LW.nil (KW.then (CW.seq ?_))
     refine CW.draws (by kernel_rfl) (by kernel_rfl) rfl rfl ?_
     refine HW.p (PEv.move (.tmp rfl)) rfl rfl ?_
     refine HW.c (fun a w _ ha => enter_call0 (.cons (.tmp rfl) .nil) (Tryz.en38) a ha) rfl rfl (fun w hu => isID_any _ _) ?_
     refine HW.p (PEv.move (.tmp rfl)) rfl rfl ?_
     refine HW.g rfl rfl rfl rfl rfl rfl (fun hc => PEv.fieldAddr (off := 7) Tryz.underlying46 rfl rfl Tryz.sizeOf3 rfl (.tmp rfl)) ?_
     refine HW.g rfl rfl rfl rfl rfl rfl (fun hc => PEv.load Tryz.isAgg3 (by first | exact .tmp rfl | exact .cond rfl (by first | assumption | simp_all)) (hB10.celln rfl)) ?_
     refine HW.g rfl rfl rfl rfl rfl rfl (fun hc => PEv.move (.tmp rfl)) ?_
     refine HW.g rfl rfl rfl rfl rfl rfl (fun hc => PEv.eql (by first | exact .tmp rfl | exact .cond rfl (by first | assumption | simp_all)) (by first | exact .tmp rfl | exact .cond rfl (by first | assumption | simp_all))) ?_
     refine HW.p (PEv.pick_and (.tmp rfl) (fun hp => (by first | exact .const _ | exact .tmp rfl | exact .cond rfl (by first | assumption | simp_all)))) rfl rfl ?_
     refine HW.p (PEv.move (.tmp rfl)) rfl rfl ?_
     refine HW.g rfl rfl rfl rfl rfl rfl (fun hc => PEv.fieldAddr (off := 5) Tryz.underlying46 rfl rfl Tryz.sizeOf3 rfl (.tmp rfl)) ?_
     refine HW.g rfl rfl rfl rfl rfl rfl (fun hc => PEv.load Tryz.isAgg3 (by first | exact .tmp rfl | exact .cond rfl (by first | assumption | simp_all)) (hB10.celln rfl)) ?_
     refine HW.g rfl rfl rfl rfl rfl rfl (fun hc => PEv.move (.tmp rfl)) ?_
     refine HW.g rfl rfl rfl rfl rfl rfl (fun hc => PEv.leq (by first | exact .tmp rfl | exact .cond rfl (by first | assumption | simp_all)) (by first | exact .tmp rfl | exact .cond rfl (by first | assumption | simp_all))) ?_
     refine HW.p (PEv.pick_and (.tmp rfl) (fun hp => (by first | exact .const _ | exact .tmp rfl | exact .cond rfl (by first | assumption | simp_all)))) rfl rfl ?_
     refine HW.p (PEv.move (.tmp rfl)) rfl rfl ?_
     refine HW.g rfl rfl rfl rfl rfl rfl (fun hc => PEv.move (.tmp rfl)) ?_
     refine HW.g rfl rfl rfl rfl rfl rfl (fun hc => PEv.eqlNil Tryz.underlying68 (by first | exact .tmp rfl | exact .cond rfl (by first | assumption | simp_all))) ?_
     refine HW.g rfl rfl rfl rfl rfl rfl (fun hc => PEv.move (by first | exact .tmp rfl | exact .cond rfl (by first | assumption | simp_all))) ?_
     refine HW.gg rfl rfl rfl rfl rfl rfl (fun hc => PEv.fieldAddr (off := 5) Tryz.underlying46 rfl rfl Tryz.sizeOf3 rfl (.tmp rfl)) ?_
     refine HW.gg rfl rfl rfl rfl rfl rfl (fun hc => PEv.load Tryz.isAgg3 (by first | exact .tmp rfl | exact .cond rfl (by first | assumption | simp_all)) (hB10.celln rfl)) ?_
     refine HW.gg rfl rfl rfl rfl rfl rfl (fun hc => PEv.move (.tmp rfl)) ?_
     refine HW.gg rfl rfl rfl rfl rfl rfl (fun hc => PEv.nilCheck (by first | exact .tmp rfl | exact .cond rfl (by first | assumption | simp_all))) ?_
     refine HW.gg rfl rfl rfl rfl rfl rfl (fun hc => PEv.fieldAddr (off := 5) Tryz.underlying46 rfl rfl Tryz.sizeOf3 rfl (by first | exact .tmp rfl | exact .cond rfl (by first | assumption | simp_all))) ?_
     refine HW.gg rfl rfl rfl rfl rfl rfl (fun hc => PEv.load Tryz.isAgg3 (by first | exact .tmp rfl | exact .cond rfl (by first | assumption | simp_all)) (hyc.nth (j := 5) rfl)) ?_
     refine HW.gg rfl rfl rfl rfl rfl rfl (fun hc => PEv.gtr (by first | exact .tmp rfl | exact .cond rfl (by first | assumption | simp_all)) (by first | exact .tmp rfl | exact .cond rfl (by first | assumption | simp_all))) ?_
     refine HW.g rfl rfl rfl rfl rfl rfl (fun hc => PEv.pick_or (by first | exact .tmp rfl | exact .cond rfl (by first | assumption | simp_all)) (fun hp => (by first | exact .const _ | exact .tmp rfl | exact .cond rfl (by first | assumption | simp_all)))) ?_
     refine HW.p (PEv.pick_and (.tmp rfl) (fun hp => (by first | exact .const _ | exact .tmp rfl | exact .cond rfl (by first | assumption | simp_all)))) rfl rfl ?_
     refine HW.nil ?_
     intro w8 uw8
     have zw8 := uw8.size
     replace hE := hE.up uw8
     replace hB3 := hB3.up uw8
     replace hW := hW.up uw8
     replace hyc := hyc.up uw8
     replace hB10 := hB10.up uw8
     refine KW.then ?_
     refine CW.cond (.tmp rfl) (fun h45 => ?_) (fun h45 => ?_)
     ·first | replace h45 := of_decide_eq_true h45 | replace h45 := of_decide_eq_false h45 | skip
      have hnew : lotBest (b.Lots.take (k + 1)) wafer time = some x := by rw [take_succ_of hx, lotBest_snoc, hby]; exact if_pos (by simpa [lotTakes, ptrBest] using h45)
      refine CW.region ?_
      refine LW.p (PEv.fieldAddr (off := 3) Tryz.underlying24 rfl rfl Tryz.sizeOf22 rfl (.tmp rfl)) rfl rfl rfl ?_
      refine LW.p (PEv.load Tryz.isAgg22 (.tmp rfl) (hB3.cell h3)) rfl rfl rfl ?_
      refine LW.p (PEv.move (.tmp rfl)) rfl rfl rfl ?_
      refine LW.p (PEv.indexAddr Tryz.underlying22 Tryz.sizeOf46 (.tmp rfl) (.tmp rfl) (by omega)) rfl rfl rfl ?_
      refine LW.p (PEv.assign (.tmp rfl)) rfl rfl rfl (LW.nil (KW.inBlock (KW.then (CW.region ?_))))
      refine LW.p (PEv.inc (.tmp rfl) (by omega)) rfl rfl rfl ?_
      refine LW.p (PEv.move (.tmp rfl)) rfl rfl rfl (LW.nil (KW.round ?_))
      first | exact ⟨(k + 1, some k), ⟨⟨by omega, fun j e => (by cases e; omega), by rw [hnew]; exact hx⟩, hE, hB3, hW⟩, ⟨rfl, rfl, rfl, rfl, rfl, rfl, rfl, trivial⟩, by omega⟩ | exact ⟨(k + 1, none), ⟨⟨by omega, fun j e => (by cases e), by rw [hnew]; rfl⟩, hE, hB3, hW⟩, ⟨rfl, rfl, rfl, rfl, rfl, rfl, rfl, trivial⟩, by dsimp only; omega⟩ | exact ⟨(k + 1, some j), ⟨⟨by omega, fun i e => (by cases e; have := hj j rfl; omega), by rw [hnew]; exact hy⟩, hE, hB3, hW⟩, ⟨rfl, rfl, rfl, rfl, rfl, rfl, rfl, trivial⟩, by dsimp only; omega⟩
     ·first | replace h45 := of_decide_eq_true h45 | replace h45 := of_decide_eq_false h45 | skip
      have hnew : lotBest (b.Lots.take (k + 1)) wafer time = some y := by rw [take_succ_of hx, lotBest_snoc, hby]; exact if_neg (by simpa [lotTakes, ptrBest] using h45)
      refine CW.skip (KW.inBlock (KW.then (CW.region ?_)))
      refine LW.p (PEv.inc (.tmp rfl) (by omega)) rfl rfl rfl ?_
      refine LW.p (PEv.move (.tmp rfl)) rfl rfl rfl (LW.nil (KW.round ?_))
      first | exact ⟨(k + 1, some k), ⟨⟨by omega, fun j e => (by cases e; omega), by rw [hnew]; exact hx⟩, hE, hB3, hW⟩, ⟨rfl, rfl, rfl, rfl, rfl, rfl, rfl, trivial⟩, by omega⟩ | exact ⟨(k + 1, none), ⟨⟨by omega, fun j e => (by cases e), by rw [hnew]; rfl⟩, hE, hB3, hW⟩, ⟨rfl, rfl, rfl, rfl, rfl, rfl, rfl, trivial⟩, by dsimp only; omega⟩ | exact ⟨(k + 1, some j), ⟨⟨by omega, fun i e => (by cases e; have := hj j rfl; omega), by rw [hnew]; exact hy⟩, hE, hB3, hW⟩, ⟨rfl, rfl, rfl, rfl, rfl, rfl, rfl, trivial⟩, by dsimp only; omega⟩
    ·first | replace h15 := of_decide_eq_true h15 | replace h15 := of_decide_eq_false h15 | skip
     have hkk : k = b.Lots.length := by omega
     subst hkk
     rw [List.take_length] at hby
     have hres : lotOf b.Lots wafer time = (y.Lot, y.Product) := by unfold lotOf; rw [hby]
     refine CW.exit (KW.then_exit (KW.then_exit (KW.block_hit (KW.then (CW.seq (CW.seq (CW.region (LW.p (PEv.move (.tmp rfl)) rfl rfl rfl ?_))))))))
     refine LW.p (PEv.eqlNil Tryz.underlying68 (.tmp rfl)) rfl rfl rfl ?_
     refine LW.nil (KW.then ?_)
     refine CW.cond_false (.tmp rfl) ?_
     refine CW.skip (KW.then (CW.seq ?_))
     refine CW.draws (by kernel_rfl) (by kernel_rfl) rfl rfl ?_
     refine HW.p (PEv.move (.tmp rfl)) rfl rfl ?_
     refine HW.p (PEv.nilCheck (.tmp rfl)) rfl rfl ?_
     refine HW.p (PEv.fieldAddr (off := 9) Tryz.underlying46 rfl rfl Tryz.sizeOf3 rfl (.tmp rfl)) rfl rfl ?_
     refine HW.p (PEv.load Tryz.isAgg3 (.tmp rfl) (hyc.nth (j := 9) rfl)) rfl rfl ?_
     refine HW.p (PEv.move (.tmp rfl)) rfl rfl ?_
     refine HW.p (PEv.nilCheck (.tmp rfl)) rfl rfl ?_
     refine HW.p (PEv.fieldAddr (off := 10) Tryz.underlying46 rfl rfl Tryz.sizeOf3 rfl (.tmp rfl)) rfl rfl ?_
     refine HW.p (PEv.load Tryz.isAgg3 (.tmp rfl) (hyc.nth (j := 10) rfl)) rfl rfl ?_
     refine HW.p (PEv.assign (.tmp rfl)) rfl rfl ?_
     refine HW.p (PEv.assign (.tmp rfl)) rfl rfl ?_
     refine HW.nil ?_
     intro w9 uw9
     have zw9 := uw9.size
     replace hE := hE.up uw9
     replace hB3 := hB3.up uw9
     replace hW := hW.up uw9
     replace hyc := hyc.up uw9
     refine KW.then (CW.ret ?_)
     refine KW.ret2 rfl rfl rfl ⟨_, rfl, ?_⟩
     exact ⟨by rw [hres] <;> rfl, hW⟩
theorem Who_any (bc : Array Go.Value) (bs : Base) (mark time : Int) (w : World) (hC : BaseC w bc bs) (hl : bs.Swaps.length ≤ 1000000000) : Ret Tryz.prog 18 #[.agg bc, vi mark, vi time] w fun r w' => r = vi (whoL bs.Swaps time mark) ∧ Up w w' := by
  have hW := Up.refl w
  refine Calls_start (n := 15) (m := 9) Tryz.func18 rfl rfl rfl ?_
  refine CW.seq (CW.region ?_)
  refine LW.r (REv.boxA (.tmp rfl)) rfl rfl rfl rfl ?_
  rintro _ w1 ⟨B3, rfl, NB3⟩
  have eB3 := NB3.at_
  have zB3 := NB3.size
  replace hC := hC.up NB3.up
  replace hW := hW.up NB3.up
  have hB3 := NB3.blk
  refine LW.p (PEv.assign (.const _)) rfl rfl rfl (LW.nil (KW.then (CW.seq (CW.seq (CW.region (LW.p (PEv.move (.tmp rfl)) rfl rfl rfl ?_))))))
  refine LW.c (enter_call0 (.cons (.tmp rfl) .nil) (Tryz.en38)) rfl rfl rfl rfl (isID_any _ _) ?_
  rintro _ w2 ⟨rfl, uw2⟩
  have zw2 := uw2.size
  replace hC := hC.up uw2
  replace hW := hW.up uw2
  replace hB3 := hB3.up uw2
  refine LW.p (PEv.not (.tmp rfl)) rfl rfl rfl ?_
  refine LW.nil (KW.then ?_)
  refine CW.cond (.tmp rfl) (fun h9 => ?_) (fun h9 => ?_)
  ·first | replace h9 := of_decide_eq_true h9 | replace h9 := of_decide_eq_false h9 | skip
   have hi : isIDb mark = false := by simpa using h9
   refine CW.seq (CW.region (LW.p (PEv.assign (.const _)) rfl rfl rfl (LW.nil (KW.then (CW.ret (KW.then_ret ?_))))))
   refine KW.ret1 rfl rfl ⟨_, rfl, ?_⟩
   first | exact ⟨by rw [whoL, if_neg (by rw [hi]; decide)], hW⟩ | exact ⟨by rw [whoL, if_pos hi], hW⟩
  ·first | replace h9 := of_decide_eq_true h9 | replace h9 := of_decide_eq_false h9 | skip
   have hi : isIDb mark = true := by simpa using h9
   refine CW.skip (KW.then (CW.seq (CW.region ?_)))
   refine LW.p (PEv.loadA Tryz.isAgg24 Tryz.sizeOf24 (hC.size) (.tmp rfl) (hB3.agg)) rfl rfl rfl ?_
   refine LW.p (PEv.move (.tmp rfl)) rfl rfl rfl ?_
   refine LW.c (enter_call0 (.cons (.tmp rfl) (.cons (.tmp rfl) .nil)) (Tryz.en40)) rfl rfl rfl rfl (at_any bc bs time _ hC hl) ?_
   rintro _ w3 ⟨b, rfl, hM, zM, uw3⟩
   have zw3 := uw3.size
   replace hC := hC.up uw3
   replace hW := hW.up uw3
   replace hB3 := hB3.up uw3
   refine LW.p (PEv.move (.tmp rfl)) rfl rfl rfl ?_
   refine LW.c (enter_call0 (.cons (.tmp rfl) (.cons (.tmp rfl) .nil)) (Tryz.en41)) rfl rfl rfl rfl (ofM_any b _ mark _ hM) ?_
   rintro _ w4 ⟨rfl, uw4⟩
   have zw4 := uw4.size
   replace hC := hC.up uw4
   replace hW := hW.up uw4
   replace hB3 := hB3.up uw4
   replace hM := hM.up uw4
   refine LW.p (PEv.assign (.tmp rfl)) rfl rfl rfl (LW.nil (KW.then (CW.ret ?_)))
   refine KW.ret1 rfl rfl ⟨_, rfl, ?_⟩
   first | exact ⟨by rw [whoL, if_neg (by rw [hi]; decide)], hW⟩ | exact ⟨by rw [whoL, if_pos hi], hW⟩
theorem Mark_any (bc : Array Go.Value) (bs : Base) (wafer time : Int) (w : World) (hC : BaseC w bc bs) (hl : bs.Swaps.length ≤ 1000000000) : Ret Tryz.prog 20 #[.agg bc, vi wafer, vi time] w fun r w' => r = vi (markL bs.Swaps time wafer) ∧ Up w w' := by
  have hW := Up.refl w
  obtain ⟨w0, rfl⟩ : ∃ w0, w0 = w := ⟨_, rfl⟩
  refine Calls_start (n := 26) (m := 9) Tryz.func20 rfl rfl rfl ?_
  refine CW.seq (CW.region ?_)
  refine LW.r (REv.boxA (.tmp rfl)) rfl rfl rfl rfl ?_
  rintro _ w1 ⟨B3, rfl, NB3⟩
  have eB3 := NB3.at_
  have zB3 := NB3.size
  replace hC := hC.up NB3.up
  replace hW := hW.up NB3.up
  have hB3 := NB3.blk
  refine LW.p (PEv.assign (.const _)) rfl rfl rfl (LW.nil (KW.then (CW.seq (CW.seq (CW.region (LW.p (PEv.move (.tmp rfl)) rfl rfl rfl ?_))))))
  refine LW.c (enter_call0 (.cons (.tmp rfl) .nil) (Tryz.en38)) rfl rfl rfl rfl (isID_any _ _) ?_
  rintro _ w2 ⟨rfl, uw2⟩
  have zw2 := uw2.size
  replace hC := hC.up uw2
  replace hW := hW.up uw2
  replace hB3 := hB3.up uw2
  refine LW.p (PEv.not (.tmp rfl)) rfl rfl rfl ?_
  refine LW.nil (KW.then ?_)
  refine CW.cond (.tmp rfl) (fun h11 => ?_) (fun h11 => ?_)
  ·first | replace h11 := of_decide_eq_true h11 | replace h11 := of_decide_eq_false h11 | skip
   have hi : isIDb wafer = false := by simpa using h11
   refine CW.seq (CW.region (LW.p (PEv.assign (.const _)) rfl rfl rfl (LW.nil (KW.then (CW.ret (KW.then_ret ?_))))))
   refine KW.ret1 rfl rfl ⟨_, rfl, ?_⟩
   first | exact ⟨by rw [markL, if_neg (by rw [hi]; decide)], hW⟩ | exact ⟨by rw [markL, if_pos hi, hres], hW⟩ | exact ⟨by rw [markL, if_pos hi, mark_none (fun k v hkv => hno k (hPm.symm.subset (by rw [mkv_keys]; exact List.mem_map.2 ⟨_, hkv, rfl⟩)) v hkv)], hW⟩
  ·first | replace h11 := of_decide_eq_true h11 | replace h11 := of_decide_eq_false h11 | skip
   have hi : isIDb wafer = true := by simpa using h11
   refine CW.skip (KW.then (CW.seq (CW.seq (CW.region ?_))))
   refine LW.p (PEv.loadA Tryz.isAgg24 Tryz.sizeOf24 (hC.size) (.tmp rfl) (hB3.agg)) rfl rfl rfl ?_
   refine LW.p (PEv.move (.tmp rfl)) rfl rfl rfl ?_
   refine LW.c (enter_call0 (.cons (.tmp rfl) (.cons (.tmp rfl) .nil)) (Tryz.en40)) rfl rfl rfl rfl (at_any bc bs time _ hC hl) ?_
   rintro _ w3 ⟨b, rfl, hM, zM, uw3⟩
   have zw3 := uw3.size
   replace hC := hC.up uw3
   replace hW := hW.up uw3
   replace hB3 := hB3.up uw3
   refine LW.r (REv.range Tryz.underlying71 (.tmp rfl) hM) rfl rfl rfl rfl ?_
   rintro _ w4 ⟨r15, rfl, hR15, uw4, ew4, zw4⟩
   replace hC := hC.up uw4
   replace hW := hW.up uw4
   replace hB3 := hB3.up uw4
   replace hM := hM.up uw4
   refine LW.nil (KW.then (CW.block ?_))
   refine CW.loop (σ := List Int) (fun s w => (∀ j ∈ s, ∀ v, (j, v) ∈ marksAt bs.Swaps time → v ≠ wafer) ∧ IRng w b r15 (mkv (marksAt bs.Swaps time)) s ∧ Up w0 w) (fun s => [(1, .eq (vi wafer)), (15, .eq (.pointer (some ⟨r15, 0, none⟩)))]) (fun s => (mkv (marksAt bs.Swaps time)).length - s.length) [] ?_ ?_ ?_
   ·exact ⟨fun j hj => (by cases hj), hR15, hW⟩
   ·exact ⟨rfl, rfl, trivial⟩
   ·rintro done w5 ⟨hno, hR15, hW⟩
    have hnd : ((marksAt bs.Swaps time).map (·.1)).Nodup := by rw [← mkv_keys]; exact hR15.map.nodup
    refine CW.seq (CW.region ?_)
    refine LW.r (REv.next (.tmp rfl) hR15) rfl rfl rfl rfl ?_
    rintro _ w6 (⟨rfl, rfl, hPm⟩ | ⟨k, u, rfl, hNx⟩)
    ·skip
     refine LW.p (PEv.extract (.tmp rfl) rfl) rfl rfl rfl (LW.nil (KW.then (CW.seq ?_)))
     refine CW.cond_false (.tmp rfl) ?_
     refine CW.exit (KW.then_exit (KW.then_exit (KW.block_hit (KW.then (CW.seq (CW.region (LW.p (PEv.move (.tmp rfl)) rfl rfl rfl (LW.p (PEv.assign (.tmp rfl)) rfl rfl rfl (LW.nil (KW.then (CW.ret ?_)))))))))))
     refine KW.ret1 rfl rfl ⟨_, rfl, ?_⟩
     first | exact ⟨by rw [markL, if_neg (by rw [hi]; decide)], hW⟩ | exact ⟨by rw [markL, if_pos hi, hres], hW⟩ | exact ⟨by rw [markL, if_pos hi, mark_none (fun k v hkv => hno k (hPm.symm.subset (by rw [mkv_keys]; exact List.mem_map.2 ⟨_, hkv, rfl⟩)) v hkv)], hW⟩
    ·skip
     replace hW := hW.sto hNx.sto (by omega)
     replace hR15 := hNx.rng
     have zw6 := hNx.size
     obtain ⟨v, hv, rfl⟩ := mkv_mem hNx.mem
     refine LW.p (PEv.extract (.tmp rfl) rfl) rfl rfl rfl (LW.nil (KW.then (CW.seq ?_)))
     refine CW.cond_true (.tmp rfl) ?_
     refine CW.skip (KW.then (CW.block (CW.seq (CW.region ?_))))
     refine LW.r (REv.entry (.tmp rfl) hNx.entry) rfl rfl rfl rfl ?_
     rintro _ _ ⟨rfl, rfl⟩
     refine LW.p (PEv.extract (.tmp rfl) rfl) rfl rfl rfl (LW.p (PEv.extract (.tmp rfl) rfl) rfl rfl rfl (LW.p (PEv.assign (.tmp rfl)) rfl rfl rfl (LW.p (PEv.assign (.tmp rfl)) rfl rfl rfl (LW.nil (KW.then (CW.seq (CW.region (LW.p (PEv.move (.tmp rfl)) rfl rfl rfl (LW.p (PEv.move (.tmp rfl)) rfl rfl rfl ?_)))))))))
     refine LW.p (PEv.eql (.tmp rfl) (.tmp rfl)) rfl rfl rfl ?_
     refine LW.nil (KW.then ?_)
     refine CW.cond (.tmp rfl) (fun h23 => ?_) (fun h23 => ?_)
     ·first | replace h23 := of_decide_eq_true h23 | replace h23 := of_decide_eq_false h23 | skip
      have hres : markF (ordG (swOk time) bs.Swaps) wafer = k := mark_found hnd hv h23
      refine CW.seq (CW.region (LW.p (PEv.move (.tmp rfl)) rfl rfl rfl (LW.p (PEv.assign (.tmp rfl)) rfl rfl rfl (LW.nil (KW.then (CW.ret (KW.block_ret (KW.then_ret (KW.block_ret (KW.then_ret ?_))))))))))
      refine KW.ret1 rfl rfl ⟨_, rfl, ?_⟩
      first | exact ⟨by rw [markL, if_neg (by rw [hi]; decide)], hW⟩ | exact ⟨by rw [markL, if_pos hi, hres], hW⟩ | exact ⟨by rw [markL, if_pos hi, mark_none (fun k v hkv => hno k (hPm.symm.subset (by rw [mkv_keys]; exact List.mem_map.2 ⟨_, hkv, rfl⟩)) v hkv)], hW⟩
     ·first | replace h23 := of_decide_eq_true h23 | replace h23 := of_decide_eq_false h23 | skip
      refine CW.skip (KW.inBlock (KW.round ?_))
      exact ⟨done ++ [k], ⟨fun j hj v2 hv2 e => (by rcases List.mem_append.1 hj with hj | hj; exact hno j hj v2 hv2 e; rw [List.mem_singleton] at hj; subst hj; have h1 := lkI_mem hnd hv; rw [lkI_mem hnd hv2] at h1; cases h1; exact h23 e), hR15, hW⟩, ⟨rfl, rfl, trivial⟩, by have := hR15.length; simp at this ⊢; omega⟩
theorem histOk_any (f : Fact) (Bb Bw : Nat) (bc : Array Go.Value) (bs : Base) (wafer : Int) (w : World) (hC : BaseC w bc bs) (hl : bs.Swaps.length ≤ 1000000000) (hBb : Blk w Bb bc 24) (hBw : Blk w Bw #[vi wafer] 3) : Ret Tryz.prog 44 #[.agg f.cells, .pointer (some ⟨Bb, 0, none⟩), .pointer (some ⟨Bw, 0, none⟩)] w fun r w' => r = .bool (decide (whoL bs.Swaps f.Time f.Wafer = wafer)) ∧ Up w w' := by
  have hW := Up.refl w
  refine Calls_start (n := 13) (m := 9) Tryz.func44 rfl rfl rfl ?_
  refine CW.seq (CW.region ?_)
  refine LW.r (REv.boxA (.tmp rfl)) rfl rfl rfl rfl ?_
  rintro _ w1 ⟨B3, rfl, NB3⟩
  have eB3 := NB3.at_
  have zB3 := NB3.size
  replace hC := hC.up NB3.up
  replace hBb := hBb.up NB3.up
  replace hBw := hBw.up NB3.up
  replace hW := hW.up NB3.up
  have hB3 := NB3.blk
  refine LW.p (PEv.assign (.const _)) rfl rfl rfl (LW.nil (KW.then (CW.seq ?_)))
  refine CW.draws (by kernel_rfl) (by kernel_rfl) rfl rfl ?_
  refine HW.p (PEv.loadA Tryz.isAgg24 Tryz.sizeOf24 (hC.size) (.tmp rfl) (hBb.agg)) rfl rfl ?_
  refine HW.p (PEv.fieldAddr (off := 7) Tryz.underlying46 rfl rfl Tryz.sizeOf3 rfl (.tmp rfl)) rfl rfl ?_
  refine HW.p (PEv.load Tryz.isAgg3 (.tmp rfl) (hB3.celln rfl)) rfl rfl ?_
  refine HW.p (PEv.fieldAddr (off := 5) Tryz.underlying46 rfl rfl Tryz.sizeOf3 rfl (.tmp rfl)) rfl rfl ?_
  refine HW.p (PEv.load Tryz.isAgg3 (.tmp rfl) (hB3.celln rfl)) rfl rfl ?_
  refine HW.c (fun a w _ ha => enter_call0 (.cons (.tmp rfl) (.cons (.tmp rfl) (.cons (.tmp rfl) .nil))) (Tryz.en18) a ha) rfl rfl (fun w hu => Who_any bc bs _ _ w (hC.up hu) hl) ?_
  refine HW.p (PEv.load Tryz.isAgg3 (.tmp rfl) (hBw.celln rfl)) rfl rfl ?_
  refine HW.p (PEv.eql (.tmp rfl) (.tmp rfl)) rfl rfl ?_
  refine HW.p (PEv.assign (.tmp rfl)) rfl rfl ?_
  refine HW.nil ?_
  intro w2 uw2
  have zw2 := uw2.size
  replace hC := hC.up uw2
  replace hBb := hBb.up uw2
  replace hBw := hBw.up uw2
  replace hW := hW.up uw2
  replace hB3 := hB3.up uw2
  refine KW.then (CW.ret ?_)
  refine KW.ret1 rfl rfl ⟨_, rfl, ?_⟩
  exact ⟨rfl, hW⟩
theorem History_any (bc : Array Go.Value) (bs : Base) (wafer : Int) (w : World) (hC : BaseC w bc bs) (hl : bs.Swaps.length ≤ 1000000000) (hp : bs.Processes.length ≤ 1000000000) : Ret Tryz.prog 23 #[.agg bc, vi wafer] w fun r w' => OwnS w' w.heap.size 46 19 Fact.cells r (histL bs.Processes bs.Swaps wafer) ∧ Up w w' := by
  have hW := Up.refl w
  obtain ⟨w0, rfl⟩ : ∃ w0, w0 = w := ⟨_, rfl⟩
  refine Calls_start (n := 12) (m := 9) Tryz.func23 rfl rfl rfl ?_
  refine CW.seq (CW.region ?_)
  refine LW.r (REv.boxA (.tmp rfl)) rfl rfl rfl rfl ?_
  rintro _ w1 ⟨B2, rfl, NB2⟩
  have eB2 := NB2.at_
  have zB2 := NB2.size
  replace hC := hC.up NB2.up
  replace hW := hW.up NB2.up
  have hB2 := NB2.blk
  refine LW.r (REv.box1 (.tmp rfl) rfl) rfl rfl rfl rfl ?_
  rintro _ w2 ⟨B3, rfl, NB3⟩
  have eB3 := NB3.at_
  have zB3 := NB3.size
  replace hC := hC.up NB3.up
  replace hW := hW.up NB3.up
  replace hB2 := hB2.up NB3.up
  have hB3 := NB3.blk
  refine LW.p (PEv.assign (.const _)) rfl rfl rfl (LW.nil (KW.then (CW.seq (CW.seq (CW.region ?_)))))
  refine LW.p (PEv.load Tryz.isAgg3 (.tmp rfl) (hB3.celln rfl)) rfl rfl rfl ?_
  refine LW.c (enter_call0 (.cons (.tmp rfl) .nil) (Tryz.en38)) rfl rfl rfl rfl (isID_any _ _) ?_
  rintro _ w3 ⟨rfl, uw3⟩
  have zw3 := uw3.size
  replace hC := hC.up uw3
  replace hW := hW.up uw3
  replace hB2 := hB2.up uw3
  replace hB3 := hB3.up uw3
  refine LW.p (PEv.not (.tmp rfl)) rfl rfl rfl ?_
  refine LW.nil (KW.then ?_)
  refine CW.cond (.tmp rfl) (fun h7 => ?_) (fun h7 => ?_)
  ·first | replace h7 := of_decide_eq_true h7 | replace h7 := of_decide_eq_false h7 | skip
   have hi : isIDb wafer = false := by simpa using h7
   refine CW.seq (CW.region (LW.p (PEv.assign (.const _)) rfl rfl rfl (LW.nil (KW.then (CW.ret (KW.then_ret ?_))))))
   refine KW.ret1 rfl rfl ⟨_, rfl, ?_⟩
   first | exact ⟨by rw [histL, if_neg (by rw [hi]; decide)]; exact OwnS.nil _ _ _ _ _, hW⟩ | exact ⟨by rw [histL, if_pos hi]; exact hO11, hW⟩
  ·first | replace h7 := of_decide_eq_true h7 | replace h7 := of_decide_eq_false h7 | skip
   have hi : isIDb wafer = true := by simpa using h7
   refine CW.skip (KW.then (CW.seq ?_))
   obtain ⟨v0, h0, ad, cp, rfl, hEp⟩ := hC.at0
   refine CW.region ?_
   refine LW.p (PEv.fieldAddr (off := 0) Tryz.underlying24 rfl rfl Tryz.sizeOf22 rfl (.tmp rfl)) rfl rfl rfl ?_
   refine LW.p (PEv.load Tryz.isAgg22 (.tmp rfl) (hB2.cell h0)) rfl rfl rfl ?_
   refine LW.p (PEv.makeFunc (.cons (.tmp rfl) (.cons (.tmp rfl) .nil))) rfl rfl rfl ?_
   refine LW.c (enter_call0 (.cons (.tmp rfl) (.cons (.tmp rfl) .nil)) (Tryz.en43)) rfl rfl rfl rfl (ordered_any 44 #[.pointer (some ⟨B2, 0, none⟩), .pointer (some ⟨B3, 0, none⟩)] (fun f => decide (whoL bs.Swaps f.Time f.Wafer = wafer)) Tryz.en44 ad cp bs.Processes _ hEp hp (fun W hU x _ => histOk_any x B2 B3 bc bs wafer W (hC.up hU) hl (hB2.up hU) (hB3.up hU))) ?_
   rintro v11 w4 ⟨hO11, uw4⟩
   have zw4 := uw4.size
   replace hC := hC.up uw4
   replace hW := hW.up uw4
   replace hB2 := hB2.up uw4
   replace hB3 := hB3.up uw4
   replace hO11 := hO11.mono (show w0.heap.size ≤ _ by omega)
   refine LW.p (PEv.assign (.tmp rfl)) rfl rfl rfl (LW.nil (KW.then (CW.ret ?_)))
   refine KW.ret1 rfl rfl ⟨_, rfl, ?_⟩
   first | exact ⟨by rw [histL, if_neg (by rw [hi]; decide)]; exact OwnS.nil _ _ _ _ _, hW⟩ | exact ⟨by rw [histL, if_pos hi]; exact hO11, hW⟩
theorem sameFacts_any (ad ad' : Option Addr) (cp cp' : Nat) (l m : List Fact) (w : World) (hE1 : Els w ad 19 Fact.cells l) (hE2 : Els w ad' 19 Fact.cells m) (hl : l.length ≤ 100000) : Ret Tryz.prog 22 #[.slice ad l.length cp, .slice ad' m.length cp'] w fun r w' => r = .bool (eqFs l m) ∧ Up w w' := by
  have hW := Up.refl w
  obtain ⟨w0, rfl⟩ : ∃ w0, w0 = w := ⟨_, rfl⟩
  refine Calls_start (n := 26) (m := 9) Tryz.func22 rfl rfl rfl ?_
  refine CW.seq (CW.region (LW.p (PEv.assign (.const _)) rfl rfl rfl (LW.nil (KW.then (CW.seq (CW.seq (CW.region (LW.p (PEv.move (.tmp rfl)) rfl rfl rfl ?_))))))))
  refine LW.p (PEv.lenS Tryz.underlying22 (.tmp rfl)) rfl rfl rfl ?_
  refine LW.p (PEv.move (.tmp rfl)) rfl rfl rfl ?_
  refine LW.p (PEv.lenS Tryz.underlying22 (.tmp rfl)) rfl rfl rfl ?_
  refine LW.p (PEv.neq (.tmp rfl) (.tmp rfl)) rfl rfl rfl ?_
  refine LW.nil (KW.then ?_)
  refine CW.cond (.tmp rfl) (fun h10 => ?_) (fun h10 => ?_)
  ·first | replace h10 := of_decide_eq_true h10 | replace h10 := of_decide_eq_false h10 | skip
   have hr : eqFs l m = false := eqFs_len (fun e => by simp [e] at h10)
   refine CW.seq (CW.region (LW.p (PEv.assign (.const _)) rfl rfl rfl (LW.nil (KW.then (CW.ret (KW.then_ret ?_))))))
   refine KW.ret1 rfl rfl ⟨_, rfl, ?_⟩
   exact ⟨by rw [hr], hW⟩
  ·first | replace h10 := of_decide_eq_true h10 | replace h10 := of_decide_eq_false h10 | skip
   have hlen : l.length = m.length := Int.ofNat.inj (show Int.ofNat _ = Int.ofNat _ from (by simpa using h10 : (l.length : Int) = m.length))
   refine CW.skip (KW.then (CW.seq (CW.seq (CW.region (LW.p (PEv.assign (.const _)) rfl rfl rfl (LW.nil (KW.then (CW.block ?_))))))))
   refine CW.loopB (σ := Nat) (fun s w => (s ≤ l.length) ∧ (eqFs (l.drop s) (m.drop s) = eqFs l m) ∧ (Up w0 w)) (fun s => [(5, .eq (vi (s : Int)))]) ([(0, .eq _), (1, .eq _)]) (fun s => l.length - s) 0 ?_ ⟨rfl, rfl, rfl, trivial⟩ ?_
   ·exact ⟨Nat.zero_le _, rfl, hW⟩
   ·rintro k w1 ⟨hk, hn, hW⟩
    refine CW.seq (CW.seq (CW.region (LW.p (PEv.move (.tmp rfl)) rfl rfl rfl (LW.p (PEv.move (.tmp rfl)) rfl rfl rfl ?_))))
    refine LW.p (PEv.lenS Tryz.underlying22 (.tmp rfl)) rfl rfl rfl ?_
    refine LW.p (PEv.lss (.tmp rfl) (.tmp rfl)) rfl rfl rfl ?_
    refine LW.nil (KW.then ?_)
    refine CW.cond (.tmp rfl) (fun h14 => ?_) (fun h14 => ?_)
    ·first | replace h14 := of_decide_eq_true h14 | replace h14 := of_decide_eq_false h14 | skip
     refine CW.skip (KW.then (CW.seq (CW.block (CW.seq ?_))))
     obtain ⟨x, hx⟩ := getElem?_of_lt (xs := l) (i := k) (by omega)
     obtain ⟨y, hy⟩ := getElem?_of_lt (xs := m) (i := k) (by omega)
     obtain ⟨B, o, had, hcx⟩ := (Els.up hE1 hW) k x hx
     obtain ⟨B', o', had', hcy⟩ := (Els.up hE2 hW) k y hy
     refine CW.draws (by kernel_rfl) (by kernel_rfl) rfl rfl ?_
     refine HW.p (PEv.move (.tmp rfl)) rfl rfl ?_
     refine HW.p (PEv.move (.tmp rfl)) rfl rfl ?_
     refine HW.p (PEv.indexAddr' Tryz.underlying22 Tryz.sizeOf46 (.tmp rfl) (.tmp rfl) (by omega) had) rfl rfl ?_
     refine HW.p (PEv.loadA Tryz.isAgg46 Tryz.sizeOf46 rfl (.tmp rfl) (hcx)) rfl rfl ?_
     refine HW.p (PEv.move (.tmp rfl)) rfl rfl ?_
     refine HW.p (PEv.move (.tmp rfl)) rfl rfl ?_
     refine HW.p (PEv.indexAddr' Tryz.underlying22 Tryz.sizeOf46 (.tmp rfl) (.tmp rfl) (by omega) had') rfl rfl ?_
     refine HW.p (PEv.loadA Tryz.isAgg46 Tryz.sizeOf46 rfl (.tmp rfl) (hcy)) rfl rfl ?_
     refine HW.p (PEv.neqA Tryz.eqGuardType46 (Tryz.eqFact _ _) (.tmp rfl) (.tmp rfl)) rfl rfl ?_
     refine HW.nil ?_
     intro w2 uw2
     have zw2 := uw2.size
     replace hW := hW.up uw2
     refine KW.then ?_
     refine CW.cond (.tmp rfl) (fun h25 => ?_) (fun h25 => ?_)
     ·first | replace h25 := of_decide_eq_true h25 | replace h25 := of_decide_eq_false h25 | skip
      have hr : eqFs l m = false := by rw [← hn, eqFs_step hx hy, show Fact.eqb x y = false by simpa using h25]; rfl
      refine CW.seq (CW.region (LW.p (PEv.assign (.const _)) rfl rfl rfl (LW.nil (KW.then (CW.ret (KW.block_ret (KW.then_ret (KW.then_ret (KW.block_ret (KW.then_ret ?_))))))))))
      refine KW.ret1 rfl rfl ⟨_, rfl, ?_⟩
      exact ⟨by rw [hr], hW⟩
     ·first | replace h25 := of_decide_eq_true h25 | replace h25 := of_decide_eq_false h25 | skip
      refine CW.skip (KW.inBlock (KW.then (CW.region (LW.p (PEv.move (.tmp rfl)) rfl rfl rfl ?_))))
      refine LW.p (PEv.inc (.tmp rfl) (by omega)) rfl rfl rfl ?_
      refine LW.p (PEv.assign (.tmp rfl)) rfl rfl rfl (LW.nil (KW.round ?_))
      exact ⟨k + 1, ⟨by omega, by rw [← hn, eqFs_step hx hy, show Fact.eqb x y = true by simpa using h25]; rfl, hW⟩, ⟨rfl, rfl, rfl, trivial⟩, by first | omega | (dsimp only; omega)⟩
    ·first | replace h14 := of_decide_eq_true h14 | replace h14 := of_decide_eq_false h14 | skip
     have hr : eqFs l m = true := by rw [← hn]; exact eqFs_end (by omega) (by omega)
     refine CW.exit (KW.then_exit (KW.then_exit (KW.block_hit (KW.then (CW.seq (CW.region (LW.p (PEv.assign (.const _)) rfl rfl rfl (LW.nil (KW.then (CW.ret ?_))))))))))
     refine KW.ret1 rfl rfl ⟨_, rfl, ?_⟩
     exact ⟨by rw [hr], hW⟩
theorem pick_any (c n : Int) (w : World) (hn : n ≠ 0) : Ret Tryz.prog 15 #[vi c, vi n] w fun r w' => r = vi (pickI c n) ∧ Up w w' := by
  have hW := Up.refl w
  refine Calls_start (n := 13) (m := 9) Tryz.func15 rfl rfl rfl ?_
  refine CW.seq (CW.region (LW.p (PEv.assign (.const _)) rfl rfl rfl (LW.nil (KW.then (CW.seq (CW.seq (CW.region (LW.p (PEv.move (.tmp rfl)) rfl rfl rfl ?_))))))))
  refine LW.p (PEv.lss (.tmp rfl) (.const _)) rfl rfl rfl ?_
  refine LW.nil (KW.then ?_)
  refine CW.cond (.tmp rfl) (fun h6 => ?_) (fun h6 => ?_)
  ·first | replace h6 := of_decide_eq_true h6 | replace h6 := of_decide_eq_false h6 | skip
   refine CW.region (LW.p (PEv.move (.tmp rfl)) rfl rfl rfl ?_)
   refine LW.p (PEv.add_w (.tmp rfl) (.const _)) rfl rfl rfl ?_
   refine LW.p (PEv.neg Tryz.underlying3 (.tmp rfl)) rfl rfl rfl ?_
   refine LW.p (PEv.assign (.tmp rfl)) rfl rfl rfl (LW.nil (KW.then (CW.seq (CW.region (LW.p (PEv.move (.tmp rfl)) rfl rfl rfl (LW.p (PEv.move (.tmp rfl)) rfl rfl rfl ?_))))))
   refine LW.p (PEv.rem (.tmp rfl) (.tmp rfl) (by omega)) rfl rfl rfl ?_
   refine LW.p (PEv.assign (.tmp rfl)) rfl rfl rfl (LW.nil (KW.then (CW.ret ?_)))
   refine KW.ret1 rfl rfl ⟨_, rfl, ?_⟩
   exact ⟨by first | (rw [pickI, if_pos h6]) | (rw [pickI, if_neg (by omega)]), hW⟩
  ·first | replace h6 := of_decide_eq_true h6 | replace h6 := of_decide_eq_false h6 | skip
   refine CW.skip (KW.then (CW.seq (CW.region (LW.p (PEv.move (.tmp rfl)) rfl rfl rfl (LW.p (PEv.move (.tmp rfl)) rfl rfl rfl ?_)))))
   refine LW.p (PEv.rem (.tmp rfl) (.tmp rfl) (by omega)) rfl rfl rfl ?_
   refine LW.p (PEv.assign (.tmp rfl)) rfl rfl rfl (LW.nil (KW.then (CW.ret ?_)))
   refine KW.ret1 rfl rfl ⟨_, rfl, ?_⟩
   exact ⟨by first | (rw [pickI, if_pos h6]) | (rw [pickI, if_neg (by omega)]), hW⟩
theorem pickR_any (c n : Int) (w : World) (hn : n ≠ 0) : Ret Tryz.prog 37 #[vi c, vi n] w fun r w' => r = vi (pickI c n) ∧ Up w w' := by
  have hW := Up.refl w
  refine Calls_start (n := 13) (m := 9) Tryz.func37 rfl rfl rfl ?_
  refine CW.seq (CW.region (LW.p (PEv.assign (.const _)) rfl rfl rfl (LW.nil (KW.then (CW.seq (CW.seq (CW.region (LW.p (PEv.move (.tmp rfl)) rfl rfl rfl ?_))))))))
  refine LW.p (PEv.lss (.tmp rfl) (.const _)) rfl rfl rfl ?_
  refine LW.nil (KW.then ?_)
  refine CW.cond (.tmp rfl) (fun h6 => ?_) (fun h6 => ?_)
  ·first | replace h6 := of_decide_eq_true h6 | replace h6 := of_decide_eq_false h6 | skip
   refine CW.region (LW.p (PEv.move (.tmp rfl)) rfl rfl rfl ?_)
   refine LW.p (PEv.add_w (.tmp rfl) (.const _)) rfl rfl rfl ?_
   refine LW.p (PEv.neg Tryz.underlying3 (.tmp rfl)) rfl rfl rfl ?_
   refine LW.p (PEv.assign (.tmp rfl)) rfl rfl rfl (LW.nil (KW.then (CW.seq (CW.region (LW.p (PEv.move (.tmp rfl)) rfl rfl rfl (LW.p (PEv.move (.tmp rfl)) rfl rfl rfl ?_))))))
   refine LW.p (PEv.rem (.tmp rfl) (.tmp rfl) (by omega)) rfl rfl rfl ?_
   refine LW.p (PEv.assign (.tmp rfl)) rfl rfl rfl (LW.nil (KW.then (CW.ret ?_)))
   refine KW.ret1 rfl rfl ⟨_, rfl, ?_⟩
   exact ⟨by first | (rw [pickI, if_pos h6]) | (rw [pickI, if_neg (by omega)]), hW⟩
  ·first | replace h6 := of_decide_eq_true h6 | replace h6 := of_decide_eq_false h6 | skip
   refine CW.skip (KW.then (CW.seq (CW.region (LW.p (PEv.move (.tmp rfl)) rfl rfl rfl (LW.p (PEv.move (.tmp rfl)) rfl rfl rfl ?_)))))
   refine LW.p (PEv.rem (.tmp rfl) (.tmp rfl) (by omega)) rfl rfl rfl ?_
   refine LW.p (PEv.assign (.tmp rfl)) rfl rfl rfl (LW.nil (KW.then (CW.ret ?_)))
   refine KW.ret1 rfl rfl ⟨_, rfl, ?_⟩
   exact ⟨by first | (rw [pickI, if_pos h6]) | (rw [pickI, if_neg (by omega)]), hW⟩
theorem sameInts_any (v1 v2 : Value) (xs ys : List Int) (w : World) (h1 : Sl w v1 1 eInt xs) (h2 : Sl w v2 1 eInt ys) (hx0 : xs.length ≤ 1000000000) (hy0 : ys.length ≤ 1000000000) : Ret Tryz.prog 25 #[v1, v2] w fun r w' => r = .bool (decide (xs = ys)) ∧ Up w w' := by
  have hW := Up.refl w
  obtain ⟨w0, rfl⟩ : ∃ w0, w0 = w := ⟨_, rfl⟩
  obtain ⟨ad, cp, rfl, hE1⟩ := h1
  obtain ⟨ad', cp', rfl, hE2⟩ := h2
  refine Calls_start (n := 26) (m := 9) Tryz.func25 rfl rfl rfl ?_
  refine CW.seq (CW.region (LW.p (PEv.assign (.const _)) rfl rfl rfl (LW.nil (KW.then (CW.seq (CW.seq (CW.region (LW.p (PEv.move (.tmp rfl)) rfl rfl rfl ?_))))))))
  refine LW.p (PEv.lenS Tryz.underlying32 (.tmp rfl)) rfl rfl rfl ?_
  refine LW.p (PEv.move (.tmp rfl)) rfl rfl rfl ?_
  refine LW.p (PEv.lenS Tryz.underlying32 (.tmp rfl)) rfl rfl rfl ?_
  refine LW.p (PEv.neq (.tmp rfl) (.tmp rfl)) rfl rfl rfl ?_
  refine LW.nil (KW.then ?_)
  refine CW.cond (.tmp rfl) (fun h10 => ?_) (fun h10 => ?_)
  ·first | replace h10 := of_decide_eq_true h10 | replace h10 := of_decide_eq_false h10 | skip
   have hr : decide (xs = ys) = false := decide_eq_false (fun h => by subst h; simp at h10)
   refine CW.seq (CW.region (LW.p (PEv.assign (.const _)) rfl rfl rfl (LW.nil (KW.then (CW.ret (KW.then_ret ?_))))))
   refine KW.ret1 rfl rfl ⟨_, rfl, ?_⟩
   exact ⟨by rw [hr], hW⟩
  ·first | replace h10 := of_decide_eq_true h10 | replace h10 := of_decide_eq_false h10 | skip
   have hlen : xs.length = ys.length := Int.ofNat.inj (show Int.ofNat _ = Int.ofNat _ from (by simpa using h10 : (xs.length : Int) = ys.length))
   refine CW.skip (KW.then (CW.seq (CW.seq (CW.region (LW.p (PEv.assign (.const _)) rfl rfl rfl (LW.nil (KW.then (CW.block ?_))))))))
   refine CW.loop (σ := Nat) (fun s w => (s ≤ xs.length ∧ xs.take s = ys.take s) ∧ Els w ad 1 eInt xs ∧ Els w ad' 1 eInt ys ∧ Up w0 w) (fun s => [(0, .eq (.slice ad xs.length cp)), (1, .eq (.slice ad' ys.length cp')), (5, .eq (vi (s : Int)))]) (fun s => xs.length - s) 0 ?_ ?_ ?_
   ·exact ⟨⟨Nat.zero_le _, rfl⟩, hE1, hE2, hW⟩
   ·exact ⟨rfl, rfl, rfl, trivial⟩
   ·rintro k w1 ⟨⟨hk, hT⟩, hE1, hE2, hW⟩
    refine CW.seq (CW.seq (CW.region (LW.p (PEv.move (.tmp rfl)) rfl rfl rfl (LW.p (PEv.move (.tmp rfl)) rfl rfl rfl ?_))))
    refine LW.p (PEv.lenS Tryz.underlying32 (.tmp rfl)) rfl rfl rfl ?_
    refine LW.p (PEv.lss (.tmp rfl) (.tmp rfl)) rfl rfl rfl ?_
    refine LW.nil (KW.then ?_)
    refine CW.cond (.tmp rfl) (fun h14 => ?_) (fun h14 => ?_)
    ·first | replace h14 := of_decide_eq_true h14 | replace h14 := of_decide_eq_false h14 | skip
     refine CW.skip (KW.then (CW.seq (CW.block (CW.seq ?_))))
     obtain ⟨x, hx⟩ := getElem?_of_lt (xs := xs) (i := k) (by omega)
     obtain ⟨y, hy⟩ := getElem?_of_lt (xs := ys) (i := k) (by omega)
     obtain ⟨B, o, had, hcell⟩ := hE1 k x hx
     obtain ⟨B', o', had', hcell'⟩ := hE2 k y hy
     refine CW.draws (by kernel_rfl) (by kernel_rfl) rfl rfl ?_
     refine HW.p (PEv.move (.tmp rfl)) rfl rfl ?_
     refine HW.p (PEv.move (.tmp rfl)) rfl rfl ?_
     refine HW.p (PEv.indexAddr' Tryz.underlying32 Tryz.sizeOf3 (.tmp rfl) (.tmp rfl) (by omega) had) rfl rfl ?_
     refine HW.p (PEv.load Tryz.isAgg3 (.tmp rfl) (hcell.nth (j := 0) rfl)) rfl rfl ?_
     refine HW.p (PEv.move (.tmp rfl)) rfl rfl ?_
     refine HW.p (PEv.move (.tmp rfl)) rfl rfl ?_
     refine HW.p (PEv.indexAddr' Tryz.underlying32 Tryz.sizeOf3 (.tmp rfl) (.tmp rfl) (by omega) had') rfl rfl ?_
     refine HW.p (PEv.load Tryz.isAgg3 (.tmp rfl) (hcell'.nth (j := 0) rfl)) rfl rfl ?_
     refine HW.p (PEv.neq (.tmp rfl) (.tmp rfl)) rfl rfl ?_
     refine HW.nil ?_
     intro w2 uw2
     have zw2 := uw2.size
     replace hE1 := hE1.up uw2
     replace hE2 := hE2.up uw2
     replace hW := hW.up uw2
     refine KW.then ?_
     refine CW.cond (.tmp rfl) (fun h25 => ?_) (fun h25 => ?_)
     ·first | replace h25 := of_decide_eq_true h25 | replace h25 := of_decide_eq_false h25 | skip
      have hr : decide (xs = ys) = false := decide_eq_false (ne_of_at hx hy (by simpa using h25))
      refine CW.seq (CW.region (LW.p (PEv.assign (.const _)) rfl rfl rfl (LW.nil (KW.then (CW.ret (KW.block_ret (KW.then_ret (KW.then_ret (KW.block_ret (KW.then_ret ?_))))))))))
      refine KW.ret1 rfl rfl ⟨_, rfl, ?_⟩
      exact ⟨by rw [hr], hW⟩
     ·first | replace h25 := of_decide_eq_true h25 | replace h25 := of_decide_eq_false h25 | skip
      refine CW.skip (KW.inBlock (KW.then (CW.region (LW.p (PEv.move (.tmp rfl)) rfl rfl rfl ?_))))
      refine LW.p (PEv.inc (.tmp rfl) (by omega)) rfl rfl rfl ?_
      refine LW.p (PEv.assign (.tmp rfl)) rfl rfl rfl (LW.nil (KW.round ?_))
      exact ⟨k + 1, ⟨⟨by omega, take_eq_step hT hx hy (by simpa using h25)⟩, hE1, hE2, hW⟩, ⟨rfl, rfl, rfl, trivial⟩, by omega⟩
    ·first | replace h14 := of_decide_eq_true h14 | replace h14 := of_decide_eq_false h14 | skip
     have hr : decide (xs = ys) = true := decide_eq_true (by have := hT; rw [show k = xs.length by omega, List.take_length, hlen, List.take_length] at this; exact this)
     refine CW.exit (KW.then_exit (KW.then_exit (KW.block_hit (KW.then (CW.seq (CW.region (LW.p (PEv.assign (.const _)) rfl rfl rfl (LW.nil (KW.then (CW.ret ?_))))))))))
     refine KW.ret1 rfl rfl ⟨_, rfl, ?_⟩
     exact ⟨by rw [hr], hW⟩
end Go.Proofs.YthfjagphcekcbaaGreat
namespace Go.Wx
theorem flat_int (ks : List Int) : ks.flatMap (fun x => (eInt x).toList) = ks.map vi := by
  induction ks with
  | nil => rfl
  | cons k ks ih => rw [List.flatMap_cons, ih]; rfl
theorem sort_perm {a b : List Int} (h : a.Perm b) : (a.mergeSort fun x y => decide (x ≤ y)) = b.mergeSort fun x y => decide (x ≤ y) :=
  List.Perm.eq_of_pairwise (le := fun x y => decide (x ≤ y) = true) (fun x y _ _ h1 h2 => by have h3 := of_decide_eq_true h1; have h4 := of_decide_eq_true h2; omega)
    (List.pairwise_mergeSort (fun a b c h1 h2 => by have h3 := of_decide_eq_true h1; have h4 := of_decide_eq_true h2; exact decide_eq_true (by omega)) (fun a b => by simp; omega) a)
    (List.pairwise_mergeSort (fun a b c h1 h2 => by have h3 := of_decide_eq_true h1; have h4 := of_decide_eq_true h2; exact decide_eq_true (by omega)) (fun a b => by simp; omega) b)
    ((List.mergeSort_perm a _).trans (h.trans (List.mergeSort_perm b _).symm))
def unitB (k : Int) : Int × Go.Value := (k, .bool true)
def addI (ks : List Int) (k : Int) : List Int := if k ∈ ks then ks else ks ++ [k]
def sortI (ks : List Int) : List Int := ks.mergeSort fun x y => decide (x ≤ y)
theorem unitB_keys (ks : List Int) : (ks.map unitB).map (·.1) = ks := by simp [List.map_map, Function.comp_def, unitB]
theorem mset_unitB (ks : List Int) (k : Int) : mset (ks.map unitB) k (.bool true) = (addI ks k).map unitB := by
  unfold mset addI
  rw [unitB_keys]
  by_cases h : k ∈ ks
  · rw [if_pos h, if_pos h, List.map_map]
    refine List.map_congr_left fun x _ => ?_
    show (if x = k then (k, Go.Value.bool true) else unitB x) = unitB x
    by_cases hx : x = k
    · subst hx; rw [if_pos rfl]; rfl
    · rw [if_neg hx]
  · rw [if_neg h, if_neg h]; simp [unitB]
theorem addI_len (ks : List Int) (k : Int) : (addI ks k).length ≤ ks.length + 1 := by unfold addI; split <;> simp
theorem addI_mem {ks : List Int} {k x : Int} : x ∈ addI ks k ↔ x ∈ ks ∨ x = k := by
  unfold addI
  split
  · exact ⟨.inl, fun h => h.elim id (fun e => by rw [e]; assumption)⟩
  · rw [List.mem_append, List.mem_singleton]
theorem unitB_mem {ks : List Int} {k : Int} {u : Go.Value} (h : (k, u) ∈ ks.map unitB) : k ∈ ks ∧ u = .bool true := by
  obtain ⟨x, hx, e⟩ := List.mem_map.1 h
  cases e
  exact ⟨hx, rfl⟩
def memP (lots : List Fact) (lot t : Int) (f : Fact) : Bool := decide ((lotOf lots f.Wafer t).1 = lot) && isIDb lot
def memK (lots : List Fact) (lot t : Int) (l : List Fact) : List Int := l.foldl (fun ks f => if memP lots lot t f = true then addI ks f.Wafer else ks) []
def membersL (lots : List Fact) (lot t : Int) : List Int := sortI (memK lots lot t lots)
theorem memK_snoc (lots : List Fact) (lot t : Int) (l : List Fact) (f : Fact) : memK lots lot t (l ++ [f]) = if memP lots lot t f = true then addI (memK lots lot t l) f.Wafer else memK lots lot t l := by unfold memK; rw [List.foldl_append]; rfl
theorem memK_yes {lots l : List Fact} {lot t : Int} {k : Nat} {x : Fact} (hx : l[k]? = some x) (h : memP lots lot t x = true) : memK lots lot t (l.take (k + 1)) = addI (memK lots lot t (l.take k)) x.Wafer := by rw [take_succ_of hx, memK_snoc, if_pos h]
theorem memK_no {lots l : List Fact} {lot t : Int} {k : Nat} {x : Fact} (hx : l[k]? = some x) (h : memP lots lot t x = false) : memK lots lot t (l.take (k + 1)) = memK lots lot t (l.take k) := by rw [take_succ_of hx, memK_snoc, if_neg (by rw [h]; exact Bool.false_ne_true)]
theorem foldAdd_len {α : Type} (g : List Int → α → List Int) (hg : ∀ ks x, (g ks x).length ≤ ks.length + 1) : ∀ (l : List α) (ks : List Int), (l.foldl g ks).length ≤ ks.length + l.length
  | [], _ => Nat.le_refl _
  | x :: l, ks => by
    rw [List.foldl_cons, List.length_cons]
    have h1 := foldAdd_len g hg l (g ks x)
    have h2 := hg ks x
    omega
theorem memK_len (lots : List Fact) (lot t : Int) (l : List Fact) : (memK lots lot t l).length ≤ l.length := by
  have := foldAdd_len (fun ks f => if memP lots lot t f = true then addI ks f.Wafer else ks) (fun _ _ => by split; exact addI_len _ _; omega) l []
  simpa [memK] using this
def lotK (l : List Fact) : List Int := l.foldl (fun ks f => addI ks f.Wafer) []
def proK (ss : List Fact) (ks : List Int) (l : List Fact) : List Int := l.foldl (fun ks f => addI ks (whoL ss f.Time f.Wafer)) ks
def wafersL (lots ps ss : List Fact) : List Int := sortI ((proK ss (lotK lots) ps).filter isIDb)
theorem lotK_step {l : List Fact} {k : Nat} {x : Fact} (hx : l[k]? = some x) : lotK (l.take (k + 1)) = addI (lotK (l.take k)) x.Wafer := by rw [take_succ_of hx]; unfold lotK; rw [List.foldl_append]; rfl
theorem proK_step {ss l : List Fact} {ks : List Int} {k : Nat} {x : Fact} (hx : l[k]? = some x) : proK ss ks (l.take (k + 1)) = addI (proK ss ks (l.take k)) (whoL ss x.Time x.Wafer) := by rw [take_succ_of hx]; unfold proK; rw [List.foldl_append]; rfl
theorem lotK_len (l : List Fact) : (lotK l).length ≤ l.length := by have := foldAdd_len (fun ks (f : Fact) => addI ks f.Wafer) (fun _ _ => addI_len _ _) l []; simpa [lotK] using this
theorem proK_len (ss : List Fact) (ks : List Int) (l : List Fact) : (proK ss ks l).length ≤ ks.length + l.length := foldAdd_len (fun ks (f : Fact) => addI ks (whoL ss f.Time f.Wafer)) (fun _ _ => addI_len _ _) l ks
def curW (ks V : List Int) : List Int := ks.filter fun k => isIDb k || !decide (k ∈ V)
theorem curW_nil (ks : List Int) : curW ks [] = ks := List.filter_eq_self.2 fun k _ => by simp
theorem curW_yes (ks V : List Int) {k : Int} (h : isIDb k = true) : curW ks (V ++ [k]) = curW ks V := by
  refine List.filter_congr fun x _ => ?_
  by_cases e : x = k
  · rw [e, h]; rfl
  · simp [e]
theorem curW_no (ks V : List Int) {k : Int} (h : isIDb k = false) : (curW ks (V ++ [k])).map unitB = ((curW ks V).map unitB).filter fun p => !decide (p.1 = k) := by
  rw [List.filter_map, curW, curW, List.filter_filter]
  congr 1
  refine List.filter_congr fun x _ => ?_
  by_cases e : x = k
  · simp [e, h, unitB]
  · simp [e, unitB]
theorem filt_snoc_yes (V : List Int) {k : Int} (h : isIDb k = true) : (V ++ [k]).filter isIDb = V.filter isIDb ++ [k] := by rw [List.filter_append]; simp [h]
theorem filt_snoc_no (V : List Int) {k : Int} (h : isIDb k = false) : (V ++ [k]).filter isIDb = V.filter isIDb := by rw [List.filter_append]; simp [h]
theorem curW_fresh {ks V : List Int} {k : Int} (h : k ∈ curW ks V) (hf : k ∉ V.filter isIDb) : k ∉ V ∧ k ∈ ks := by
  obtain ⟨h1, h2⟩ := List.mem_filter.1 h
  refine ⟨fun hV => ?_, h1⟩
  cases hi : isIDb k with
  | true => exact hf (List.mem_filter.2 ⟨hV, hi⟩)
  | false => rw [hi] at h2; simp [hV] at h2
theorem curW_end {ks V : List Int} (h : (V.filter isIDb).Perm (((curW ks V).map unitB).map (·.1))) : curW ks V = ks.filter isIDb := by
  rw [unitB_keys] at h
  refine List.filter_congr fun k hk => ?_
  cases hi : isIDb k with
  | true => rfl
  | false =>
    cases hc : decide (k ∈ V) with
    | true => rfl
    | false =>
      exfalso
      have h1 : k ∈ curW ks V := List.mem_filter.2 ⟨hk, by rw [hc]; simp⟩
      have := (List.mem_filter.1 (h.symm.subset h1)).2
      rw [hi] at this; cases this
end Go.Wx
namespace Go.Proofs.YthfjagphcekcbaaGreat
open Go.Wx Go.RowKit
namespace Hs
theorem mapsKeys_any (b : Nat) (w : World) : Ret Tryz.prog 47 #[.map (some b)] w fun r w' => (∃ B, r = .func (.func 91) #[] #[.pointer (some ⟨B, 0, none⟩)] ∧ Blk w' B #[.map (some b)] 77 ∧ w.heap.size ≤ B) ∧ Up w w' := by
  have hW := Up.refl w
  refine Calls_start (n := 4) (m := 9) Tryz.func47 rfl rfl rfl ?_
  refine CW.seq (CW.region ?_)
  refine LW.r (REv.box1 (.tmp rfl) rfl) rfl rfl rfl rfl ?_
  rintro _ w1 ⟨B1, rfl, NB1⟩
  have eB1 := NB1.at_
  have zB1 := NB1.size
  replace hW := hW.up NB1.up
  have hB1 := NB1.blk
  refine LW.p (PEv.assign (.const _)) rfl rfl rfl (LW.nil (KW.then (CW.seq (CW.region ?_))))
  refine LW.p (PEv.makeFunc (.cons (.tmp rfl) .nil)) rfl rfl rfl ?_
  refine LW.p (PEv.assign (.tmp rfl)) rfl rfl rfl (LW.nil (KW.then (CW.ret ?_)))
  refine KW.ret1 rfl rfl ⟨_, rfl, ?_⟩
  exact ⟨⟨_, rfl, hB1, by omega⟩, hW⟩
theorem mapsKeys_iter (X Y : Nat → Prop) (B1 b : Nat) (kv : List (Int × Value)) (w : World) (hYY : ∀ i, Y i → i < w.heap.size) (hQX : ¬ X B1) (hbY : ¬ Y b) (hQ0 : Blk w B1 #[.map (some b)] 77) (hM0 : IMap w b kv) :
    IterS Tryz.prog 91 #[.pointer (some ⟨B1, 0, none⟩)] eInt X Y (fun ys => ys.Perm (kv.map (·.1))) (fun pre => pre.Nodup ∧ ∀ k ∈ pre, k ∈ kv.map (·.1)) kv.length w := by
  refine IterS.of ?_
  intro lp J Jx w0 hUw _ hY hJ
  obtain ⟨Bd, hBd⟩ : ∃ Bd, Bd = w0.heap.size := ⟨_, rfl⟩
  rw [← hBd] at hJ hY
  have zU := hUw.size
  have hQ := hQ0.up hUw
  have hM := hM0.up hUw
  have zQ0 := hQ.lt
  refine Calls_start (n := 14) (m := 9) Tryz.func91 rfl rfl rfl ?_
  refine CW.seq (CW.region ?_)
  refine LW.p (PEv.load Tryz.isAgg77 (.tmp rfl) (hQ.celln rfl)) rfl rfl rfl ?_
  refine LW.r (REv.range Tryz.underlying77 (.tmp rfl) hM) rfl rfl rfl rfl ?_
  rintro _ w1 ⟨r5, rfl, hR5, uw1, ew1, zw1⟩
  replace hQ := hQ.up uw1
  replace hM := hM.up uw1
  replace hJ := hJ.up uw1
  refine LW.nil (KW.then (CW.block ?_))
  refine CW.loop (σ := List Int) (fun s w => Jw Bd J s w ∧ Blk w B1 #[.map (some b)] 77 ∧ IRng w b r5 kv s) (fun s => [(0, .eq (.func (.yield lp) #[] #[])), (5, .eq (.pointer (some ⟨r5, 0, none⟩)))]) (fun s => kv.length - s.length) [] ?_ ?_ ?_
  ·exact ⟨hJ, hQ, hR5⟩
  ·exact ⟨rfl, rfl, trivial⟩
  ·rintro done w2 ⟨hJ, hQ, hR5⟩
   have zQ := hQ.lt
   refine CW.seq (CW.region ?_)
   refine LW.r (REv.next (.tmp rfl) hR5) rfl rfl rfl rfl ?_
   rintro _ w3 (⟨rfl, rfl, hPm⟩ | ⟨k, u, rfl, hNx⟩)
   ·skip
    refine LW.p (PEv.extract (.tmp rfl) rfl) rfl rfl rfl (LW.nil (KW.then (CW.seq ?_)))
    refine CW.cond_false (.tmp rfl) ?_
    refine CW.exit (KW.then_exit (KW.then_exit (KW.block_hit ?_)))
    refine KW.end0 rfl ⟨_, rfl, ?_⟩
    first | exact .inl ⟨_, hPm, hJ.j⟩ | exact .inr ⟨_, hR5.sub, hJx⟩
   ·skip
    obtain ⟨_, ho, hwk⟩ := hNx.walk
    replace hJ := hJ.walk hNx.grown (by omega) ho hwk
    replace hQ := hQ.sto hNx.sto (by omega)
    replace hR5 := hNx.rng
    have zw3 := hNx.size
    refine LW.p (PEv.extract (.tmp rfl) rfl) rfl rfl rfl (LW.nil (KW.then (CW.seq ?_)))
    refine CW.cond_true (.tmp rfl) ?_
    refine CW.skip (KW.then (CW.block (CW.seq (CW.region ?_))))
    refine LW.r (REv.entry (.tmp rfl) hNx.entry) rfl rfl rfl rfl ?_
    rintro _ _ ⟨rfl, rfl⟩
    refine LW.p (PEv.extract (.tmp rfl) rfl) rfl rfl rfl (LW.p (PEv.assign (.tmp rfl)) rfl rfl rfl (LW.nil (KW.then (CW.seq (CW.region (LW.p (PEv.move (.tmp rfl)) rfl rfl rfl (LW.p (PEv.move (.tmp rfl)) rfl rfl rfl ?_)))))))
    refine LW.y (.tmp rfl) (.cons (.tmp rfl) .nil) rfl rfl (hY done k _ hJ (by have := hR5.length; simp at this; omega)) ?_
    rintro _ w4 ⟨y, rfl, hcase⟩
    refine LW.p (PEv.not (.tmp rfl)) rfl rfl rfl ?_
    refine LW.nil (KW.then ?_)
    refine CW.cond (.tmp rfl) (fun h13 => ?_) (fun h13 => ?_)
    ·first | replace h13 := of_decide_eq_true h13 | replace h13 := of_decide_eq_false h13 | skip
     have hy : y = false := by simpa using h13
     subst hy
     obtain ⟨_, hJx⟩ := hcase.resolve_left (by simp)
     refine CW.ret (KW.block_ret (KW.then_ret (KW.block_ret ?_)))
     refine KW.ret0 rfl ⟨_, rfl, ?_⟩
     first | exact .inl ⟨_, hPm, hJ.j⟩ | exact .inr ⟨_, hR5.sub, hJx⟩
    ·first | replace h13 := of_decide_eq_true h13 | replace h13 := of_decide_eq_false h13 | skip
     have hy : y = true := by simpa using h13
     subst hy
     obtain ⟨_, hJ2, hN⟩ := hcase.resolve_right (by simp)
     replace hQ := hQ.kx hN hQX
     replace hR5 := hR5.kx hN hbY (fun h => by have := hYY _ h; omega)
     refine CW.skip (KW.inBlock (KW.round ?_))
     exact ⟨done ++ [k], ⟨hJ2, hQ, hR5⟩, ⟨rfl, rfl, trivial⟩, by have := hR5.length; simp at this ⊢; omega⟩
theorem appendSeq_any (g : Nat) (lb : Array Go.Value) (S Sp : List Int → Prop) (N : Nat) (w : World) (en : ∀ args w, (callFunc g args).run Tryz.prog w = .ok (.enter g args) w) (hit : ∀ W (X : Nat → Prop), Up w W → (∀ i, X i → w.heap.size ≤ i) → IterS Tryz.prog g lb eInt X (fun _ => False) S Sp N W) (hN0 : N ≤ 1000000000) : Ret Tryz.prog 121 #[.slice none 0 0, .func (.func g) #[] lb] w fun r w' => ∃ ks, S ks ∧ OwnS w' w.heap.size 3 1 eInt r ks ∧ Up w w' := by
  have hW := Up.refl w
  obtain ⟨w0, rfl⟩ : ∃ w0, w0 = w := ⟨_, rfl⟩
  refine Calls_startM (n := 13) Tryz.func121 rfl rfl rfl ?_
  refine CW.seq (CW.region ?_)
  refine LW.r (REv.box1 (.tmp rfl) rfl) rfl rfl rfl rfl ?_
  rintro _ w1 ⟨B2, rfl, NB2⟩
  have eB2 := NB2.at_
  have zB2 := NB2.size
  replace hW := hW.up NB2.up
  have hB2 := NB2.blk
  refine LW.p (PEv.assign (.const _)) rfl rfl rfl (LW.nil (KW.then (CW.seq (CW.seq (CW.region (LW.p (PEv.move (.tmp rfl)) rfl rfl rfl (LW.nil (KW.then (CW.block ?_)))))))))
  obtain ⟨bq, hbq⟩ : ∃ bq, bq = w1.heap.size := ⟨_, rfl⟩
  refine CW.rangeFunc (fun i => B2 ≤ i) (fun _ => False) (fun pre W => Sz bq W ∧ ∃ v, Blk W B2 #[v] 32 ∧ OwnS W (B2 + 1) 3 1 eInt v pre ∧ Up w0 W) (fun c pre W => Sz bq W ∧ False) (fun x a' W => Ag 13 [] ([(5, .eq (vi x)), (2, .eq (.pointer (some ⟨B2, 0, none⟩)))]) a' W) (.tmp rfl) en (hit _ _ hW (fun i (hi : B2 ≤ i) => by omega)) (fun _ => rfl) rfl ?_ ?_ ?_ ?_ ?_ ?_ ?_ ?_
  ·rw [← hbq]
   intro pre W W' row hs hg hr
   obtain ⟨hZ, v, hB2, hO, hW⟩ := hs
   exact ⟨hZ.ko (Ko.grown hg hr), v, hB2.ko (Ko.grown hg hr), hO.ko (Ko.grown hg hr), hW.ko (Ko.grown hg hr) (by omega)⟩
  ·rw [← hbq]
   intro c pre W W' row hs hg hr
   obtain ⟨hZ, hF⟩ := hs
   exact ⟨hZ.ko (Ko.grown hg hr), hF⟩
  ·intro x a' u W W' row hs hg hr
   exact hs.world rfl _
  ·exact ⟨Nat.le_of_eq hbq, _, hB2, OwnS.nil _ _ _ _ _, hW⟩
  ·rw [← hbq]
   intro lp pre x w2 K hs hk a ha
   obtain ⟨hZ, v, hB2, hO, hW⟩ := hs
   have zq := hZ.le
   have hK := Kf.refl bq w2
   have hN := Kx.refl bq (fun i => B2 ≤ i) (fun _ => False) w2
   revert a
   refine CW.assign1 (p := 7) rfl ?_
   refine CW.region (LW.p (PEv.assign (.tmp rfl)) rfl rfl rfl (LW.nil ?_))
   exact fun a ha => hk a _ hK hN ⟨hZ, v, hB2, hO, hW⟩ (ha.sub ⟨rfl, rfl, trivial⟩)
  ·rw [← hbq]
   intro lp pre x a' w3 hs hx hlt
   obtain ⟨hZ, v, hB2, hO, hW⟩ := hs
   have ha := hx
   have zq := hZ.le
   have hK := Kf.refl bq w3
   have hN := Kx.refl bq (fun i => B2 ≤ i) (fun _ => False) w3
   refine (show CW (some lp) 8 _ 13 [] _ (ownPostG bq (Kx bq (fun i => B2 ≤ i) (fun _ => False)) _ _ (pre ++ [x]) w3) ([(5, .eq (vi x)), (2, .eq (.pointer (some ⟨B2, 0, none⟩)))]) w3 from ?_) a' ha
   refine CW.block (CW.region ?_)
   refine LW.p (PEv.load Tryz.isAgg32 (.tmp rfl) (hB2.celln rfl)) rfl rfl rfl ?_
   refine LW.p (PEv.move (.tmp rfl)) rfl rfl rfl ?_
   refine LW.r (REv.buildSlice (xs := [x]) (enc := eInt) (mk := vi) Tryz.underlying32 Tryz.sizeOf3 Tryz.zeroValue3 rfl (by decide) (fun _ => rfl) (fun _ => rfl) (.cons (.tmp rfl) .nil) rfl) rfl rfl rfl rfl ?_
   rintro _ w4 ⟨B10, cB10, rfl, NB10, yB10, xB10⟩
   have eB10 := NB10.at_
   have zB10 := NB10.size
   replace hZ := hZ.up NB10.up
   replace hB2 := hB2.up NB10.up
   replace hO := hO.up NB10.up
   replace hW := hW.up NB10.up
   replace hK := hK.up NB10.up
   replace hN := hN.up NB10.up
   have hB10 := NB10.blk
   have hE10 := xB10
   refine LW.r (REv.append (enc := eInt) (base := B2 + 1) (bytes := 8) (i := Tryz.t3) Tryz.underlying32 (by kernel_rfl) rfl rfl rfl rfl (by decide) (fun _ => rfl) eInt_one (.tmp rfl) (.tmp rfl) hO (Sl.of_els hE10) (by simp) (by simp [maxLen]; omega) (by simp; omega) (by omega)) rfl rfl rfl rfl ?_
   rintro v11 w5 ⟨Ow5, Gw5⟩
   have zw5 := Gw5.size
   replace hZ := hZ.gr Gw5 rfl
   replace hB2 := hB2.gr Gw5 (by omega)
   replace hW := hW.gr Gw5 (by omega)
   replace hK := hK.gr Gw5
   replace hN := hN.gr Gw5 (fun i hi => by first | exact .inr (by omega) | exact .inl (by show _ ≤ _; omega))
   replace hO := Ow5
   refine LW.s (SEv.store Tryz.sizeOf32 (.tmp rfl) (.tmp rfl) hO.one hB2 (by simp)) rfl rfl rfl ?_
   intro w6 Nw6
   have zw6 := Nw6.size
   replace hZ := hZ.sto Nw6.sto (by omega)
   replace hO := hO.sto Nw6.sto (by omega)
   replace hW := hW.sto Nw6.sto (by omega)
   replace hK := hK.sto Nw6.sto (.inr (.inr ⟨_, _, hB2⟩))
   replace hN := hN.stoC Nw6.sto (⟨_, _, hB2⟩) (by first | exact .inr (by omega) | exact .inl rfl | exact .inl (by show _ ≤ _; omega))
   replace hB2 := Nw6.blk
   replace hB2 : Blk w6 B2 #[v11] _ := hB2
   refine LW.nil (KW.inBlock ?_)
   exact fun a ha => ⟨hK, hN, hZ, _, hB2, hO, hW⟩
  ·intro D ys w7 hDb hS hs hD
   rw [← hbq] at hDb
   obtain ⟨hZ, v, hB2, hO, hW⟩ := hs
   replace hD : Ob w7 D (.deferred (some [])) := hD
   have zD := hD.lt
   have zq := hZ.le
   refine KW.inBlock (KW.then (CW.seq (CW.region ?_)))
   refine LW.p (PEv.load Tryz.isAgg32 (.tmp rfl) (hB2.celln rfl)) rfl rfl rfl ?_
   refine LW.p (PEv.assign (.tmp rfl)) rfl rfl rfl (LW.nil (KW.then (CW.ret ?_)))
   refine KW.unmark hD rfl ?_
   replace hZ := hZ.ko (Ko.putObj (.deferred none) hD rfl hDb)
   replace hB2 := hB2.ko (Ko.putObj (.deferred none) hD rfl hDb)
   replace hO := hO.ko (Ko.putObj (.deferred none) hD rfl hDb)
   replace hW := hW.putObj (D := D) (.deferred none) (by omega)
   refine KW.ret1 rfl rfl ⟨_, rfl, ?_⟩
   exact ⟨ys, hS, hO.mono (by omega), hW⟩
  ·intro D c pre w8 hDb hpre hs hD
   rw [← hbq] at hDb
   obtain ⟨hZ, hF⟩ := hs
   replace hD : Ob w8 D (.deferred (some [])) := hD
   have zD := hD.lt
   have zq := hZ.le
   exact hF.elim
theorem sort_any (base e : Nat) (v : Value) (ks : List Int) (w : World) (h : OwnS w base e 1 eInt v ks) (hlen : ks.length < 4611686018427387904) : Ret Tryz.prog 90 #[v] w fun r w' => r = .tuple #[] ∧ OwnS w' base e 1 eInt v (ks.mergeSort fun x y => decide (x ≤ y)) ∧ Grew base w w' := by
  have h0 := h
  obtain ⟨h1, ⟨rfl, hn⟩ | ⟨g, cap, cur, rfl, hg, hb, h2, h3, h4, h5⟩⟩ := h
  · have hks : ks = [] := List.eq_nil_of_length_eq_zero hn
    subst hks
    refine Calls.mono (Tryz.slices_Sort_int_none none 0 w) ?_
    rintro e' w' ⟨rfl, rfl⟩
    exact ⟨_, rfl, rfl, by simpa using h0, ⟨rfl, rfl, rfl, Nat.le_refl _, fun _ _ _ => rfl, fun _ _ h _ => h⟩⟩
  · rw [flat_int] at h5
    have hl : g < w.heap.size := lt_of_block hb
    refine Calls.mono (Tryz.slices_Sort_int g 0 cap ks w (holds_of_blockI hb (by simpa using h5)) hl hlen) ?_
    rintro e' w' ⟨rfl, n, os, rfl⟩
    have hg2 := Go.grownBy_sortedI (w := w) (g := g) (n := n) (os := os) (ks.mergeSort fun x y => decide (x ≤ y)).toArray
    have ho := Go.ownsRow_sortedI (w := w) (n := n) (os := os) (ss := ks) (ts := ks.mergeSort fun x y => decide (x ≤ y)) (by simp) hg hb h2 h3 h4
    refine ⟨_, rfl, rfl, ?_, ⟨hg2.os, hg2.tape, hg2.output, hg2.size, fun i hi hi2 => hg2.block i hi (fun e => by cases e; omega), fun i o hi ho => (hg2.block i (lt_of_block hi) (fun e => by cases e; rw [hb] at hi; cases hi; cases ho)).trans hi⟩⟩
    show World.ownsRow _ _ _ _ _ _ _
    rw [flat_int, List.length_mergeSort]
    exact ho
theorem collect_any (g : Nat) (lb : Array Go.Value) (S Sp : List Int → Prop) (N : Nat) (w : World) (en : ∀ args w, (callFunc g args).run Tryz.prog w = .ok (.enter g args) w) (hit : ∀ W (X : Nat → Prop), Up w W → (∀ i, X i → w.heap.size ≤ i) → IterS Tryz.prog g lb eInt X (fun _ => False) S Sp N W) (hN0 : N ≤ 1000000000) : Ret Tryz.prog 89 #[.func (.func g) #[] lb] w fun r w' => ∃ ks, S ks ∧ OwnS w' w.heap.size 3 1 eInt r ks ∧ Up w w' := by
  have hW := Up.refl w
  refine Calls_start (n := 5) (m := 9) Tryz.func89 rfl rfl rfl ?_
  refine CW.seq (CW.region (LW.p (PEv.assign (.const _)) rfl rfl rfl (LW.nil (KW.then (CW.seq (CW.region (LW.p (PEv.move (.tmp rfl)) rfl rfl rfl ?_)))))))
  refine LW.c (enter_call0 (.cons (.const _) (.cons (.tmp rfl) .nil)) (Tryz.en121)) rfl rfl rfl rfl (appendSeq_any _ _ _ _ _ _ en hit hN0) ?_
  rintro _ w1 ⟨ks, hS, hO, uw1⟩
  have zw1 := uw1.size
  replace hW := hW.up uw1
  refine LW.p (PEv.assign (.tmp rfl)) rfl rfl rfl (LW.nil (KW.then (CW.ret ?_)))
  refine KW.ret1 rfl rfl ⟨_, rfl, ?_⟩
  exact ⟨ks, hS, hO, hW⟩
theorem sorted_any (g : Nat) (lb : Array Go.Value) (S Sp : List Int → Prop) (N : Nat) (w : World) (en : ∀ args w, (callFunc g args).run Tryz.prog w = .ok (.enter g args) w) (hit : ∀ W (X : Nat → Prop), Up w W → (∀ i, X i → w.heap.size ≤ i) → IterS Tryz.prog g lb eInt X (fun _ => False) S Sp N W) (hN0 : N ≤ 1000000000) (hS0 : ∀ ks, S ks → ks.length ≤ 1000000000) : Ret Tryz.prog 46 #[.func (.func g) #[] lb] w fun r w' => ∃ ks, S ks ∧ OwnS w' w.heap.size 3 1 eInt r (ks.mergeSort fun x y => decide (x ≤ y)) ∧ Up w w' := by
  have hW := Up.refl w
  refine Calls_start (n := 9) (m := 9) Tryz.func46 rfl rfl rfl ?_
  refine CW.seq (CW.region (LW.p (PEv.assign (.const _)) rfl rfl rfl (LW.nil (KW.then (CW.seq (CW.region (LW.p (PEv.move (.tmp rfl)) rfl rfl rfl ?_)))))))
  refine LW.c (enter_call0 (.cons (.tmp rfl) .nil) (Tryz.en89)) rfl rfl rfl rfl (collect_any _ _ _ _ _ _ en hit hN0) ?_
  rintro v w1 ⟨ks, hS, hO, uw1⟩
  have zw1 := uw1.size
  replace hW := hW.up uw1
  refine LW.p (PEv.assign (.tmp rfl)) rfl rfl rfl (LW.nil (KW.then (CW.seq (CW.region (LW.p (PEv.move (.tmp rfl)) rfl rfl rfl ?_)))))
  refine LW.c (enter_call0 (.cons (.tmp rfl) .nil) (Tryz.en90)) rfl rfl rfl rfl (sort_any _ _ _ _ _ hO (by have := hS0 ks hS; omega)) ?_
  rintro _ w2 ⟨rfl, hO2, uw2⟩
  have zw2 := uw2.size
  replace hW := hW.gr uw2 (by omega)
  replace hO := hO2
  refine LW.nil (KW.then (CW.seq (CW.region (LW.p (PEv.move (.tmp rfl)) rfl rfl rfl (LW.p (PEv.assign (.tmp rfl)) rfl rfl rfl (LW.nil (KW.then (CW.ret ?_))))))))
  refine KW.ret1 rfl rfl ⟨_, rfl, ?_⟩
  exact ⟨ks, hS, hO, hW⟩
end Hs
theorem Members_any (bc : Array Go.Value) (bs : Base) (lot time : Int) (w : World) (hC : BaseC w bc bs) (hl : bs.Lots.length ≤ 1000000000) : Ret Tryz.prog 26 #[.agg bc, vi lot, vi time] w fun r w' => OwnS w' w.heap.size 3 1 eInt r (membersL bs.Lots lot time) ∧ Up w w' := by
  obtain ⟨w0, rfl⟩ : ∃ w0, w0 = w := ⟨_, rfl⟩
  have hS := Sep.start no w0
  refine Calls_start (n := 42) (m := 9) Tryz.func26 rfl rfl rfl ?_
  refine CW.seq (CW.region ?_)
  refine LW.r (REv.boxA (.tmp rfl)) rfl rfl rfl rfl ?_
  rintro _ w1 ⟨B3, rfl, NB3⟩
  have eB3 := NB3.at_
  have zB3 := NB3.size
  replace hS := hS.addB NB3
  change Wx.Sep _ _ _ [_] at hS
  refine LW.p (PEv.assign (.const _)) rfl rfl rfl (LW.nil (KW.then (CW.seq (CW.region ?_))))
  refine LW.r REv.makeMap rfl rfl rfl rfl ?_
  rintro _ w2 ⟨M12, rfl, hMM12, uw2, eM12, zw2⟩
  replace hS := hS.add uw2 (A' := aIMap M12 (([] : List Int).map unitB)) hMM12 (fun i (h : i = M12) => by omega)
  change Wx.Sep _ _ _ [_, _] at hS
  refine LW.p (PEv.assign (.tmp rfl)) rfl rfl rfl (LW.nil (KW.then (CW.seq (CW.seq ?_))))
  obtain ⟨v3, h3, ad, cp, rfl, hE0⟩ := hC.at3
  refine CW.region ?_
  refine LW.p (PEv.fieldAddr (off := 3) Tryz.underlying24 rfl rfl Tryz.sizeOf22 rfl (.tmp rfl)) rfl rfl rfl ?_
  refine LW.p (PEv.load Tryz.isAgg22 (.tmp rfl) ((hS.blk 0 rfl).cell h3)) rfl rfl rfl ?_
  refine LW.p (PEv.lenS Tryz.underlying22 (.tmp rfl)) rfl rfl rfl ?_
  refine LW.p (PEv.move (.const _)) rfl rfl rfl ?_
  refine LW.nil (KW.then (CW.block ?_))
  refine CW.loopB (σ := Nat) (fun s w => (s ≤ bs.Lots.length) ∧ (Wx.Sep no w0 w [aBlk B3 bc 24, aIMap M12 ((memK bs.Lots lot time (bs.Lots.take s)).map unitB)])) (fun s => [(16, .eq (vi (s : Int)))]) ([(1, .eq _), (2, .eq _), (3, .eq _), (6, .eq _), (7, .eq _), (14, .eq _), (15, .eq _)]) (fun s => bs.Lots.length - s) 0 ?_ ⟨rfl, rfl, rfl, rfl, rfl, rfl, rfl, rfl, trivial⟩ ?_
  ·exact ⟨Nat.zero_le _, hS⟩
  ·rintro k w3 ⟨hk, hS⟩
   refine CW.seq (CW.region ?_)
   refine LW.p (PEv.lss (.tmp rfl) (.tmp rfl)) rfl rfl rfl ?_
   refine LW.nil (KW.then (CW.seq ?_))
   refine CW.cond (.tmp rfl) (fun h17 => ?_) (fun h17 => ?_)
   ·first | replace h17 := of_decide_eq_true h17 | replace h17 := of_decide_eq_false h17 | skip
    refine CW.skip (KW.then (CW.seq (CW.block (CW.seq ?_))))
    have hE := Els.up hE0 hS.upd
    refine CW.region ?_
    obtain ⟨x, hx⟩ := getElem?_of_lt (xs := bs.Lots) (i := k) (by omega)
    obtain ⟨Bx, ox, ax, hcx⟩ := hE _ x hx
    refine LW.p (PEv.indexAddr' Tryz.underlying22 Tryz.sizeOf46 (.tmp rfl) (.tmp rfl) (by omega) ax) rfl rfl rfl ?_
    refine LW.p (PEv.loadA Tryz.isAgg46 Tryz.sizeOf46 rfl (.tmp rfl) (hcx)) rfl rfl rfl ?_
    refine LW.r (REv.allocA Tryz.zeroValue46) rfl rfl rfl rfl ?_
    rintro _ w4 ⟨B9, rfl, MB9⟩
    refine LW.s (SEv.storeA Tryz.sizeOf46 rfl (.tmp rfl) (.tmp rfl) (Fact.one _) MB9.blk rfl) rfl rfl rfl ?_
    intro w5 LB9
    have NB9 := MB9.set LB9
    clear LB9 MB9
    have eB9 := NB9.at_
    have zB9 := NB9.size
    replace hcx := hcx.up NB9.up
    replace hS := hS.addB NB9
    change Wx.Sep _ _ _ [_, _, _] at hS
    refine LW.nil (KW.then (CW.seq (CW.region ?_)))
    refine LW.p (PEv.loadA Tryz.isAgg24 Tryz.sizeOf24 (hC.size) (.tmp rfl) ((hS.blk 0 rfl).agg)) rfl rfl rfl ?_
    refine LW.p (PEv.fieldAddr (off := 7) Tryz.underlying46 rfl rfl Tryz.sizeOf3 rfl (.tmp rfl)) rfl rfl rfl ?_
    refine LW.p (PEv.load Tryz.isAgg3 (.tmp rfl) ((hS.blk 2 rfl).celln rfl)) rfl rfl rfl ?_
    refine LW.p (PEv.move (.tmp rfl)) rfl rfl rfl ?_
    refine LW.c (enter_call0 (.cons (.tmp rfl) (.cons (.tmp rfl) (.cons (.tmp rfl) .nil))) (Tryz.en16)) rfl rfl rfl rfl (lot_any bc bs x.Wafer time _ (hC.up hS.upd) (by omega)) ?_
    rintro _ w6 ⟨rfl, uw6⟩
    have zw6 := uw6.size
    replace hS := hS.up uw6
    refine LW.p (PEv.move (.tmp rfl)) rfl rfl rfl (LW.p (PEv.extract (.tmp rfl) rfl) rfl rfl rfl (LW.p (PEv.extract (.tmp rfl) rfl) rfl rfl rfl (LW.p (PEv.assign (.tmp rfl)) rfl rfl rfl (LW.p (PEv.assign (.tmp rfl)) rfl rfl rfl (LW.nil (KW.then (CW.seq (CW.region (LW.p (PEv.move (.tmp rfl)) rfl rfl rfl (LW.p (PEv.move (.tmp rfl)) rfl rfl rfl ?_))))))))))
    refine LW.p (PEv.eql (.tmp rfl) (.tmp rfl)) rfl rfl rfl ?_
    refine LW.p (PEv.move (.tmp rfl)) rfl rfl rfl ?_
    refine LW.g rfl rfl rfl rfl rfl rfl rfl (fun hc => PEv.move (.tmp rfl)) ?_
    refine LW.gc rfl rfl rfl rfl rfl rfl rfl rfl (fun hc => enter_call0 (.cons (by first | exact .tmp rfl | exact .cond rfl (by first | assumption | simp_all)) .nil) (Tryz.en38)) (fun hc => isID_any _ _) ?_
    intro w7 uw7
    have zw7 := uw7.size
    replace hS := hS.up uw7
    refine LW.p (PEv.pick_and (.tmp rfl) (fun hp => (by first | exact .const _ | exact .tmp rfl | exact .cond rfl (by first | assumption | simp_all)))) rfl rfl rfl ?_
    refine LW.nil (KW.then ?_)
    refine CW.cond (.tmp rfl) (fun h34 => ?_) (fun h34 => ?_)
    ·first | replace h34 := of_decide_eq_true h34 | replace h34 := of_decide_eq_false h34 | skip
     refine CW.region (LW.p (PEv.move (.tmp rfl)) rfl rfl rfl ?_)
     refine LW.p (PEv.fieldAddr (off := 7) Tryz.underlying46 rfl rfl Tryz.sizeOf3 rfl (.tmp rfl)) rfl rfl rfl ?_
     refine LW.p (PEv.load Tryz.isAgg3 (.tmp rfl) ((hS.blk 2 rfl).celln rfl)) rfl rfl rfl ?_
     refine LW.s (SEv.mapUpdate Tryz.underlying77 Tryz.underlying3 (.tmp rfl) (.tmp rfl) (.const _) (hS.get 1 rfl)) rfl rfl rfl ?_
     rintro w8 ⟨Mu, Ku, zu⟩
     rw [mset_unitB] at Mu
     replace hS := hS.stp 1 rfl (stp_set Mu Ku)
     change Wx.Sep _ _ _ [_, _, _] at hS
     clear Mu Ku
     refine LW.nil (KW.inBlock (KW.then (CW.region ?_)))
     refine LW.p (PEv.inc (.tmp rfl) (by omega)) rfl rfl rfl ?_
     refine LW.p (PEv.move (.tmp rfl)) rfl rfl rfl (LW.nil (KW.round ?_))
     exact ⟨k + 1, ⟨by omega, by first | (rw [memK_yes hx h34]; exact hS.take 2) | (rw [memK_no hx h34]; exact hS.take 2)⟩, ⟨rfl, rfl, rfl, rfl, rfl, rfl, rfl, rfl, trivial⟩, by first | omega | (dsimp only; omega)⟩
    ·first | replace h34 := of_decide_eq_true h34 | replace h34 := of_decide_eq_false h34 | skip
     refine CW.skip (KW.inBlock (KW.then (CW.region ?_)))
     refine LW.p (PEv.inc (.tmp rfl) (by omega)) rfl rfl rfl ?_
     refine LW.p (PEv.move (.tmp rfl)) rfl rfl rfl (LW.nil (KW.round ?_))
     exact ⟨k + 1, ⟨by omega, by first | (rw [memK_yes hx h34]; exact hS.take 2) | (rw [memK_no hx h34]; exact hS.take 2)⟩, ⟨rfl, rfl, rfl, rfl, rfl, rfl, rfl, rfl, trivial⟩, by first | omega | (dsimp only; omega)⟩
   ·first | replace h17 := of_decide_eq_true h17 | replace h17 := of_decide_eq_false h17 | skip
    refine CW.exit (KW.then_exit (KW.then_exit (KW.block_hit (KW.then (CW.seq ?_)))))
    have hkl : k = bs.Lots.length := by omega
    rw [hkl, List.take_length] at hS
    have hml := memK_len bs.Lots lot time bs.Lots
    refine CW.region (LW.p (PEv.move (.tmp rfl)) rfl rfl rfl ?_)
    refine LW.c (enter_call0 (.cons (.tmp rfl) .nil) (Tryz.en47)) rfl rfl rfl rfl (Hs.mapsKeys_any _ _) ?_
    rintro _ w9 ⟨⟨BK, rfl, hBK, zK⟩, uw9⟩
    have zw9 := uw9.size
    replace hS := hS.up uw9
    have zBK := hBK.lt
    have zz := hS.upd.size
    refine LW.c (enter_call0 (.cons (.tmp rfl) .nil) (Tryz.en46)) rfl rfl rfl rfl (Hs.sorted_any _ _ _ _ _ _ Tryz.en91 (fun W X u hX => Hs.mapsKeys_iter X _ BK M12 _ W (fun i h => h.elim) (fun h => by have := hX _ h; omega) (fun h => h.elim) (hBK.up u) (((hS.get 1 rfl : IMap _ _ _)).up u)) (by rw [List.length_map]; omega) (fun ks h => by have := h.length_eq; rw [unitB_keys] at this; omega)) ?_
    rintro v w10 ⟨ks, hP, hO, uw10⟩
    have zw10 := uw10.size
    replace hS := hS.up uw10
    replace hBK := hBK.up uw10
    rw [unitB_keys] at hP
    rw [sort_perm hP] at hO
    replace hO := hO.mono (show w0.heap.size ≤ _ by omega)
    refine LW.p (PEv.assign (.tmp rfl)) rfl rfl rfl (LW.nil (KW.then (CW.ret ?_)))
    refine KW.ret1 rfl rfl ⟨_, rfl, ?_⟩
    exact ⟨hO, hS.upd⟩
theorem wafDel_any (n : Int) (v : Go.Value) (w : World) : Ret Tryz.prog 50 #[vi n, v] w fun r w' => r = .bool (!isIDb n) ∧ Up w w' := by
  have hW := Up.refl w
  refine Calls_start (n := 8) (m := 9) Tryz.func50 rfl rfl rfl ?_
  refine CW.seq (CW.region (LW.p (PEv.assign (.const _)) rfl rfl rfl (LW.nil (KW.then (CW.seq (CW.region (LW.p (PEv.move (.tmp rfl)) rfl rfl rfl ?_)))))))
  refine LW.c (enter_call0 (.cons (.tmp rfl) .nil) (Tryz.en38)) rfl rfl rfl rfl (isID_any _ _) ?_
  rintro _ w1 ⟨rfl, uw1⟩
  have zw1 := uw1.size
  replace hW := hW.up uw1
  refine LW.p (PEv.not (.tmp rfl)) rfl rfl rfl ?_
  refine LW.p (PEv.assign (.tmp rfl)) rfl rfl rfl (LW.nil (KW.then (CW.ret ?_)))
  refine KW.ret1 rfl rfl ⟨_, rfl, ?_⟩
  exact ⟨rfl, hW⟩
theorem delW_any (b : Nat) (ks : List Int) (w : World) (hM : IMap w b (ks.map unitB)) : Ret Tryz.prog 49 #[.map (some b), .func (.func 50) #[] #[]] w fun r w' => r = .tuple #[] ∧ Stp (aIMap b (ks.map unitB)) (aIMap b ((ks.filter isIDb).map unitB)) w w' := by
  obtain ⟨w0, rfl⟩ : ∃ w0, w0 = w := ⟨_, rfl⟩
  have hS : Wx.Sep (aIMap b (ks.map unitB)).foot w0 w0 [aIMap b (ks.map unitB)] := Sep.cons (A := aIMap b (ks.map unitB)) hM (fun _ h => h) (Sep.start _ _) (by simp)
  refine Calls_start (n := 19) (m := 9) Tryz.func49 rfl rfl rfl ?_
  refine CW.seq (CW.region (LW.p (PEv.move (.tmp rfl)) rfl rfl rfl ?_))
  refine LW.r (REv.range Tryz.underlying77 (.tmp rfl) (hS.get 0 rfl)) rfl rfl rfl rfl ?_
  rintro _ w1 ⟨r7, rfl, hR_, uR, eR, zR⟩
  replace hS := hS.stp 0 rfl (stp_range hR_ uR eR)
  change Wx.Sep _ _ _ [_] at hS
  clear hR_
  refine LW.nil (KW.then (CW.block ?_))
  refine CW.loopB (σ := List Int) (fun s w => (s.Nodup ∧ ∀ k ∈ s, k ∈ ks) ∧ (Wx.Sep (aIMap b (ks.map unitB)).foot w0 w [aIRng b r7 ((curW ks s).map unitB) (s.filter isIDb)])) (fun s => []) ([(0, .eq _), (1, .eq _), (7, .eq _)]) (fun s => ks.length - s.length) [] ?_ ⟨rfl, rfl, rfl, trivial⟩ ?_
  ·exact ⟨⟨List.nodup_nil, fun _ h => by cases h⟩, by rw [curW_nil]; exact hS⟩
  ·rintro V w2 ⟨hV, hS⟩
   refine CW.seq (CW.region ?_)
   refine LW.r (REv.next (.tmp rfl) (hS.get 0 rfl)) rfl rfl rfl rfl ?_
   rintro _ w3 (⟨rfl, rfl, hPm⟩ | ⟨k0, u0, rfl, hNx⟩)
   ·skip
    refine LW.p (PEv.extract (.tmp rfl) rfl) rfl rfl rfl (LW.nil (KW.then (CW.seq ?_)))
    refine CW.cond_false (.tmp rfl) ?_
    refine CW.exit (KW.then_exit (KW.then_exit (KW.block_hit ?_)))
    refine KW.end0 rfl ⟨_, rfl, ?_⟩
    rw [curW_end hPm] at hS
    have hS2 := hS.stp 0 rfl (stp_rngEnd (hS.get 0 rfl))
    exact ⟨rfl, hS2.fr, hS2.get 0 rfl, fun _ h => .inl h⟩
   ·skip
    have zw3 := hNx.size
    replace hS := hS.stp 0 rfl (stp_next hNx)
    change Wx.Sep _ _ _ [_] at hS
    obtain ⟨hk0c, hu0⟩ := unitB_mem hNx.mem
    subst hu0
    obtain ⟨hk0V, hk0k⟩ := curW_fresh hk0c hNx.fresh
    have hV2 : (V ++ [k0]).Nodup ∧ ∀ k ∈ V ++ [k0], k ∈ ks := ⟨List.nodup_append.2 ⟨hV.1, by simp, fun a ha c hc => by simp at hc; subst hc; exact fun e => hk0V (e ▸ ha)⟩, fun k hk => (List.mem_append.1 hk).elim (hV.2 k) (fun h => by cases List.mem_singleton.1 h; exact hk0k)⟩
    have hVl := hV2.1.length_le_of_subset hV2.2
    rw [List.length_append, List.length_singleton] at hVl
    refine LW.p (PEv.extract (.tmp rfl) rfl) rfl rfl rfl (LW.nil (KW.then (CW.seq ?_)))
    refine CW.cond_true (.tmp rfl) ?_
    refine CW.skip (KW.then (CW.block (CW.seq (CW.region ?_))))
    refine LW.r (REv.entry (.tmp rfl) hNx.entry) rfl rfl rfl rfl ?_
    rintro _ _ ⟨rfl, rfl⟩
    refine LW.p (PEv.extract (.tmp rfl) rfl) rfl rfl rfl (LW.p (PEv.extract (.tmp rfl) rfl) rfl rfl rfl (LW.p (PEv.assign (.tmp rfl)) rfl rfl rfl (LW.p (PEv.assign (.tmp rfl)) rfl rfl rfl (LW.nil (KW.then (CW.seq (CW.region (LW.p (PEv.move (.tmp rfl)) rfl rfl rfl (LW.p (PEv.move (.tmp rfl)) rfl rfl rfl (LW.p (PEv.move (.tmp rfl)) rfl rfl rfl ?_))))))))))
    refine LW.c (enter_callv (.tmp rfl) (.cons (.tmp rfl) (.cons (.tmp rfl) .nil)) (Tryz.en50)) rfl rfl rfl rfl (wafDel_any _ _ _) ?_
    rintro _ w4 ⟨rfl, uw4⟩
    have zw4 := uw4.size
    replace hS := hS.up uw4
    refine LW.nil (KW.then ?_)
    refine CW.cond (.tmp rfl) (fun h16 => ?_) (fun h16 => ?_)
    ·first | replace h16 := of_decide_eq_true h16 | replace h16 := of_decide_eq_false h16 | skip
     have hid : isIDb k0 = false := by simpa using h16
     refine CW.region (LW.p (PEv.move (.tmp rfl)) rfl rfl rfl (LW.p (PEv.move (.tmp rfl)) rfl rfl rfl ?_))
     refine LW.rn (REv.deleteR Tryz.underlying77 Tryz.underlying3 (.tmp rfl) (.tmp rfl) (hS.get 0 rfl)) rfl rfl rfl ?_
     rintro _ w5 ⟨hR2, Kd, zd⟩
     replace hS := hS.stp 0 rfl (stp_rng hR2 Kd)
     change Wx.Sep _ _ _ [_] at hS
     clear hR2 Kd
     refine LW.nil (KW.inBlock (KW.round ?_))
     exact ⟨V ++ [k0], ⟨hV2, by first | (rw [curW_yes ks V hid, filt_snoc_yes V hid]; exact hS) | (rw [curW_no ks V hid, filt_snoc_no V hid]; exact hS)⟩, ⟨rfl, rfl, rfl, trivial⟩, by rw [List.length_append, List.length_singleton]; omega⟩
    ·first | replace h16 := of_decide_eq_true h16 | replace h16 := of_decide_eq_false h16 | skip
     have hid : isIDb k0 = true := by simpa using h16
     refine CW.skip (KW.inBlock (KW.round ?_))
     exact ⟨V ++ [k0], ⟨hV2, by first | (rw [curW_yes ks V hid, filt_snoc_yes V hid]; exact hS) | (rw [curW_no ks V hid, filt_snoc_no V hid]; exact hS)⟩, ⟨rfl, rfl, rfl, trivial⟩, by rw [List.length_append, List.length_singleton]; omega⟩
theorem Wafers_any (bc : Array Go.Value) (bs : Base) (w : World) (hC : BaseC w bc bs) (hs : bs.Swaps.length ≤ 1000000000) (hsum : bs.Lots.length + bs.Processes.length ≤ 1000000000) : Ret Tryz.prog 28 #[.agg bc] w fun r w' => OwnS w' w.heap.size 3 1 eInt r (wafersL bs.Lots bs.Processes bs.Swaps) ∧ Up w w' := by
  obtain ⟨w0, rfl⟩ : ∃ w0, w0 = w := ⟨_, rfl⟩
  have hS := Sep.start no w0
  refine Calls_start (n := 40) (m := 9) Tryz.func28 rfl rfl rfl ?_
  refine CW.seq (CW.region ?_)
  refine LW.r (REv.boxA (.tmp rfl)) rfl rfl rfl rfl ?_
  rintro _ w1 ⟨B1, rfl, NB1⟩
  have eB1 := NB1.at_
  have zB1 := NB1.size
  replace hS := hS.addB NB1
  change Wx.Sep _ _ _ [_] at hS
  refine LW.p (PEv.assign (.const _)) rfl rfl rfl (LW.nil (KW.then (CW.seq (CW.region ?_))))
  refine LW.r REv.makeMap rfl rfl rfl rfl ?_
  rintro _ w2 ⟨M8, rfl, hMM8, uw2, eM8, zw2⟩
  replace hS := hS.add uw2 (A' := aIMap M8 (([] : List Int).map unitB)) hMM8 (fun i (h : i = M8) => by omega)
  change Wx.Sep _ _ _ [_, _] at hS
  refine LW.p (PEv.assign (.tmp rfl)) rfl rfl rfl (LW.nil (KW.then (CW.seq (CW.seq ?_))))
  obtain ⟨v3, h3, ad, cp, rfl, hE0⟩ := hC.at3
  refine CW.region ?_
  refine LW.p (PEv.fieldAddr (off := 3) Tryz.underlying24 rfl rfl Tryz.sizeOf22 rfl (.tmp rfl)) rfl rfl rfl ?_
  refine LW.p (PEv.load Tryz.isAgg22 (.tmp rfl) ((hS.blk 0 rfl).cell h3)) rfl rfl rfl ?_
  refine LW.p (PEv.lenS Tryz.underlying22 (.tmp rfl)) rfl rfl rfl ?_
  refine LW.p (PEv.move (.const _)) rfl rfl rfl ?_
  refine LW.nil (KW.then (CW.block ?_))
  refine CW.loopB (σ := Nat) (fun s w => (s ≤ bs.Lots.length) ∧ (Wx.Sep no w0 w [aBlk B1 bc 24, aIMap M8 ((lotK (bs.Lots.take s)).map unitB)])) (fun s => [(12, .eq (vi (s : Int)))]) ([(1, .eq _), (2, .eq _), (3, .eq _), (10, .eq _), (11, .eq _)]) (fun s => bs.Lots.length - s) 0 ?_ ⟨rfl, rfl, rfl, rfl, rfl, rfl, trivial⟩ ?_
  ·exact ⟨Nat.zero_le _, hS⟩
  ·rintro k w3 ⟨hk, hS⟩
   refine CW.seq (CW.region ?_)
   refine LW.p (PEv.lss (.tmp rfl) (.tmp rfl)) rfl rfl rfl ?_
   refine LW.nil (KW.then (CW.seq ?_))
   refine CW.cond (.tmp rfl) (fun h13 => ?_) (fun h13 => ?_)
   ·first | replace h13 := of_decide_eq_true h13 | replace h13 := of_decide_eq_false h13 | skip
    refine CW.skip (KW.then (CW.seq (CW.block (CW.seq ?_))))
    have hE := Els.up hE0 hS.upd
    refine CW.region ?_
    obtain ⟨x, hx⟩ := getElem?_of_lt (xs := bs.Lots) (i := k) (by omega)
    obtain ⟨Bx, ox, ax, hcx⟩ := hE _ x hx
    refine LW.p (PEv.indexAddr' Tryz.underlying22 Tryz.sizeOf46 (.tmp rfl) (.tmp rfl) (by omega) ax) rfl rfl rfl ?_
    refine LW.p (PEv.loadA Tryz.isAgg46 Tryz.sizeOf46 rfl (.tmp rfl) (hcx)) rfl rfl rfl ?_
    refine LW.r (REv.allocA Tryz.zeroValue46) rfl rfl rfl rfl ?_
    rintro _ w4 ⟨B5, rfl, MB5⟩
    refine LW.s (SEv.storeA Tryz.sizeOf46 rfl (.tmp rfl) (.tmp rfl) (Fact.one _) MB5.blk rfl) rfl rfl rfl ?_
    intro w5 LB5
    have NB5 := MB5.set LB5
    clear LB5 MB5
    have eB5 := NB5.at_
    have zB5 := NB5.size
    replace hcx := hcx.up NB5.up
    replace hS := hS.addB NB5
    change Wx.Sep _ _ _ [_, _, _] at hS
    refine LW.nil (KW.then (CW.region (LW.p (PEv.move (.tmp rfl)) rfl rfl rfl ?_)))
    refine LW.p (PEv.fieldAddr (off := 7) Tryz.underlying46 rfl rfl Tryz.sizeOf3 rfl (.tmp rfl)) rfl rfl rfl ?_
    refine LW.p (PEv.load Tryz.isAgg3 (.tmp rfl) ((hS.blk 2 rfl).celln rfl)) rfl rfl rfl ?_
    refine LW.s (SEv.mapUpdate Tryz.underlying77 Tryz.underlying3 (.tmp rfl) (.tmp rfl) (.const _) (hS.get 1 rfl)) rfl rfl rfl ?_
    rintro w6 ⟨Mu, Ku, zu⟩
    rw [mset_unitB] at Mu
    replace hS := hS.stp 1 rfl (stp_set Mu Ku)
    change Wx.Sep _ _ _ [_, _, _] at hS
    clear Mu Ku
    refine LW.nil (KW.inBlock (KW.then (CW.region ?_)))
    refine LW.p (PEv.inc (.tmp rfl) (by omega)) rfl rfl rfl ?_
    refine LW.p (PEv.move (.tmp rfl)) rfl rfl rfl (LW.nil (KW.round ?_))
    exact ⟨k + 1, ⟨by omega, by rw [lotK_step hx]; exact hS.take 2⟩, ⟨rfl, rfl, rfl, rfl, rfl, rfl, trivial⟩, by first | omega | (dsimp only; omega)⟩
   ·first | replace h13 := of_decide_eq_true h13 | replace h13 := of_decide_eq_false h13 | skip
    refine CW.exit (KW.then_exit (KW.then_exit (KW.block_hit (KW.then (CW.seq (CW.seq ?_))))))
    obtain ⟨v0, h0, ad', cp', rfl, hE1⟩ := hC.at0
    have hkl : k = bs.Lots.length := by omega
    rw [hkl, List.take_length] at hS
    refine CW.region ?_
    refine LW.p (PEv.fieldAddr (off := 0) Tryz.underlying24 rfl rfl Tryz.sizeOf22 rfl (.tmp rfl)) rfl rfl rfl ?_
    refine LW.p (PEv.load Tryz.isAgg22 (.tmp rfl) ((hS.blk 0 rfl).cell h0)) rfl rfl rfl ?_
    refine LW.p (PEv.lenS Tryz.underlying22 (.tmp rfl)) rfl rfl rfl ?_
    refine LW.p (PEv.move (.const _)) rfl rfl rfl ?_
    refine LW.nil (KW.then (CW.block ?_))
    refine CW.loopB (σ := Nat) (fun s w => (s ≤ bs.Processes.length) ∧ (Wx.Sep no w0 w [aBlk B1 bc 24, aIMap M8 ((proK bs.Swaps (lotK bs.Lots) (bs.Processes.take s)).map unitB)])) (fun s => [(23, .eq (vi (s : Int)))]) ([(1, .eq _), (2, .eq _), (3, .eq _), (21, .eq _), (22, .eq _)]) (fun s => bs.Processes.length - s) 0 ?_ ⟨rfl, rfl, rfl, rfl, rfl, rfl, trivial⟩ ?_
    ·exact ⟨Nat.zero_le _, hS⟩
    ·rintro j w7 ⟨hj, hS⟩
     refine CW.seq (CW.region ?_)
     refine LW.p (PEv.lss (.tmp rfl) (.tmp rfl)) rfl rfl rfl ?_
     refine LW.nil (KW.then (CW.seq ?_))
     refine CW.cond (.tmp rfl) (fun h24 => ?_) (fun h24 => ?_)
     ·first | replace h24 := of_decide_eq_true h24 | replace h24 := of_decide_eq_false h24 | skip
      refine CW.skip (KW.then (CW.seq (CW.block (CW.seq ?_))))
      have hE := Els.up hE1 hS.upd
      refine CW.region ?_
      obtain ⟨x, hx⟩ := getElem?_of_lt (xs := bs.Processes) (i := j) (by omega)
      obtain ⟨Bx, ox, ax, hcx⟩ := hE _ x hx
      refine LW.p (PEv.indexAddr' Tryz.underlying22 Tryz.sizeOf46 (.tmp rfl) (.tmp rfl) (by omega) ax) rfl rfl rfl ?_
      refine LW.p (PEv.loadA Tryz.isAgg46 Tryz.sizeOf46 rfl (.tmp rfl) (hcx)) rfl rfl rfl ?_
      refine LW.r (REv.allocA Tryz.zeroValue46) rfl rfl rfl rfl ?_
      rintro _ w8 ⟨B7, rfl, MB7⟩
      refine LW.s (SEv.storeA Tryz.sizeOf46 rfl (.tmp rfl) (.tmp rfl) (Fact.one _) MB7.blk rfl) rfl rfl rfl ?_
      intro w9 LB7
      have NB7 := MB7.set LB7
      clear LB7 MB7
      have eB7 := NB7.at_
      have zB7 := NB7.size
      replace hcx := hcx.up NB7.up
      replace hS := hS.addB NB7
      change Wx.Sep _ _ _ [_, _, _] at hS
      refine LW.nil (KW.then (CW.region (LW.p (PEv.move (.tmp rfl)) rfl rfl rfl ?_)))
      refine LW.p (PEv.loadA Tryz.isAgg24 Tryz.sizeOf24 (hC.size) (.tmp rfl) ((hS.blk 0 rfl).agg)) rfl rfl rfl ?_
      refine LW.p (PEv.fieldAddr (off := 7) Tryz.underlying46 rfl rfl Tryz.sizeOf3 rfl (.tmp rfl)) rfl rfl rfl ?_
      refine LW.p (PEv.load Tryz.isAgg3 (.tmp rfl) ((hS.blk 2 rfl).celln rfl)) rfl rfl rfl ?_
      refine LW.p (PEv.fieldAddr (off := 5) Tryz.underlying46 rfl rfl Tryz.sizeOf3 rfl (.tmp rfl)) rfl rfl rfl ?_
      refine LW.p (PEv.load Tryz.isAgg3 (.tmp rfl) ((hS.blk 2 rfl).celln rfl)) rfl rfl rfl ?_
      refine LW.c (enter_call0 (.cons (.tmp rfl) (.cons (.tmp rfl) (.cons (.tmp rfl) .nil))) (Tryz.en18)) rfl rfl rfl rfl (Who_any bc bs _ _ _ (hC.up hS.upd) hs) ?_
      rintro _ w10 ⟨rfl, uw10⟩
      have zw10 := uw10.size
      replace hS := hS.up uw10
      refine LW.s (SEv.mapUpdate Tryz.underlying77 Tryz.underlying3 (.tmp rfl) (.tmp rfl) (.const _) (hS.get 1 rfl)) rfl rfl rfl ?_
      rintro w11 ⟨Mu, Ku, zu⟩
      rw [mset_unitB] at Mu
      replace hS := hS.stp 1 rfl (stp_set Mu Ku)
      change Wx.Sep _ _ _ [_, _, _] at hS
      clear Mu Ku
      refine LW.nil (KW.inBlock (KW.then (CW.region ?_)))
      refine LW.p (PEv.inc (.tmp rfl) (by omega)) rfl rfl rfl ?_
      refine LW.p (PEv.move (.tmp rfl)) rfl rfl rfl (LW.nil (KW.round ?_))
      exact ⟨j + 1, ⟨by omega, by rw [proK_step hx]; exact hS.take 2⟩, ⟨rfl, rfl, rfl, rfl, rfl, rfl, trivial⟩, by first | omega | (dsimp only; omega)⟩
     ·first | replace h24 := of_decide_eq_true h24 | replace h24 := of_decide_eq_false h24 | skip
      refine CW.exit (KW.then_exit (KW.then_exit (KW.block_hit (KW.then (CW.seq ?_)))))
      have hjl : j = bs.Processes.length := by omega
      rw [hjl, List.take_length] at hS
      have hml := Nat.le_trans (List.length_filter_le isIDb _) (Nat.le_trans (proK_len bs.Swaps (lotK bs.Lots) bs.Processes) (Nat.add_le_add_right (lotK_len bs.Lots) _))
      refine CW.region (LW.p (PEv.move (.tmp rfl)) rfl rfl rfl ?_)
      refine LW.c (enter_call0 (.cons (.tmp rfl) (.cons (.func _) .nil)) (Tryz.en49)) rfl rfl rfl rfl (delW_any M8 _ _ (hS.get 1 rfl)) ?_
      rintro _ w12 ⟨rfl, uw12⟩
      have zw12 := uw12.fr.size
      replace hS := hS.stp 1 rfl uw12
      change Wx.Sep _ _ _ [_, _] at hS
      refine LW.nil (KW.then (CW.seq (CW.region (LW.p (PEv.move (.tmp rfl)) rfl rfl rfl ?_))))
      refine LW.c (enter_call0 (.cons (.tmp rfl) .nil) (Tryz.en47)) rfl rfl rfl rfl (Hs.mapsKeys_any _ _) ?_
      rintro _ w13 ⟨⟨BK, rfl, hBK, zK⟩, uw13⟩
      have zw13 := uw13.size
      replace hS := hS.up uw13
      have zBK := hBK.lt
      have zz := hS.upd.size
      refine LW.c (enter_call0 (.cons (.tmp rfl) .nil) (Tryz.en46)) rfl rfl rfl rfl (Hs.sorted_any _ _ _ _ _ _ Tryz.en91 (fun W X u hX => Hs.mapsKeys_iter X _ BK M8 _ W (fun i h => h.elim) (fun h => by have := hX _ h; omega) (fun h => h.elim) (hBK.up u) (((hS.get 1 rfl : IMap _ _ _)).up u)) (by rw [List.length_map]; omega) (fun ks h => by have := h.length_eq; rw [unitB_keys] at this; omega)) ?_
      rintro v w14 ⟨ks, hP, hO, uw14⟩
      have zw14 := uw14.size
      replace hS := hS.up uw14
      replace hBK := hBK.up uw14
      rw [unitB_keys] at hP
      rw [sort_perm hP] at hO
      replace hO := hO.mono (show w0.heap.size ≤ _ by omega)
      refine LW.p (PEv.assign (.tmp rfl)) rfl rfl rfl (LW.nil (KW.then (CW.ret ?_)))
      refine KW.ret1 rfl rfl ⟨_, rfl, ?_⟩
      exact ⟨hO, hS.upd⟩
end Go.Proofs.YthfjagphcekcbaaGreat
end
