import Derived.Test.YthfjagphcekcbaaGreatKR213
import Derived.Sort.OwnSortedInts
section
namespace Go.Wx
def keyTI (f : Fact) : K2 := (f.Time, f.ID)
def isIDb (n : Int) : Bool := decide (1 ≤ n) && decide (n ≤ 1000000)
def ordG (p : Fact → Bool) (l : List Fact) : List Fact := sortK keyTI (l.filter p)
theorem OwnS.ofSep {α : Type} {enc : α → Array Value} {e k : Nat} {w0 w : World} {v : Value} {xs : List α} {rest : List Asr} (h : Wx.Sep no w0 w (aOwn e k enc v xs :: rest)) : OwnS w w0.heap.size e k enc v xs := by
  have hf := h.foot 0 rfl
  obtain ⟨h1, h2⟩ := h.own 0 rfl
  refine ⟨h1, ?_⟩
  rcases h2 with h2 | ⟨g, cap, cur, e, hb, rest⟩
  · exact .inl h2
  · exact .inr ⟨g, cap, cur, e, (hf g (by rw [e]; rfl)).resolve_left (fun h => h), rest⟩
end Go.Wx
namespace Go.Proofs.YthfjagphcekcbaaGreat
open Go.Wx Go.RowKit
theorem compareG_any (a b : Fact) (w : World) : Ret Tryz.prog 84 #[.agg a.cells, .agg b.cells] w fun r w' => r = vi (cmpK (keyTI a) (keyTI b)) ∧ Up w w' := by
  have hW := Up.refl w
  refine Calls_start (n := 17) (m := 9) Tryz.func84 rfl rfl rfl ?_
  refine CW.seq (CW.region ?_)
  refine LW.r (REv.boxA (.tmp rfl)) rfl rfl rfl rfl ?_
  rintro _ w1 ⟨B2, rfl, NB2⟩
  have eB2 := NB2.at_
  have zB2 := NB2.size
  replace hW := hW.up NB2.up
  have hB2 := NB2.blk
  refine LW.r (REv.boxA (.tmp rfl)) rfl rfl rfl rfl ?_
  rintro _ w2 ⟨B3, rfl, NB3⟩
  have eB3 := NB3.at_
  have zB3 := NB3.size
  replace hW := hW.up NB3.up
  replace hB2 := hB2.up NB3.up
  have hB3 := NB3.blk
  refine LW.p (PEv.assign (.const _)) rfl rfl rfl (LW.nil (KW.then (CW.seq ?_)))
  refine CW.free 11 [.eq (.pointer (some ⟨B2, 5, none⟩)), .eq (vi (keyTI a).1), .eq (.pointer (some ⟨B3, 5, none⟩)), .eq (vi (keyTI b).1), .eq (vi (cmpI (keyTI a).1 (keyTI b).1)), .eq (.pointer (some ⟨B2, 1, none⟩)), .eq (vi (keyTI a).2), .eq (.pointer (some ⟨B3, 1, none⟩)), .eq (vi (keyTI b).2), .eq (vi (cmpI (keyTI a).2 (keyTI b).2)), .pred (fun v w => SlT 3 w v 1 eInt [cmpI (keyTI a).1 (keyTI b).1, cmpI (keyTI a).2 (keyTI b).2])] [15] (by kernel_rfl) rfl (by kernel_rfl) (by kernel_rfl) (by kernel_rfl) (by kernel_rfl) (by kernel_rfl) (by kernel_rfl) (by kernel_rfl) ⟨PhU.eq _, PhU.eq _, PhU.eq _, PhU.eq _, PhU.eq _, PhU.eq _, PhU.eq _, PhU.eq _, PhU.eq _, PhU.eq _, PhU.pred fun _ _ _ h u => SlT.cel h u.cel, trivial⟩ ?_ ?_
  ·intro W hU0
   have hU := (Up.drew w2).trans hU0
   refine allL.cons ⟨rfl, TU.p (PEv.fieldAddr (off := 5) Tryz.underlying114 rfl rfl Tryz.sizeOf3 rfl (.tmp rfl)) rfl⟩ ?_
   refine allL.cons ⟨rfl, TU.p (PEv.load Tryz.isAgg3 (.tmp rfl) ((hB2.up hU).celln rfl)) rfl⟩ ?_
   refine allL.cons ⟨rfl, TU.p (PEv.fieldAddr (off := 5) Tryz.underlying114 rfl rfl Tryz.sizeOf3 rfl (.tmp rfl)) rfl⟩ ?_
   refine allL.cons ⟨rfl, TU.p (PEv.load Tryz.isAgg3 (.tmp rfl) ((hB3.up hU).celln rfl)) rfl⟩ ?_
   refine allL.cons ⟨rfl, TU.c (enter_call0 (.cons (.tmp rfl) (.cons (.tmp rfl) .nil)) (Tryz.en78)) (cmpInt_any _ _ _) (by rintro _ W1 ⟨rfl, u⟩; exact ⟨u, rfl⟩)⟩ ?_
   refine allL.cons ⟨rfl, TU.p (PEv.fieldAddr (off := 1) Tryz.underlying114 rfl rfl Tryz.sizeOf3 rfl (.tmp rfl)) rfl⟩ ?_
   refine allL.cons ⟨rfl, TU.p (PEv.load Tryz.isAgg3 (.tmp rfl) ((hB2.up hU).celln rfl)) rfl⟩ ?_
   refine allL.cons ⟨rfl, TU.p (PEv.fieldAddr (off := 1) Tryz.underlying114 rfl rfl Tryz.sizeOf3 rfl (.tmp rfl)) rfl⟩ ?_
   refine allL.cons ⟨rfl, TU.p (PEv.load Tryz.isAgg3 (.tmp rfl) ((hB3.up hU).celln rfl)) rfl⟩ ?_
   refine allL.cons ⟨rfl, TU.c (enter_call0 (.cons (.tmp rfl) (.cons (.tmp rfl) .nil)) (Tryz.en78)) (cmpInt_any _ _ _) (by rintro _ W1 ⟨rfl, u⟩; exact ⟨u, rfl⟩)⟩ ?_
   refine allL.cons ⟨rfl, TU.r (REv.buildSlice (xs := [cmpI (keyTI a).1 (keyTI b).1, cmpI (keyTI a).2 (keyTI b).2]) (enc := eInt) (mk := vi) Tryz.underlying32 Tryz.sizeOf3 Tryz.zeroValue3 rfl (by decide) (fun _ => rfl) (fun _ => rfl) (.cons (.tmp rfl) (.cons (.tmp rfl) .nil)) rfl) (by rintro _ W1 ⟨B, c, rfl, N, y, x⟩; exact ⟨N.up, SlT.lit ⟨B, c, rfl, N, y, x⟩⟩)⟩ ?_
   exact allL.nil
  ·intro w3 g hU0 hg
   have hU := (Up.drew w2).trans hU0
   have zw3 := hU.size
   replace hW := hW.up hU
   replace hB2 := hB2.up hU
   replace hB3 := hB3.up hU
   obtain ⟨⟨ad, cp, e15, hE⟩, _⟩ := hg 10 _ 15 (by decide) rfl rfl
   change LW _ _ _ _ _ _ _ _ ((15, .eq (g 15)) :: _) _
   rw [e15]
   refine LW.c (enter_call0 (.cons (.tmp rfl) .nil) (Tryz.en77)) rfl rfl rfl rfl (or_any ad cp _ _ hE (by simp)) ?_
   rintro _ w4 ⟨rfl, uw4⟩
   have zw4 := uw4.size
   replace hW := hW.up uw4
   replace hB2 := hB2.up uw4
   replace hB3 := hB3.up uw4
   refine LW.p (PEv.assign (.tmp rfl)) rfl rfl rfl (LW.nil (KW.then (CW.ret ?_)))
   refine KW.ret1 rfl rfl ⟨_, rfl, ?_⟩
   exact ⟨rfl, hW⟩
theorem toG_any (x : Fact) (w : World) : Ret Tryz.prog 82 #[.agg x.cells] w fun r w' => r = .agg x.cells ∧ Up w w' := by
  have hW := Up.refl w
  refine Calls_start (n := 4) (m := 9) Tryz.func82 rfl rfl rfl ?_
  refine CW.seq (CW.region ?_)
  refine LW.r (REv.boxA (.tmp rfl)) rfl rfl rfl rfl ?_
  rintro _ w1 ⟨B1, rfl, NB1⟩
  have eB1 := NB1.at_
  have zB1 := NB1.size
  replace hW := hW.up NB1.up
  have hB1 := NB1.blk
  refine LW.r (REv.allocA Tryz.zeroValue114) rfl rfl rfl rfl ?_
  rintro _ w2 ⟨B2, rfl, NB2⟩
  have eB2 := NB2.at_
  have zB2 := NB2.size
  replace hW := hW.up NB2.up
  replace hB1 := hB1.up NB2.up
  have hB2 := NB2.blk
  refine LW.nil (KW.then (CW.seq (CW.region ?_)))
  refine LW.p (PEv.loadA Tryz.isAgg46 Tryz.sizeOf46 rfl (.tmp rfl) (hB1.agg)) rfl rfl rfl ?_
  refine LW.s (SEv.storeA Tryz.sizeOf114 rfl (.tmp rfl) (.tmp rfl) (Fact.one _) hB2 rfl) rfl rfl rfl ?_
  intro w3 Nw3
  have zw3 := Nw3.size
  replace hW := hW.sto Nw3.sto (by omega)
  replace hB1 := hB1.sto Nw3.sto (by omega)
  replace hB2 := Nw3.blk
  replace hB2 : Blk w3 B2 x.cells _ := hB2
  refine LW.nil (KW.then (CW.ret ?_))
  refine KW.retA rfl rfl Tryz.isAgg114 Tryz.sizeOf114 rfl (hB2.agg) ⟨_, rfl, ?_⟩
  exact ⟨rfl, hW⟩
theorem ofG_any (x : Fact) (w : World) : Ret Tryz.prog 86 #[.agg x.cells] w fun r w' => r = .agg x.cells ∧ Up w w' := by
  have hW := Up.refl w
  refine Calls_start (n := 4) (m := 9) Tryz.func86 rfl rfl rfl ?_
  refine CW.seq (CW.region ?_)
  refine LW.r (REv.boxA (.tmp rfl)) rfl rfl rfl rfl ?_
  rintro _ w1 ⟨B1, rfl, NB1⟩
  have eB1 := NB1.at_
  have zB1 := NB1.size
  replace hW := hW.up NB1.up
  have hB1 := NB1.blk
  refine LW.r (REv.allocA Tryz.zeroValue46) rfl rfl rfl rfl ?_
  rintro _ w2 ⟨B2, rfl, NB2⟩
  have eB2 := NB2.at_
  have zB2 := NB2.size
  replace hW := hW.up NB2.up
  replace hB1 := hB1.up NB2.up
  have hB2 := NB2.blk
  refine LW.nil (KW.then (CW.seq (CW.region ?_)))
  refine LW.p (PEv.loadA Tryz.isAgg114 Tryz.sizeOf114 rfl (.tmp rfl) (hB1.agg)) rfl rfl rfl ?_
  refine LW.s (SEv.storeA Tryz.sizeOf46 rfl (.tmp rfl) (.tmp rfl) (Fact.one _) hB2 rfl) rfl rfl rfl ?_
  intro w3 Nw3
  have zw3 := Nw3.size
  replace hW := hW.sto Nw3.sto (by omega)
  replace hB1 := hB1.sto Nw3.sto (by omega)
  replace hB2 := Nw3.blk
  replace hB2 : Blk w3 B2 x.cells _ := hB2
  refine LW.nil (KW.then (CW.ret ?_))
  refine KW.retA rfl rfl Tryz.isAgg46 Tryz.sizeOf46 rfl (hB2.agg) ⟨_, rfl, ?_⟩
  exact ⟨rfl, hW⟩
theorem trueG_any (x : Fact) (w : World) : Ret Tryz.prog 87 #[.agg x.cells] w fun r w' => r = .bool true ∧ Up w w' := by
  have hW := Up.refl w
  refine Calls_start (n := 3) (m := 9) Tryz.func87 rfl rfl rfl ?_
  refine CW.seq (CW.region ?_)
  refine LW.r (REv.boxA (.tmp rfl)) rfl rfl rfl rfl ?_
  rintro _ w1 ⟨B1, rfl, NB1⟩
  have eB1 := NB1.at_
  have zB1 := NB1.size
  replace hW := hW.up NB1.up
  have hB1 := NB1.blk
  refine LW.p (PEv.assign (.const _)) rfl rfl rfl (LW.nil (KW.then (CW.seq (CW.region (LW.p (PEv.assign (.const _)) rfl rfl rfl (LW.nil (KW.then (CW.ret ?_))))))))
  refine KW.ret1 rfl rfl ⟨_, rfl, ?_⟩
  exact ⟨rfl, hW⟩
theorem selG_any (pf : Nat) (lb : Array Go.Value) (p : Fact → Bool) (hen : ∀ args w, (callFunc pf args).run Tryz.prog w = .ok (.enter pf args) w) (ad : Option Addr) (cp : Nat) (l : List Fact) (w : World) (hE0 : Els w ad 19 Fact.cells l) (hl : l.length ≤ 1000000000) (hp : ∀ W, Up w W → ∀ x ∈ l, Ret Tryz.prog pf (#[.agg x.cells] ++ lb) W fun r W' => r = .bool (p x) ∧ Up W W') : Ret Tryz.prog 81 #[.slice ad l.length cp, .func (.func 82) #[] #[], .func (.func pf) #[] lb] w fun r w' => OwnS w' w.heap.size 114 19 Fact.cells r (l.filter p) ∧ Up w w' := by
  obtain ⟨w0, rfl⟩ : ∃ w0, w0 = w := ⟨_, rfl⟩
  have hS := Sep.start no w0
  refine Calls_start (n := 27) (m := 9) Tryz.func81 rfl rfl rfl ?_
  refine CW.seq (CW.region (LW.p (PEv.assign (.const _)) rfl rfl rfl (LW.nil (KW.then (CW.seq (CW.region (LW.p (PEv.assign (.const _)) rfl rfl rfl (LW.nil (KW.then (CW.seq (CW.seq ?_)))))))))))
  replace hS := hS.add (Up.refl _) (A' := aOwn 114 19 Fact.cells (.slice none 0 0) ([] : List Fact)) (OwnS.nil _ _ _ _ _) (fun i h => by cases h)
  change Wx.Sep _ _ _ [_] at hS
  refine CW.region (LW.p (PEv.move (.tmp rfl)) rfl rfl rfl ?_)
  refine LW.p (PEv.lenS Tryz.underlying22 (.tmp rfl)) rfl rfl rfl ?_
  refine LW.p (PEv.move (.const _)) rfl rfl rfl ?_
  refine LW.nil (KW.then (CW.block ?_))
  refine CW.loopB (σ := Nat × Go.Value) (fun s w => (s.1 ≤ l.length) ∧ (Wx.Sep no w0 w [aOwn 114 19 Fact.cells s.2 ((l.take s.1).filter p)])) (fun s => [(12, .eq (vi (s.1 : Int))), (7, .eq (s.2))]) ([(1, .eq _), (2, .eq _), (6, .eq _), (10, .eq _), (11, .eq _)]) (fun s => l.length - s.1) (0, .slice none 0 0) ?_ ⟨rfl, rfl, rfl, rfl, rfl, rfl, rfl, trivial⟩ ?_
  ·exact ⟨Nat.zero_le _, hS⟩
  ·rintro ⟨k, v⟩ w1 ⟨hk, hS⟩
   dsimp only at hk hS
   change CW _ _ _ _ _ _ _ ([(12, .eq (vi (k : Int))), (7, .eq (v))] ++ _) _
   refine CW.seq (CW.region ?_)
   refine LW.p (PEv.lss (.tmp rfl) (.tmp rfl)) rfl rfl rfl ?_
   refine LW.nil (KW.then (CW.seq ?_))
   refine CW.cond (.tmp rfl) (fun h13 => ?_) (fun h13 => ?_)
   ·first | replace h13 := of_decide_eq_true h13 | replace h13 := of_decide_eq_false h13 | skip
    refine CW.skip (KW.then (CW.seq (CW.block (CW.seq ?_))))
    have hE := hE0.up hS.upd
    refine CW.region ?_
    obtain ⟨x, hx⟩ := getElem?_of_lt (xs := l) (i := k) (by omega)
    obtain ⟨Bx, ox, ax, hcx⟩ := hE _ x hx
    refine LW.p (PEv.indexAddr' Tryz.underlying22 Tryz.sizeOf46 (.tmp rfl) (.tmp rfl) (by omega) ax) rfl rfl rfl ?_
    refine LW.p (PEv.loadA Tryz.isAgg46 Tryz.sizeOf46 rfl (.tmp rfl) (hcx)) rfl rfl rfl ?_
    refine LW.r (REv.allocA Tryz.zeroValue46) rfl rfl rfl rfl ?_
    rintro _ w2 ⟨B9, rfl, MB9⟩
    refine LW.s (SEv.storeA Tryz.sizeOf46 rfl (.tmp rfl) (.tmp rfl) (Fact.one _) MB9.blk rfl) rfl rfl rfl ?_
    intro w3 LB9
    have NB9 := MB9.set LB9
    clear LB9 MB9
    have eB9 := NB9.at_
    have zB9 := NB9.size
    replace hcx := hcx.up NB9.up
    replace hS := hS.addB NB9
    change Wx.Sep _ _ _ [_, _] at hS
    refine LW.nil (KW.then (CW.seq (CW.region (LW.p (PEv.move (.tmp rfl)) rfl rfl rfl ?_))))
    refine LW.p (PEv.loadA Tryz.isAgg46 Tryz.sizeOf46 rfl (.tmp rfl) ((hS.blk 1 rfl).agg)) rfl rfl rfl ?_
    refine LW.c (enter_call (.tmp rfl) (.cons (.tmp rfl) .nil) (hen)) rfl rfl rfl rfl (hp _ hS.upd x (List.mem_of_getElem? hx)) ?_
    rintro _ w4 ⟨rfl, uw4⟩
    have zw4 := uw4.size
    replace hS := hS.up uw4
    refine LW.nil (KW.then ?_)
    refine CW.cond (.tmp rfl) (fun h18 => ?_) (fun h18 => ?_)
    ·first | replace h18 := of_decide_eq_true h18 | replace h18 := of_decide_eq_false h18 | skip
     have hfl := filt_len p l k
     refine CW.region (LW.p (PEv.move (.tmp rfl)) rfl rfl rfl (LW.p (PEv.move (.tmp rfl)) rfl rfl rfl ?_))
     refine LW.p (PEv.loadA Tryz.isAgg46 Tryz.sizeOf46 rfl (.tmp rfl) ((hS.blk 1 rfl).agg)) rfl rfl rfl ?_
     refine LW.c (enter_callv (.tmp rfl) (.cons (.tmp rfl) .nil) (Tryz.en82)) rfl rfl rfl rfl (toG_any _ _) ?_
     rintro _ w5 ⟨rfl, uw5⟩
     have zw5 := uw5.size
     replace hS := hS.up uw5
     refine LW.r (REv.buildSlice (xs := [x]) (enc := Fact.cells) (mk := fun f : Fact => .agg f.cells) Tryz.underlying112 Tryz.sizeOf114 Tryz.zeroValue114 rfl (by decide) (fun _ => rfl) (fun _ => rfl) (.cons (.tmp rfl) .nil) rfl) rfl rfl rfl rfl ?_
     rintro _ w6 ⟨B23, cB23, rfl, NB23, yB23, xB23⟩
     have eB23 := NB23.at_
     have zB23 := NB23.size
     replace hS := hS.up NB23.up
     have hE23 := xB23
     refine LW.r (REv.appendF (enc := Fact.cells) (bytes := 160) (i := Tryz.t114) Tryz.underlying112 (by kernel_rfl) rfl rfl rfl rfl (by decide) (fun _ => rfl) Fact.one (.tmp rfl) (.tmp rfl) (hS.own 0 rfl) (Sl.of_els hE23) (by have := hfl; simp [maxLen]; omega) (by have := hfl; simp; omega)) rfl rfl rfl rfl ?_
     intro v24 w7 Gw7
     have zw7 := Gw7.fr.size
     replace hS := hS.stp 0 rfl Gw7
     change Wx.Sep _ _ _ [_, _] at hS
     refine LW.p (PEv.assign (.tmp rfl)) rfl rfl rfl (LW.nil (KW.inBlock (KW.then (CW.region ?_))))
     refine LW.p (PEv.inc (.tmp rfl) (by omega)) rfl rfl rfl ?_
     refine LW.p (PEv.move (.tmp rfl)) rfl rfl rfl (LW.nil (KW.round ?_))
     first | exact ⟨(k + 1, v24), ⟨by show k + 1 ≤ _; omega, by first | (rw [fp_yes hx h18]; exact hS.take 1) | (rw [fp_no hx h18]; exact hS.take 1)⟩, ⟨rfl, rfl, rfl, rfl, rfl, rfl, rfl, trivial⟩, by show l.length - (k + 1) < l.length - k; omega⟩ | exact ⟨(k + 1, v), ⟨by show k + 1 ≤ _; omega, by first | (rw [fp_yes hx h18]; exact hS.take 1) | (rw [fp_no hx h18]; exact hS.take 1)⟩, ⟨rfl, rfl, rfl, rfl, rfl, rfl, rfl, trivial⟩, by show l.length - (k + 1) < l.length - k; omega⟩
    ·first | replace h18 := of_decide_eq_true h18 | replace h18 := of_decide_eq_false h18 | skip
     refine CW.skip (KW.inBlock (KW.then (CW.region ?_)))
     refine LW.p (PEv.inc (.tmp rfl) (by omega)) rfl rfl rfl ?_
     refine LW.p (PEv.move (.tmp rfl)) rfl rfl rfl (LW.nil (KW.round ?_))
     first | exact ⟨(k + 1, v24), ⟨by show k + 1 ≤ _; omega, by first | (rw [fp_yes hx h18]; exact hS.take 1) | (rw [fp_no hx h18]; exact hS.take 1)⟩, ⟨rfl, rfl, rfl, rfl, rfl, rfl, rfl, trivial⟩, by show l.length - (k + 1) < l.length - k; omega⟩ | exact ⟨(k + 1, v), ⟨by show k + 1 ≤ _; omega, by first | (rw [fp_yes hx h18]; exact hS.take 1) | (rw [fp_no hx h18]; exact hS.take 1)⟩, ⟨rfl, rfl, rfl, rfl, rfl, rfl, rfl, trivial⟩, by show l.length - (k + 1) < l.length - k; omega⟩
   ·first | replace h13 := of_decide_eq_true h13 | replace h13 := of_decide_eq_false h13 | skip
    refine CW.exit (KW.then_exit (KW.then_exit (KW.block_hit (KW.then (CW.seq (CW.region (LW.p (PEv.move (.tmp rfl)) rfl rfl rfl (LW.p (PEv.assign (.tmp rfl)) rfl rfl rfl (LW.nil (KW.then (CW.ret ?_)))))))))))
    refine KW.ret1 rfl rfl ⟨_, rfl, ?_⟩
    have hkl : k = l.length := by omega
    rw [hkl, List.take_length] at hS
    exact ⟨OwnS.ofSep hS, hS.upd⟩
theorem selF_any (pf : Nat) (lb : Array Go.Value) (p : Fact → Bool) (hen : ∀ args w, (callFunc pf args).run Tryz.prog w = .ok (.enter pf args) w) (ad : Option Addr) (cp : Nat) (l : List Fact) (w : World) (hE0 : Els w ad 19 Fact.cells l) (hl : l.length ≤ 1000000000) (hp : ∀ W, Up w W → ∀ x ∈ l, Ret Tryz.prog pf (#[.agg x.cells] ++ lb) W fun r W' => r = .bool (p x) ∧ Up W W') : Ret Tryz.prog 85 #[.slice ad l.length cp, .func (.func 86) #[] #[], .func (.func pf) #[] lb] w fun r w' => OwnS w' w.heap.size 46 19 Fact.cells r (l.filter p) ∧ Up w w' := by
  obtain ⟨w0, rfl⟩ : ∃ w0, w0 = w := ⟨_, rfl⟩
  have hS := Sep.start no w0
  refine Calls_start (n := 27) (m := 9) Tryz.func85 rfl rfl rfl ?_
  refine CW.seq (CW.region (LW.p (PEv.assign (.const _)) rfl rfl rfl (LW.nil (KW.then (CW.seq (CW.region (LW.p (PEv.assign (.const _)) rfl rfl rfl (LW.nil (KW.then (CW.seq (CW.seq ?_)))))))))))
  replace hS := hS.add (Up.refl _) (A' := aOwn 46 19 Fact.cells (.slice none 0 0) ([] : List Fact)) (OwnS.nil _ _ _ _ _) (fun i h => by cases h)
  change Wx.Sep _ _ _ [_] at hS
  refine CW.region (LW.p (PEv.move (.tmp rfl)) rfl rfl rfl ?_)
  refine LW.p (PEv.lenS Tryz.underlying112 (.tmp rfl)) rfl rfl rfl ?_
  refine LW.p (PEv.move (.const _)) rfl rfl rfl ?_
  refine LW.nil (KW.then (CW.block ?_))
  refine CW.loopB (σ := Nat × Go.Value) (fun s w => (s.1 ≤ l.length) ∧ (Wx.Sep no w0 w [aOwn 46 19 Fact.cells s.2 ((l.take s.1).filter p)])) (fun s => [(12, .eq (vi (s.1 : Int))), (7, .eq (s.2))]) ([(1, .eq _), (2, .eq _), (6, .eq _), (10, .eq _), (11, .eq _)]) (fun s => l.length - s.1) (0, .slice none 0 0) ?_ ⟨rfl, rfl, rfl, rfl, rfl, rfl, rfl, trivial⟩ ?_
  ·exact ⟨Nat.zero_le _, hS⟩
  ·rintro ⟨k, v⟩ w1 ⟨hk, hS⟩
   dsimp only at hk hS
   change CW _ _ _ _ _ _ _ ([(12, .eq (vi (k : Int))), (7, .eq (v))] ++ _) _
   refine CW.seq (CW.region ?_)
   refine LW.p (PEv.lss (.tmp rfl) (.tmp rfl)) rfl rfl rfl ?_
   refine LW.nil (KW.then (CW.seq ?_))
   refine CW.cond (.tmp rfl) (fun h13 => ?_) (fun h13 => ?_)
   ·first | replace h13 := of_decide_eq_true h13 | replace h13 := of_decide_eq_false h13 | skip
    refine CW.skip (KW.then (CW.seq (CW.block (CW.seq ?_))))
    have hE := hE0.up hS.upd
    refine CW.region ?_
    obtain ⟨x, hx⟩ := getElem?_of_lt (xs := l) (i := k) (by omega)
    obtain ⟨Bx, ox, ax, hcx⟩ := hE _ x hx
    refine LW.p (PEv.indexAddr' Tryz.underlying112 Tryz.sizeOf114 (.tmp rfl) (.tmp rfl) (by omega) ax) rfl rfl rfl ?_
    refine LW.p (PEv.loadA Tryz.isAgg114 Tryz.sizeOf114 rfl (.tmp rfl) (hcx)) rfl rfl rfl ?_
    refine LW.r (REv.allocA Tryz.zeroValue114) rfl rfl rfl rfl ?_
    rintro _ w2 ⟨B9, rfl, MB9⟩
    refine LW.s (SEv.storeA Tryz.sizeOf114 rfl (.tmp rfl) (.tmp rfl) (Fact.one _) MB9.blk rfl) rfl rfl rfl ?_
    intro w3 LB9
    have NB9 := MB9.set LB9
    clear LB9 MB9
    have eB9 := NB9.at_
    have zB9 := NB9.size
    replace hcx := hcx.up NB9.up
    replace hS := hS.addB NB9
    change Wx.Sep _ _ _ [_, _] at hS
    refine LW.nil (KW.then (CW.seq (CW.region (LW.p (PEv.move (.tmp rfl)) rfl rfl rfl ?_))))
    refine LW.p (PEv.loadA Tryz.isAgg114 Tryz.sizeOf114 rfl (.tmp rfl) ((hS.blk 1 rfl).agg)) rfl rfl rfl ?_
    refine LW.c (enter_call (.tmp rfl) (.cons (.tmp rfl) .nil) (hen)) rfl rfl rfl rfl (hp _ hS.upd x (List.mem_of_getElem? hx)) ?_
    rintro _ w4 ⟨rfl, uw4⟩
    have zw4 := uw4.size
    replace hS := hS.up uw4
    refine LW.nil (KW.then ?_)
    refine CW.cond (.tmp rfl) (fun h18 => ?_) (fun h18 => ?_)
    ·first | replace h18 := of_decide_eq_true h18 | replace h18 := of_decide_eq_false h18 | skip
     have hfl := filt_len p l k
     refine CW.region (LW.p (PEv.move (.tmp rfl)) rfl rfl rfl (LW.p (PEv.move (.tmp rfl)) rfl rfl rfl ?_))
     refine LW.p (PEv.loadA Tryz.isAgg114 Tryz.sizeOf114 rfl (.tmp rfl) ((hS.blk 1 rfl).agg)) rfl rfl rfl ?_
     refine LW.c (enter_callv (.tmp rfl) (.cons (.tmp rfl) .nil) (Tryz.en86)) rfl rfl rfl rfl (ofG_any _ _) ?_
     rintro _ w5 ⟨rfl, uw5⟩
     have zw5 := uw5.size
     replace hS := hS.up uw5
     refine LW.r (REv.buildSlice (xs := [x]) (enc := Fact.cells) (mk := fun f : Fact => .agg f.cells) Tryz.underlying22 Tryz.sizeOf46 Tryz.zeroValue46 rfl (by decide) (fun _ => rfl) (fun _ => rfl) (.cons (.tmp rfl) .nil) rfl) rfl rfl rfl rfl ?_
     rintro _ w6 ⟨B23, cB23, rfl, NB23, yB23, xB23⟩
     have eB23 := NB23.at_
     have zB23 := NB23.size
     replace hS := hS.up NB23.up
     have hE23 := xB23
     refine LW.r (REv.appendF (enc := Fact.cells) (bytes := 160) (i := Tryz.t46) Tryz.underlying22 (by kernel_rfl) rfl rfl rfl rfl (by decide) (fun _ => rfl) Fact.one (.tmp rfl) (.tmp rfl) (hS.own 0 rfl) (Sl.of_els hE23) (by have := hfl; simp [maxLen]; omega) (by have := hfl; simp; omega)) rfl rfl rfl rfl ?_
     intro v24 w7 Gw7
     have zw7 := Gw7.fr.size
     replace hS := hS.stp 0 rfl Gw7
     change Wx.Sep _ _ _ [_, _] at hS
     refine LW.p (PEv.assign (.tmp rfl)) rfl rfl rfl (LW.nil (KW.inBlock (KW.then (CW.region ?_))))
     refine LW.p (PEv.inc (.tmp rfl) (by omega)) rfl rfl rfl ?_
     refine LW.p (PEv.move (.tmp rfl)) rfl rfl rfl (LW.nil (KW.round ?_))
     first | exact ⟨(k + 1, v24), ⟨by show k + 1 ≤ _; omega, by first | (rw [fp_yes hx h18]; exact hS.take 1) | (rw [fp_no hx h18]; exact hS.take 1)⟩, ⟨rfl, rfl, rfl, rfl, rfl, rfl, rfl, trivial⟩, by show l.length - (k + 1) < l.length - k; omega⟩ | exact ⟨(k + 1, v), ⟨by show k + 1 ≤ _; omega, by first | (rw [fp_yes hx h18]; exact hS.take 1) | (rw [fp_no hx h18]; exact hS.take 1)⟩, ⟨rfl, rfl, rfl, rfl, rfl, rfl, rfl, trivial⟩, by show l.length - (k + 1) < l.length - k; omega⟩
    ·first | replace h18 := of_decide_eq_true h18 | replace h18 := of_decide_eq_false h18 | skip
     refine CW.skip (KW.inBlock (KW.then (CW.region ?_)))
     refine LW.p (PEv.inc (.tmp rfl) (by omega)) rfl rfl rfl ?_
     refine LW.p (PEv.move (.tmp rfl)) rfl rfl rfl (LW.nil (KW.round ?_))
     first | exact ⟨(k + 1, v24), ⟨by show k + 1 ≤ _; omega, by first | (rw [fp_yes hx h18]; exact hS.take 1) | (rw [fp_no hx h18]; exact hS.take 1)⟩, ⟨rfl, rfl, rfl, rfl, rfl, rfl, rfl, trivial⟩, by show l.length - (k + 1) < l.length - k; omega⟩ | exact ⟨(k + 1, v), ⟨by show k + 1 ≤ _; omega, by first | (rw [fp_yes hx h18]; exact hS.take 1) | (rw [fp_no hx h18]; exact hS.take 1)⟩, ⟨rfl, rfl, rfl, rfl, rfl, rfl, rfl, trivial⟩, by show l.length - (k + 1) < l.length - k; omega⟩
   ·first | replace h13 := of_decide_eq_true h13 | replace h13 := of_decide_eq_false h13 | skip
    refine CW.exit (KW.then_exit (KW.then_exit (KW.block_hit (KW.then (CW.seq (CW.region (LW.p (PEv.move (.tmp rfl)) rfl rfl rfl (LW.p (PEv.assign (.tmp rfl)) rfl rfl rfl (LW.nil (KW.then (CW.ret ?_)))))))))))
    refine KW.ret1 rfl rfl ⟨_, rfl, ?_⟩
    have hkl : k = l.length := by omega
    rw [hkl, List.take_length] at hS
    exact ⟨OwnS.ofSep hS, hS.upd⟩
end Go.Proofs.YthfjagphcekcbaaGreat
namespace Go.Wx
def lkI (m : List (Int × Int)) (k : Int) : Option Int := (m.find? fun p => decide (p.1 = k)).map (·.2)
def mkv (m : List (Int × Int)) : List (Int × Go.Value) := m.map fun p => (p.1, vi p.2)
def setI (m : List (Int × Int)) (k v : Int) : List (Int × Int) := if k ∈ m.map (·.1) then m.map (fun p => if p.1 = k then (k, v) else p) else m ++ [(k, v)]
def whoM (m : List (Int × Int)) (k : Int) : Int := (lkI m k).getD k
def swapM (m : List (Int × Int)) (f : Fact) : List (Int × Int) := setI (setI m f.Wafer (whoM m f.Other)) f.Other (whoM m f.Wafer)
def swOk (t : Int) (f : Fact) : Bool := isIDb f.Wafer && isIDb f.Other && decide (f.Time ≤ t)
def marksAt (l : List Fact) (t : Int) : List (Int × Int) := (ordG (swOk t) l).foldl swapM []
def whoL (l : List Fact) (t mark : Int) : Int := if isIDb mark = true then whoM (marksAt l t) mark else 0
theorem ordG_len (p : Fact → Bool) (l : List Fact) : (ordG p l).length ≤ l.length := by
  unfold ordG
  rw [(sortK_sts _).same.length]
  exact List.length_filter_le _ _
theorem mkv_keys (m : List (Int × Int)) : (mkv m).map (·.1) = m.map (·.1) := by unfold mkv; rw [List.map_map]; rfl
theorem mset_mkv (m : List (Int × Int)) (k v : Int) : mset (mkv m) k (vi v) = mkv (setI m k v) := by
  unfold mset setI
  rw [mkv_keys]
  split
  · unfold mkv
    rw [List.map_map, List.map_map]
    refine List.map_congr_left fun p _ => ?_
    simp only [Function.comp]
    split <;> rfl
  · unfold mkv
    rw [List.map_append]; rfl
theorem lkI_some {m : List (Int × Int)} {k v : Int} (h : lkI m k = some v) : (k, v) ∈ m := by
  unfold lkI at h
  cases hf : m.find? (fun p => decide (p.1 = k)) with
  | none => rw [hf] at h; cases h
  | some p =>
    rw [hf] at h
    have h1 : p.1 = k := by simpa using List.find?_some hf
    have h2 := List.mem_of_find?_eq_some hf
    simp at h
    rw [← h, ← h1]
    exact h2
theorem lkI_none {m : List (Int × Int)} {k : Int} (h : lkI m k = none) : k ∉ m.map (·.1) := by
  unfold lkI at h
  rw [Option.map_eq_none_iff, List.find?_eq_none] at h
  intro hm
  obtain ⟨p, hp, e⟩ := List.mem_map.1 hm
  exact h p hp (decide_eq_true e)
theorem PEv.lookupI {P : Program} {n : Nat} {ds : List Deferred} {l : Env} {w : World} {d : Option Tmp} {ty : TypeId} {ps : String} {af : Array Edge} {g : Option (Nat × Bool)} {T K E : TypeId} {mo x : Operand} {b : Nat} {k : Int} {m : List (Int × Int)} (hT : P.underlying T = some (.map K E)) (hK : P.underlying K = some (.int .i64)) (hz : ∀ w, (zeroValue E).run P w = .ok (vi 0) w) (hm : Val l mo (.map (some b))) (hx : Val l x (vi k)) (h : IMap w b (mkv m)) :
    PEv P n ds l w ⟨d, .lookup T mo x true, ty, ps, af, g⟩ (.tuple #[vi ((lkI m k).getD 0), .bool (lkI m k).isSome]) := by
  cases hl : lkI m k with
  | none => exact PEv.lookupNo (ok := true) hT hK hz hm hx h (by rw [mkv_keys]; exact lkI_none hl)
  | some v => exact PEv.lookupYes (ok := true) (v := vi v) hT hK hm hx h (List.mem_map.2 ⟨(k, v), lkI_some hl, rfl⟩)
theorem stp_map {b : Nat} {kv kv' : List (Int × Go.Value)} {w w' : World} (h : IMap w' b kv') (k : Fr (· = b) w w') : Stp (aIMap b kv) (aIMap b kv') w w' := ⟨k, h, fun _ h => .inl h⟩
end Go.Wx
namespace Go.Proofs.YthfjagphcekcbaaGreat
open Go.Wx Go.RowKit
theorem isID_any (n : Int) (w : World) : Ret Tryz.prog 38 #[vi n] w fun r w' => r = .bool (isIDb n) ∧ Up w w' := by
  have hW := Up.refl w
  refine Calls_start (n := 9) (m := 9) Tryz.func38 rfl rfl rfl ?_
  refine CW.seq (CW.region (LW.p (PEv.assign (.const _)) rfl rfl rfl (LW.nil (KW.then (CW.seq (CW.region (LW.p (PEv.move (.tmp rfl)) rfl rfl rfl ?_)))))))
  refine LW.p (PEv.geq (.tmp rfl) (.const _)) rfl rfl rfl ?_
  refine LW.p (PEv.move (.tmp rfl)) rfl rfl rfl ?_
  refine LW.g rfl rfl rfl rfl rfl rfl rfl (fun hc => PEv.move (.tmp rfl)) ?_
  refine LW.g rfl rfl rfl rfl rfl rfl rfl (fun hc => PEv.leq (by first | exact .tmp rfl | exact .cond rfl (by first | assumption | simp_all)) (.const _)) ?_
  refine LW.p (PEv.pick_and (.tmp rfl) (fun hp => (by first | exact .const _ | exact .tmp rfl | exact .cond rfl (by first | assumption | simp_all)))) rfl rfl rfl ?_
  refine LW.p (PEv.assign (.tmp rfl)) rfl rfl rfl (LW.nil (KW.then (CW.ret ?_)))
  refine KW.ret1 rfl rfl ⟨_, rfl, ?_⟩
  exact ⟨rfl, hW⟩
theorem ofM_any (b : Nat) (m : List (Int × Int)) (mark : Int) (w : World) (hM : IMap w b (mkv m)) : Ret Tryz.prog 41 #[.map (some b), vi mark] w fun r w' => r = vi (whoM m mark) ∧ Up w w' := by
  have hW := Up.refl w
  refine Calls_start (n := 16) (m := 9) Tryz.func41 rfl rfl rfl ?_
  refine CW.seq (CW.region (LW.p (PEv.assign (.const _)) rfl rfl rfl (LW.nil (KW.then (CW.seq (CW.seq (CW.region (LW.p (PEv.move (.tmp rfl)) rfl rfl rfl (LW.p (PEv.move (.tmp rfl)) rfl rfl rfl ?_)))))))))
  refine LW.p (PEv.lookupI Tryz.underlying71 Tryz.underlying3 Tryz.zeroValue3 (.tmp rfl) (.tmp rfl) hM) rfl rfl rfl ?_
  refine LW.p (PEv.move (.tmp rfl)) rfl rfl rfl (LW.p (PEv.extract (.tmp rfl) rfl) rfl rfl rfl (LW.p (PEv.extract (.tmp rfl) rfl) rfl rfl rfl (LW.p (PEv.assign (.tmp rfl)) rfl rfl rfl (LW.p (PEv.assign (.tmp rfl)) rfl rfl rfl (LW.nil (KW.then (CW.seq (CW.region (LW.p (PEv.move (.tmp rfl)) rfl rfl rfl (LW.nil (KW.then ?_)))))))))))
  refine CW.cond (.tmp rfl) (fun h13 => ?_) (fun h13 => ?_)
  ·first | replace h13 := of_decide_eq_true h13 | replace h13 := of_decide_eq_false h13 | skip
   obtain ⟨v, hv⟩ := Option.isSome_iff_exists.1 h13
   refine CW.seq (CW.region (LW.p (PEv.move (.tmp rfl)) rfl rfl rfl (LW.p (PEv.assign (.tmp rfl)) rfl rfl rfl (LW.nil (KW.then (CW.ret (KW.then_ret ?_)))))))
   refine KW.ret1 rfl rfl ⟨_, rfl, ?_⟩
   exact ⟨by unfold whoM; rw [hv]; rfl, hW⟩
  ·first | replace h13 := of_decide_eq_true h13 | replace h13 := of_decide_eq_false h13 | skip
   have hv : lkI m mark = none := by simpa using h13
   refine CW.skip (KW.then (CW.seq (CW.region (LW.p (PEv.move (.tmp rfl)) rfl rfl rfl (LW.p (PEv.assign (.tmp rfl)) rfl rfl rfl (LW.nil (KW.then (CW.ret ?_))))))))
   refine KW.ret1 rfl rfl ⟨_, rfl, ?_⟩
   exact ⟨by unfold whoM; rw [hv]; rfl, hW⟩
theorem swapAt_any (f : Fact) (Bm b : Nat) (m : List (Int × Int)) (w : World) (hB : Blk w Bm #[.map (some b)] 71) (hM : IMap w b (mkv m)) : Ret Tryz.prog 79 #[.agg f.cells, .pointer (some ⟨Bm, 0, none⟩)] w fun r w' => r = .tuple #[] ∧ Stp (aIMap b (mkv m)) (aIMap b (mkv (swapM m f))) w w' := by
  have hW := Up.refl w
  refine Calls_start (n := 19) (m := 9) Tryz.func79 rfl rfl rfl ?_
  refine CW.seq (CW.region ?_)
  refine LW.r (REv.boxA (.tmp rfl)) rfl rfl rfl rfl ?_
  rintro _ w1 ⟨B2, rfl, NB2⟩
  have eB2 := NB2.at_
  have zB2 := NB2.size
  replace hB := hB.up NB2.up
  replace hM := hM.up NB2.up
  replace hW := hW.up NB2.up
  have hB2 := NB2.blk
  refine LW.nil (KW.then ?_)
  refine CW.mapswap 18 b 14 15 16 17 13 9 17 18 3 5 12 6 8 16 [.eq (.map (some b)), .eq (.pointer (some ⟨B2, 7, none⟩)), .eq (vi (f.Wafer)), .eq (.map (some b)), .eq (.pointer (some ⟨B2, 8, none⟩)), .eq (vi (f.Other)), .eq (.map (some b)), .eq (.pointer (some ⟨B2, 8, none⟩)), .eq (vi (f.Other)), .eq (vi (whoM m f.Other)), .eq (.map (some b)), .eq (.pointer (some ⟨B2, 7, none⟩)), .eq (vi (f.Wafer)), .eq (vi (whoM m f.Wafer)), .pred fun _ _ => True, .pred fun _ _ => True, .eq undef, .eq undef] (k1 := f.Wafer) (k2 := f.Other) (v1 := vi (whoM m f.Other)) (v2 := vi (whoM m f.Wafer)) Tryz.underlying71 Tryz.underlying3 Tryz.zeroValue3 (by kernel_rfl) rfl (by kernel_rfl) (by kernel_rfl) (by kernel_rfl) (by kernel_rfl) (by kernel_rfl) (by kernel_rfl) (by kernel_rfl) (by kernel_rfl) (by kernel_rfl) ⟨_, _, _, rfl⟩ ⟨_, _, _, rfl⟩ ⟨_, _, _, rfl⟩ ⟨_, _, _, rfl⟩ ⟨PhC.eq _, PhC.eq _, PhC.eq _, PhC.eq _, PhC.eq _, PhC.eq _, PhC.eq _, PhC.eq _, PhC.eq _, PhC.eq _, PhC.eq _, PhC.eq _, PhC.eq _, PhC.eq _, PhC.pred (fun _ _ _ _ _ => trivial), PhC.pred (fun _ _ _ _ _ => trivial), PhC.eq _, PhC.eq _, trivial⟩ (fun _ _ => trivial) (fun _ _ => trivial) (fun _ h => by cases h; exact ⟨rfl, rfl⟩) (fun _ h => by cases h; exact ⟨rfl, rfl⟩) (fun _ h => by cases h; exact ⟨rfl, rfl, rfl⟩) hM ?_ ?_
  ·intro W hU
   refine allL.cons (.inr ⟨rfl, fun hI => TU.p (PEv.load Tryz.isAgg71 (.tmp rfl) (hU.cell _ _ (cell_up (hB.celln rfl) (Up.drew _)))) rfl⟩) ?_
   refine allL.cons (.inr ⟨rfl, fun hI => TU.p (PEv.fieldAddr (off := 7) Tryz.underlying46 rfl rfl Tryz.sizeOf3 rfl (.tmp rfl)) rfl⟩) ?_
   refine allL.cons (.inr ⟨rfl, fun hI => TU.p (PEv.load Tryz.isAgg3 (.tmp rfl) (hU.cell _ _ (cell_up (hB2.celln rfl) (Up.drew _)))) rfl⟩) ?_
   refine allL.cons (.inr ⟨rfl, fun hI => TU.p (PEv.load Tryz.isAgg71 (.tmp rfl) (hU.cell _ _ (cell_up (hB.celln rfl) (Up.drew _)))) rfl⟩) ?_
   refine allL.cons (.inr ⟨rfl, fun hI => TU.p (PEv.fieldAddr (off := 8) Tryz.underlying46 rfl rfl Tryz.sizeOf3 rfl (.tmp rfl)) rfl⟩) ?_
   refine allL.cons (.inr ⟨rfl, fun hI => TU.p (PEv.load Tryz.isAgg3 (.tmp rfl) (hU.cell _ _ (cell_up (hB2.celln rfl) (Up.drew _)))) rfl⟩) ?_
   refine allL.cons (.inr ⟨rfl, fun hI => TU.p (PEv.load Tryz.isAgg71 (.tmp rfl) (hU.cell _ _ (cell_up (hB.celln rfl) (Up.drew _)))) rfl⟩) ?_
   refine allL.cons (.inr ⟨rfl, fun hI => TU.p (PEv.fieldAddr (off := 8) Tryz.underlying46 rfl rfl Tryz.sizeOf3 rfl (.tmp rfl)) rfl⟩) ?_
   refine allL.cons (.inr ⟨rfl, fun hI => TU.p (PEv.load Tryz.isAgg3 (.tmp rfl) (hU.cell _ _ (cell_up (hB2.celln rfl) (Up.drew _)))) rfl⟩) ?_
   refine allL.cons (.inr ⟨rfl, fun hI => TU.c (enter_call0 (.cons (.tmp rfl) (.cons (.tmp rfl) .nil)) (Tryz.en41)) (ofM_any _ _ _ _ (hI (.inr rfl))) (by rintro _ W1 ⟨rfl, u⟩; exact ⟨u, rfl⟩)⟩) ?_
   refine allL.cons (.inr ⟨rfl, fun hI => TU.p (PEv.load Tryz.isAgg71 (.tmp rfl) (hU.cell _ _ (cell_up (hB.celln rfl) (Up.drew _)))) rfl⟩) ?_
   refine allL.cons (.inr ⟨rfl, fun hI => TU.p (PEv.fieldAddr (off := 7) Tryz.underlying46 rfl rfl Tryz.sizeOf3 rfl (.tmp rfl)) rfl⟩) ?_
   refine allL.cons (.inr ⟨rfl, fun hI => TU.p (PEv.load Tryz.isAgg3 (.tmp rfl) (hU.cell _ _ (cell_up (hB2.celln rfl) (Up.drew _)))) rfl⟩) ?_
   refine allL.cons (.inr ⟨rfl, fun hI => TU.c (enter_call0 (.cons (.tmp rfl) (.cons (.tmp rfl) .nil)) (Tryz.en41)) (ofM_any _ _ _ _ (hI (.inl rfl))) (by rintro _ W1 ⟨rfl, u⟩; exact ⟨u, rfl⟩)⟩) ?_
   refine allL.cons (.inl (by decide)) ?_
   refine allL.cons (.inl (by decide)) ?_
   refine allL.cons (.inl (by decide)) ?_
   refine allL.cons (.inl (by decide)) ?_
   exact allL.nil
  ·intro w2 hFr hM2
   rw [mset_mkv, mset_mkv] at hM2
   refine LW.nil ?_
   refine KW.end0 rfl ⟨_, rfl, ?_⟩
   exact ⟨rfl, stp_map hM2 ((hW.trans (Up.drew _)).fr _ |>.trans hFr)⟩
theorem swOk_any (f : Fact) (Bt : Nat) (t : Int) (w : World) (hB : Blk w Bt #[vi t] 3) : Ret Tryz.prog 80 #[.agg f.cells, .pointer (some ⟨Bt, 0, none⟩)] w fun r w' => r = .bool (swOk t f) ∧ Up w w' := by
  have hW := Up.refl w
  refine Calls_start (n := 18) (m := 9) Tryz.func80 rfl rfl rfl ?_
  refine CW.seq (CW.region ?_)
  refine LW.r (REv.boxA (.tmp rfl)) rfl rfl rfl rfl ?_
  rintro _ w1 ⟨B2, rfl, NB2⟩
  have eB2 := NB2.at_
  have zB2 := NB2.size
  replace hB := hB.up NB2.up
  replace hW := hW.up NB2.up
  have hB2 := NB2.blk
  refine LW.p (PEv.assign (.const _)) rfl rfl rfl (LW.nil (KW.then (CW.seq (CW.region ?_))))
  refine LW.p (PEv.fieldAddr (off := 7) Tryz.underlying46 rfl rfl Tryz.sizeOf3 rfl (.tmp rfl)) rfl rfl rfl ?_
  refine LW.p (PEv.load Tryz.isAgg3 (.tmp rfl) (hB2.celln rfl)) rfl rfl rfl ?_
  refine LW.c (enter_call0 (.cons (.tmp rfl) .nil) (Tryz.en38)) rfl rfl rfl rfl (isID_any _ _) ?_
  rintro _ w2 ⟨rfl, uw2⟩
  have zw2 := uw2.size
  replace hB := hB.up uw2
  replace hW := hW.up uw2
  replace hB2 := hB2.up uw2
  refine LW.p (PEv.move (.tmp rfl)) rfl rfl rfl ?_
  refine LW.g rfl rfl rfl rfl rfl rfl rfl (fun hc => PEv.fieldAddr (off := 8) Tryz.underlying46 rfl rfl Tryz.sizeOf3 rfl (.tmp rfl)) ?_
  refine LW.g rfl rfl rfl rfl rfl rfl rfl (fun hc => PEv.load Tryz.isAgg3 (by first | exact .tmp rfl | exact .cond rfl (by first | assumption | simp_all)) (hB2.celln rfl)) ?_
  refine LW.gc rfl rfl rfl rfl rfl rfl rfl rfl (fun hc => enter_call0 (.cons (by first | exact .tmp rfl | exact .cond rfl (by first | assumption | simp_all)) .nil) (Tryz.en38)) (fun hc => isID_any _ _) ?_
  intro w3 uw3
  have zw3 := uw3.size
  replace hB := hB.up uw3
  replace hW := hW.up uw3
  replace hB2 := hB2.up uw3
  refine LW.p (PEv.pick_and (.tmp rfl) (fun hp => (by first | exact .const _ | exact .tmp rfl | exact .cond rfl (by first | assumption | simp_all)))) rfl rfl rfl ?_
  refine LW.p (PEv.move (.tmp rfl)) rfl rfl rfl ?_
  refine LW.g rfl rfl rfl rfl rfl rfl rfl (fun hc => PEv.fieldAddr (off := 5) Tryz.underlying46 rfl rfl Tryz.sizeOf3 rfl (.tmp rfl)) ?_
  refine LW.g rfl rfl rfl rfl rfl rfl rfl (fun hc => PEv.load Tryz.isAgg3 (by first | exact .tmp rfl | exact .cond rfl (by first | assumption | simp_all)) (hB2.celln rfl)) ?_
  refine LW.g rfl rfl rfl rfl rfl rfl rfl (fun hc => PEv.load Tryz.isAgg3 (.tmp rfl) (hB.celln rfl)) ?_
  refine LW.g rfl rfl rfl rfl rfl rfl rfl (fun hc => PEv.leq (by first | exact .tmp rfl | exact .cond rfl (by first | assumption | simp_all)) (by first | exact .tmp rfl | exact .cond rfl (by first | assumption | simp_all))) ?_
  refine LW.p (PEv.pick_and (.tmp rfl) (fun hp => (by first | exact .const _ | exact .tmp rfl | exact .cond rfl (by first | assumption | simp_all)))) rfl rfl rfl ?_
  refine LW.p (PEv.assign (.tmp rfl)) rfl rfl rfl (LW.nil (KW.then (CW.ret ?_)))
  refine KW.ret1 rfl rfl ⟨_, rfl, ?_⟩
  exact ⟨rfl, hW⟩
theorem ssfG_any (v : Go.Value) (xs : List Fact) (w : World) (ho : OwnS w 0 114 19 Fact.cells v xs) (h63 : xs.length ≤ 1000000000) : Ret Tryz.prog 83 #[v, .func (.func 84) #[] #[]] w fun r w' => r = .tuple #[] ∧ Stp (aOwn 114 19 Fact.cells v xs) (aOwn 114 19 Fact.cells v (sortK keyTI xs)) w w' := by
  have h0 := ho
  obtain ⟨_, ⟨rfl, hn⟩ | ⟨g, cap, cur, rfl, _⟩⟩ := h0
  · have hx : xs = [] := List.eq_nil_of_length_eq_zero hn
    subst hx
    exact (Gs.stableFunc_nil _ w).mono fun r w' ⟨e, u⟩ => ⟨e, (Stp.refl ho).up u⟩
  · refine (Gs.stableFunc_any 84 #[] keyTI Tryz.en84 g xs.length cap xs w ho h63 (fun W _ x y => compareG_any x y W)).mono ?_
    rintro r w' ⟨e, zs, hz, hs⟩
    rw [hz.eq] at hs
    exact ⟨e, hs⟩
theorem ordered_any (pf : Nat) (lb : Array Go.Value) (p : Fact → Bool) (hen : ∀ args w, (callFunc pf args).run Tryz.prog w = .ok (.enter pf args) w) (ad : Option Addr) (cp : Nat) (l : List Fact) (w : World) (hE0 : Els w ad 19 Fact.cells l) (hl : l.length ≤ 1000000000) (hp : ∀ W, Up w W → ∀ x ∈ l, Ret Tryz.prog pf (#[.agg x.cells] ++ lb) W fun r W' => r = .bool (p x) ∧ Up W W') : Ret Tryz.prog 43 #[.slice ad l.length cp, .func (.func pf) #[] lb] w fun r w' => OwnS w' w.heap.size 46 19 Fact.cells r (ordG p l) ∧ Up w w' := by
  obtain ⟨w0, rfl⟩ : ∃ w0, w0 = w := ⟨_, rfl⟩
  have hS := Sep.start no w0
  refine Calls_start (n := 13) (m := 9) Tryz.func43 rfl rfl rfl ?_
  refine CW.seq (CW.region (LW.p (PEv.assign (.const _)) rfl rfl rfl (LW.nil (KW.then (CW.seq (CW.region (LW.p (PEv.move (.tmp rfl)) rfl rfl rfl (LW.p (PEv.move (.tmp rfl)) rfl rfl rfl ?_))))))))
  refine LW.c (enter_call0 (.cons (.tmp rfl) (.cons (.func _) (.cons (.tmp rfl) .nil))) (Tryz.en81)) rfl rfl rfl rfl (selG_any pf lb p hen ad cp l _ (Els.up hE0 hS.upd) hl (fun W hU => hp W (hS.upd.trans hU))) ?_
  rintro v8 w1 ⟨hO8, uw1⟩
  have zw1 := uw1.size
  replace hS := hS.add uw1 (A' := aOwn 114 19 Fact.cells v8 (l.filter p)) (hO8.mono (Nat.zero_le _)) (fun i h => hO8.base i h)
  change Wx.Sep _ _ _ [_] at hS
  clear hO8
  refine LW.p (PEv.assign (.tmp rfl)) rfl rfl rfl (LW.nil (KW.then (CW.seq (CW.region (LW.p (PEv.move (.tmp rfl)) rfl rfl rfl ?_)))))
  refine LW.c (enter_call0 (.cons (.tmp rfl) (.cons (.func _) .nil)) (Tryz.en83)) rfl rfl rfl rfl (ssfG_any v8 (l.filter p) _ (hS.own 0 rfl) (Nat.le_trans (List.length_filter_le _ _) hl)) ?_
  rintro _ w2 ⟨rfl, uw2⟩
  have zw2 := uw2.fr.size
  replace hS := hS.stp 0 rfl uw2
  change Wx.Sep _ _ _ [_] at hS
  obtain ⟨ad9, cp9, rfl, hE9⟩ := (hS.own 0 rfl).sl (fun _ => rfl)
  have hl9 : (sortK keyTI (l.filter p)).length ≤ 1000000000 := by rw [(sortK_sts _).same.length]; exact Nat.le_trans (List.length_filter_le _ _) hl
  refine LW.nil (KW.then (CW.seq (CW.region (LW.p (PEv.move (.tmp rfl)) rfl rfl rfl ?_))))
  refine LW.c (enter_call0 (.cons (.tmp rfl) (.cons (.func _) (.cons (.func _) .nil))) (Tryz.en85)) rfl rfl rfl rfl (selF_any 87 #[] (fun _ => true) Tryz.en87 ad9 cp9 (sortK keyTI (l.filter p)) _ hE9 hl9 (fun W _ x _ => trueG_any x W)) ?_
  rintro v12 w3 ⟨hO12, uw3⟩
  have zw3 := uw3.size
  replace hS := hS.up uw3
  rw [List.filter_eq_self.2 (fun _ _ => rfl)] at hO12
  replace hO12 := hO12.mono (show w0.heap.size ≤ _ by omega)
  refine LW.p (PEv.assign (.tmp rfl)) rfl rfl rfl (LW.nil (KW.then (CW.ret ?_)))
  refine KW.ret1 rfl rfl ⟨_, rfl, ?_⟩
  exact ⟨hO12, hS.upd⟩
theorem at_any (bc : Array Go.Value) (bs : Base) (time : Int) (w : World) (hC : BaseC w bc bs) (hl : bs.Swaps.length ≤ 1000000000) : Ret Tryz.prog 40 #[.agg bc, vi time] w fun r w' => ∃ b, r = .map (some b) ∧ IMap w' b (mkv (marksAt bs.Swaps time)) ∧ w.heap.size ≤ b ∧ Up w w' := by
  obtain ⟨w0, rfl⟩ : ∃ w0, w0 = w := ⟨_, rfl⟩
  have hS := Sep.start no w0
  refine Calls_start (n := 25) (m := 9) Tryz.func40 rfl rfl rfl ?_
  refine CW.seq (CW.region ?_)
  refine LW.r (REv.boxA (.tmp rfl)) rfl rfl rfl rfl ?_
  rintro _ w1 ⟨B2, rfl, NB2⟩
  have eB2 := NB2.at_
  have zB2 := NB2.size
  replace hS := hS.addB NB2
  change Wx.Sep _ _ _ [_] at hS
  refine LW.r (REv.box1 (.tmp rfl) rfl) rfl rfl rfl rfl ?_
  rintro _ w2 ⟨B3, rfl, NB3⟩
  have eB3 := NB3.at_
  have zB3 := NB3.size
  replace hS := hS.addB NB3
  change Wx.Sep _ _ _ [_, _] at hS
  refine LW.p (PEv.assign (.const _)) rfl rfl rfl (LW.nil (KW.then (CW.seq ?_)))
  skip
  refine CW.region ?_
  refine LW.r REv.makeMap rfl rfl rfl rfl ?_
  rintro _ w3 ⟨M9, rfl, hMM9, uw3, eM9, zw3⟩
  replace hS := hS.add uw3 (A' := aIMap M9 (mkv [])) hMM9 (fun i (h : i = M9) => by omega)
  change Wx.Sep _ _ _ [_, _, _] at hS
  refine LW.r (REv.alloc1 Tryz.zeroValue71 rfl) rfl rfl rfl rfl ?_
  rintro _ w4 ⟨B5, rfl, MB5⟩
  refine LW.s (SEv.store Tryz.sizeOf71 (.tmp rfl) (.tmp rfl) rfl MB5.blk (by decide)) rfl rfl rfl ?_
  intro w5 LB5
  have NB5 := MB5.set LB5
  clear LB5 MB5
  have eB5 := NB5.at_
  have zB5 := NB5.size
  replace hS := hS.addB NB5
  change Wx.Sep _ _ _ [_, _, _, _] at hS
  refine LW.nil (KW.then (CW.seq (CW.region ?_)))
  refine LW.p (PEv.makeFunc (.cons (.tmp rfl) .nil)) rfl rfl rfl ?_
  refine LW.p (PEv.assign (.tmp rfl)) rfl rfl rfl (LW.nil (KW.then (CW.seq (CW.seq ?_))))
  obtain ⟨v2, h2, ad, cp, rfl, hEs⟩ := (hC.up hS.upd).at2
  refine CW.region ?_
  refine LW.p (PEv.fieldAddr (off := 2) Tryz.underlying24 rfl rfl Tryz.sizeOf22 rfl (.tmp rfl)) rfl rfl rfl ?_
  refine LW.p (PEv.load Tryz.isAgg22 (.tmp rfl) ((hS.blk 0 rfl).cell h2)) rfl rfl rfl ?_
  refine LW.p (PEv.makeFunc (.cons (.tmp rfl) .nil)) rfl rfl rfl ?_
  refine LW.c (enter_call0 (.cons (.tmp rfl) (.cons (.tmp rfl) .nil)) (Tryz.en43)) rfl rfl rfl rfl (ordered_any 80 #[.pointer (some ⟨B3, 0, none⟩)] (swOk time) Tryz.en80 ad cp bs.Swaps _ hEs hl (fun W hU x _ => swOk_any x B3 time W (((hS.blk 1 rfl)).up hU))) ?_
  rintro v14 w6 ⟨hO14, uw6⟩
  have zw6 := uw6.size
  replace hS := hS.add uw6 (A' := aOwn 46 19 Fact.cells v14 ((ordG (swOk time) bs.Swaps))) (hO14.mono (Nat.zero_le _)) (fun i h => hO14.base i h)
  change Wx.Sep _ _ _ [_, _, _, _, _] at hS
  clear hO14
  obtain ⟨ad14, cp14, rfl, _⟩ := (hS.own 4 rfl).sl (fun _ => rfl)
  refine LW.p (PEv.lenS Tryz.underlying22 (.tmp rfl)) rfl rfl rfl ?_
  refine LW.p (PEv.move (.const _)) rfl rfl rfl ?_
  refine LW.nil (KW.then (CW.block ?_))
  refine CW.loopB (σ := Nat) (fun s w => (s ≤ (ordG (swOk time) bs.Swaps).length) ∧ (Wx.Sep no w0 w [aBlk B2 bc 24, aBlk B3 #[vi time] 3, aIMap M9 (mkv (((ordG (swOk time) bs.Swaps).take s).foldl swapM [])), aBlk B5 #[.map (some M9)] 71, aOwn 46 19 Fact.cells (.slice ad14 (ordG (swOk time) bs.Swaps).length cp14) ((ordG (swOk time) bs.Swaps))])) (fun s => [(16, .eq (vi (s : Int)))]) ([(4, .eq _), (5, .eq _), (6, .eq _), (14, .eq _), (15, .eq _)]) (fun s => (ordG (swOk time) bs.Swaps).length - s) 0 ?_ ⟨rfl, rfl, rfl, rfl, rfl, rfl, trivial⟩ ?_
  ·exact ⟨Nat.zero_le _, hS⟩
  ·rintro k w7 ⟨hk, hS⟩
   refine CW.seq (CW.region ?_)
   refine LW.p (PEv.lss (.tmp rfl) (.tmp rfl)) rfl rfl rfl ?_
   refine LW.nil (KW.then (CW.seq ?_))
   refine CW.cond (.tmp rfl) (fun h17 => ?_) (fun h17 => ?_)
   ·first | replace h17 := of_decide_eq_true h17 | replace h17 := of_decide_eq_false h17 | skip
    refine CW.skip (KW.then (CW.seq (CW.block (CW.seq ?_))))
    have hE := (hS.own 4 rfl).els (fun _ => rfl)
    have hol := ordG_len (swOk time) bs.Swaps
    refine CW.region ?_
    obtain ⟨x, hx⟩ := getElem?_of_lt (xs := (ordG (swOk time) bs.Swaps)) (i := k) (by omega)
    obtain ⟨Bx, ox, ax, hcx⟩ := hE _ x hx
    refine LW.p (PEv.indexAddr' Tryz.underlying22 Tryz.sizeOf46 (.tmp rfl) (.tmp rfl) (by omega) ax) rfl rfl rfl ?_
    refine LW.p (PEv.loadA Tryz.isAgg46 Tryz.sizeOf46 rfl (.tmp rfl) (hcx)) rfl rfl rfl ?_
    refine LW.r (REv.allocA Tryz.zeroValue46) rfl rfl rfl rfl ?_
    rintro _ w8 ⟨B8, rfl, MB8⟩
    refine LW.s (SEv.storeA Tryz.sizeOf46 rfl (.tmp rfl) (.tmp rfl) (Fact.one _) MB8.blk rfl) rfl rfl rfl ?_
    intro w9 LB8
    have NB8 := MB8.set LB8
    clear LB8 MB8
    have eB8 := NB8.at_
    have zB8 := NB8.size
    replace hcx := hcx.up NB8.up
    replace hS := hS.addB NB8
    change Wx.Sep _ _ _ [_, _, _, _, _, _] at hS
    refine LW.nil (KW.then (CW.region (LW.p (PEv.move (.tmp rfl)) rfl rfl rfl ?_)))
    refine LW.p (PEv.loadA Tryz.isAgg46 Tryz.sizeOf46 rfl (.tmp rfl) ((hS.blk 5 rfl).agg)) rfl rfl rfl ?_
    refine LW.c (enter_call (.tmp rfl) (.cons (.tmp rfl) .nil) (Tryz.en79)) rfl rfl rfl rfl (swapAt_any x B5 M9 _ _ (hS.blk 3 rfl) (hS.get 2 rfl)) ?_
    rintro _ w10 ⟨rfl, uw10⟩
    have zw10 := uw10.fr.size
    replace hS := hS.stp 2 rfl uw10
    change Wx.Sep _ _ _ [_, _, _, _, _, _] at hS
    refine LW.nil (KW.inBlock (KW.then (CW.region ?_)))
    refine LW.p (PEv.inc (.tmp rfl) (by omega)) rfl rfl rfl ?_
    refine LW.p (PEv.move (.tmp rfl)) rfl rfl rfl (LW.nil (KW.round ?_))
    exact ⟨k + 1, ⟨by omega, by rw [take_succ_of hx, List.foldl_append]; exact hS.take 5⟩, ⟨rfl, rfl, rfl, rfl, rfl, rfl, trivial⟩, by first | omega | (dsimp only; omega)⟩
   ·first | replace h17 := of_decide_eq_true h17 | replace h17 := of_decide_eq_false h17 | skip
    refine CW.exit (KW.then_exit (KW.then_exit (KW.block_hit (KW.then (CW.seq (CW.region ?_))))))
    refine LW.p (PEv.load Tryz.isAgg71 (.tmp rfl) ((hS.blk 3 rfl).celln rfl)) rfl rfl rfl ?_
    refine LW.p (PEv.assign (.tmp rfl)) rfl rfl rfl (LW.nil (KW.then (CW.ret ?_)))
    refine KW.ret1 rfl rfl ⟨_, rfl, ?_⟩
    have hkl : k = (ordG (swOk time) bs.Swaps).length := by omega
    rw [hkl, List.take_length] at hS
    exact ⟨M9, rfl, hS.get 2 rfl, (hS.foot 2 rfl M9 rfl).resolve_left (fun h => h), hS.upd⟩
end Go.Proofs.YthfjagphcekcbaaGreat
namespace Go.Wx
def lotTakes (wafer time : Int) (best : Option Fact) (f : Fact) : Bool := isIDb wafer && decide (f.Wafer = wafer) && decide (f.Time ≤ time) && (match best with | none => true | some g => decide (g.Time < f.Time))
def lotStep (wafer time : Int) (best : Option Fact) (f : Fact) : Option Fact := if lotTakes wafer time best f = true then some f else best
def lotBest (l : List Fact) (wafer time : Int) : Option Fact := l.foldl (lotStep wafer time) none
def lotOf (l : List Fact) (wafer time : Int) : Int × Int := match lotBest l wafer time with | none => (0, 0) | some f => (f.Lot, f.Product)
theorem lotBest_snoc (l : List Fact) (f : Fact) (wafer time : Int) : lotBest (l ++ [f]) wafer time = lotStep wafer time (lotBest l wafer time) f := by simp [lotBest]
def ptrBest (ad : Option Addr) (k : Nat) : Option Nat → Option Addr
  | none => none
  | some j => ad.map fun a => ⟨a.block, a.off + j * k, none⟩
def tau (f : Fact) (k : Int) : Int := if k = f.Wafer then f.Other else if k = f.Other then f.Wafer else k
def whoF (L : List Fact) (k : Int) : Int := L.foldr tau k
def markF (L : List Fact) (k : Int) : Int := L.foldl (fun k f => tau f k) k
def markL (l : List Fact) (t w : Int) : Int := if isIDb w = true then markF (ordG (swOk t) l) w else 0
theorem tau_tau (f : Fact) (k : Int) : tau f (tau f k) = k := by
  unfold tau
  by_cases h1 : k = f.Wafer
  · rw [if_pos h1]
    by_cases h2 : f.Other = f.Wafer
    · rw [if_pos h2, h1]; exact h2
    · rw [if_neg h2, if_pos rfl, h1]
  · rw [if_neg h1]
    by_cases h2 : k = f.Other
    · rw [if_pos h2, if_pos rfl, h2]
    · rw [if_neg h2, if_neg h1, if_neg h2]
theorem lkI_cons (p : Int × Int) (m : List (Int × Int)) (j : Int) : lkI (p :: m) j = if p.1 = j then some p.2 else lkI m j := by
  unfold lkI
  rw [List.find?_cons]
  by_cases h : p.1 = j
  · rw [decide_eq_true h, if_pos h]; rfl
  · rw [decide_eq_false h, if_neg h]
theorem lkI_app (m : List (Int × Int)) (k v j : Int) (hk : k ∉ m.map (·.1)) : lkI (m ++ [(k, v)]) j = if j = k then some v else lkI m j := by
  induction m with
  | nil =>
    rw [List.nil_append, lkI_cons]
    by_cases h : j = k
    · rw [if_pos h, if_pos h.symm]
    · rw [if_neg h, if_neg (Ne.symm h)]
  | cons p m ih =>
    rw [List.map_cons, List.mem_cons, not_or] at hk
    rw [List.cons_append, lkI_cons, lkI_cons, ih hk.2]
    by_cases h : p.1 = j
    · rw [if_pos h, if_pos h, if_neg (fun e => hk.1 (by rw [h, e]))]
    · rw [if_neg h, if_neg h]
theorem lkI_rep (m : List (Int × Int)) (k v j : Int) (hk : k ∈ m.map (·.1)) : lkI (m.map fun p => if p.1 = k then (k, v) else p) j = if j = k then some v else lkI m j := by
  have gen : ∀ m : List (Int × Int), lkI (m.map fun p => if p.1 = k then (k, v) else p) j = if j = k then (if k ∈ m.map (·.1) then some v else none) else lkI m j := by
    intro m
    induction m with
    | nil => by_cases h : j = k <;> simp [h, lkI]
    | cons p m ih =>
      rw [List.map_cons, lkI_cons, ih, lkI_cons]
      by_cases h : j = k
      · subst h
        by_cases e : p.1 = j
        · simp [e]
        · have hm : (j ∈ (p :: m).map (·.1)) ↔ j ∈ m.map (·.1) := by rw [List.map_cons, List.mem_cons]; exact ⟨fun h => h.resolve_left (fun x => e x.symm), .inr⟩
          rw [if_neg e, if_neg e, if_pos rfl, if_pos rfl]
          by_cases hk : j ∈ m.map (·.1)
          · rw [if_pos hk, if_pos (hm.2 hk)]
          · rw [if_neg hk, if_neg (fun x => hk (hm.1 x))]
      · by_cases e : p.1 = k
        · rw [if_pos e, if_neg (Ne.symm h), if_neg h, if_neg h, if_neg (by rw [e]; exact Ne.symm h)]
        · rw [if_neg e, if_neg h, if_neg h]
  rw [gen, if_pos hk]
theorem lkI_set (m : List (Int × Int)) (k v j : Int) : lkI (setI m k v) j = if j = k then some v else lkI m j := by
  unfold setI
  split
  · exact lkI_rep m k v j (by assumption)
  · exact lkI_app m k v j (by assumption)
theorem whoM_swap (m : List (Int × Int)) (f : Fact) (k : Int) : whoM (swapM m f) k = whoM m (tau f k) := by
  unfold swapM
  show (lkI (setI (setI m f.Wafer (whoM m f.Other)) f.Other (whoM m f.Wafer)) k).getD k = whoM m (tau f k)
  rw [lkI_set, lkI_set]
  unfold tau
  by_cases h1 : k = f.Wafer
  · rw [if_pos h1, if_pos h1]
    by_cases h2 : k = f.Other
    · rw [if_pos h2, ← h1, ← h2]; rfl
    · rw [if_neg h2]; rfl
  · rw [if_neg h1, if_neg h1]
    by_cases h2 : k = f.Other
    · rw [if_pos h2, if_pos h2]; rfl
    · rw [if_neg h2, if_neg h2]; rfl
theorem whoM_fold (L : List Fact) : ∀ (m : List (Int × Int)) (k : Int), whoM (L.foldl swapM m) k = whoM m (whoF L k) := by
  induction L with
  | nil => intro m k; rfl
  | cons f L ih => intro m k; rw [List.foldl_cons, ih, whoM_swap]; rfl
theorem whoM_marks (L : List Fact) (k : Int) : whoM (L.foldl swapM []) k = whoF L k := by rw [whoM_fold]; rfl
theorem mark_who (L : List Fact) (k : Int) : markF L (whoF L k) = k := by
  induction L with
  | nil => rfl
  | cons f L ih =>
    show markF L (tau f (tau f (whoF L k))) = k
    rw [tau_tau, ih]
theorem who_mark (L : List Fact) : ∀ w : Int, whoF L (markF L w) = w := by
  induction L with
  | nil => intro w; rfl
  | cons f L ih =>
    intro w
    show tau f (whoF L (markF L (tau f w))) = w
    rw [ih, tau_tau]
theorem lkI_mem {m : List (Int × Int)} {k v : Int} (hn : (m.map (·.1)).Nodup) (h : (k, v) ∈ m) : lkI m k = some v := by
  induction m with
  | nil => cases h
  | cons p m ih =>
    rw [List.map_cons, List.nodup_cons] at hn
    rw [lkI_cons]
    rcases List.mem_cons.1 h with e | e
    · rw [← e, if_pos rfl]
    · rw [if_neg (fun x => hn.1 (by rw [x]; exact List.mem_map.2 ⟨_, e, rfl⟩)), ih hn.2 e]
theorem mkv_mem {m : List (Int × Int)} {k : Int} {u : Go.Value} (h : (k, u) ∈ mkv m) : ∃ v, (k, v) ∈ m ∧ u = vi v := by
  obtain ⟨p, hp, e⟩ := List.mem_map.1 h
  cases e
  exact ⟨p.2, hp, rfl⟩
theorem mark_found {L : List Fact} {k v w : Int} (hn : ((L.foldl swapM []).map (·.1)).Nodup) (h : (k, v) ∈ L.foldl swapM []) (e : v = w) : markF L w = k := by
  have h1 : whoM (L.foldl swapM []) k = v := by unfold whoM; rw [lkI_mem hn h]; rfl
  rw [whoM_marks] at h1
  rw [← e, ← h1, mark_who]
theorem mark_none {L : List Fact} {w : Int} (h : ∀ k v, (k, v) ∈ L.foldl swapM [] → v ≠ w) : markF L w = w := by
  have h1 := who_mark L w
  rw [← whoM_marks] at h1
  unfold whoM at h1
  cases hl : lkI (L.foldl swapM []) (markF L w) with
  | none => rw [hl] at h1; exact h1
  | some v => rw [hl] at h1; exact absurd h1 (h _ v (lkI_some hl))
def histL (ps ss : List Fact) (w : Int) : List Fact := if isIDb w = true then ordG (fun f => decide (whoL ss f.Time f.Wafer = w)) ps else []
theorem take_eq_step {xs ys : List Int} {k : Nat} {x y : Int} (h : xs.take k = ys.take k) (hx : xs[k]? = some x) (hy : ys[k]? = some y) (e : x = y) : xs.take (k + 1) = ys.take (k + 1) := by rw [take_succ_of hx, take_succ_of hy, h, e]
theorem ne_of_at {xs ys : List Int} {k : Nat} {x y : Int} (hx : xs[k]? = some x) (hy : ys[k]? = some y) (e : ¬ x = y) : ¬ xs = ys := fun h => e (by subst h; rw [hx] at hy; cases hy; rfl)
end Go.Wx
namespace Go.Proofs.YthfjagphcekcbaaGreat
open Go.Wx Go.RowKit
set_option maxHeartbeats 1000000 in
theorem lot_any (bc : Array Go.Value) (b : Base) (wafer time : Int) (w : World) (hC : BaseC w bc b) (hlen : b.Lots.length < 9223372036854775807) : Ret Tryz.prog 16 #[.agg bc, vi wafer, vi time] w fun r w' => r = .tuple #[vi (lotOf b.Lots wafer time).1, vi (lotOf b.Lots wafer time).2] ∧ Up w w' := by
  have hW := Up.refl w
  obtain ⟨w0, rfl⟩ : ∃ w0, w0 = w := ⟨_, rfl⟩
  refine Calls_start (n := 61) (m := 9) Tryz.func16 rfl rfl rfl ?_
  refine CW.seq (CW.region ?_)
  refine LW.r (REv.boxA (.tmp rfl)) rfl rfl rfl rfl ?_
  rintro _ w1 ⟨B3, rfl, NB3⟩
  have eB3 := NB3.at_
  have zB3 := NB3.size
  replace hC := hC.up NB3.up
  replace hW := hW.up NB3.up
  have hB3 := NB3.blk
  refine LW.p (PEv.assign (.const _)) rfl rfl rfl (LW.p (PEv.assign (.const _)) rfl rfl rfl (LW.nil (KW.then (CW.seq (CW.region (LW.p (PEv.assign (.const _)) rfl rfl rfl (LW.nil (KW.then (CW.seq (CW.seq ?_))))))))))
  obtain ⟨v3, h3, hr⟩ := hC.at3
  obtain ⟨ad, cp, rfl, hE⟩ := hr
  refine CW.region ?_
  refine LW.p (PEv.fieldAddr (off := 3) Tryz.underlying24 rfl rfl Tryz.sizeOf22 rfl (.tmp rfl)) rfl rfl rfl ?_
  refine LW.p (PEv.load Tryz.isAgg22 (.tmp rfl) (hB3.cell h3)) rfl rfl rfl ?_
  refine LW.p (PEv.lenS Tryz.underlying22 (.tmp rfl)) rfl rfl rfl ?_
  refine LW.p (PEv.move (.const _)) rfl rfl rfl ?_
  refine LW.nil (KW.then (CW.block ?_))
  refine CW.loop (σ := Nat × Option Nat) (fun s w => (s.1 ≤ b.Lots.length ∧ (∀ j, s.2 = some j → j < s.1) ∧ (s.2.bind fun j => b.Lots[j]?) = lotBest (b.Lots.take s.1) wafer time) ∧ Els w ad 19 Fact.cells b.Lots ∧ Blk w B3 bc 24 ∧ Up w0 w) (fun s => [(8, .eq (.pointer (ptrBest ad 19 s.2))), (14, .eq (vi (s.1 : Int))), (1, .eq (vi wafer)), (2, .eq (vi time)), (3, .eq (.pointer (some ⟨B3, 0, none⟩))), (12, .eq (.slice ad b.Lots.length cp)), (13, .eq (vi (b.Lots.length : Int)))]) (fun s => b.Lots.length - s.1) (0, none) ?_ ?_ ?_
  ·exact ⟨⟨Nat.zero_le _, fun j e => (by cases e), rfl⟩, hE, hB3, hW⟩
  ·exact ⟨rfl, rfl, rfl, rfl, rfl, rfl, rfl, trivial⟩
  ·rintro ⟨k, best⟩ w2 ⟨⟨hk, hj, hbest⟩, hE, hB3, hW⟩
   dsimp only at hk hj hbest
   rcases best with _ | j
   ·skip
    refine CW.seq (CW.region ?_)
    refine LW.p (PEv.lss (.tmp rfl) (.tmp rfl)) rfl rfl rfl ?_
    refine LW.nil (KW.then (CW.seq ?_))
    refine CW.cond (.tmp rfl) (fun h15 => ?_) (fun h15 => ?_)
    ·first | replace h15 := of_decide_eq_true h15 | replace h15 := of_decide_eq_false h15 | skip
     refine CW.skip (KW.then (CW.seq (CW.block (CW.seq ?_))))
     obtain ⟨x, hx⟩ := getElem?_of_lt (xs := b.Lots) (i := k) (by omega)
     obtain ⟨B, o, had, hcell⟩ := hE k x hx
     subst had
     refine CW.region (LW.p (PEv.move (.tmp rfl)) rfl rfl rfl ?_)
     refine LW.p (PEv.indexAddr Tryz.underlying22 Tryz.sizeOf46 (.tmp rfl) (.tmp rfl) (by omega)) rfl rfl rfl ?_
     refine LW.p (PEv.loadA Tryz.isAgg46 Tryz.sizeOf46 rfl (.tmp rfl) (hcell)) rfl rfl rfl ?_
     refine LW.r (REv.allocA Tryz.zeroValue46) rfl rfl rfl rfl ?_
     rintro _ w3 ⟨B10, rfl, MB10⟩
     refine LW.p (PEv.assign (.tmp rfl)) rfl rfl rfl ?_
     refine LW.s (SEv.storeA Tryz.sizeOf46 rfl (.tmp rfl) (.tmp rfl) (by first | rfl | exact Fact.one _ | exact GAct.one _ | exact holdCells_one _ _ | exact hold0_one | (simp [Value.oneCell'])) MB10.blk rfl) rfl rfl rfl ?_
     intro w4 LB10
     have NB10 := MB10.set LB10
     clear LB10 MB10
     have eB10 := NB10.at_
     have zB10 := NB10.size
     replace hE := hE.up NB10.up
     replace hB3 := hB3.up NB10.up
     replace hW := hW.up NB10.up
     have hB10 := NB10.blk
     refine LW.nil (KW.then (CW.seq ?_))
     refine CW.draws (by kernel_rfl) (by kernel_rfl) rfl rfl ?_
     refine HW.p (PEv.move (.tmp rfl)) rfl rfl ?_
     refine HW.c (fun a w _ ha => enter_call0 (.cons (.tmp rfl) .nil) (Tryz.en38) a ha) rfl rfl (fun w hu => isID_any _ _) ?_
     refine HW.p (PEv.move (.tmp rfl)) rfl rfl ?_
     refine HW.g rfl rfl rfl rfl rfl rfl (fun hc => PEv.fieldAddr (off := 7) Tryz.underlying46 rfl rfl Tryz.sizeOf3 rfl (.tmp rfl)) ?_
     refine HW.g rfl rfl rfl rfl rfl rfl (fun hc => PEv.load Tryz.isAgg3 (by first | exact .tmp rfl | exact .cond rfl (by first | assumption | simp_all)) (hB10.celln rfl)) ?_
     refine HW.g rfl rfl rfl rfl rfl rfl (fun hc => PEv.move (.tmp rfl)) ?_
     refine HW.g rfl rfl rfl rfl rfl rfl (fun hc => PEv.eql (by first | exact .tmp rfl | exact .cond rfl (by first | assumption | simp_all)) (by first | exact .tmp rfl | exact .cond rfl (by first | assumption | simp_all))) ?_
     refine HW.p (PEv.pick_and (.tmp rfl) (fun hp => (by first | exact .const _ | exact .tmp rfl | exact .cond rfl (by first | assumption | simp_all)))) rfl rfl ?_
     refine HW.p (PEv.move (.tmp rfl)) rfl rfl ?_
     refine HW.g rfl rfl rfl rfl rfl rfl (fun hc => PEv.fieldAddr (off := 5) Tryz.underlying46 rfl rfl Tryz.sizeOf3 rfl (.tmp rfl)) ?_
     refine HW.g rfl rfl rfl rfl rfl rfl (fun hc => PEv.load Tryz.isAgg3 (by first | exact .tmp rfl | exact .cond rfl (by first | assumption | simp_all)) (hB10.celln rfl)) ?_
     refine HW.g rfl rfl rfl rfl rfl rfl (fun hc => PEv.move (.tmp rfl)) ?_
     refine HW.g rfl rfl rfl rfl rfl rfl (fun hc => PEv.leq (by first | exact .tmp rfl | exact .cond rfl (by first | assumption | simp_all)) (by first | exact .tmp rfl | exact .cond rfl (by first | assumption | simp_all))) ?_
     refine HW.p (PEv.pick_and (.tmp rfl) (fun hp => (by first | exact .const _ | exact .tmp rfl | exact .cond rfl (by first | assumption | simp_all)))) rfl rfl ?_
     refine HW.p (PEv.move (.tmp rfl)) rfl rfl ?_
     refine HW.g rfl rfl rfl rfl rfl rfl (fun hc => PEv.move (.tmp rfl)) ?_
     refine HW.g rfl rfl rfl rfl rfl rfl (fun hc => PEv.eqlNil Tryz.underlying68 (by first | exact .tmp rfl | exact .cond rfl (by first | assumption | simp_all))) ?_
     refine HW.g rfl rfl rfl rfl rfl rfl (fun hc => PEv.move (by first | exact .tmp rfl | exact .cond rfl (by first | assumption | simp_all))) ?_
     refine HW.nog rfl rfl rfl rfl rfl rfl rfl ?_
     refine HW.nog rfl rfl rfl rfl rfl rfl rfl ?_
     refine HW.nog rfl rfl rfl rfl rfl rfl rfl ?_
     refine HW.nog rfl rfl rfl rfl rfl rfl rfl ?_
     refine HW.nog rfl rfl rfl rfl rfl rfl rfl ?_
     refine HW.nog rfl rfl rfl rfl rfl rfl rfl ?_
     refine HW.nog rfl rfl rfl rfl rfl rfl rfl ?_
     refine HW.g rfl rfl rfl rfl rfl rfl (fun hc => PEv.pick_or (b := true) (by first | exact .tmp rfl | exact .cond rfl (by first | assumption | simp_all)) (fun hp => absurd (show true = false from hp) (by decide))) ?_
     refine HW.p (PEv.pick_and (.tmp rfl) (fun hp => (by first | exact .const _ | exact .tmp rfl | exact .cond rfl (by first | assumption | simp_all)))) rfl rfl ?_
     refine HW.nil ?_
     intro w5 uw5
     have zw5 := uw5.size
     replace hE := hE.up uw5
     replace hB3 := hB3.up uw5
     replace hW := hW.up uw5
     replace hB10 := hB10.up uw5
     refine KW.then ?_
     refine CW.cond (.tmp rfl) (fun h45 => ?_) (fun h45 => ?_)
     ·first | replace h45 := of_decide_eq_true h45 | replace h45 := of_decide_eq_false h45 | skip
      have hnew : lotBest (b.Lots.take (k + 1)) wafer time = some x := by rw [take_succ_of hx, lotBest_snoc, ← hbest]; exact if_pos (by simpa [lotTakes, ptrBest] using h45)
      have hend : ∃ s' : Nat × Option Nat, s'.2 = some k ∧ s'.1 = k + 1 := ⟨(k + 1, some k), rfl, rfl⟩
      refine CW.region ?_
      refine LW.p (PEv.fieldAddr (off := 3) Tryz.underlying24 rfl rfl Tryz.sizeOf22 rfl (.tmp rfl)) rfl rfl rfl ?_
      refine LW.p (PEv.load Tryz.isAgg22 (.tmp rfl) (hB3.cell h3)) rfl rfl rfl ?_
      refine LW.p (PEv.move (.tmp rfl)) rfl rfl rfl ?_
      refine LW.p (PEv.indexAddr Tryz.underlying22 Tryz.sizeOf46 (.tmp rfl) (.tmp rfl) (by omega)) rfl rfl rfl ?_
      refine LW.p (PEv.assign (.tmp rfl)) rfl rfl rfl (LW.nil (KW.inBlock (KW.then (CW.region ?_))))
      refine LW.p (PEv.inc (.tmp rfl) (by omega)) rfl rfl rfl ?_
      refine LW.p (PEv.move (.tmp rfl)) rfl rfl rfl (LW.nil (KW.round ?_))
      first | exact ⟨(k + 1, some k), ⟨⟨by omega, fun j e => (by cases e; omega), by rw [hnew]; exact hx⟩, hE, hB3, hW⟩, ⟨rfl, rfl, rfl, rfl, rfl, rfl, rfl, trivial⟩, by omega⟩ | exact ⟨(k + 1, none), ⟨⟨by omega, fun j e => (by cases e), by rw [hnew]; rfl⟩, hE, hB3, hW⟩, ⟨rfl, rfl, rfl, rfl, rfl, rfl, rfl, trivial⟩, by dsimp only; omega⟩ | exact ⟨(k + 1, some j), ⟨⟨by omega, fun i e => (by cases e; have := hj j rfl; omega), by rw [hnew]; exact hy⟩, hE, hB3, hW⟩, ⟨rfl, rfl, rfl, rfl, rfl, rfl, rfl, trivial⟩, by dsimp only; omega⟩
     ·first | replace h45 := of_decide_eq_true h45 | replace h45 := of_decide_eq_false h45 | skip
      have hnew : lotBest (b.Lots.take (k + 1)) wafer time = none := by rw [take_succ_of hx, lotBest_snoc, ← hbest]; exact if_neg (by simpa [lotTakes, ptrBest] using h45)
      refine CW.skip (KW.inBlock (KW.then (CW.region ?_)))
      refine LW.p (PEv.inc (.tmp rfl) (by omega)) rfl rfl rfl ?_
      refine LW.p (PEv.move (.tmp rfl)) rfl rfl rfl (LW.nil (KW.round ?_))
      first | exact ⟨(k + 1, some k), ⟨⟨by omega, fun j e => (by cases e; omega), by rw [hnew]; exact hx⟩, hE, hB3, hW⟩, ⟨rfl, rfl, rfl, rfl, rfl, rfl, rfl, trivial⟩, by omega⟩ | exact ⟨(k + 1, none), ⟨⟨by omega, fun j e => (by cases e), by rw [hnew]; rfl⟩, hE, hB3, hW⟩, ⟨rfl, rfl, rfl, rfl, rfl, rfl, rfl, trivial⟩, by dsimp only; omega⟩ | exact ⟨(k + 1, some j), ⟨⟨by omega, fun i e => (by cases e; have := hj j rfl; omega), by rw [hnew]; exact hy⟩, hE, hB3, hW⟩, ⟨rfl, rfl, rfl, rfl, rfl, rfl, rfl, trivial⟩, by dsimp only; omega⟩
    ·first | replace h15 := of_decide_eq_true h15 | replace h15 := of_decide_eq_false h15 | skip
     have hkk : k = b.Lots.length := by omega
     subst hkk
     rw [List.take_length] at hbest
     have hres : lotOf b.Lots wafer time = (0, 0) := by unfold lotOf; rw [← hbest]; rfl
     refine CW.exit (KW.then_exit (KW.then_exit (KW.block_hit (KW.then (CW.seq (CW.seq (CW.region (LW.p (PEv.move (.tmp rfl)) rfl rfl rfl ?_))))))))
     refine LW.p (PEv.eqlNil Tryz.underlying68 (.tmp rfl)) rfl rfl rfl ?_
     refine LW.nil (KW.then ?_)
     refine CW.cond_true (.tmp rfl) ?_
     refine CW.seq (CW.region (LW.p (PEv.assign (.const _)) rfl rfl rfl (LW.p (PEv.assign (.const _)) rfl rfl rfl (LW.nil (KW.then (CW.ret (KW.then_ret ?_)))))))
     refine KW.ret2 rfl rfl rfl ⟨_, rfl, ?_⟩
     exact ⟨by rw [hres] <;> rfl, hW⟩
   ·obtain ⟨y, hy⟩ := getElem?_of_lt (xs := b.Lots) (i := j) (by have := hj j rfl; omega)
    obtain ⟨B, o, had, hyc⟩ := hE j y hy
    subst had
    have hby : lotBest (b.Lots.take k) wafer time = some y := by rw [← hbest]; exact hy
    refine CW.seq (CW.region ?_)
    refine LW.p (PEv.lss (.tmp rfl) (.tmp rfl)) rfl rfl rfl ?_
    refine LW.nil (KW.then (CW.seq ?_))
    refine CW.cond (.tmp rfl) (fun h15 => ?_) (fun h15 => ?_)
    ·first | replace h15 := of_decide_eq_true h15 | replace h15 := of_decide_eq_false h15 | skip
     refine CW.skip (KW.then (CW.seq (CW.block (CW.seq ?_))))
     obtain ⟨x, hx⟩ := getElem?_of_lt (xs := b.Lots) (i := k) (by omega)
     obtain ⟨B', o', e', hcell⟩ := hE k x hx
     cases e'
     refine CW.region (LW.p (PEv.move (.tmp rfl)) rfl rfl rfl ?_)
     refine LW.p (PEv.indexAddr Tryz.underlying22 Tryz.sizeOf46 (.tmp rfl) (.tmp rfl) (by omega)) rfl rfl rfl ?_
     refine LW.p (PEv.loadA Tryz.isAgg46 Tryz.sizeOf46 rfl (.tmp rfl) (hcell)) rfl rfl rfl ?_
     refine LW.r (REv.allocA Tryz.zeroValue46) rfl rfl rfl rfl ?_
     rintro _ w6 ⟨B10, rfl, MB10⟩
     refine LW.p (PEv.assign (.tmp rfl)) rfl rfl rfl ?_
     refine LW.s (SEv.storeA Tryz.sizeOf46 rfl (.tmp rfl) (.tmp rfl) (by first | rfl | exact Fact.one _ | exact GAct.one _ | exact holdCells_one _ _ | exact hold0_one | (simp [Value.oneCell'])) MB10.blk rfl) rfl rfl rfl ?_
     intro w7 LB10
     have NB10 := MB10.set LB10
     clear LB10 MB10
     have eB10 := NB10.at_
     have zB10 := NB10.size
     replace hE := hE.up NB10.up
     replace hB3 := hB3.up NB10.up
     replace hW := hW.up NB10.up
     replace hyc := hyc.up NB10.up
     have hB10 := NB10.blk
     refine LW.nil (KW.then (CW.seq ?_))
     refine CW.draws (by kernel_rfl) (by kernel_rfl) rfl rfl ?_
     refine HW.p (PEv.move (.tmp rfl)) rfl rfl ?_
     refine HW.c (fun a w _ ha => enter_call0 (.cons (.tmp rfl) .nil) (Tryz.en38) a ha) rfl rfl (fun w hu => isID_any _ _) ?_
     refine HW.p (PEv.move (.tmp rfl)) rfl rfl ?_
     refine HW.g rfl rfl rfl rfl rfl rfl (fun hc => PEv.fieldAddr (off := 7) Tryz.underlying46 rfl rfl Tryz.sizeOf3 rfl (.tmp rfl)) ?_
     refine HW.g rfl rfl rfl rfl rfl rfl (fun hc => PEv.load Tryz.isAgg3 (by first | exact .tmp rfl | exact .cond rfl (by first | assumption | simp_all)) (hB10.celln rfl)) ?_
     refine HW.g rfl rfl rfl rfl rfl rfl (fun hc => PEv.move (.tmp rfl)) ?_
     refine HW.g rfl rfl rfl rfl rfl rfl (fun hc => PEv.eql (by first | exact .tmp rfl | exact .cond rfl (by first | assumption | simp_all)) (by first | exact .tmp rfl | exact .cond rfl (by first | assumption | simp_all))) ?_
     refine HW.p (PEv.pick_and (.tmp rfl) (fun hp => (by first | exact .const _ | exact .tmp rfl | exact .cond rfl (by first | assumption | simp_all)))) rfl rfl ?_
     refine HW.p (PEv.move (.tmp rfl)) rfl rfl ?_
     refine HW.g rfl rfl rfl rfl rfl rfl (fun hc => PEv.fieldAddr (off := 5) Tryz.underlying46 rfl rfl Tryz.sizeOf3 rfl (.tmp rfl)) ?_
     refine HW.g rfl rfl rfl rfl rfl rfl (fun hc => PEv.load Tryz.isAgg3 (by first | exact .tmp rfl | exact .cond rfl (by first | assumption | simp_all)) (hB10.celln rfl)) ?_
     refine HW.g rfl rfl rfl rfl rfl rfl (fun hc => PEv.move (.tmp rfl)) ?_
     refine HW.g rfl rfl rfl rfl rfl rfl (fun hc => PEv.leq (by first | exact .tmp rfl | exact .cond rfl (by first | assumption | simp_all)) (by first | exact .tmp rfl | exact .cond rfl (by first | assumption | simp_all))) ?_
     refine HW.p (PEv.pick_and (.tmp rfl) (fun hp => (by first | exact .const _ | exact .tmp rfl | exact .cond rfl (by first | assumption | simp_all)))) rfl rfl ?_
     refine HW.p (PEv.move (.tmp rfl)) rfl rfl ?_
     refine HW.g rfl rfl rfl rfl rfl rfl (fun hc => PEv.move (.tmp rfl)) ?_
     refine HW.g rfl rfl rfl rfl rfl rfl (fun hc => PEv.eqlNil Tryz.underlying68 (by first | exact .tmp rfl | exact .cond rfl (by first | assumption | simp_all))) ?_
     refine HW.g rfl rfl rfl rfl rfl rfl (fun hc => PEv.move (by first | exact .tmp rfl | exact .cond rfl (by first | assumption | simp_all))) ?_
     refine HW.gg rfl rfl rfl rfl rfl rfl (fun hc => PEv.fieldAddr (off := 5) Tryz.underlying46 rfl rfl Tryz.sizeOf3 rfl (.tmp rfl)) ?_
     refine HW.gg rfl rfl rfl rfl rfl rfl (fun hc => PEv.load Tryz.isAgg3 (by first | exact .tmp rfl | exact .cond rfl (by first | assumption | simp_all)) (hB10.celln rfl)) ?_
     refine HW.gg rfl rfl rfl rfl rfl rfl (fun hc => PEv.move (.tmp rfl)) ?_
     refine HW.gg rfl rfl rfl rfl rfl rfl (fun hc => PEv.nilCheck (by first | exact .tmp rfl | exact .cond rfl (by first | assumption | simp_all))) ?_
     refine HW.gg rfl rfl rfl rfl rfl rfl (fun hc => PEv.fieldAddr (off := 5) Tryz.underlying46 rfl rfl Tryz.sizeOf3 rfl (by first | exact .tmp rfl | exact .cond rfl (by first | assumption | simp_all))) ?_
     refine HW.gg rfl rfl rfl rfl rfl rfl (fun hc => PEv.load Tryz.isAgg3 (by first | exact .tmp rfl | exact .cond rfl (by first | assumption | simp_all)) (hyc.nth (j := 5) rfl)) ?_
     refine HW.gg rfl rfl rfl rfl rfl rfl (fun hc => PEv.gtr (by first | exact .tmp rfl | exact .cond rfl (by first | assumption | simp_all)) (by first | exact .tmp rfl | exact .cond rfl (by first | assumption | simp_all))) ?_
     refine HW.g rfl rfl rfl rfl rfl rfl (fun hc => PEv.pick_or (by first | exact .tmp rfl | exact .cond rfl (by first | assumption | simp_all)) (fun hp => (by first | exact .const _ | exact .tmp rfl | exact .cond rfl (by first | assumption | simp_all)))) ?_
     refine HW.p (PEv.pick_and (.tmp rfl) (fun hp => (by first | exact .const _ | exact .tmp rfl | exact .cond rfl (by first | assumption | simp_all)))) rfl rfl ?_
     refine HW.nil ?_
     intro w8 uw8
     have zw8 := uw8.size
     replace hE := hE.up uw8
     replace hB3 := hB3.up uw8
     replace hW := hW.up uw8
     replace hyc := hyc.up uw8
     replace hB10 := hB10.up uw8
     refine KW.then ?_
     refine CW.cond (.tmp rfl) (fun h45 => ?_) (fun h45 => ?_)
     ·first | replace h45 := of_decide_eq_true h45 | replace h45 := of_decide_eq_false h45 | skip
      have hnew : lotBest (b.Lots.take (k + 1)) wafer time = some x := by rw [take_succ_of hx, lotBest_snoc, hby]; exact if_pos (by simpa [lotTakes, ptrBest] using h45)
      refine CW.region ?_
      refine LW.p (PEv.fieldAddr (off := 3) Tryz.underlying24 rfl rfl Tryz.sizeOf22 rfl (.tmp rfl)) rfl rfl rfl ?_
      refine LW.p (PEv.load Tryz.isAgg22 (.tmp rfl) (hB3.cell h3)) rfl rfl rfl ?_
      refine LW.p (PEv.move (.tmp rfl)) rfl rfl rfl ?_
      refine LW.p (PEv.indexAddr Tryz.underlying22 Tryz.sizeOf46 (.tmp rfl) (.tmp rfl) (by omega)) rfl rfl rfl ?_
      refine LW.p (PEv.assign (.tmp rfl)) rfl rfl rfl (LW.nil (KW.inBlock (KW.then (CW.region ?_))))
      refine LW.p (PEv.inc (.tmp rfl) (by omega)) rfl rfl rfl ?_
      refine LW.p (PEv.move (.tmp rfl)) rfl rfl rfl (LW.nil (KW.round ?_))
      first | exact ⟨(k + 1, some k), ⟨⟨by omega, fun j e => (by cases e; omega), by rw [hnew]; exact hx⟩, hE, hB3, hW⟩, ⟨rfl, rfl, rfl, rfl, rfl, rfl, rfl, trivial⟩, by omega⟩ | exact ⟨(k + 1, none), ⟨⟨by omega, fun j e => (by cases e), by rw [hnew]; rfl⟩, hE, hB3, hW⟩, ⟨rfl, rfl, rfl, rfl, rfl, rfl, rfl, trivial⟩, by dsimp only; omega⟩ | exact ⟨(k + 1, some j), ⟨⟨by omega, fun i e => (by cases e; have := hj j rfl; omega), by rw [hnew]; exact hy⟩, hE, hB3, hW⟩, ⟨rfl, rfl, rfl, rfl, rfl, rfl, rfl, trivial⟩, by dsimp only; omega⟩
     ·first | replace h45 := of_decide_eq_true h45 | replace h45 := of_decide_eq_false h45 | skip
      have hnew : lotBest (b.Lots.take (k + 1)) wafer time = some y := by rw [take_succ_of hx, lotBest_snoc, hby]; exact if_neg (by simpa [lotTakes, ptrBest] using h45)
      refine CW.skip (KW.inBlock (KW.then (CW.region ?_)))
      refine LW.p (PEv.inc (.tmp rfl) (by omega)) rfl rfl rfl ?_
      refine LW.p (PEv.move (.tmp rfl)) rfl rfl rfl (LW.nil (KW.round ?_))
      first | exact ⟨(k + 1, some k), ⟨⟨by omega, fun j e => (by cases e; omega), by rw [hnew]; exact hx⟩, hE, hB3, hW⟩, ⟨rfl, rfl, rfl, rfl, rfl, rfl, rfl, trivial⟩, by omega⟩ | exact ⟨(k + 1, none), ⟨⟨by omega, fun j e => (by cases e), by rw [hnew]; rfl⟩, hE, hB3, hW⟩, ⟨rfl, rfl, rfl, rfl, rfl, rfl, rfl, trivial⟩, by dsimp only; omega⟩ | exact ⟨(k + 1, some j), ⟨⟨by omega, fun i e => (by cases e; have := hj j rfl; omega), by rw [hnew]; exact hy⟩, hE, hB3, hW⟩, ⟨rfl, rfl, rfl, rfl, rfl, rfl, rfl, trivial⟩, by dsimp only; omega⟩
    ·first | replace h15 := of_decide_eq_true h15 | replace h15 := of_decide_eq_false h15 | skip
     have hkk : k = b.Lots.length := by omega
     subst hkk
     rw [List.take_length] at hby
     have hres : lotOf b.Lots wafer time = (y.Lot, y.Product) := by unfold lotOf; rw [hby]
     refine CW.exit (KW.then_exit (KW.then_exit (KW.block_hit (KW.then (CW.seq (CW.seq (CW.region (LW.p (PEv.move (.tmp rfl)) rfl rfl rfl ?_))))))))
     refine LW.p (PEv.eqlNil Tryz.underlying68 (.tmp rfl)) rfl rfl rfl ?_
     refine LW.nil (KW.then ?_)
     refine CW.cond_false (.tmp rfl) ?_
     refine CW.skip (KW.then (CW.seq ?_))
     refine CW.draws (by kernel_rfl) (by kernel_rfl) rfl rfl ?_
     refine HW.p (PEv.move (.tmp rfl)) rfl rfl ?_
     refine HW.p (PEv.nilCheck (.tmp rfl)) rfl rfl ?_
     refine HW.p (PEv.fieldAddr (off := 9) Tryz.underlying46 rfl rfl Tryz.sizeOf3 rfl (.tmp rfl)) rfl rfl ?_
     refine HW.p (PEv.load Tryz.isAgg3 (.tmp rfl) (hyc.nth (j := 9) rfl)) rfl rfl ?_
     refine HW.p (PEv.move (.tmp rfl)) rfl rfl ?_
     refine HW.p (PEv.nilCheck (.tmp rfl)) rfl rfl ?_
     refine HW.p (PEv.fieldAddr (off := 10) Tryz.underlying46 rfl rfl Tryz.sizeOf3 rfl (.tmp rfl)) rfl rfl ?_
     refine HW.p (PEv.load Tryz.isAgg3 (.tmp rfl) (hyc.nth (j := 10) rfl)) rfl rfl ?_
     refine HW.p (PEv.assign (.tmp rfl)) rfl rfl ?_
     refine HW.p (PEv.assign (.tmp rfl)) rfl rfl ?_
     refine HW.nil ?_
     intro w9 uw9
     have zw9 := uw9.size
     replace hE := hE.up uw9
     replace hB3 := hB3.up uw9
     replace hW := hW.up uw9
     replace hyc := hyc.up uw9
     refine KW.then (CW.ret ?_)
     refine KW.ret2 rfl rfl rfl ⟨_, rfl, ?_⟩
     exact ⟨by rw [hres] <;> rfl, hW⟩
theorem Who_any (bc : Array Go.Value) (bs : Base) (mark time : Int) (w : World) (hC : BaseC w bc bs) (hl : bs.Swaps.length ≤ 1000000000) : Ret Tryz.prog 18 #[.agg bc, vi mark, vi time] w fun r w' => r = vi (whoL bs.Swaps time mark) ∧ Up w w' := by
  have hW := Up.refl w
  refine Calls_start (n := 15) (m := 9) Tryz.func18 rfl rfl rfl ?_
  refine CW.seq (CW.region ?_)
  refine LW.r (REv.boxA (.tmp rfl)) rfl rfl rfl rfl ?_
  rintro _ w1 ⟨B3, rfl, NB3⟩
  have eB3 := NB3.at_
  have zB3 := NB3.size
  replace hC := hC.up NB3.up
  replace hW := hW.up NB3.up
  have hB3 := NB3.blk
  refine LW.p (PEv.assign (.const _)) rfl rfl rfl (LW.nil (KW.then (CW.seq (CW.seq (CW.region (LW.p (PEv.move (.tmp rfl)) rfl rfl rfl ?_))))))
  refine LW.c (enter_call0 (.cons (.tmp rfl) .nil) (Tryz.en38)) rfl rfl rfl rfl (isID_any _ _) ?_
  rintro _ w2 ⟨rfl, uw2⟩
  have zw2 := uw2.size
  replace hC := hC.up uw2
  replace hW := hW.up uw2
  replace hB3 := hB3.up uw2
  refine LW.p (PEv.not (.tmp rfl)) rfl rfl rfl ?_
  refine LW.nil (KW.then ?_)
  refine CW.cond (.tmp rfl) (fun h9 => ?_) (fun h9 => ?_)
  ·first | replace h9 := of_decide_eq_true h9 | replace h9 := of_decide_eq_false h9 | skip
   have hi : isIDb mark = false := by simpa using h9
   refine CW.seq (CW.region (LW.p (PEv.assign (.const _)) rfl rfl rfl (LW.nil (KW.then (CW.ret (KW.then_ret ?_))))))
   refine KW.ret1 rfl rfl ⟨_, rfl, ?_⟩
   first | exact ⟨by rw [whoL, if_neg (by rw [hi]; decide)], hW⟩ | exact ⟨by rw [whoL, if_pos hi], hW⟩
  ·first | replace h9 := of_decide_eq_true h9 | replace h9 := of_decide_eq_false h9 | skip
   have hi : isIDb mark = true := by simpa using h9
   refine CW.skip (KW.then (CW.seq (CW.region ?_)))
   refine LW.p (PEv.loadA Tryz.isAgg24 Tryz.sizeOf24 (hC.size) (.tmp rfl) (hB3.agg)) rfl rfl rfl ?_
   refine LW.p (PEv.move (.tmp rfl)) rfl rfl rfl ?_
   refine LW.c (enter_call0 (.cons (.tmp rfl) (.cons (.tmp rfl) .nil)) (Tryz.en40)) rfl rfl rfl rfl (at_any bc bs time _ hC hl) ?_
   rintro _ w3 ⟨b, rfl, hM, zM, uw3⟩
   have zw3 := uw3.size
   replace hC := hC.up uw3
   replace hW := hW.up uw3
   replace hB3 := hB3.up uw3
   refine LW.p (PEv.move (.tmp rfl)) rfl rfl rfl ?_
   refine LW.c (enter_call0 (.cons (.tmp rfl) (.cons (.tmp rfl) .nil)) (Tryz.en41)) rfl rfl rfl rfl (ofM_any b _ mark _ hM) ?_
   rintro _ w4 ⟨rfl, uw4⟩
   have zw4 := uw4.size
   replace hC := hC.up uw4
   replace hW := hW.up uw4
   replace hB3 := hB3.up uw4
   replace hM := hM.up uw4
   refine LW.p (PEv.assign (.tmp rfl)) rfl rfl rfl (LW.nil (KW.then (CW.ret ?_)))
   refine KW.ret1 rfl rfl ⟨_, rfl, ?_⟩
   first | exact ⟨by rw [whoL, if_neg (by rw [hi]; decide)], hW⟩ | exact ⟨by rw [whoL, if_pos hi], hW⟩
theorem Mark_any (bc : Array Go.Value) (bs : Base) (wafer time : Int) (w : World) (hC : BaseC w bc bs) (hl : bs.Swaps.length ≤ 1000000000) : Ret Tryz.prog 20 #[.agg bc, vi wafer, vi time] w fun r w' => r = vi (markL bs.Swaps time wafer) ∧ Up w w' := by
  have hW := Up.refl w
  obtain ⟨w0, rfl⟩ : ∃ w0, w0 = w := ⟨_, rfl⟩
  refine Calls_start (n := 26) (m := 9) Tryz.func20 rfl rfl rfl ?_
  refine CW.seq (CW.region ?_)
  refine LW.r (REv.boxA (.tmp rfl)) rfl rfl rfl rfl ?_
  rintro _ w1 ⟨B3, rfl, NB3⟩
  have eB3 := NB3.at_
  have zB3 := NB3.size
  replace hC := hC.up NB3.up
  replace hW := hW.up NB3.up
  have hB3 := NB3.blk
  refine LW.p (PEv.assign (.const _)) rfl rfl rfl (LW.nil (KW.then (CW.seq (CW.seq (CW.region (LW.p (PEv.move (.tmp rfl)) rfl rfl rfl ?_))))))
  refine LW.c (enter_call0 (.cons (.tmp rfl) .nil) (Tryz.en38)) rfl rfl rfl rfl (isID_any _ _) ?_
  rintro _ w2 ⟨rfl, uw2⟩
  have zw2 := uw2.size
  replace hC := hC.up uw2
  replace hW := hW.up uw2
  replace hB3 := hB3.up uw2
  refine LW.p (PEv.not (.tmp rfl)) rfl rfl rfl ?_
  refine LW.nil (KW.then ?_)
  refine CW.cond (.tmp rfl) (fun h11 => ?_) (fun h11 => ?_)
  ·first | replace h11 := of_decide_eq_true h11 | replace h11 := of_decide_eq_false h11 | skip
   have hi : isIDb wafer = false := by simpa using h11
   refine CW.seq (CW.region (LW.p (PEv.assign (.const _)) rfl rfl rfl (LW.nil (KW.then (CW.ret (KW.then_ret ?_))))))
   refine KW.ret1 rfl rfl ⟨_, rfl, ?_⟩
   first | exact ⟨by rw [markL, if_neg (by rw [hi]; decide)], hW⟩ | exact ⟨by rw [markL, if_pos hi, hres], hW⟩ | exact ⟨by rw [markL, if_pos hi, mark_none (fun k v hkv => hno k (hPm.symm.subset (by rw [mkv_keys]; exact List.mem_map.2 ⟨_, hkv, rfl⟩)) v hkv)], hW⟩
  ·first | replace h11 := of_decide_eq_true h11 | replace h11 := of_decide_eq_false h11 | skip
   have hi : isIDb wafer = true := by simpa using h11
   refine CW.skip (KW.then (CW.seq (CW.seq (CW.region ?_))))
   refine LW.p (PEv.loadA Tryz.isAgg24 Tryz.sizeOf24 (hC.size) (.tmp rfl) (hB3.agg)) rfl rfl rfl ?_
   refine LW.p (PEv.move (.tmp rfl)) rfl rfl rfl ?_
   refine LW.c (enter_call0 (.cons (.tmp rfl) (.cons (.tmp rfl) .nil)) (Tryz.en40)) rfl rfl rfl rfl (at_any bc bs time _ hC hl) ?_
   rintro _ w3 ⟨b, rfl, hM, zM, uw3⟩
   have zw3 := uw3.size
   replace hC := hC.up uw3
   replace hW := hW.up uw3
   replace hB3 := hB3.up uw3
   refine LW.r (REv.range Tryz.underlying71 (.tmp rfl) hM) rfl rfl rfl rfl ?_
   rintro _ w4 ⟨r15, rfl, hR15, uw4, ew4, zw4⟩
   replace hC := hC.up uw4
   replace hW := hW.up uw4
   replace hB3 := hB3.up uw4
   replace hM := hM.up uw4
   refine LW.nil (KW.then (CW.block ?_))
   refine CW.loop (σ := List Int) (fun s w => (∀ j ∈ s, ∀ v, (j, v) ∈ marksAt bs.Swaps time → v ≠ wafer) ∧ IRng w b r15 (mkv (marksAt bs.Swaps time)) s ∧ Up w0 w) (fun s => [(1, .eq (vi wafer)), (15, .eq (.pointer (some ⟨r15, 0, none⟩)))]) (fun s => (mkv (marksAt bs.Swaps time)).length - s.length) [] ?_ ?_ ?_
   ·exact ⟨fun j hj => (by cases hj), hR15, hW⟩
   ·exact ⟨rfl, rfl, trivial⟩
   ·rintro done w5 ⟨hno, hR15, hW⟩
    have hnd : ((marksAt bs.Swaps time).map (·.1)).Nodup := by rw [← mkv_keys]; exact hR15.map.nodup
    refine CW.seq (CW.region ?_)
    refine LW.r (REv.next (.tmp rfl) hR15) rfl rfl rfl rfl ?_
    rintro _ w6 (⟨rfl, rfl, hPm⟩ | ⟨k, u, rfl, hNx⟩)
    ·skip
     refine LW.p (PEv.extract (.tmp rfl) rfl) rfl rfl rfl (LW.nil (KW.then (CW.seq ?_)))
     refine CW.cond_false (.tmp rfl) ?_
     refine CW.exit (KW.then_exit (KW.then_exit (KW.block_hit (KW.then (CW.seq (CW.region (LW.p (PEv.move (.tmp rfl)) rfl rfl rfl (LW.p (PEv.assign (.tmp rfl)) rfl rfl rfl (LW.nil (KW.then (CW.ret ?_)))))))))))
     refine KW.ret1 rfl rfl ⟨_, rfl, ?_⟩
     first | exact ⟨by rw [markL, if_neg (by rw [hi]; decide)], hW⟩ | exact ⟨by rw [markL, if_pos hi, hres], hW⟩ | exact ⟨by rw [markL, if_pos hi, mark_none (fun k v hkv => hno k (hPm.symm.subset (by rw [mkv_keys]; exact List.mem_map.2 ⟨_, hkv, rfl⟩)) v hkv)], hW⟩
    ·skip
     replace hW := hW.sto hNx.sto (by omega)
     replace hR15 := hNx.rng
     have zw6 := hNx.size
     obtain ⟨v, hv, rfl⟩ := mkv_mem hNx.mem
     refine LW.p (PEv.extract (.tmp rfl) rfl) rfl rfl rfl (LW.nil (KW.then (CW.seq ?_)))
     refine CW.cond_true (.tmp rfl) ?_
     refine CW.skip (KW.then (CW.block (CW.seq (CW.region ?_))))
     refine LW.r (REv.entry (.tmp rfl) hNx.entry) rfl rfl rfl rfl ?_
     rintro _ _ ⟨rfl, rfl⟩
     refine LW.p (PEv.extract (.tmp rfl) rfl) rfl rfl rfl (LW.p (PEv.extract (.tmp rfl) rfl) rfl rfl rfl (LW.p (PEv.assign (.tmp rfl)) rfl rfl rfl (LW.p (PEv.assign (.tmp rfl)) rfl rfl rfl (LW.nil (KW.then (CW.seq (CW.region (LW.p (PEv.move (.tmp rfl)) rfl rfl rfl (LW.p (PEv.move (.tmp rfl)) rfl rfl rfl ?_)))))))))
     refine LW.p (PEv.eql (.tmp rfl) (.tmp rfl)) rfl rfl rfl ?_
     refine LW.nil (KW.then ?_)
     refine CW.cond (.tmp rfl) (fun h23 => ?_) (fun h23 => ?_)
     ·first | replace h23 := of_decide_eq_true h23 | replace h23 := of_decide_eq_false h23 | skip
      have hres : markF (ordG (swOk time) bs.Swaps) wafer = k := mark_found hnd hv h23
      refine CW.seq (CW.region (LW.p (PEv.move (.tmp rfl)) rfl rfl rfl (LW.p (PEv.assign (.tmp rfl)) rfl rfl rfl (LW.nil (KW.then (CW.ret (KW.block_ret (KW.then_ret (KW.block_ret (KW.then_ret ?_))))))))))
      refine KW.ret1 rfl rfl ⟨_, rfl, ?_⟩
      first | exact ⟨by rw [markL, if_neg (by rw [hi]; decide)], hW⟩ | exact ⟨by rw [markL, if_pos hi, hres], hW⟩ | exact ⟨by rw [markL, if_pos hi, mark_none (fun k v hkv => hno k (hPm.symm.subset (by rw [mkv_keys]; exact List.mem_map.2 ⟨_, hkv, rfl⟩)) v hkv)], hW⟩
     ·first | replace h23 := of_decide_eq_true h23 | replace h23 := of_decide_eq_false h23 | skip
      refine CW.skip (KW.inBlock (KW.round ?_))
      exact ⟨done ++ [k], ⟨fun j hj v2 hv2 e => (by rcases List.mem_append.1 hj with hj | hj; exact hno j hj v2 hv2 e; rw [List.mem_singleton] at hj; subst hj; have h1 := lkI_mem hnd hv; rw [lkI_mem hnd hv2] at h1; cases h1; exact h23 e), hR15, hW⟩, ⟨rfl, rfl, trivial⟩, by have := hR15.length; simp at this ⊢; omega⟩
theorem histOk_any (f : Fact) (Bb Bw : Nat) (bc : Array Go.Value) (bs : Base) (wafer : Int) (w : World) (hC : BaseC w bc bs) (hl : bs.Swaps.length ≤ 1000000000) (hBb : Blk w Bb bc 24) (hBw : Blk w Bw #[vi wafer] 3) : Ret Tryz.prog 44 #[.agg f.cells, .pointer (some ⟨Bb, 0, none⟩), .pointer (some ⟨Bw, 0, none⟩)] w fun r w' => r = .bool (decide (whoL bs.Swaps f.Time f.Wafer = wafer)) ∧ Up w w' := by
  have hW := Up.refl w
  refine Calls_start (n := 13) (m := 9) Tryz.func44 rfl rfl rfl ?_
  refine CW.seq (CW.region ?_)
  refine LW.r (REv.boxA (.tmp rfl)) rfl rfl rfl rfl ?_
  rintro _ w1 ⟨B3, rfl, NB3⟩
  have eB3 := NB3.at_
  have zB3 := NB3.size
  replace hC := hC.up NB3.up
  replace hBb := hBb.up NB3.up
  replace hBw := hBw.up NB3.up
  replace hW := hW.up NB3.up
  have hB3 := NB3.blk
  refine LW.p (PEv.assign (.const _)) rfl rfl rfl (LW.nil (KW.then (CW.seq ?_)))
  refine CW.draws (by kernel_rfl) (by kernel_rfl) rfl rfl ?_
  refine HW.p (PEv.loadA Tryz.isAgg24 Tryz.sizeOf24 (hC.size) (.tmp rfl) (hBb.agg)) rfl rfl ?_
  refine HW.p (PEv.fieldAddr (off := 7) Tryz.underlying46 rfl rfl Tryz.sizeOf3 rfl (.tmp rfl)) rfl rfl ?_
  refine HW.p (PEv.load Tryz.isAgg3 (.tmp rfl) (hB3.celln rfl)) rfl rfl ?_
  refine HW.p (PEv.fieldAddr (off := 5) Tryz.underlying46 rfl rfl Tryz.sizeOf3 rfl (.tmp rfl)) rfl rfl ?_
  refine HW.p (PEv.load Tryz.isAgg3 (.tmp rfl) (hB3.celln rfl)) rfl rfl ?_
  refine HW.c (fun a w _ ha => enter_call0 (.cons (.tmp rfl) (.cons (.tmp rfl) (.cons (.tmp rfl) .nil))) (Tryz.en18) a ha) rfl rfl (fun w hu => Who_any bc bs _ _ w (hC.up hu) hl) ?_
  refine HW.p (PEv.load Tryz.isAgg3 (.tmp rfl) (hBw.celln rfl)) rfl rfl ?_
  refine HW.p (PEv.eql (.tmp rfl) (.tmp rfl)) rfl rfl ?_
  refine HW.p (PEv.assign (.tmp rfl)) rfl rfl ?_
  refine HW.nil ?_
  intro w2 uw2
  have zw2 := uw2.size
  replace hC := hC.up uw2
  replace hBb := hBb.up uw2
  replace hBw := hBw.up uw2
  replace hW := hW.up uw2
  replace hB3 := hB3.up uw2
  refine KW.then (CW.ret ?_)
  refine KW.ret1 rfl rfl ⟨_, rfl, ?_⟩
  exact ⟨rfl, hW⟩
theorem History_any (bc : Array Go.Value) (bs : Base) (wafer : Int) (w : World) (hC : BaseC w bc bs) (hl : bs.Swaps.length ≤ 1000000000) (hp : bs.Processes.length ≤ 1000000000) : Ret Tryz.prog 23 #[.agg bc, vi wafer] w fun r w' => OwnS w' w.heap.size 46 19 Fact.cells r (histL bs.Processes bs.Swaps wafer) ∧ Up w w' := by
  have hW := Up.refl w
  obtain ⟨w0, rfl⟩ : ∃ w0, w0 = w := ⟨_, rfl⟩
  refine Calls_start (n := 12) (m := 9) Tryz.func23 rfl rfl rfl ?_
  refine CW.seq (CW.region ?_)
  refine LW.r (REv.boxA (.tmp rfl)) rfl rfl rfl rfl ?_
  rintro _ w1 ⟨B2, rfl, NB2⟩
  have eB2 := NB2.at_
  have zB2 := NB2.size
  replace hC := hC.up NB2.up
  replace hW := hW.up NB2.up
  have hB2 := NB2.blk
  refine LW.r (REv.box1 (.tmp rfl) rfl) rfl rfl rfl rfl ?_
  rintro _ w2 ⟨B3, rfl, NB3⟩
  have eB3 := NB3.at_
  have zB3 := NB3.size
  replace hC := hC.up NB3.up
  replace hW := hW.up NB3.up
  replace hB2 := hB2.up NB3.up
  have hB3 := NB3.blk
  refine LW.p (PEv.assign (.const _)) rfl rfl rfl (LW.nil (KW.then (CW.seq (CW.seq (CW.region ?_)))))
  refine LW.p (PEv.load Tryz.isAgg3 (.tmp rfl) (hB3.celln rfl)) rfl rfl rfl ?_
  refine LW.c (enter_call0 (.cons (.tmp rfl) .nil) (Tryz.en38)) rfl rfl rfl rfl (isID_any _ _) ?_
  rintro _ w3 ⟨rfl, uw3⟩
  have zw3 := uw3.size
  replace hC := hC.up uw3
  replace hW := hW.up uw3
  replace hB2 := hB2.up uw3
  replace hB3 := hB3.up uw3
  refine LW.p (PEv.not (.tmp rfl)) rfl rfl rfl ?_
  refine LW.nil (KW.then ?_)
  refine CW.cond (.tmp rfl) (fun h7 => ?_) (fun h7 => ?_)
  ·first | replace h7 := of_decide_eq_true h7 | replace h7 := of_decide_eq_false h7 | skip
   have hi : isIDb wafer = false := by simpa using h7
   refine CW.seq (CW.region (LW.p (PEv.assign (.const _)) rfl rfl rfl (LW.nil (KW.then (CW.ret (KW.then_ret ?_))))))
   refine KW.ret1 rfl rfl ⟨_, rfl, ?_⟩
   first | exact ⟨by rw [histL, if_neg (by rw [hi]; decide)]; exact OwnS.nil _ _ _ _ _, hW⟩ | exact ⟨by rw [histL, if_pos hi]; exact hO11, hW⟩
  ·first | replace h7 := of_decide_eq_true h7 | replace h7 := of_decide_eq_false h7 | skip
   have hi : isIDb wafer = true := by simpa using h7
   refine CW.skip (KW.then (CW.seq ?_))
   obtain ⟨v0, h0, ad, cp, rfl, hEp⟩ := hC.at0
   refine CW.region ?_
   refine LW.p (PEv.fieldAddr (off := 0) Tryz.underlying24 rfl rfl Tryz.sizeOf22 rfl (.tmp rfl)) rfl rfl rfl ?_
   refine LW.p (PEv.load Tryz.isAgg22 (.tmp rfl) (hB2.cell h0)) rfl rfl rfl ?_
   refine LW.p (PEv.makeFunc (.cons (.tmp rfl) (.cons (.tmp rfl) .nil))) rfl rfl rfl ?_
   refine LW.c (enter_call0 (.cons (.tmp rfl) (.cons (.tmp rfl) .nil)) (Tryz.en43)) rfl rfl rfl rfl (ordered_any 44 #[.pointer (some ⟨B2, 0, none⟩), .pointer (some ⟨B3, 0, none⟩)] (fun f => decide (whoL bs.Swaps f.Time f.Wafer = wafer)) Tryz.en44 ad cp bs.Processes _ hEp hp (fun W hU x _ => histOk_any x B2 B3 bc bs wafer W (hC.up hU) hl (hB2.up hU) (hB3.up hU))) ?_
   rintro v11 w4 ⟨hO11, uw4⟩
   have zw4 := uw4.size
   replace hC := hC.up uw4
   replace hW := hW.up uw4
   replace hB2 := hB2.up uw4
   replace hB3 := hB3.up uw4
   replace hO11 := hO11.mono (show w0.heap.size ≤ _ by omega)
   refine LW.p (PEv.assign (.tmp rfl)) rfl rfl rfl (LW.nil (KW.then (CW.ret ?_)))
   refine KW.ret1 rfl rfl ⟨_, rfl, ?_⟩
   first | exact ⟨by rw [histL, if_neg (by rw [hi]; decide)]; exact OwnS.nil _ _ _ _ _, hW⟩ | exact ⟨by rw [histL, if_pos hi]; exact hO11, hW⟩
theorem sameFacts_any (ad ad' : Option Addr) (cp cp' : Nat) (l m : List Fact) (w : World) (hE1 : Els w ad 19 Fact.cells l) (hE2 : Els w ad' 19 Fact.cells m) (hl : l.length ≤ 100000) : Ret Tryz.prog 22 #[.slice ad l.length cp, .slice ad' m.length cp'] w fun r w' => r = .bool (eqFs l m) ∧ Up w w' := by
  have hW := Up.refl w
  obtain ⟨w0, rfl⟩ : ∃ w0, w0 = w := ⟨_, rfl⟩
  refine Calls_start (n := 26) (m := 9) Tryz.func22 rfl rfl rfl ?_
  refine CW.seq (CW.region (LW.p (PEv.assign (.const _)) rfl rfl rfl (LW.nil (KW.then (CW.seq (CW.seq (CW.region (LW.p (PEv.move (.tmp rfl)) rfl rfl rfl ?_))))))))
  refine LW.p (PEv.lenS Tryz.underlying22 (.tmp rfl)) rfl rfl rfl ?_
  refine LW.p (PEv.move (.tmp rfl)) rfl rfl rfl ?_
  refine LW.p (PEv.lenS Tryz.underlying22 (.tmp rfl)) rfl rfl rfl ?_
  refine LW.p (PEv.neq (.tmp rfl) (.tmp rfl)) rfl rfl rfl ?_
  refine LW.nil (KW.then ?_)
  refine CW.cond (.tmp rfl) (fun h10 => ?_) (fun h10 => ?_)
  ·first | replace h10 := of_decide_eq_true h10 | replace h10 := of_decide_eq_false h10 | skip
   have hr : eqFs l m = false := eqFs_len (fun e => by simp [e] at h10)
   refine CW.seq (CW.region (LW.p (PEv.assign (.const _)) rfl rfl rfl (LW.nil (KW.then (CW.ret (KW.then_ret ?_))))))
   refine KW.ret1 rfl rfl ⟨_, rfl, ?_⟩
   exact ⟨by rw [hr], hW⟩
  ·first | replace h10 := of_decide_eq_true h10 | replace h10 := of_decide_eq_false h10 | skip
   have hlen : l.length = m.length := Int.ofNat.inj (show Int.ofNat _ = Int.ofNat _ from (by simpa using h10 : (l.length : Int) = m.length))
   refine CW.skip (KW.then (CW.seq (CW.seq (CW.region (LW.p (PEv.assign (.const _)) rfl rfl rfl (LW.nil (KW.then (CW.block ?_))))))))
   refine CW.loopB (σ := Nat) (fun s w => (s ≤ l.length) ∧ (eqFs (l.drop s) (m.drop s) = eqFs l m) ∧ (Up w0 w)) (fun s => [(5, .eq (vi (s : Int)))]) ([(0, .eq _), (1, .eq _)]) (fun s => l.length - s) 0 ?_ ⟨rfl, rfl, rfl, trivial⟩ ?_
   ·exact ⟨Nat.zero_le _, rfl, hW⟩
   ·rintro k w1 ⟨hk, hn, hW⟩
    refine CW.seq (CW.seq (CW.region (LW.p (PEv.move (.tmp rfl)) rfl rfl rfl (LW.p (PEv.move (.tmp rfl)) rfl rfl rfl ?_))))
    refine LW.p (PEv.lenS Tryz.underlying22 (.tmp rfl)) rfl rfl rfl ?_
    refine LW.p (PEv.lss (.tmp rfl) (.tmp rfl)) rfl rfl rfl ?_
    refine LW.nil (KW.then ?_)
    refine CW.cond (.tmp rfl) (fun h14 => ?_) (fun h14 => ?_)
    ·first | replace h14 := of_decide_eq_true h14 | replace h14 := of_decide_eq_false h14 | skip
     refine CW.skip (KW.then (CW.seq (CW.block (CW.seq ?_))))
     obtain ⟨x, hx⟩ := getElem?_of_lt (xs := l) (i := k) (by omega)
     obtain ⟨y, hy⟩ := getElem?_of_lt (xs := m) (i := k) (by omega)
     obtain ⟨B, o, had, hcx⟩ := (Els.up hE1 hW) k x hx
     obtain ⟨B', o', had', hcy⟩ := (Els.up hE2 hW) k y hy
     refine CW.draws (by kernel_rfl) (by kernel_rfl) rfl rfl ?_
     refine HW.p (PEv.move (.tmp rfl)) rfl rfl ?_
     refine HW.p (PEv.move (.tmp rfl)) rfl rfl ?_
     refine HW.p (PEv.indexAddr' Tryz.underlying22 Tryz.sizeOf46 (.tmp rfl) (.tmp rfl) (by omega) had) rfl rfl ?_
     refine HW.p (PEv.loadA Tryz.isAgg46 Tryz.sizeOf46 rfl (.tmp rfl) (hcx)) rfl rfl ?_
     refine HW.p (PEv.move (.tmp rfl)) rfl rfl ?_
     refine HW.p (PEv.move (.tmp rfl)) rfl rfl ?_
     refine HW.p (PEv.indexAddr' Tryz.underlying22 Tryz.sizeOf46 (.tmp rfl) (.tmp rfl) (by omega) had') rfl rfl ?_
     refine HW.p (PEv.loadA Tryz.isAgg46 Tryz.sizeOf46 rfl (.tmp rfl) (hcy)) rfl rfl ?_
     refine HW.p (PEv.neqA Tryz.eqGuardType46 (Tryz.eqFact _ _) (.tmp rfl) (.tmp rfl)) rfl rfl ?_
     refine HW.nil ?_
     intro w2 uw2
     have zw2 := uw2.size
     replace hW := hW.up uw2
     refine KW.then ?_
     refine CW.cond (.tmp rfl) (fun h25 => ?_) (fun h25 => ?_)
     ·first | replace h25 := of_decide_eq_true h25 | replace h25 := of_decide_eq_false h25 | skip
      have hr : eqFs l m = false := by rw [← hn, eqFs_step hx hy, show Fact.eqb x y = false by simpa using h25]; rfl
      refine CW.seq (CW.region (LW.p (PEv.assign (.const _)) rfl rfl rfl (LW.nil (KW.then (CW.ret (KW.block_ret (KW.then_ret (KW.then_ret (KW.block_ret (KW.then_ret ?_))))))))))
      refine KW.ret1 rfl rfl ⟨_, rfl, ?_⟩
      exact ⟨by rw [hr], hW⟩
     ·first | replace h25 := of_decide_eq_true h25 | replace h25 := of_decide_eq_false h25 | skip
      refine CW.skip (KW.inBlock (KW.then (CW.region (LW.p (PEv.move (.tmp rfl)) rfl rfl rfl ?_))))
      refine LW.p (PEv.inc (.tmp rfl) (by omega)) rfl rfl rfl ?_
      refine LW.p (PEv.assign (.tmp rfl)) rfl rfl rfl (LW.nil (KW.round ?_))
      exact ⟨k + 1, ⟨by omega, by rw [← hn, eqFs_step hx hy, show Fact.eqb x y = true by simpa using h25]; rfl, hW⟩, ⟨rfl, rfl, rfl, trivial⟩, by first | omega | (dsimp only; omega)⟩
    ·first | replace h14 := of_decide_eq_true h14 | replace h14 := of_decide_eq_false h14 | skip
     have hr : eqFs l m = true := by rw [← hn]; exact eqFs_end (by omega) (by omega)
     refine CW.exit (KW.then_exit (KW.then_exit (KW.block_hit (KW.then (CW.seq (CW.region (LW.p (PEv.assign (.const _)) rfl rfl rfl (LW.nil (KW.then (CW.ret ?_))))))))))
     refine KW.ret1 rfl rfl ⟨_, rfl, ?_⟩
     exact ⟨by rw [hr], hW⟩
theorem pick_any (c n : Int) (w : World) (hn : n ≠ 0) : Ret Tryz.prog 15 #[vi c, vi n] w fun r w' => r = vi (pickI c n) ∧ Up w w' := by
  have hW := Up.refl w
  refine Calls_start (n := 13) (m := 9) Tryz.func15 rfl rfl rfl ?_
  refine CW.seq (CW.region (LW.p (PEv.assign (.const _)) rfl rfl rfl (LW.nil (KW.then (CW.seq (CW.seq (CW.region (LW.p (PEv.move (.tmp rfl)) rfl rfl rfl ?_))))))))
  refine LW.p (PEv.lss (.tmp rfl) (.const _)) rfl rfl rfl ?_
  refine LW.nil (KW.then ?_)
  refine CW.cond (.tmp rfl) (fun h6 => ?_) (fun h6 => ?_)
  ·first | replace h6 := of_decide_eq_true h6 | replace h6 := of_decide_eq_false h6 | skip
   refine CW.region (LW.p (PEv.move (.tmp rfl)) rfl rfl rfl ?_)
   refine LW.p (PEv.add_w (.tmp rfl) (.const _)) rfl rfl rfl ?_
   refine LW.p (PEv.neg Tryz.underlying3 (.tmp rfl)) rfl rfl rfl ?_
   refine LW.p (PEv.assign (.tmp rfl)) rfl rfl rfl (LW.nil (KW.then (CW.seq (CW.region (LW.p (PEv.move (.tmp rfl)) rfl rfl rfl (LW.p (PEv.move (.tmp rfl)) rfl rfl rfl ?_))))))
   refine LW.p (PEv.rem (.tmp rfl) (.tmp rfl) (by omega)) rfl rfl rfl ?_
   refine LW.p (PEv.assign (.tmp rfl)) rfl rfl rfl (LW.nil (KW.then (CW.ret ?_)))
   refine KW.ret1 rfl rfl ⟨_, rfl, ?_⟩
   exact ⟨by first | (rw [pickI, if_pos h6]) | (rw [pickI, if_neg (by omega)]), hW⟩
  ·first | replace h6 := of_decide_eq_true h6 | replace h6 := of_decide_eq_false h6 | skip
   refine CW.skip (KW.then (CW.seq (CW.region (LW.p (PEv.move (.tmp rfl)) rfl rfl rfl (LW.p (PEv.move (.tmp rfl)) rfl rfl rfl ?_)))))
   refine LW.p (PEv.rem (.tmp rfl) (.tmp rfl) (by omega)) rfl rfl rfl ?_
   refine LW.p (PEv.assign (.tmp rfl)) rfl rfl rfl (LW.nil (KW.then (CW.ret ?_)))
   refine KW.ret1 rfl rfl ⟨_, rfl, ?_⟩
   exact ⟨by first | (rw [pickI, if_pos h6]) | (rw [pickI, if_neg (by omega)]), hW⟩
theorem pickR_any (c n : Int) (w : World) (hn : n ≠ 0) : Ret Tryz.prog 37 #[vi c, vi n] w fun r w' => r = vi (pickI c n) ∧ Up w w' := by
  have hW := Up.refl w
  refine Calls_start (n := 13) (m := 9) Tryz.func37 rfl rfl rfl ?_
  refine CW.seq (CW.region (LW.p (PEv.assign (.const _)) rfl rfl rfl (LW.nil (KW.then (CW.seq (CW.seq (CW.region (LW.p (PEv.move (.tmp rfl)) rfl rfl rfl ?_))))))))
  refine LW.p (PEv.lss (.tmp rfl) (.const _)) rfl rfl rfl ?_
  refine LW.nil (KW.then ?_)
  refine CW.cond (.tmp rfl) (fun h6 => ?_) (fun h6 => ?_)
  ·first | replace h6 := of_decide_eq_true h6 | replace h6 := of_decide_eq_false h6 | skip
   refine CW.region (LW.p (PEv.move (.tmp rfl)) rfl rfl rfl ?_)
   refine LW.p (PEv.add_w (.tmp rfl) (.const _)) rfl rfl rfl ?_
   refine LW.p (PEv.neg Tryz.underlying3 (.tmp rfl)) rfl rfl rfl ?_
   refine LW.p (PEv.assign (.tmp rfl)) rfl rfl rfl (LW.nil (KW.then (CW.seq (CW.region (LW.p (PEv.move (.tmp rfl)) rfl rfl rfl (LW.p (PEv.move (.tmp rfl)) rfl rfl rfl ?_))))))
   refine LW.p (PEv.rem (.tmp rfl) (.tmp rfl) (by omega)) rfl rfl rfl ?_
   refine LW.p (PEv.assign (.tmp rfl)) rfl rfl rfl (LW.nil (KW.then (CW.ret ?_)))
   refine KW.ret1 rfl rfl ⟨_, rfl, ?_⟩
   exact ⟨by first | (rw [pickI, if_pos h6]) | (rw [pickI, if_neg (by omega)]), hW⟩
  ·first | replace h6 := of_decide_eq_true h6 | replace h6 := of_decide_eq_false h6 | skip
   refine CW.skip (KW.then (CW.seq (CW.region (LW.p (PEv.move (.tmp rfl)) rfl rfl rfl (LW.p (PEv.move (.tmp rfl)) rfl rfl rfl ?_)))))
   refine LW.p (PEv.rem (.tmp rfl) (.tmp rfl) (by omega)) rfl rfl rfl ?_
   refine LW.p (PEv.assign (.tmp rfl)) rfl rfl rfl (LW.nil (KW.then (CW.ret ?_)))
   refine KW.ret1 rfl rfl ⟨_, rfl, ?_⟩
   exact ⟨by first | (rw [pickI, if_pos h6]) | (rw [pickI, if_neg (by omega)]), hW⟩
theorem sameInts_any (v1 v2 : Value) (xs ys : List Int) (w : World) (h1 : Sl w v1 1 eInt xs) (h2 : Sl w v2 1 eInt ys) (hx0 : xs.length ≤ 1000000000) (hy0 : ys.length ≤ 1000000000) : Ret Tryz.prog 25 #[v1, v2] w fun r w' => r = .bool (decide (xs = ys)) ∧ Up w w' := by
  have hW := Up.refl w
  obtain ⟨w0, rfl⟩ : ∃ w0, w0 = w := ⟨_, rfl⟩
  obtain ⟨ad, cp, rfl, hE1⟩ := h1
  obtain ⟨ad', cp', rfl, hE2⟩ := h2
  refine Calls_start (n := 26) (m := 9) Tryz.func25 rfl rfl rfl ?_
  refine CW.seq (CW.region (LW.p (PEv.assign (.const _)) rfl rfl rfl (LW.nil (KW.then (CW.seq (CW.seq (CW.region (LW.p (PEv.move (.tmp rfl)) rfl rfl rfl ?_))))))))
  refine LW.p (PEv.lenS Tryz.underlying32 (.tmp rfl)) rfl rfl rfl ?_
  refine LW.p (PEv.move (.tmp rfl)) rfl rfl rfl ?_
  refine LW.p (PEv.lenS Tryz.underlying32 (.tmp rfl)) rfl rfl rfl ?_
  refine LW.p (PEv.neq (.tmp rfl) (.tmp rfl)) rfl rfl rfl ?_
  refine LW.nil (KW.then ?_)
  refine CW.cond (.tmp rfl) (fun h10 => ?_) (fun h10 => ?_)
  ·first | replace h10 := of_decide_eq_true h10 | replace h10 := of_decide_eq_false h10 | skip
   have hr : decide (xs = ys) = false := decide_eq_false (fun h => by subst h; simp at h10)
   refine CW.seq (CW.region (LW.p (PEv.assign (.const _)) rfl rfl rfl (LW.nil (KW.then (CW.ret (KW.then_ret ?_))))))
   refine KW.ret1 rfl rfl ⟨_, rfl, ?_⟩
   exact ⟨by rw [hr], hW⟩
  ·first | replace h10 := of_decide_eq_true h10 | replace h10 := of_decide_eq_false h10 | skip
   have hlen : xs.length = ys.length := Int.ofNat.inj (show Int.ofNat _ = Int.ofNat _ from (by simpa using h10 : (xs.length : Int) = ys.length))
   refine CW.skip (KW.then (CW.seq (CW.seq (CW.region (LW.p (PEv.assign (.const _)) rfl rfl rfl (LW.nil (KW.then (CW.block ?_))))))))
   refine CW.loop (σ := Nat) (fun s w => (s ≤ xs.length ∧ xs.take s = ys.take s) ∧ Els w ad 1 eInt xs ∧ Els w ad' 1 eInt ys ∧ Up w0 w) (fun s => [(0, .eq (.slice ad xs.length cp)), (1, .eq (.slice ad' ys.length cp')), (5, .eq (vi (s : Int)))]) (fun s => xs.length - s) 0 ?_ ?_ ?_
   ·exact ⟨⟨Nat.zero_le _, rfl⟩, hE1, hE2, hW⟩
   ·exact ⟨rfl, rfl, rfl, trivial⟩
   ·rintro k w1 ⟨⟨hk, hT⟩, hE1, hE2, hW⟩
    refine CW.seq (CW.seq (CW.region (LW.p (PEv.move (.tmp rfl)) rfl rfl rfl (LW.p (PEv.move (.tmp rfl)) rfl rfl rfl ?_))))
    refine LW.p (PEv.lenS Tryz.underlying32 (.tmp rfl)) rfl rfl rfl ?_
    refine LW.p (PEv.lss (.tmp rfl) (.tmp rfl)) rfl rfl rfl ?_
    refine LW.nil (KW.then ?_)
    refine CW.cond (.tmp rfl) (fun h14 => ?_) (fun h14 => ?_)
    ·first | replace h14 := of_decide_eq_true h14 | replace h14 := of_decide_eq_false h14 | skip
     refine CW.skip (KW.then (CW.seq (CW.block (CW.seq ?_))))
     obtain ⟨x, hx⟩ := getElem?_of_lt (xs := xs) (i := k) (by omega)
     obtain ⟨y, hy⟩ := getElem?_of_lt (xs := ys) (i := k) (by omega)
     obtain ⟨B, o, had, hcell⟩ := hE1 k x hx
     obtain ⟨B', o', had', hcell'⟩ := hE2 k y hy
     refine CW.draws (by kernel_rfl) (by kernel_rfl) rfl rfl ?_
     refine HW.p (PEv.move (.tmp rfl)) rfl rfl ?_
     refine HW.p (PEv.move (.tmp rfl)) rfl rfl ?_
     refine HW.p (PEv.indexAddr' Tryz.underlying32 Tryz.sizeOf3 (.tmp rfl) (.tmp rfl) (by omega) had) rfl rfl ?_
     refine HW.p (PEv.load Tryz.isAgg3 (.tmp rfl) (hcell.nth (j := 0) rfl)) rfl rfl ?_
     refine HW.p (PEv.move (.tmp rfl)) rfl rfl ?_
     refine HW.p (PEv.move (.tmp rfl)) rfl rfl ?_
     refine HW.p (PEv.indexAddr' Tryz.underlying32 Tryz.sizeOf3 (.tmp rfl) (.tmp rfl) (by omega) had') rfl rfl ?_
     refine HW.p (PEv.load Tryz.isAgg3 (.tmp rfl) (hcell'.nth (j := 0) rfl)) rfl rfl ?_
     refine HW.p (PEv.neq (.tmp rfl) (.tmp rfl)) rfl rfl ?_
     refine HW.nil ?_
     intro w2 uw2
     have zw2 := uw2.size
     replace hE1 := hE1.up uw2
     replace hE2 := hE2.up uw2
     replace hW := hW.up uw2
     refine KW.then ?_
     refine CW.cond (.tmp rfl) (fun h25 => ?_) (fun h25 => ?_)
     ·first | replace h25 := of_decide_eq_true h25 | replace h25 := of_decide_eq_false h25 | skip
      have hr : decide (xs = ys) = false := decide_eq_false (ne_of_at hx hy (by simpa using h25))
      refine CW.seq (CW.region (LW.p (PEv.assign (.const _)) rfl rfl rfl (LW.nil (KW.then (CW.ret (KW.block_ret (KW.then_ret (KW.then_ret (KW.block_ret (KW.then_ret ?_))))))))))
      refine KW.ret1 rfl rfl ⟨_, rfl, ?_⟩
      exact ⟨by rw [hr], hW⟩
     ·first | replace h25 := of_decide_eq_true h25 | replace h25 := of_decide_eq_false h25 | skip
      refine CW.skip (KW.inBlock (KW.then (CW.region (LW.p (PEv.move (.tmp rfl)) rfl rfl rfl ?_))))
      refine LW.p (PEv.inc (.tmp rfl) (by omega)) rfl rfl rfl ?_
      refine LW.p (PEv.assign (.tmp rfl)) rfl rfl rfl (LW.nil (KW.round ?_))
      exact ⟨k + 1, ⟨⟨by omega, take_eq_step hT hx hy (by simpa using h25)⟩, hE1, hE2, hW⟩, ⟨rfl, rfl, rfl, trivial⟩, by omega⟩
    ·first | replace h14 := of_decide_eq_true h14 | replace h14 := of_decide_eq_false h14 | skip
     have hr : decide (xs = ys) = true := decide_eq_true (by have := hT; rw [show k = xs.length by omega, List.take_length, hlen, List.take_length] at this; exact this)
     refine CW.exit (KW.then_exit (KW.then_exit (KW.block_hit (KW.then (CW.seq (CW.region (LW.p (PEv.assign (.const _)) rfl rfl rfl (LW.nil (KW.then (CW.ret ?_))))))))))
     refine KW.ret1 rfl rfl ⟨_, rfl, ?_⟩
     exact ⟨by rw [hr], hW⟩
end Go.Proofs.YthfjagphcekcbaaGreat
namespace Go.Wx
theorem flat_int (ks : List Int) : ks.flatMap (fun x => (eInt x).toList) = ks.map vi := by
  induction ks with
  | nil => rfl
  | cons k ks ih => rw [List.flatMap_cons, ih]; rfl
theorem sort_perm {a b : List Int} (h : a.Perm b) : (a.mergeSort fun x y => decide (x ≤ y)) = b.mergeSort fun x y => decide (x ≤ y) :=
  List.Perm.eq_of_pairwise (le := fun x y => decide (x ≤ y) = true) (fun x y _ _ h1 h2 => by have h3 := of_decide_eq_true h1; have h4 := of_decide_eq_true h2; omega)
    (List.pairwise_mergeSort (fun a b c h1 h2 => by have h3 := of_decide_eq_true h1; have h4 := of_decide_eq_true h2; exact decide_eq_true (by omega)) (fun a b => by simp; omega) a)
    (List.pairwise_mergeSort (fun a b c h1 h2 => by have h3 := of_decide_eq_true h1; have h4 := of_decide_eq_true h2; exact decide_eq_true (by omega)) (fun a b => by simp; omega) b)
    ((List.mergeSort_perm a _).trans (h.trans (List.mergeSort_perm b _).symm))
def unitB (k : Int) : Int × Go.Value := (k, .bool true)
def addI (ks : List Int) (k : Int) : List Int := if k ∈ ks then ks else ks ++ [k]
def sortI (ks : List Int) : List Int := ks.mergeSort fun x y => decide (x ≤ y)
theorem unitB_keys (ks : List Int) : (ks.map unitB).map (·.1) = ks := by simp [List.map_map, Function.comp_def, unitB]
theorem mset_unitB (ks : List Int) (k : Int) : mset (ks.map unitB) k (.bool true) = (addI ks k).map unitB := by
  unfold mset addI
  rw [unitB_keys]
  by_cases h : k ∈ ks
  · rw [if_pos h, if_pos h, List.map_map]
    refine List.map_congr_left fun x _ => ?_
    show (if x = k then (k, Go.Value.bool true) else unitB x) = unitB x
    by_cases hx : x = k
    · subst hx; rw [if_pos rfl]; rfl
    · rw [if_neg hx]
  · rw [if_neg h, if_neg h]; simp [unitB]
theorem addI_len (ks : List Int) (k : Int) : (addI ks k).length ≤ ks.length + 1 := by unfold addI; split <;> simp
theorem unitB_mem {ks : List Int} {k : Int} {u : Go.Value} (h : (k, u) ∈ ks.map unitB) : k ∈ ks ∧ u = .bool true := by
  obtain ⟨x, hx, e⟩ := List.mem_map.1 h
  cases e
  exact ⟨hx, rfl⟩
def memP (lots : List Fact) (lot t : Int) (f : Fact) : Bool := decide ((lotOf lots f.Wafer t).1 = lot) && isIDb lot
def memK (lots : List Fact) (lot t : Int) (l : List Fact) : List Int := l.foldl (fun ks f => if memP lots lot t f = true then addI ks f.Wafer else ks) []
def membersL (lots : List Fact) (lot t : Int) : List Int := sortI (memK lots lot t lots)
theorem memK_snoc (lots : List Fact) (lot t : Int) (l : List Fact) (f : Fact) : memK lots lot t (l ++ [f]) = if memP lots lot t f = true then addI (memK lots lot t l) f.Wafer else memK lots lot t l := by unfold memK; rw [List.foldl_append]; rfl
theorem memK_yes {lots l : List Fact} {lot t : Int} {k : Nat} {x : Fact} (hx : l[k]? = some x) (h : memP lots lot t x = true) : memK lots lot t (l.take (k + 1)) = addI (memK lots lot t (l.take k)) x.Wafer := by rw [take_succ_of hx, memK_snoc, if_pos h]
theorem memK_no {lots l : List Fact} {lot t : Int} {k : Nat} {x : Fact} (hx : l[k]? = some x) (h : memP lots lot t x = false) : memK lots lot t (l.take (k + 1)) = memK lots lot t (l.take k) := by rw [take_succ_of hx, memK_snoc, if_neg (by rw [h]; exact Bool.false_ne_true)]
theorem foldAdd_len {α : Type} (g : List Int → α → List Int) (hg : ∀ ks x, (g ks x).length ≤ ks.length + 1) : ∀ (l : List α) (ks : List Int), (l.foldl g ks).length ≤ ks.length + l.length
  | [], _ => Nat.le_refl _
  | x :: l, ks => by
    rw [List.foldl_cons, List.length_cons]
    have h1 := foldAdd_len g hg l (g ks x)
    have h2 := hg ks x
    omega
theorem memK_len (lots : List Fact) (lot t : Int) (l : List Fact) : (memK lots lot t l).length ≤ l.length := by
  have := foldAdd_len (fun ks f => if memP lots lot t f = true then addI ks f.Wafer else ks) (fun _ _ => by split; exact addI_len _ _; omega) l []
  simpa [memK] using this
def lotK (l : List Fact) : List Int := l.foldl (fun ks f => addI ks f.Wafer) []
def proK (ss : List Fact) (ks : List Int) (l : List Fact) : List Int := l.foldl (fun ks f => addI ks (whoL ss f.Time f.Wafer)) ks
def wafersL (lots ps ss : List Fact) : List Int := sortI ((proK ss (lotK lots) ps).filter isIDb)
theorem lotK_step {l : List Fact} {k : Nat} {x : Fact} (hx : l[k]? = some x) : lotK (l.take (k + 1)) = addI (lotK (l.take k)) x.Wafer := by rw [take_succ_of hx]; unfold lotK; rw [List.foldl_append]; rfl
theorem proK_step {ss l : List Fact} {ks : List Int} {k : Nat} {x : Fact} (hx : l[k]? = some x) : proK ss ks (l.take (k + 1)) = addI (proK ss ks (l.take k)) (whoL ss x.Time x.Wafer) := by rw [take_succ_of hx]; unfold proK; rw [List.foldl_append]; rfl
theorem lotK_len (l : List Fact) : (lotK l).length ≤ l.length := by have := foldAdd_len (fun ks (f : Fact) => addI ks f.Wafer) (fun _ _ => addI_len _ _) l []; simpa [lotK] using this
theorem proK_len (ss : List Fact) (ks : List Int) (l : List Fact) : (proK ss ks l).length ≤ ks.length + l.length := foldAdd_len (fun ks (f : Fact) => addI ks (whoL ss f.Time f.Wafer)) (fun _ _ => addI_len _ _) l ks
def curW (ks V : List Int) : List Int := ks.filter fun k => isIDb k || !decide (k ∈ V)
theorem curW_nil (ks : List Int) : curW ks [] = ks := List.filter_eq_self.2 fun k _ => by simp
theorem curW_yes (ks V : List Int) {k : Int} (h : isIDb k = true) : curW ks (V ++ [k]) = curW ks V := by
  refine List.filter_congr fun x _ => ?_
  by_cases e : x = k
  · rw [e, h]; rfl
  · simp [e]
theorem curW_no (ks V : List Int) {k : Int} (h : isIDb k = false) : (curW ks (V ++ [k])).map unitB = ((curW ks V).map unitB).filter fun p => !decide (p.1 = k) := by
  rw [List.filter_map, curW, curW, List.filter_filter]
  congr 1
  refine List.filter_congr fun x _ => ?_
  by_cases e : x = k
  · simp [e, h, unitB]
  · simp [e, unitB]
theorem filt_snoc_yes (V : List Int) {k : Int} (h : isIDb k = true) : (V ++ [k]).filter isIDb = V.filter isIDb ++ [k] := by rw [List.filter_append]; simp [h]
theorem filt_snoc_no (V : List Int) {k : Int} (h : isIDb k = false) : (V ++ [k]).filter isIDb = V.filter isIDb := by rw [List.filter_append]; simp [h]
theorem curW_fresh {ks V : List Int} {k : Int} (h : k ∈ curW ks V) (hf : k ∉ V.filter isIDb) : k ∉ V ∧ k ∈ ks := by
  obtain ⟨h1, h2⟩ := List.mem_filter.1 h
  refine ⟨fun hV => ?_, h1⟩
  cases hi : isIDb k with
  | true => exact hf (List.mem_filter.2 ⟨hV, hi⟩)
  | false => rw [hi] at h2; simp [hV] at h2
theorem curW_end {ks V : List Int} (h : (V.filter isIDb).Perm (((curW ks V).map unitB).map (·.1))) : curW ks V = ks.filter isIDb := by
  rw [unitB_keys] at h
  refine List.filter_congr fun k hk => ?_
  cases hi : isIDb k with
  | true => rfl
  | false =>
    cases hc : decide (k ∈ V) with
    | true => rfl
    | false =>
      exfalso
      have h1 : k ∈ curW ks V := List.mem_filter.2 ⟨hk, by rw [hc]; simp⟩
      have := (List.mem_filter.1 (h.symm.subset h1)).2
      rw [hi] at this; cases this
end Go.Wx
namespace Go.Proofs.YthfjagphcekcbaaGreat
open Go.Wx Go.RowKit
namespace Hs
theorem mapsKeys_any (b : Nat) (w : World) : Ret Tryz.prog 47 #[.map (some b)] w fun r w' => (∃ B, r = .func (.func 91) #[] #[.pointer (some ⟨B, 0, none⟩)] ∧ Blk w' B #[.map (some b)] 77 ∧ w.heap.size ≤ B) ∧ Up w w' := by
  have hW := Up.refl w
  refine Calls_start (n := 4) (m := 9) Tryz.func47 rfl rfl rfl ?_
  refine CW.seq (CW.region ?_)
  refine LW.r (REv.box1 (.tmp rfl) rfl) rfl rfl rfl rfl ?_
  rintro _ w1 ⟨B1, rfl, NB1⟩
  have eB1 := NB1.at_
  have zB1 := NB1.size
  replace hW := hW.up NB1.up
  have hB1 := NB1.blk
  refine LW.p (PEv.assign (.const _)) rfl rfl rfl (LW.nil (KW.then (CW.seq (CW.region ?_))))
  refine LW.p (PEv.makeFunc (.cons (.tmp rfl) .nil)) rfl rfl rfl ?_
  refine LW.p (PEv.assign (.tmp rfl)) rfl rfl rfl (LW.nil (KW.then (CW.ret ?_)))
  refine KW.ret1 rfl rfl ⟨_, rfl, ?_⟩
  exact ⟨⟨_, rfl, hB1, by omega⟩, hW⟩
theorem mapsKeys_iter (X Y : Nat → Prop) (B1 b : Nat) (kv : List (Int × Value)) (w : World) (hYY : ∀ i, Y i → i < w.heap.size) (hQX : ¬ X B1) (hbY : ¬ Y b) (hQ0 : Blk w B1 #[.map (some b)] 77) (hM0 : IMap w b kv) :
    IterS Tryz.prog 91 #[.pointer (some ⟨B1, 0, none⟩)] eInt X Y (fun ys => ys.Perm (kv.map (·.1))) (fun pre => pre.Nodup ∧ ∀ k ∈ pre, k ∈ kv.map (·.1)) kv.length w := by
  refine IterS.of ?_
  intro lp J Jx w0 hUw _ hY hJ
  obtain ⟨Bd, hBd⟩ : ∃ Bd, Bd = w0.heap.size := ⟨_, rfl⟩
  rw [← hBd] at hJ hY
  have zU := hUw.size
  have hQ := hQ0.up hUw
  have hM := hM0.up hUw
  have zQ0 := hQ.lt
  refine Calls_start (n := 14) (m := 9) Tryz.func91 rfl rfl rfl ?_
  refine CW.seq (CW.region ?_)
  refine LW.p (PEv.load Tryz.isAgg77 (.tmp rfl) (hQ.celln rfl)) rfl rfl rfl ?_
  refine LW.r (REv.range Tryz.underlying77 (.tmp rfl) hM) rfl rfl rfl rfl ?_
  rintro _ w1 ⟨r5, rfl, hR5, uw1, ew1, zw1⟩
  replace hQ := hQ.up uw1
  replace hM := hM.up uw1
  replace hJ := hJ.up uw1
  refine LW.nil (KW.then (CW.block ?_))
  refine CW.loop (σ := List Int) (fun s w => Jw Bd J s w ∧ Blk w B1 #[.map (some b)] 77 ∧ IRng w b r5 kv s) (fun s => [(0, .eq (.func (.yield lp) #[] #[])), (5, .eq (.pointer (some ⟨r5, 0, none⟩)))]) (fun s => kv.length - s.length) [] ?_ ?_ ?_
  ·exact ⟨hJ, hQ, hR5⟩
  ·exact ⟨rfl, rfl, trivial⟩
  ·rintro done w2 ⟨hJ, hQ, hR5⟩
   have zQ := hQ.lt
   refine CW.seq (CW.region ?_)
   refine LW.r (REv.next (.tmp rfl) hR5) rfl rfl rfl rfl ?_
   rintro _ w3 (⟨rfl, rfl, hPm⟩ | ⟨k, u, rfl, hNx⟩)
   ·skip
    refine LW.p (PEv.extract (.tmp rfl) rfl) rfl rfl rfl (LW.nil (KW.then (CW.seq ?_)))
    refine CW.cond_false (.tmp rfl) ?_
    refine CW.exit (KW.then_exit (KW.then_exit (KW.block_hit ?_)))
    refine KW.end0 rfl ⟨_, rfl, ?_⟩
    first | exact .inl ⟨_, hPm, hJ.j⟩ | exact .inr ⟨_, hR5.sub, hJx⟩
   ·skip
    obtain ⟨_, ho, hwk⟩ := hNx.walk
    replace hJ := hJ.walk hNx.grown (by omega) ho hwk
    replace hQ := hQ.sto hNx.sto (by omega)
    replace hR5 := hNx.rng
    have zw3 := hNx.size
    refine LW.p (PEv.extract (.tmp rfl) rfl) rfl rfl rfl (LW.nil (KW.then (CW.seq ?_)))
    refine CW.cond_true (.tmp rfl) ?_
    refine CW.skip (KW.then (CW.block (CW.seq (CW.region ?_))))
    refine LW.r (REv.entry (.tmp rfl) hNx.entry) rfl rfl rfl rfl ?_
    rintro _ _ ⟨rfl, rfl⟩
    refine LW.p (PEv.extract (.tmp rfl) rfl) rfl rfl rfl (LW.p (PEv.assign (.tmp rfl)) rfl rfl rfl (LW.nil (KW.then (CW.seq (CW.region (LW.p (PEv.move (.tmp rfl)) rfl rfl rfl (LW.p (PEv.move (.tmp rfl)) rfl rfl rfl ?_)))))))
    refine LW.y (.tmp rfl) (.cons (.tmp rfl) .nil) rfl rfl (hY done k _ hJ (by have := hR5.length; simp at this; omega)) ?_
    rintro _ w4 ⟨y, rfl, hcase⟩
    refine LW.p (PEv.not (.tmp rfl)) rfl rfl rfl ?_
    refine LW.nil (KW.then ?_)
    refine CW.cond (.tmp rfl) (fun h13 => ?_) (fun h13 => ?_)
    ·first | replace h13 := of_decide_eq_true h13 | replace h13 := of_decide_eq_false h13 | skip
     have hy : y = false := by simpa using h13
     subst hy
     obtain ⟨_, hJx⟩ := hcase.resolve_left (by simp)
     refine CW.ret (KW.block_ret (KW.then_ret (KW.block_ret ?_)))
     refine KW.ret0 rfl ⟨_, rfl, ?_⟩
     first | exact .inl ⟨_, hPm, hJ.j⟩ | exact .inr ⟨_, hR5.sub, hJx⟩
    ·first | replace h13 := of_decide_eq_true h13 | replace h13 := of_decide_eq_false h13 | skip
     have hy : y = true := by simpa using h13
     subst hy
     obtain ⟨_, hJ2, hN⟩ := hcase.resolve_right (by simp)
     replace hQ := hQ.kx hN hQX
     replace hR5 := hR5.kx hN hbY (fun h => by have := hYY _ h; omega)
     refine CW.skip (KW.inBlock (KW.round ?_))
     exact ⟨done ++ [k], ⟨hJ2, hQ, hR5⟩, ⟨rfl, rfl, trivial⟩, by have := hR5.length; simp at this ⊢; omega⟩
theorem appendSeq_any (g : Nat) (lb : Array Go.Value) (S Sp : List Int → Prop) (N : Nat) (w : World) (en : ∀ args w, (callFunc g args).run Tryz.prog w = .ok (.enter g args) w) (hit : ∀ W (X : Nat → Prop), Up w W → (∀ i, X i → w.heap.size ≤ i) → IterS Tryz.prog g lb eInt X (fun _ => False) S Sp N W) (hN0 : N ≤ 1000000000) : Ret Tryz.prog 121 #[.slice none 0 0, .func (.func g) #[] lb] w fun r w' => ∃ ks, S ks ∧ OwnS w' w.heap.size 3 1 eInt r ks ∧ Up w w' := by
  have hW := Up.refl w
  obtain ⟨w0, rfl⟩ : ∃ w0, w0 = w := ⟨_, rfl⟩
  refine Calls_startM (n := 13) Tryz.func121 rfl rfl rfl ?_
  refine CW.seq (CW.region ?_)
  refine LW.r (REv.box1 (.tmp rfl) rfl) rfl rfl rfl rfl ?_
  rintro _ w1 ⟨B2, rfl, NB2⟩
  have eB2 := NB2.at_
  have zB2 := NB2.size
  replace hW := hW.up NB2.up
  have hB2 := NB2.blk
  refine LW.p (PEv.assign (.const _)) rfl rfl rfl (LW.nil (KW.then (CW.seq (CW.seq (CW.region (LW.p (PEv.move (.tmp rfl)) rfl rfl rfl (LW.nil (KW.then (CW.block ?_)))))))))
  obtain ⟨bq, hbq⟩ : ∃ bq, bq = w1.heap.size := ⟨_, rfl⟩
  refine CW.rangeFunc (fun i => B2 ≤ i) (fun _ => False) (fun pre W => Sz bq W ∧ ∃ v, Blk W B2 #[v] 32 ∧ OwnS W (B2 + 1) 3 1 eInt v pre ∧ Up w0 W) (fun c pre W => Sz bq W ∧ False) (fun x a' W => Ag 13 [] ([(5, .eq (vi x)), (2, .eq (.pointer (some ⟨B2, 0, none⟩)))]) a' W) (.tmp rfl) en (hit _ _ hW (fun i (hi : B2 ≤ i) => by omega)) (fun _ => rfl) rfl ?_ ?_ ?_ ?_ ?_ ?_ ?_ ?_
  ·rw [← hbq]
   intro pre W W' row hs hg hr
   obtain ⟨hZ, v, hB2, hO, hW⟩ := hs
   exact ⟨hZ.ko (Ko.grown hg hr), v, hB2.ko (Ko.grown hg hr), hO.ko (Ko.grown hg hr), hW.ko (Ko.grown hg hr) (by omega)⟩
  ·rw [← hbq]
   intro c pre W W' row hs hg hr
   obtain ⟨hZ, hF⟩ := hs
   exact ⟨hZ.ko (Ko.grown hg hr), hF⟩
  ·intro x a' u W W' row hs hg hr
   exact hs.world rfl _
  ·exact ⟨Nat.le_of_eq hbq, _, hB2, OwnS.nil _ _ _ _ _, hW⟩
  ·rw [← hbq]
   intro lp pre x w2 K hs hk a ha
   obtain ⟨hZ, v, hB2, hO, hW⟩ := hs
   have zq := hZ.le
   have hK := Kf.refl bq w2
   have hN := Kx.refl bq (fun i => B2 ≤ i) (fun _ => False) w2
   revert a
   refine CW.assign1 (p := 7) rfl ?_
   refine CW.region (LW.p (PEv.assign (.tmp rfl)) rfl rfl rfl (LW.nil ?_))
   exact fun a ha => hk a _ hK hN ⟨hZ, v, hB2, hO, hW⟩ (ha.sub ⟨rfl, rfl, trivial⟩)
  ·rw [← hbq]
   intro lp pre x a' w3 hs hx hlt
   obtain ⟨hZ, v, hB2, hO, hW⟩ := hs
   have ha := hx
   have zq := hZ.le
   have hK := Kf.refl bq w3
   have hN := Kx.refl bq (fun i => B2 ≤ i) (fun _ => False) w3
   refine (show CW (some lp) 8 _ 13 [] _ (ownPostG bq (Kx bq (fun i => B2 ≤ i) (fun _ => False)) _ _ (pre ++ [x]) w3) ([(5, .eq (vi x)), (2, .eq (.pointer (some ⟨B2, 0, none⟩)))]) w3 from ?_) a' ha
   refine CW.block (CW.region ?_)
   refine LW.p (PEv.load Tryz.isAgg32 (.tmp rfl) (hB2.celln rfl)) rfl rfl rfl ?_
   refine LW.p (PEv.move (.tmp rfl)) rfl rfl rfl ?_
   refine LW.r (REv.buildSlice (xs := [x]) (enc := eInt) (mk := vi) Tryz.underlying32 Tryz.sizeOf3 Tryz.zeroValue3 rfl (by decide) (fun _ => rfl) (fun _ => rfl) (.cons (.tmp rfl) .nil) rfl) rfl rfl rfl rfl ?_
   rintro _ w4 ⟨B10, cB10, rfl, NB10, yB10, xB10⟩
   have eB10 := NB10.at_
   have zB10 := NB10.size
   replace hZ := hZ.up NB10.up
   replace hB2 := hB2.up NB10.up
   replace hO := hO.up NB10.up
   replace hW := hW.up NB10.up
   replace hK := hK.up NB10.up
   replace hN := hN.up NB10.up
   have hB10 := NB10.blk
   have hE10 := xB10
   refine LW.r (REv.append (enc := eInt) (base := B2 + 1) (bytes := 8) (i := Tryz.t3) Tryz.underlying32 (by kernel_rfl) rfl rfl rfl rfl (by decide) (fun _ => rfl) eInt_one (.tmp rfl) (.tmp rfl) hO (Sl.of_els hE10) (by simp) (by simp [maxLen]; omega) (by simp; omega) (by omega)) rfl rfl rfl rfl ?_
   rintro v11 w5 ⟨Ow5, Gw5⟩
   have zw5 := Gw5.size
   replace hZ := hZ.gr Gw5 rfl
   replace hB2 := hB2.gr Gw5 (by omega)
   replace hW := hW.gr Gw5 (by omega)
   replace hK := hK.gr Gw5
   replace hN := hN.gr Gw5 (fun i hi => by first | exact .inr (by omega) | exact .inl (by show _ ≤ _; omega))
   replace hO := Ow5
   refine LW.s (SEv.store Tryz.sizeOf32 (.tmp rfl) (.tmp rfl) hO.one hB2 (by simp)) rfl rfl rfl ?_
   intro w6 Nw6
   have zw6 := Nw6.size
   replace hZ := hZ.sto Nw6.sto (by omega)
   replace hO := hO.sto Nw6.sto (by omega)
   replace hW := hW.sto Nw6.sto (by omega)
   replace hK := hK.sto Nw6.sto (.inr (.inr ⟨_, _, hB2⟩))
   replace hN := hN.stoC Nw6.sto (⟨_, _, hB2⟩) (by first | exact .inr (by omega) | exact .inl rfl | exact .inl (by show _ ≤ _; omega))
   replace hB2 := Nw6.blk
   replace hB2 : Blk w6 B2 #[v11] _ := hB2
   refine LW.nil (KW.inBlock ?_)
   exact fun a ha => ⟨hK, hN, hZ, _, hB2, hO, hW⟩
  ·intro D ys w7 hDb hS hs hD
   rw [← hbq] at hDb
   obtain ⟨hZ, v, hB2, hO, hW⟩ := hs
   replace hD : Ob w7 D (.deferred (some [])) := hD
   have zD := hD.lt
   have zq := hZ.le
   refine KW.inBlock (KW.then (CW.seq (CW.region ?_)))
   refine LW.p (PEv.load Tryz.isAgg32 (.tmp rfl) (hB2.celln rfl)) rfl rfl rfl ?_
   refine LW.p (PEv.assign (.tmp rfl)) rfl rfl rfl (LW.nil (KW.then (CW.ret ?_)))
   refine KW.unmark hD rfl ?_
   replace hZ := hZ.ko (Ko.putObj (.deferred none) hD rfl hDb)
   replace hB2 := hB2.ko (Ko.putObj (.deferred none) hD rfl hDb)
   replace hO := hO.ko (Ko.putObj (.deferred none) hD rfl hDb)
   replace hW := hW.putObj (D := D) (.deferred none) (by omega)
   refine KW.ret1 rfl rfl ⟨_, rfl, ?_⟩
   exact ⟨ys, hS, hO.mono (by omega), hW⟩
  ·intro D c pre w8 hDb hpre hs hD
   rw [← hbq] at hDb
   obtain ⟨hZ, hF⟩ := hs
   replace hD : Ob w8 D (.deferred (some [])) := hD
   have zD := hD.lt
   have zq := hZ.le
   exact hF.elim
theorem sort_any (base e : Nat) (v : Value) (ks : List Int) (w : World) (h : OwnS w base e 1 eInt v ks) (hlen : ks.length < 4611686018427387904) : Ret Tryz.prog 90 #[v] w fun r w' => r = .tuple #[] ∧ OwnS w' base e 1 eInt v (ks.mergeSort fun x y => decide (x ≤ y)) ∧ Grew base w w' := by
  have h0 := h
  obtain ⟨h1, ⟨rfl, hn⟩ | ⟨g, cap, cur, rfl, hg, hb, h2, h3, h4, h5⟩⟩ := h
  · have hks : ks = [] := List.eq_nil_of_length_eq_zero hn
    subst hks
    refine Calls.mono (Tryz.slices_Sort_int_none none 0 w) ?_
    rintro e' w' ⟨rfl, rfl⟩
    exact ⟨_, rfl, rfl, by simpa using h0, ⟨rfl, rfl, rfl, Nat.le_refl _, fun _ _ _ => rfl, fun _ _ h _ => h⟩⟩
  · rw [flat_int] at h5
    have hl : g < w.heap.size := lt_of_block hb
    refine Calls.mono (Tryz.slices_Sort_int g 0 cap ks w (holds_of_blockI hb (by simpa using h5)) hl hlen) ?_
    rintro e' w' ⟨rfl, n, os, rfl⟩
    have hg2 := Go.grownBy_sortedI (w := w) (g := g) (n := n) (os := os) (ks.mergeSort fun x y => decide (x ≤ y)).toArray
    have ho := Go.ownsRow_sortedI (w := w) (n := n) (os := os) (ss := ks) (ts := ks.mergeSort fun x y => decide (x ≤ y)) (by simp) hg hb h2 h3 h4
    refine ⟨_, rfl, rfl, ?_, ⟨hg2.os, hg2.tape, hg2.output, hg2.size, fun i hi hi2 => hg2.block i hi (fun e => by cases e; omega), fun i o hi ho => (hg2.block i (lt_of_block hi) (fun e => by cases e; rw [hb] at hi; cases hi; cases ho)).trans hi⟩⟩
    show World.ownsRow _ _ _ _ _ _ _
    rw [flat_int, List.length_mergeSort]
    exact ho
theorem collect_any (g : Nat) (lb : Array Go.Value) (S Sp : List Int → Prop) (N : Nat) (w : World) (en : ∀ args w, (callFunc g args).run Tryz.prog w = .ok (.enter g args) w) (hit : ∀ W (X : Nat → Prop), Up w W → (∀ i, X i → w.heap.size ≤ i) → IterS Tryz.prog g lb eInt X (fun _ => False) S Sp N W) (hN0 : N ≤ 1000000000) : Ret Tryz.prog 89 #[.func (.func g) #[] lb] w fun r w' => ∃ ks, S ks ∧ OwnS w' w.heap.size 3 1 eInt r ks ∧ Up w w' := by
  have hW := Up.refl w
  refine Calls_start (n := 5) (m := 9) Tryz.func89 rfl rfl rfl ?_
  refine CW.seq (CW.region (LW.p (PEv.assign (.const _)) rfl rfl rfl (LW.nil (KW.then (CW.seq (CW.region (LW.p (PEv.move (.tmp rfl)) rfl rfl rfl ?_)))))))
  refine LW.c (enter_call0 (.cons (.const _) (.cons (.tmp rfl) .nil)) (Tryz.en121)) rfl rfl rfl rfl (appendSeq_any _ _ _ _ _ _ en hit hN0) ?_
  rintro _ w1 ⟨ks, hS, hO, uw1⟩
  have zw1 := uw1.size
  replace hW := hW.up uw1
  refine LW.p (PEv.assign (.tmp rfl)) rfl rfl rfl (LW.nil (KW.then (CW.ret ?_)))
  refine KW.ret1 rfl rfl ⟨_, rfl, ?_⟩
  exact ⟨ks, hS, hO, hW⟩
theorem sorted_any (g : Nat) (lb : Array Go.Value) (S Sp : List Int → Prop) (N : Nat) (w : World) (en : ∀ args w, (callFunc g args).run Tryz.prog w = .ok (.enter g args) w) (hit : ∀ W (X : Nat → Prop), Up w W → (∀ i, X i → w.heap.size ≤ i) → IterS Tryz.prog g lb eInt X (fun _ => False) S Sp N W) (hN0 : N ≤ 1000000000) (hS0 : ∀ ks, S ks → ks.length ≤ 1000000000) : Ret Tryz.prog 46 #[.func (.func g) #[] lb] w fun r w' => ∃ ks, S ks ∧ OwnS w' w.heap.size 3 1 eInt r (ks.mergeSort fun x y => decide (x ≤ y)) ∧ Up w w' := by
  have hW := Up.refl w
  refine Calls_start (n := 9) (m := 9) Tryz.func46 rfl rfl rfl ?_
  refine CW.seq (CW.region (LW.p (PEv.assign (.const _)) rfl rfl rfl (LW.nil (KW.then (CW.seq (CW.region (LW.p (PEv.move (.tmp rfl)) rfl rfl rfl ?_)))))))
  refine LW.c (enter_call0 (.cons (.tmp rfl) .nil) (Tryz.en89)) rfl rfl rfl rfl (collect_any _ _ _ _ _ _ en hit hN0) ?_
  rintro v w1 ⟨ks, hS, hO, uw1⟩
  have zw1 := uw1.size
  replace hW := hW.up uw1
  refine LW.p (PEv.assign (.tmp rfl)) rfl rfl rfl (LW.nil (KW.then (CW.seq (CW.region (LW.p (PEv.move (.tmp rfl)) rfl rfl rfl ?_)))))
  refine LW.c (enter_call0 (.cons (.tmp rfl) .nil) (Tryz.en90)) rfl rfl rfl rfl (sort_any _ _ _ _ _ hO (by have := hS0 ks hS; omega)) ?_
  rintro _ w2 ⟨rfl, hO2, uw2⟩
  have zw2 := uw2.size
  replace hW := hW.gr uw2 (by omega)
  replace hO := hO2
  refine LW.nil (KW.then (CW.seq (CW.region (LW.p (PEv.move (.tmp rfl)) rfl rfl rfl (LW.p (PEv.assign (.tmp rfl)) rfl rfl rfl (LW.nil (KW.then (CW.ret ?_))))))))
  refine KW.ret1 rfl rfl ⟨_, rfl, ?_⟩
  exact ⟨ks, hS, hO, hW⟩
end Hs
theorem Members_any (bc : Array Go.Value) (bs : Base) (lot time : Int) (w : World) (hC : BaseC w bc bs) (hl : bs.Lots.length ≤ 1000000000) : Ret Tryz.prog 26 #[.agg bc, vi lot, vi time] w fun r w' => OwnS w' w.heap.size 3 1 eInt r (membersL bs.Lots lot time) ∧ Up w w' := by
  obtain ⟨w0, rfl⟩ : ∃ w0, w0 = w := ⟨_, rfl⟩
  have hS := Sep.start no w0
  refine Calls_start (n := 42) (m := 9) Tryz.func26 rfl rfl rfl ?_
  refine CW.seq (CW.region ?_)
  refine LW.r (REv.boxA (.tmp rfl)) rfl rfl rfl rfl ?_
  rintro _ w1 ⟨B3, rfl, NB3⟩
  have eB3 := NB3.at_
  have zB3 := NB3.size
  replace hS := hS.addB NB3
  change Wx.Sep _ _ _ [_] at hS
  refine LW.p (PEv.assign (.const _)) rfl rfl rfl (LW.nil (KW.then (CW.seq (CW.region ?_))))
  refine LW.r REv.makeMap rfl rfl rfl rfl ?_
  rintro _ w2 ⟨M12, rfl, hMM12, uw2, eM12, zw2⟩
  replace hS := hS.add uw2 (A' := aIMap M12 (([] : List Int).map unitB)) hMM12 (fun i (h : i = M12) => by omega)
  change Wx.Sep _ _ _ [_, _] at hS
  refine LW.p (PEv.assign (.tmp rfl)) rfl rfl rfl (LW.nil (KW.then (CW.seq (CW.seq ?_))))
  obtain ⟨v3, h3, ad, cp, rfl, hE0⟩ := hC.at3
  refine CW.region ?_
  refine LW.p (PEv.fieldAddr (off := 3) Tryz.underlying24 rfl rfl Tryz.sizeOf22 rfl (.tmp rfl)) rfl rfl rfl ?_
  refine LW.p (PEv.load Tryz.isAgg22 (.tmp rfl) ((hS.blk 0 rfl).cell h3)) rfl rfl rfl ?_
  refine LW.p (PEv.lenS Tryz.underlying22 (.tmp rfl)) rfl rfl rfl ?_
  refine LW.p (PEv.move (.const _)) rfl rfl rfl ?_
  refine LW.nil (KW.then (CW.block ?_))
  refine CW.loopB (σ := Nat) (fun s w => (s ≤ bs.Lots.length) ∧ (Wx.Sep no w0 w [aBlk B3 bc 24, aIMap M12 ((memK bs.Lots lot time (bs.Lots.take s)).map unitB)])) (fun s => [(16, .eq (vi (s : Int)))]) ([(1, .eq _), (2, .eq _), (3, .eq _), (6, .eq _), (7, .eq _), (14, .eq _), (15, .eq _)]) (fun s => bs.Lots.length - s) 0 ?_ ⟨rfl, rfl, rfl, rfl, rfl, rfl, rfl, rfl, trivial⟩ ?_
  ·exact ⟨Nat.zero_le _, hS⟩
  ·rintro k w3 ⟨hk, hS⟩
   refine CW.seq (CW.region ?_)
   refine LW.p (PEv.lss (.tmp rfl) (.tmp rfl)) rfl rfl rfl ?_
   refine LW.nil (KW.then (CW.seq ?_))
   refine CW.cond (.tmp rfl) (fun h17 => ?_) (fun h17 => ?_)
   ·first | replace h17 := of_decide_eq_true h17 | replace h17 := of_decide_eq_false h17 | skip
    refine CW.skip (KW.then (CW.seq (CW.block (CW.seq ?_))))
    have hE := Els.up hE0 hS.upd
    refine CW.region ?_
    obtain ⟨x, hx⟩ := getElem?_of_lt (xs := bs.Lots) (i := k) (by omega)
    obtain ⟨Bx, ox, ax, hcx⟩ := hE _ x hx
    refine LW.p (PEv.indexAddr' Tryz.underlying22 Tryz.sizeOf46 (.tmp rfl) (.tmp rfl) (by omega) ax) rfl rfl rfl ?_
    refine LW.p (PEv.loadA Tryz.isAgg46 Tryz.sizeOf46 rfl (.tmp rfl) (hcx)) rfl rfl rfl ?_
    refine LW.r (REv.allocA Tryz.zeroValue46) rfl rfl rfl rfl ?_
    rintro _ w4 ⟨B9, rfl, MB9⟩
    refine LW.s (SEv.storeA Tryz.sizeOf46 rfl (.tmp rfl) (.tmp rfl) (Fact.one _) MB9.blk rfl) rfl rfl rfl ?_
    intro w5 LB9
    have NB9 := MB9.set LB9
    clear LB9 MB9
    have eB9 := NB9.at_
    have zB9 := NB9.size
    replace hcx := hcx.up NB9.up
    replace hS := hS.addB NB9
    change Wx.Sep _ _ _ [_, _, _] at hS
    refine LW.nil (KW.then (CW.seq (CW.region ?_)))
    refine LW.p (PEv.loadA Tryz.isAgg24 Tryz.sizeOf24 (hC.size) (.tmp rfl) ((hS.blk 0 rfl).agg)) rfl rfl rfl ?_
    refine LW.p (PEv.fieldAddr (off := 7) Tryz.underlying46 rfl rfl Tryz.sizeOf3 rfl (.tmp rfl)) rfl rfl rfl ?_
    refine LW.p (PEv.load Tryz.isAgg3 (.tmp rfl) ((hS.blk 2 rfl).celln rfl)) rfl rfl rfl ?_
    refine LW.p (PEv.move (.tmp rfl)) rfl rfl rfl ?_
    refine LW.c (enter_call0 (.cons (.tmp rfl) (.cons (.tmp rfl) (.cons (.tmp rfl) .nil))) (Tryz.en16)) rfl rfl rfl rfl (lot_any bc bs x.Wafer time _ (hC.up hS.upd) (by omega)) ?_
    rintro _ w6 ⟨rfl, uw6⟩
    have zw6 := uw6.size
    replace hS := hS.up uw6
    refine LW.p (PEv.move (.tmp rfl)) rfl rfl rfl (LW.p (PEv.extract (.tmp rfl) rfl) rfl rfl rfl (LW.p (PEv.extract (.tmp rfl) rfl) rfl rfl rfl (LW.p (PEv.assign (.tmp rfl)) rfl rfl rfl (LW.p (PEv.assign (.tmp rfl)) rfl rfl rfl (LW.nil (KW.then (CW.seq (CW.region (LW.p (PEv.move (.tmp rfl)) rfl rfl rfl (LW.p (PEv.move (.tmp rfl)) rfl rfl rfl ?_))))))))))
    refine LW.p (PEv.eql (.tmp rfl) (.tmp rfl)) rfl rfl rfl ?_
    refine LW.p (PEv.move (.tmp rfl)) rfl rfl rfl ?_
    refine LW.g rfl rfl rfl rfl rfl rfl rfl (fun hc => PEv.move (.tmp rfl)) ?_
    refine LW.gc rfl rfl rfl rfl rfl rfl rfl rfl (fun hc => enter_call0 (.cons (by first | exact .tmp rfl | exact .cond rfl (by first | assumption | simp_all)) .nil) (Tryz.en38)) (fun hc => isID_any _ _) ?_
    intro w7 uw7
    have zw7 := uw7.size
    replace hS := hS.up uw7
    refine LW.p (PEv.pick_and (.tmp rfl) (fun hp => (by first | exact .const _ | exact .tmp rfl | exact .cond rfl (by first | assumption | simp_all)))) rfl rfl rfl ?_
    refine LW.nil (KW.then ?_)
    refine CW.cond (.tmp rfl) (fun h34 => ?_) (fun h34 => ?_)
    ·first | replace h34 := of_decide_eq_true h34 | replace h34 := of_decide_eq_false h34 | skip
     refine CW.region (LW.p (PEv.move (.tmp rfl)) rfl rfl rfl ?_)
     refine LW.p (PEv.fieldAddr (off := 7) Tryz.underlying46 rfl rfl Tryz.sizeOf3 rfl (.tmp rfl)) rfl rfl rfl ?_
     refine LW.p (PEv.load Tryz.isAgg3 (.tmp rfl) ((hS.blk 2 rfl).celln rfl)) rfl rfl rfl ?_
     refine LW.s (SEv.mapUpdate Tryz.underlying77 Tryz.underlying3 (.tmp rfl) (.tmp rfl) (.const _) (hS.get 1 rfl)) rfl rfl rfl ?_
     rintro w8 ⟨Mu, Ku, zu⟩
     rw [mset_unitB] at Mu
     replace hS := hS.stp 1 rfl (stp_set Mu Ku)
     change Wx.Sep _ _ _ [_, _, _] at hS
     clear Mu Ku
     refine LW.nil (KW.inBlock (KW.then (CW.region ?_)))
     refine LW.p (PEv.inc (.tmp rfl) (by omega)) rfl rfl rfl ?_
     refine LW.p (PEv.move (.tmp rfl)) rfl rfl rfl (LW.nil (KW.round ?_))
     exact ⟨k + 1, ⟨by omega, by first | (rw [memK_yes hx h34]; exact hS.take 2) | (rw [memK_no hx h34]; exact hS.take 2)⟩, ⟨rfl, rfl, rfl, rfl, rfl, rfl, rfl, rfl, trivial⟩, by first | omega | (dsimp only; omega)⟩
    ·first | replace h34 := of_decide_eq_true h34 | replace h34 := of_decide_eq_false h34 | skip
     refine CW.skip (KW.inBlock (KW.then (CW.region ?_)))
     refine LW.p (PEv.inc (.tmp rfl) (by omega)) rfl rfl rfl ?_
     refine LW.p (PEv.move (.tmp rfl)) rfl rfl rfl (LW.nil (KW.round ?_))
     exact ⟨k + 1, ⟨by omega, by first | (rw [memK_yes hx h34]; exact hS.take 2) | (rw [memK_no hx h34]; exact hS.take 2)⟩, ⟨rfl, rfl, rfl, rfl, rfl, rfl, rfl, rfl, trivial⟩, by first | omega | (dsimp only; omega)⟩
   ·first | replace h17 := of_decide_eq_true h17 | replace h17 := of_decide_eq_false h17 | skip
    refine CW.exit (KW.then_exit (KW.then_exit (KW.block_hit (KW.then (CW.seq ?_)))))
    have hkl : k = bs.Lots.length := by omega
    rw [hkl, List.take_length] at hS
    have hml := memK_len bs.Lots lot time bs.Lots
    refine CW.region (LW.p (PEv.move (.tmp rfl)) rfl rfl rfl ?_)
    refine LW.c (enter_call0 (.cons (.tmp rfl) .nil) (Tryz.en47)) rfl rfl rfl rfl (Hs.mapsKeys_any _ _) ?_
    rintro _ w9 ⟨⟨BK, rfl, hBK, zK⟩, uw9⟩
    have zw9 := uw9.size
    replace hS := hS.up uw9
    have zBK := hBK.lt
    have zz := hS.upd.size
    refine LW.c (enter_call0 (.cons (.tmp rfl) .nil) (Tryz.en46)) rfl rfl rfl rfl (Hs.sorted_any _ _ _ _ _ _ Tryz.en91 (fun W X u hX => Hs.mapsKeys_iter X _ BK M12 _ W (fun i h => h.elim) (fun h => by have := hX _ h; omega) (fun h => h.elim) (hBK.up u) (((hS.get 1 rfl : IMap _ _ _)).up u)) (by rw [List.length_map]; omega) (fun ks h => by have := h.length_eq; rw [unitB_keys] at this; omega)) ?_
    rintro v w10 ⟨ks, hP, hO, uw10⟩
    have zw10 := uw10.size
    replace hS := hS.up uw10
    replace hBK := hBK.up uw10
    rw [unitB_keys] at hP
    rw [sort_perm hP] at hO
    replace hO := hO.mono (show w0.heap.size ≤ _ by omega)
    refine LW.p (PEv.assign (.tmp rfl)) rfl rfl rfl (LW.nil (KW.then (CW.ret ?_)))
    refine KW.ret1 rfl rfl ⟨_, rfl, ?_⟩
    exact ⟨hO, hS.upd⟩
theorem wafDel_any (n : Int) (v : Go.Value) (w : World) : Ret Tryz.prog 50 #[vi n, v] w fun r w' => r = .bool (!isIDb n) ∧ Up w w' := by
  have hW := Up.refl w
  refine Calls_start (n := 8) (m := 9) Tryz.func50 rfl rfl rfl ?_
  refine CW.seq (CW.region (LW.p (PEv.assign (.const _)) rfl rfl rfl (LW.nil (KW.then (CW.seq (CW.region (LW.p (PEv.move (.tmp rfl)) rfl rfl rfl ?_)))))))
  refine LW.c (enter_call0 (.cons (.tmp rfl) .nil) (Tryz.en38)) rfl rfl rfl rfl (isID_any _ _) ?_
  rintro _ w1 ⟨rfl, uw1⟩
  have zw1 := uw1.size
  replace hW := hW.up uw1
  refine LW.p (PEv.not (.tmp rfl)) rfl rfl rfl ?_
  refine LW.p (PEv.assign (.tmp rfl)) rfl rfl rfl (LW.nil (KW.then (CW.ret ?_)))
  refine KW.ret1 rfl rfl ⟨_, rfl, ?_⟩
  exact ⟨rfl, hW⟩
theorem delW_any (b : Nat) (ks : List Int) (w : World) (hM : IMap w b (ks.map unitB)) : Ret Tryz.prog 49 #[.map (some b), .func (.func 50) #[] #[]] w fun r w' => r = .tuple #[] ∧ Stp (aIMap b (ks.map unitB)) (aIMap b ((ks.filter isIDb).map unitB)) w w' := by
  obtain ⟨w0, rfl⟩ : ∃ w0, w0 = w := ⟨_, rfl⟩
  have hS : Wx.Sep (aIMap b (ks.map unitB)).foot w0 w0 [aIMap b (ks.map unitB)] := Sep.cons (A := aIMap b (ks.map unitB)) hM (fun _ h => h) (Sep.start _ _) (by simp)
  refine Calls_start (n := 19) (m := 9) Tryz.func49 rfl rfl rfl ?_
  refine CW.seq (CW.region (LW.p (PEv.move (.tmp rfl)) rfl rfl rfl ?_))
  refine LW.r (REv.range Tryz.underlying77 (.tmp rfl) (hS.get 0 rfl)) rfl rfl rfl rfl ?_
  rintro _ w1 ⟨r7, rfl, hR_, uR, eR, zR⟩
  replace hS := hS.stp 0 rfl (stp_range hR_ uR eR)
  change Wx.Sep _ _ _ [_] at hS
  clear hR_
  refine LW.nil (KW.then (CW.block ?_))
  refine CW.loopB (σ := List Int) (fun s w => (s.Nodup ∧ ∀ k ∈ s, k ∈ ks) ∧ (Wx.Sep (aIMap b (ks.map unitB)).foot w0 w [aIRng b r7 ((curW ks s).map unitB) (s.filter isIDb)])) (fun s => []) ([(0, .eq _), (1, .eq _), (7, .eq _)]) (fun s => ks.length - s.length) [] ?_ ⟨rfl, rfl, rfl, trivial⟩ ?_
  ·exact ⟨⟨List.nodup_nil, fun _ h => by cases h⟩, by rw [curW_nil]; exact hS⟩
  ·rintro V w2 ⟨hV, hS⟩
   refine CW.seq (CW.region ?_)
   refine LW.r (REv.next (.tmp rfl) (hS.get 0 rfl)) rfl rfl rfl rfl ?_
   rintro _ w3 (⟨rfl, rfl, hPm⟩ | ⟨k0, u0, rfl, hNx⟩)
   ·skip
    refine LW.p (PEv.extract (.tmp rfl) rfl) rfl rfl rfl (LW.nil (KW.then (CW.seq ?_)))
    refine CW.cond_false (.tmp rfl) ?_
    refine CW.exit (KW.then_exit (KW.then_exit (KW.block_hit ?_)))
    refine KW.end0 rfl ⟨_, rfl, ?_⟩
    rw [curW_end hPm] at hS
    have hS2 := hS.stp 0 rfl (stp_rngEnd (hS.get 0 rfl))
    exact ⟨rfl, hS2.fr, hS2.get 0 rfl, fun _ h => .inl h⟩
   ·skip
    have zw3 := hNx.size
    replace hS := hS.stp 0 rfl (stp_next hNx)
    change Wx.Sep _ _ _ [_] at hS
    obtain ⟨hk0c, hu0⟩ := unitB_mem hNx.mem
    subst hu0
    obtain ⟨hk0V, hk0k⟩ := curW_fresh hk0c hNx.fresh
    have hV2 : (V ++ [k0]).Nodup ∧ ∀ k ∈ V ++ [k0], k ∈ ks := ⟨List.nodup_append.2 ⟨hV.1, by simp, fun a ha c hc => by simp at hc; subst hc; exact fun e => hk0V (e ▸ ha)⟩, fun k hk => (List.mem_append.1 hk).elim (hV.2 k) (fun h => by cases List.mem_singleton.1 h; exact hk0k)⟩
    have hVl := hV2.1.length_le_of_subset hV2.2
    rw [List.length_append, List.length_singleton] at hVl
    refine LW.p (PEv.extract (.tmp rfl) rfl) rfl rfl rfl (LW.nil (KW.then (CW.seq ?_)))
    refine CW.cond_true (.tmp rfl) ?_
    refine CW.skip (KW.then (CW.block (CW.seq (CW.region ?_))))
    refine LW.r (REv.entry (.tmp rfl) hNx.entry) rfl rfl rfl rfl ?_
    rintro _ _ ⟨rfl, rfl⟩
    refine LW.p (PEv.extract (.tmp rfl) rfl) rfl rfl rfl (LW.p (PEv.extract (.tmp rfl) rfl) rfl rfl rfl (LW.p (PEv.assign (.tmp rfl)) rfl rfl rfl (LW.p (PEv.assign (.tmp rfl)) rfl rfl rfl (LW.nil (KW.then (CW.seq (CW.region (LW.p (PEv.move (.tmp rfl)) rfl rfl rfl (LW.p (PEv.move (.tmp rfl)) rfl rfl rfl (LW.p (PEv.move (.tmp rfl)) rfl rfl rfl ?_))))))))))
    refine LW.c (enter_callv (.tmp rfl) (.cons (.tmp rfl) (.cons (.tmp rfl) .nil)) (Tryz.en50)) rfl rfl rfl rfl (wafDel_any _ _ _) ?_
    rintro _ w4 ⟨rfl, uw4⟩
    have zw4 := uw4.size
    replace hS := hS.up uw4
    refine LW.nil (KW.then ?_)
    refine CW.cond (.tmp rfl) (fun h16 => ?_) (fun h16 => ?_)
    ·first | replace h16 := of_decide_eq_true h16 | replace h16 := of_decide_eq_false h16 | skip
     have hid : isIDb k0 = false := by simpa using h16
     refine CW.region (LW.p (PEv.move (.tmp rfl)) rfl rfl rfl (LW.p (PEv.move (.tmp rfl)) rfl rfl rfl ?_))
     refine LW.rn (REv.deleteR Tryz.underlying77 Tryz.underlying3 (.tmp rfl) (.tmp rfl) (hS.get 0 rfl)) rfl rfl rfl ?_
     rintro _ w5 ⟨hR2, Kd, zd⟩
     replace hS := hS.stp 0 rfl (stp_rng hR2 Kd)
     change Wx.Sep _ _ _ [_] at hS
     clear hR2 Kd
     refine LW.nil (KW.inBlock (KW.round ?_))
     exact ⟨V ++ [k0], ⟨hV2, by first | (rw [curW_yes ks V hid, filt_snoc_yes V hid]; exact hS) | (rw [curW_no ks V hid, filt_snoc_no V hid]; exact hS)⟩, ⟨rfl, rfl, rfl, trivial⟩, by rw [List.length_append, List.length_singleton]; omega⟩
    ·first | replace h16 := of_decide_eq_true h16 | replace h16 := of_decide_eq_false h16 | skip
     have hid : isIDb k0 = true := by simpa using h16
     refine CW.skip (KW.inBlock (KW.round ?_))
     exact ⟨V ++ [k0], ⟨hV2, by first | (rw [curW_yes ks V hid, filt_snoc_yes V hid]; exact hS) | (rw [curW_no ks V hid, filt_snoc_no V hid]; exact hS)⟩, ⟨rfl, rfl, rfl, trivial⟩, by rw [List.length_append, List.length_singleton]; omega⟩
theorem Wafers_any (bc : Array Go.Value) (bs : Base) (w : World) (hC : BaseC w bc bs) (hs : bs.Swaps.length ≤ 1000000000) (hsum : bs.Lots.length + bs.Processes.length ≤ 1000000000) : Ret Tryz.prog 28 #[.agg bc] w fun r w' => OwnS w' w.heap.size 3 1 eInt r (wafersL bs.Lots bs.Processes bs.Swaps) ∧ Up w w' := by
  obtain ⟨w0, rfl⟩ : ∃ w0, w0 = w := ⟨_, rfl⟩
  have hS := Sep.start no w0
  refine Calls_start (n := 40) (m := 9) Tryz.func28 rfl rfl rfl ?_
  refine CW.seq (CW.region ?_)
  refine LW.r (REv.boxA (.tmp rfl)) rfl rfl rfl rfl ?_
  rintro _ w1 ⟨B1, rfl, NB1⟩
  have eB1 := NB1.at_
  have zB1 := NB1.size
  replace hS := hS.addB NB1
  change Wx.Sep _ _ _ [_] at hS
  refine LW.p (PEv.assign (.const _)) rfl rfl rfl (LW.nil (KW.then (CW.seq (CW.region ?_))))
  refine LW.r REv.makeMap rfl rfl rfl rfl ?_
  rintro _ w2 ⟨M8, rfl, hMM8, uw2, eM8, zw2⟩
  replace hS := hS.add uw2 (A' := aIMap M8 (([] : List Int).map unitB)) hMM8 (fun i (h : i = M8) => by omega)
  change Wx.Sep _ _ _ [_, _] at hS
  refine LW.p (PEv.assign (.tmp rfl)) rfl rfl rfl (LW.nil (KW.then (CW.seq (CW.seq ?_))))
  obtain ⟨v3, h3, ad, cp, rfl, hE0⟩ := hC.at3
  refine CW.region ?_
  refine LW.p (PEv.fieldAddr (off := 3) Tryz.underlying24 rfl rfl Tryz.sizeOf22 rfl (.tmp rfl)) rfl rfl rfl ?_
  refine LW.p (PEv.load Tryz.isAgg22 (.tmp rfl) ((hS.blk 0 rfl).cell h3)) rfl rfl rfl ?_
  refine LW.p (PEv.lenS Tryz.underlying22 (.tmp rfl)) rfl rfl rfl ?_
  refine LW.p (PEv.move (.const _)) rfl rfl rfl ?_
  refine LW.nil (KW.then (CW.block ?_))
  refine CW.loopB (σ := Nat) (fun s w => (s ≤ bs.Lots.length) ∧ (Wx.Sep no w0 w [aBlk B1 bc 24, aIMap M8 ((lotK (bs.Lots.take s)).map unitB)])) (fun s => [(12, .eq (vi (s : Int)))]) ([(1, .eq _), (2, .eq _), (3, .eq _), (10, .eq _), (11, .eq _)]) (fun s => bs.Lots.length - s) 0 ?_ ⟨rfl, rfl, rfl, rfl, rfl, rfl, trivial⟩ ?_
  ·exact ⟨Nat.zero_le _, hS⟩
  ·rintro k w3 ⟨hk, hS⟩
   refine CW.seq (CW.region ?_)
   refine LW.p (PEv.lss (.tmp rfl) (.tmp rfl)) rfl rfl rfl ?_
   refine LW.nil (KW.then (CW.seq ?_))
   refine CW.cond (.tmp rfl) (fun h13 => ?_) (fun h13 => ?_)
   ·first | replace h13 := of_decide_eq_true h13 | replace h13 := of_decide_eq_false h13 | skip
    refine CW.skip (KW.then (CW.seq (CW.block (CW.seq ?_))))
    have hE := Els.up hE0 hS.upd
    refine CW.region ?_
    obtain ⟨x, hx⟩ := getElem?_of_lt (xs := bs.Lots) (i := k) (by omega)
    obtain ⟨Bx, ox, ax, hcx⟩ := hE _ x hx
    refine LW.p (PEv.indexAddr' Tryz.underlying22 Tryz.sizeOf46 (.tmp rfl) (.tmp rfl) (by omega) ax) rfl rfl rfl ?_
    refine LW.p (PEv.loadA Tryz.isAgg46 Tryz.sizeOf46 rfl (.tmp rfl) (hcx)) rfl rfl rfl ?_
    refine LW.r (REv.allocA Tryz.zeroValue46) rfl rfl rfl rfl ?_
    rintro _ w4 ⟨B5, rfl, MB5⟩
    refine LW.s (SEv.storeA Tryz.sizeOf46 rfl (.tmp rfl) (.tmp rfl) (Fact.one _) MB5.blk rfl) rfl rfl rfl ?_
    intro w5 LB5
    have NB5 := MB5.set LB5
    clear LB5 MB5
    have eB5 := NB5.at_
    have zB5 := NB5.size
    replace hcx := hcx.up NB5.up
    replace hS := hS.addB NB5
    change Wx.Sep _ _ _ [_, _, _] at hS
    refine LW.nil (KW.then (CW.region (LW.p (PEv.move (.tmp rfl)) rfl rfl rfl ?_)))
    refine LW.p (PEv.fieldAddr (off := 7) Tryz.underlying46 rfl rfl Tryz.sizeOf3 rfl (.tmp rfl)) rfl rfl rfl ?_
    refine LW.p (PEv.load Tryz.isAgg3 (.tmp rfl) ((hS.blk 2 rfl).celln rfl)) rfl rfl rfl ?_
    refine LW.s (SEv.mapUpdate Tryz.underlying77 Tryz.underlying3 (.tmp rfl) (.tmp rfl) (.const _) (hS.get 1 rfl)) rfl rfl rfl ?_
    rintro w6 ⟨Mu, Ku, zu⟩
    rw [mset_unitB] at Mu
    replace hS := hS.stp 1 rfl (stp_set Mu Ku)
    change Wx.Sep _ _ _ [_, _, _] at hS
    clear Mu Ku
    refine LW.nil (KW.inBlock (KW.then (CW.region ?_)))
    refine LW.p (PEv.inc (.tmp rfl) (by omega)) rfl rfl rfl ?_
    refine LW.p (PEv.move (.tmp rfl)) rfl rfl rfl (LW.nil (KW.round ?_))
    exact ⟨k + 1, ⟨by omega, by rw [lotK_step hx]; exact hS.take 2⟩, ⟨rfl, rfl, rfl, rfl, rfl, rfl, trivial⟩, by first | omega | (dsimp only; omega)⟩
   ·first | replace h13 := of_decide_eq_true h13 | replace h13 := of_decide_eq_false h13 | skip
    refine CW.exit (KW.then_exit (KW.then_exit (KW.block_hit (KW.then (CW.seq (CW.seq ?_))))))
    obtain ⟨v0, h0, ad', cp', rfl, hE1⟩ := hC.at0
    have hkl : k = bs.Lots.length := by omega
    rw [hkl, List.take_length] at hS
    refine CW.region ?_
    refine LW.p (PEv.fieldAddr (off := 0) Tryz.underlying24 rfl rfl Tryz.sizeOf22 rfl (.tmp rfl)) rfl rfl rfl ?_
    refine LW.p (PEv.load Tryz.isAgg22 (.tmp rfl) ((hS.blk 0 rfl).cell h0)) rfl rfl rfl ?_
    refine LW.p (PEv.lenS Tryz.underlying22 (.tmp rfl)) rfl rfl rfl ?_
    refine LW.p (PEv.move (.const _)) rfl rfl rfl ?_
    refine LW.nil (KW.then (CW.block ?_))
    refine CW.loopB (σ := Nat) (fun s w => (s ≤ bs.Processes.length) ∧ (Wx.Sep no w0 w [aBlk B1 bc 24, aIMap M8 ((proK bs.Swaps (lotK bs.Lots) (bs.Processes.take s)).map unitB)])) (fun s => [(23, .eq (vi (s : Int)))]) ([(1, .eq _), (2, .eq _), (3, .eq _), (21, .eq _), (22, .eq _)]) (fun s => bs.Processes.length - s) 0 ?_ ⟨rfl, rfl, rfl, rfl, rfl, rfl, trivial⟩ ?_
    ·exact ⟨Nat.zero_le _, hS⟩
    ·rintro j w7 ⟨hj, hS⟩
     refine CW.seq (CW.region ?_)
     refine LW.p (PEv.lss (.tmp rfl) (.tmp rfl)) rfl rfl rfl ?_
     refine LW.nil (KW.then (CW.seq ?_))
     refine CW.cond (.tmp rfl) (fun h24 => ?_) (fun h24 => ?_)
     ·first | replace h24 := of_decide_eq_true h24 | replace h24 := of_decide_eq_false h24 | skip
      refine CW.skip (KW.then (CW.seq (CW.block (CW.seq ?_))))
      have hE := Els.up hE1 hS.upd
      refine CW.region ?_
      obtain ⟨x, hx⟩ := getElem?_of_lt (xs := bs.Processes) (i := j) (by omega)
      obtain ⟨Bx, ox, ax, hcx⟩ := hE _ x hx
      refine LW.p (PEv.indexAddr' Tryz.underlying22 Tryz.sizeOf46 (.tmp rfl) (.tmp rfl) (by omega) ax) rfl rfl rfl ?_
      refine LW.p (PEv.loadA Tryz.isAgg46 Tryz.sizeOf46 rfl (.tmp rfl) (hcx)) rfl rfl rfl ?_
      refine LW.r (REv.allocA Tryz.zeroValue46) rfl rfl rfl rfl ?_
      rintro _ w8 ⟨B7, rfl, MB7⟩
      refine LW.s (SEv.storeA Tryz.sizeOf46 rfl (.tmp rfl) (.tmp rfl) (Fact.one _) MB7.blk rfl) rfl rfl rfl ?_
      intro w9 LB7
      have NB7 := MB7.set LB7
      clear LB7 MB7
      have eB7 := NB7.at_
      have zB7 := NB7.size
      replace hcx := hcx.up NB7.up
      replace hS := hS.addB NB7
      change Wx.Sep _ _ _ [_, _, _] at hS
      refine LW.nil (KW.then (CW.region (LW.p (PEv.move (.tmp rfl)) rfl rfl rfl ?_)))
      refine LW.p (PEv.loadA Tryz.isAgg24 Tryz.sizeOf24 (hC.size) (.tmp rfl) ((hS.blk 0 rfl).agg)) rfl rfl rfl ?_
      refine LW.p (PEv.fieldAddr (off := 7) Tryz.underlying46 rfl rfl Tryz.sizeOf3 rfl (.tmp rfl)) rfl rfl rfl ?_
      refine LW.p (PEv.load Tryz.isAgg3 (.tmp rfl) ((hS.blk 2 rfl).celln rfl)) rfl rfl rfl ?_
      refine LW.p (PEv.fieldAddr (off := 5) Tryz.underlying46 rfl rfl Tryz.sizeOf3 rfl (.tmp rfl)) rfl rfl rfl ?_
      refine LW.p (PEv.load Tryz.isAgg3 (.tmp rfl) ((hS.blk 2 rfl).celln rfl)) rfl rfl rfl ?_
      refine LW.c (enter_call0 (.cons (.tmp rfl) (.cons (.tmp rfl) (.cons (.tmp rfl) .nil))) (Tryz.en18)) rfl rfl rfl rfl (Who_any bc bs _ _ _ (hC.up hS.upd) hs) ?_
      rintro _ w10 ⟨rfl, uw10⟩
      have zw10 := uw10.size
      replace hS := hS.up uw10
      refine LW.s (SEv.mapUpdate Tryz.underlying77 Tryz.underlying3 (.tmp rfl) (.tmp rfl) (.const _) (hS.get 1 rfl)) rfl rfl rfl ?_
      rintro w11 ⟨Mu, Ku, zu⟩
      rw [mset_unitB] at Mu
      replace hS := hS.stp 1 rfl (stp_set Mu Ku)
      change Wx.Sep _ _ _ [_, _, _] at hS
      clear Mu Ku
      refine LW.nil (KW.inBlock (KW.then (CW.region ?_)))
      refine LW.p (PEv.inc (.tmp rfl) (by omega)) rfl rfl rfl ?_
      refine LW.p (PEv.move (.tmp rfl)) rfl rfl rfl (LW.nil (KW.round ?_))
      exact ⟨j + 1, ⟨by omega, by rw [proK_step hx]; exact hS.take 2⟩, ⟨rfl, rfl, rfl, rfl, rfl, rfl, trivial⟩, by first | omega | (dsimp only; omega)⟩
     ·first | replace h24 := of_decide_eq_true h24 | replace h24 := of_decide_eq_false h24 | skip
      refine CW.exit (KW.then_exit (KW.then_exit (KW.block_hit (KW.then (CW.seq ?_)))))
      have hjl : j = bs.Processes.length := by omega
      rw [hjl, List.take_length] at hS
      have hml := Nat.le_trans (List.length_filter_le isIDb _) (Nat.le_trans (proK_len bs.Swaps (lotK bs.Lots) bs.Processes) (Nat.add_le_add_right (lotK_len bs.Lots) _))
      refine CW.region (LW.p (PEv.move (.tmp rfl)) rfl rfl rfl ?_)
      refine LW.c (enter_call0 (.cons (.tmp rfl) (.cons (.func _) .nil)) (Tryz.en49)) rfl rfl rfl rfl (delW_any M8 _ _ (hS.get 1 rfl)) ?_
      rintro _ w12 ⟨rfl, uw12⟩
      have zw12 := uw12.fr.size
      replace hS := hS.stp 1 rfl uw12
      change Wx.Sep _ _ _ [_, _] at hS
      refine LW.nil (KW.then (CW.seq (CW.region (LW.p (PEv.move (.tmp rfl)) rfl rfl rfl ?_))))
      refine LW.c (enter_call0 (.cons (.tmp rfl) .nil) (Tryz.en47)) rfl rfl rfl rfl (Hs.mapsKeys_any _ _) ?_
      rintro _ w13 ⟨⟨BK, rfl, hBK, zK⟩, uw13⟩
      have zw13 := uw13.size
      replace hS := hS.up uw13
      have zBK := hBK.lt
      have zz := hS.upd.size
      refine LW.c (enter_call0 (.cons (.tmp rfl) .nil) (Tryz.en46)) rfl rfl rfl rfl (Hs.sorted_any _ _ _ _ _ _ Tryz.en91 (fun W X u hX => Hs.mapsKeys_iter X _ BK M8 _ W (fun i h => h.elim) (fun h => by have := hX _ h; omega) (fun h => h.elim) (hBK.up u) (((hS.get 1 rfl : IMap _ _ _)).up u)) (by rw [List.length_map]; omega) (fun ks h => by have := h.length_eq; rw [unitB_keys] at this; omega)) ?_
      rintro v w14 ⟨ks, hP, hO, uw14⟩
      have zw14 := uw14.size
      replace hS := hS.up uw14
      replace hBK := hBK.up uw14
      rw [unitB_keys] at hP
      rw [sort_perm hP] at hO
      replace hO := hO.mono (show w0.heap.size ≤ _ by omega)
      refine LW.p (PEv.assign (.tmp rfl)) rfl rfl rfl (LW.nil (KW.then (CW.ret ?_)))
      refine KW.ret1 rfl rfl ⟨_, rfl, ?_⟩
      exact ⟨hO, hS.upd⟩
end Go.Proofs.YthfjagphcekcbaaGreat
end
section
namespace Go.Wx
def wI (n : Int) : Int := IntKind.i64.wrap n
def someB (y : I6) : Fact := { zeroF with Version := wI (1 + pickI (wI (y.a.tdiv 4)) 3), Day := pickI y.b 10, Gone := decide (pickI (wI (y.b.tdiv 10)) 6 = 0), ID := wI (1 + pickI y.c 12), Wafer := wI (1 + pickI y.d 6), Time := pickI y.e 50 }
def someF (y : I6) : Fact := if pickI y.a 4 = 0 ∨ pickI y.a 4 = 1 then { someB y with Kind := 1, Tool := pickI y.f 3, Step := pickI (wI (y.f.tdiv 3)) 4, Recipe := 1, Revision := 1, Until := wI ((someB y).Time + 5) } else if pickI y.a 4 = 2 then { someB y with Kind := 3, Other := wI (1 + (wI ((someB y).Wafer + pickI y.f 5)).tmod 6) } else { someB y with Kind := 4, ID := 0, Lot := wI (1 + pickI y.f 3), Product := wI (1 + pickI (wI (y.f.tdiv 3)) 2) }
def someL (xs : List I6) : List Fact := (xs.take 30).map someF
theorem someF_p {y : I6} (h : pickI y.a 4 = 0 ∨ pickI y.a 4 = 1) : someF y = { someB y with Kind := 1, Tool := pickI y.f 3, Step := pickI (wI (y.f.tdiv 3)) 4, Recipe := 1, Revision := 1, Until := wI ((someB y).Time + 5) } := if_pos h
theorem someF_s {y : I6} (h : pickI y.a 4 = 2) : someF y = { someB y with Kind := 3, Other := wI (1 + (wI ((someB y).Wafer + pickI y.f 5)).tmod 6) } := by unfold someF; rw [if_neg (by omega), if_pos h]
theorem someF_l {y : I6} (h0 : ¬ pickI y.a 4 = 0) (h1 : ¬ pickI y.a 4 = 1) (h2 : ¬ pickI y.a 4 = 2) : someF y = { someB y with Kind := 4, ID := 0, Lot := wI (1 + pickI y.f 3), Product := wI (1 + pickI (wI (y.f.tdiv 3)) 2) } := by unfold someF; rw [if_neg (by omega), if_neg h2]
theorem someL_len (xs : List I6) : (someL xs).length ≤ 30 := by unfold someL; rw [List.length_map, List.length_take]; omega
theorem someL_step {xs : List I6} {k : Nat} {y : I6} (hy : xs[k]? = some y) (hk : k < 30) : someL (xs.take (k + 1)) = someL (xs.take k) ++ [someF y] := by
  have hl := (List.getElem?_eq_some_iff.1 hy).1
  unfold someL
  rw [List.take_take, List.take_take, Nat.min_eq_right (by omega), Nat.min_eq_right (by omega), take_succ_of hy, List.map_append]; rfl
theorem someL_end {xs : List I6} {k : Nat} (h : ¬ (k < xs.length ∧ k < 30)) : someL (xs.take k) = someL xs := by
  unfold someL
  rw [List.take_take]
  congr 1
  by_cases h1 : k < 30
  · rw [Nat.min_eq_right (by omega), List.take_of_length_le (by omega), List.take_of_length_le (by omega)]
  · rw [Nat.min_eq_left (by omega)]
end Go.Wx
namespace Go.Proofs.YthfjagphcekcbaaGreat
open Go.Wx Go.RowKit
set_option maxHeartbeats 2000000 in
theorem Some_any (ad : Option Addr) (cp : Nat) (xs : List I6) (w : World) (hE0 : Els w ad 6 I6.cells xs) : Ret Tryz.prog 14 #[.slice ad xs.length cp] w fun r w' => OwnS w' w.heap.size 46 19 Fact.cells r (someL xs) ∧ Up w w' := by
  obtain ⟨w0, rfl⟩ : ∃ w0, w0 = w := ⟨_, rfl⟩
  have hS := Sep.start no w0
  refine Calls_start (n := 98) (m := 9) Tryz.func14 rfl rfl rfl ?_
  refine CW.seq (CW.region (LW.p (PEv.assign (.const _)) rfl rfl rfl (LW.nil (KW.then (CW.seq (CW.region (LW.p (PEv.assign (.const _)) rfl rfl rfl (LW.nil (KW.then (CW.seq (CW.seq ?_)))))))))))
  replace hS := hS.add (Up.refl _) (A' := aOwn 46 19 Fact.cells (.slice none 0 0) ([] : List Fact)) (OwnS.nil _ _ _ _ _) (fun i h => by cases h)
  change Wx.Sep _ _ _ [_] at hS
  refine CW.region (LW.p (PEv.assign (.const _)) rfl rfl rfl (LW.nil (KW.then (CW.block ?_))))
  refine CW.loopB (σ := Nat × Go.Value) (fun s w => (s.1 ≤ xs.length ∧ s.1 ≤ 30) ∧ (Wx.Sep no w0 w [aOwn 46 19 Fact.cells s.2 (someL (xs.take s.1))])) (fun s => [(4, .eq (vi (s.1 : Int))), (3, .eq (s.2))]) ([(0, .eq _), (2, .eq _)]) (fun s => xs.length - s.1) (0, .slice none 0 0) ?_ ⟨rfl, rfl, rfl, rfl, trivial⟩ ?_
  ·exact ⟨⟨Nat.zero_le _, Nat.zero_le _⟩, hS⟩
  ·rintro ⟨k, v⟩ w1 ⟨hk, hS⟩
   dsimp only at hk hS
   change CW _ _ _ _ _ _ _ ([(4, .eq (vi (k : Int))), (3, .eq (v))] ++ _) _
   refine CW.seq (CW.seq ?_)
   skip
   refine CW.region (LW.p (PEv.move (.tmp rfl)) rfl rfl rfl (LW.p (PEv.move (.tmp rfl)) rfl rfl rfl ?_))
   refine LW.p (PEv.lenS Tryz.underlying25 (.tmp rfl)) rfl rfl rfl ?_
   refine LW.p (PEv.lss (.tmp rfl) (.tmp rfl)) rfl rfl rfl ?_
   refine LW.p (PEv.move (.tmp rfl)) rfl rfl rfl ?_
   refine LW.g rfl rfl rfl rfl rfl rfl rfl (fun hc => PEv.move (.tmp rfl)) ?_
   refine LW.g rfl rfl rfl rfl rfl rfl rfl (fun hc => PEv.lss (by first | exact .tmp rfl | exact .cond rfl (by first | assumption | simp_all)) (.const _)) ?_
   refine LW.p (PEv.pick_and (.tmp rfl) (fun hp => (by first | exact .const _ | exact .tmp rfl | exact .cond rfl (by first | assumption | simp_all)))) rfl rfl rfl ?_
   refine LW.nil (KW.then ?_)
   refine CW.cond (.tmp rfl) (fun h14 => ?_) (fun h14 => ?_)
   ·first | replace h14 := of_decide_eq_true h14 | replace h14 := of_decide_eq_false h14 | skip
    refine CW.skip (KW.then (CW.seq (CW.block (CW.seq ?_))))
    have hE := hE0.up hS.upd
    have hkl : k < xs.length ∧ k < 30 := by simp at h14; omega
    refine CW.region (LW.p (PEv.move (.tmp rfl)) rfl rfl rfl (LW.p (PEv.move (.tmp rfl)) rfl rfl rfl ?_))
    obtain ⟨y, hy⟩ := getElem?_of_lt (xs := xs) (i := k) (by omega)
    obtain ⟨By, oy, ay, hcy⟩ := hE _ y hy
    refine LW.p (PEv.indexAddr' Tryz.underlying25 Tryz.sizeOf67 (.tmp rfl) (.tmp rfl) (by omega) ay) rfl rfl rfl ?_
    refine LW.p (PEv.loadA Tryz.isAgg67 Tryz.sizeOf67 rfl (.tmp rfl) (hcy)) rfl rfl rfl ?_
    refine LW.r (REv.allocA Tryz.zeroValue67) rfl rfl rfl rfl ?_
    rintro _ w2 ⟨B5, rfl, MB5⟩
    refine LW.s (SEv.storeA Tryz.sizeOf67 rfl (.tmp rfl) (.tmp rfl) (I6.one _) MB5.blk rfl) rfl rfl rfl ?_
    intro w3 LB5
    have NB5 := MB5.set LB5
    clear LB5 MB5
    have eB5 := NB5.at_
    have zB5 := NB5.size
    replace hcy := hcy.up NB5.up
    replace hS := hS.addB NB5
    change Wx.Sep _ _ _ [_, _] at hS
    refine LW.nil (KW.then (CW.seq ?_))
    refine CW.free 26 [.eq (.pointer (some ⟨B5, 0, none⟩)), .eq (vi (y.a)), .eq (vi (wI (y.a.tdiv 4))), .eq (vi (pickI (wI (y.a.tdiv 4)) 3)), .eq (vi (wI (1 + pickI (wI (y.a.tdiv 4)) 3))), .eq (.pointer (some ⟨B5, 1, none⟩)), .eq (vi (y.b)), .eq (vi (pickI y.b 10)), .eq (.pointer (some ⟨B5, 1, none⟩)), .eq (vi (y.b)), .eq (vi (wI (y.b.tdiv 10))), .eq (vi (pickI (wI (y.b.tdiv 10)) 6)), .eq (.bool (decide (pickI (wI (y.b.tdiv 10)) 6 = 0))), .eq (.pointer (some ⟨B5, 2, none⟩)), .eq (vi (y.c)), .eq (vi (pickI y.c 12)), .eq (vi (wI (1 + pickI y.c 12))), .eq (.pointer (some ⟨B5, 3, none⟩)), .eq (vi (y.d)), .eq (vi (pickI y.d 6)), .eq (vi (wI (1 + pickI y.d 6))), .eq (.pointer (some ⟨B5, 4, none⟩)), .eq (vi (y.e)), .eq (vi (pickI y.e 50)), .eq (.agg (someB y).cells), .pred fun v W => ∃ B, v = .pointer (some ⟨B, 0, none⟩) ∧ w3.drew.heap.size ≤ B ∧ Blk W B zeroF.cells 46] [6, 45] (by kernel_rfl) rfl (by kernel_rfl) (by kernel_rfl) (by kernel_rfl) (by kernel_rfl) (by kernel_rfl) (by kernel_rfl) (by kernel_rfl) ⟨PhU.eq _, PhU.eq _, PhU.eq _, PhU.eq _, PhU.eq _, PhU.eq _, PhU.eq _, PhU.eq _, PhU.eq _, PhU.eq _, PhU.eq _, PhU.eq _, PhU.eq _, PhU.eq _, PhU.eq _, PhU.eq _, PhU.eq _, PhU.eq _, PhU.eq _, PhU.eq _, PhU.eq _, PhU.eq _, PhU.eq _, PhU.eq _, PhU.eq _, PhU.pred fun _ _ _ h u => let ⟨B, e, hz, hb⟩ := h; ⟨B, e, hz, hb.up u⟩, trivial⟩ ?_ ?_
    ·intro W hU0
     have hU := (Up.drew w3).trans hU0
     have zU0 := hU0.size
     refine allL.cons ⟨rfl, TU.p (PEv.indexArr (j := 0) Tryz.underlying67 Tryz.sizeOf3 (.tmp rfl) (.const _) (by decide)) rfl⟩ ?_
     refine allL.cons ⟨rfl, TU.p (PEv.load Tryz.isAgg3 (.tmp rfl) (((hS.blk 1 rfl).up hU).celln rfl)) rfl⟩ ?_
     refine allL.cons ⟨rfl, TU.p (PEv.quo (.tmp rfl) (.const _) (by decide)) rfl⟩ ?_
     refine allL.cons ⟨rfl, TU.c (enter_call0 (.cons (.tmp rfl) (.cons (.const _) .nil)) (Tryz.en37)) (pickR_any _ _ _ (by decide)) (by rintro _ W1 ⟨rfl, u⟩; exact ⟨u, rfl⟩)⟩ ?_
     refine allL.cons ⟨rfl, TU.p (PEv.add_w (.const _) (.tmp rfl)) rfl⟩ ?_
     refine allL.cons ⟨rfl, TU.p (PEv.indexArr (j := 1) Tryz.underlying67 Tryz.sizeOf3 (.tmp rfl) (.const _) (by decide)) rfl⟩ ?_
     refine allL.cons ⟨rfl, TU.p (PEv.load Tryz.isAgg3 (.tmp rfl) (((hS.blk 1 rfl).up hU).celln rfl)) rfl⟩ ?_
     refine allL.cons ⟨rfl, TU.c (enter_call0 (.cons (.tmp rfl) (.cons (.const _) .nil)) (Tryz.en37)) (pickR_any _ _ _ (by decide)) (by rintro _ W1 ⟨rfl, u⟩; exact ⟨u, rfl⟩)⟩ ?_
     refine allL.cons ⟨rfl, TU.p (PEv.indexArr (j := 1) Tryz.underlying67 Tryz.sizeOf3 (.tmp rfl) (.const _) (by decide)) rfl⟩ ?_
     refine allL.cons ⟨rfl, TU.p (PEv.load Tryz.isAgg3 (.tmp rfl) (((hS.blk 1 rfl).up hU).celln rfl)) rfl⟩ ?_
     refine allL.cons ⟨rfl, TU.p (PEv.quo (.tmp rfl) (.const _) (by decide)) rfl⟩ ?_
     refine allL.cons ⟨rfl, TU.c (enter_call0 (.cons (.tmp rfl) (.cons (.const _) .nil)) (Tryz.en37)) (pickR_any _ _ _ (by decide)) (by rintro _ W1 ⟨rfl, u⟩; exact ⟨u, rfl⟩)⟩ ?_
     refine allL.cons ⟨rfl, TU.p (PEv.eql (.tmp rfl) (.const _)) rfl⟩ ?_
     refine allL.cons ⟨rfl, TU.p (PEv.indexArr (j := 2) Tryz.underlying67 Tryz.sizeOf3 (.tmp rfl) (.const _) (by decide)) rfl⟩ ?_
     refine allL.cons ⟨rfl, TU.p (PEv.load Tryz.isAgg3 (.tmp rfl) (((hS.blk 1 rfl).up hU).celln rfl)) rfl⟩ ?_
     refine allL.cons ⟨rfl, TU.c (enter_call0 (.cons (.tmp rfl) (.cons (.const _) .nil)) (Tryz.en37)) (pickR_any _ _ _ (by decide)) (by rintro _ W1 ⟨rfl, u⟩; exact ⟨u, rfl⟩)⟩ ?_
     refine allL.cons ⟨rfl, TU.p (PEv.add_w (.const _) (.tmp rfl)) rfl⟩ ?_
     refine allL.cons ⟨rfl, TU.p (PEv.indexArr (j := 3) Tryz.underlying67 Tryz.sizeOf3 (.tmp rfl) (.const _) (by decide)) rfl⟩ ?_
     refine allL.cons ⟨rfl, TU.p (PEv.load Tryz.isAgg3 (.tmp rfl) (((hS.blk 1 rfl).up hU).celln rfl)) rfl⟩ ?_
     refine allL.cons ⟨rfl, TU.c (enter_call0 (.cons (.tmp rfl) (.cons (.const _) .nil)) (Tryz.en37)) (pickR_any _ _ _ (by decide)) (by rintro _ W1 ⟨rfl, u⟩; exact ⟨u, rfl⟩)⟩ ?_
     refine allL.cons ⟨rfl, TU.p (PEv.add_w (.const _) (.tmp rfl)) rfl⟩ ?_
     refine allL.cons ⟨rfl, TU.p (PEv.indexArr (j := 4) Tryz.underlying67 Tryz.sizeOf3 (.tmp rfl) (.const _) (by decide)) rfl⟩ ?_
     refine allL.cons ⟨rfl, TU.p (PEv.load Tryz.isAgg3 (.tmp rfl) (((hS.blk 1 rfl).up hU).celln rfl)) rfl⟩ ?_
     refine allL.cons ⟨rfl, TU.c (enter_call0 (.cons (.tmp rfl) (.cons (.const _) .nil)) (Tryz.en37)) (pickR_any _ _ _ (by decide)) (by rintro _ W1 ⟨rfl, u⟩; exact ⟨u, rfl⟩)⟩ ?_
     refine allL.cons ⟨rfl, TU.p (PEv.build (cs := (someB y).cells) Tryz.underlying46 Tryz.zeroValue46 Tryz.places46 (.cons (.tmp rfl) (.cons (.tmp rfl) (.cons (.tmp rfl) (.cons (.tmp rfl) (.cons (.tmp rfl) (.cons (.tmp rfl) .nil)))))) rfl) rfl⟩ ?_
     refine allL.cons ⟨rfl, TU.r (REv.allocA Tryz.zeroValue46) (fun v W' h => let ⟨B, e, N⟩ := h; ⟨N.up, B, e, by rw [N.at_]; exact zU0, N.blk⟩)⟩ ?_
     exact allL.nil
    ·intro w4 g hU0 hg
     have hU := (Up.drew w3).trans hU0
     have zw4 := hU.size
     obtain ⟨B6, e6, z6, hB6⟩ : ∃ B, g 6 = .pointer (some ⟨B, 0, none⟩) ∧ w3.drew.heap.size ≤ B ∧ Blk w4 B zeroF.cells 46 := hg 25 _ 6 (by decide) rfl rfl
     have e45 : g 45 = .agg (someB y).cells := hg 24 _ 45 (by decide) rfl rfl
     change LW _ _ _ _ _ _ _ _ ((6, .eq (g 6)) :: (45, .eq (g 45)) :: _) _
     rw [e6, e45]
     clear hg e6 e45
     replace hS := (hS.up (Up.drew _)).add hU0 (A' := aBlk B6 zeroF.cells 46) hB6 (fun i (e : i = B6) => by omega)
     change Wx.Sep no w0 _ [_, _, _] at hS
     refine LW.s (SEv.storeA Tryz.sizeOf46 rfl (.tmp rfl) (.tmp rfl) (Fact.one _) (hS.blk 2 rfl) rfl) rfl rfl rfl ?_
     intro w5 Nw5
     have zw5 := Nw5.size
     replace hS := hS.putB 2 rfl (show Set_ _ w5 _ ((someB y).cells) _ from Nw5)
     change Wx.Sep _ _ _ [_, _, _] at hS
     refine LW.nil (KW.then (CW.seq (CW.seq (CW.region ?_))))
     refine LW.p (PEv.indexArr (j := 0) Tryz.underlying67 Tryz.sizeOf3 (.tmp rfl) (.const _) (by decide)) rfl rfl rfl ?_
     refine LW.p (PEv.load Tryz.isAgg3 (.tmp rfl) ((hS.blk 1 rfl).celln rfl)) rfl rfl rfl ?_
     refine LW.c (enter_call0 (.cons (.tmp rfl) (.cons (.const _) .nil)) (Tryz.en37)) rfl rfl rfl rfl (pickR_any _ _ _ (by decide)) ?_
     rintro _ w6 ⟨rfl, uw6⟩
     have zw6 := uw6.size
     replace hS := hS.up uw6
     refine LW.nil (KW.then (CW.block (CW.seq (CW.seq (CW.region ?_)))))
     refine LW.p (PEv.eql (.tmp rfl) (.const _)) rfl rfl rfl ?_
     refine LW.p (PEv.assign (.tmp rfl)) rfl rfl rfl (LW.nil (KW.then ?_))
     refine CW.cond (.tmp rfl) (fun h62 => ?_) (fun h62 => ?_)
     ·first | replace h62 := of_decide_eq_true h62 | replace h62 := of_decide_eq_false h62 | skip
      refine CW.skip (KW.then ?_)
      refine CW.cond (.tmp rfl) (fun h62 => ?_) (fun h62 => ?_)
      ·first | replace h62 := of_decide_eq_true h62 | replace h62 := of_decide_eq_false h62 | skip
       refine CW.seq (CW.region ?_)
       refine LW.p (PEv.fieldAddr (off := 0) Tryz.underlying46 rfl rfl Tryz.sizeOf3 rfl (.tmp rfl)) rfl rfl rfl ?_
       refine LW.s (SEv.store Tryz.sizeOf3 (.tmp rfl) (.const _) rfl (hS.blk 2 rfl) (Nat.le_of_ble_eq_true rfl)) rfl rfl rfl ?_
       intro w7 Nw7
       have zw7 := Nw7.size
       replace hS := hS.putB 2 rfl (show Set_ _ w7 _ (({ someB y with Kind := 1 } : Fact).cells) _ from Nw7)
       change Wx.Sep _ _ _ [_, _, _] at hS
       refine LW.nil (KW.then (CW.seq (CW.region ?_)))
       refine LW.p (PEv.indexArr (j := 5) Tryz.underlying67 Tryz.sizeOf3 (.tmp rfl) (.const _) (by decide)) rfl rfl rfl ?_
       refine LW.p (PEv.load Tryz.isAgg3 (.tmp rfl) ((hS.blk 1 rfl).celln rfl)) rfl rfl rfl ?_
       refine LW.c (enter_call0 (.cons (.tmp rfl) (.cons (.const _) .nil)) (Tryz.en37)) rfl rfl rfl rfl (pickR_any _ _ _ (by decide)) ?_
       rintro _ w8 ⟨rfl, uw8⟩
       have zw8 := uw8.size
       replace hS := hS.up uw8
       refine LW.p (PEv.fieldAddr (off := 11) Tryz.underlying46 rfl rfl Tryz.sizeOf3 rfl (.tmp rfl)) rfl rfl rfl ?_
       refine LW.s (SEv.store Tryz.sizeOf3 (.tmp rfl) (.tmp rfl) rfl (hS.blk 2 rfl) (Nat.le_of_ble_eq_true rfl)) rfl rfl rfl ?_
       intro w9 Nw9
       have zw9 := Nw9.size
       replace hS := hS.putB 2 rfl (show Set_ _ w9 _ (({ someB y with Kind := 1, Tool := pickI y.f 3 } : Fact).cells) _ from Nw9)
       change Wx.Sep _ _ _ [_, _, _] at hS
       refine LW.nil (KW.then (CW.seq (CW.region ?_)))
       refine LW.p (PEv.indexArr (j := 5) Tryz.underlying67 Tryz.sizeOf3 (.tmp rfl) (.const _) (by decide)) rfl rfl rfl ?_
       refine LW.p (PEv.load Tryz.isAgg3 (.tmp rfl) ((hS.blk 1 rfl).celln rfl)) rfl rfl rfl ?_
       refine LW.p (PEv.quo (.tmp rfl) (.const _) (by decide)) rfl rfl rfl ?_
       refine LW.c (enter_call0 (.cons (.tmp rfl) (.cons (.const _) .nil)) (Tryz.en37)) rfl rfl rfl rfl (pickR_any _ _ _ (by decide)) ?_
       rintro _ w10 ⟨rfl, uw10⟩
       have zw10 := uw10.size
       replace hS := hS.up uw10
       refine LW.p (PEv.fieldAddr (off := 13) Tryz.underlying46 rfl rfl Tryz.sizeOf3 rfl (.tmp rfl)) rfl rfl rfl ?_
       refine LW.s (SEv.store Tryz.sizeOf3 (.tmp rfl) (.tmp rfl) rfl (hS.blk 2 rfl) (Nat.le_of_ble_eq_true rfl)) rfl rfl rfl ?_
       intro w11 Nw11
       have zw11 := Nw11.size
       replace hS := hS.putB 2 rfl (show Set_ _ w11 _ (({ someB y with Kind := 1, Tool := pickI y.f 3, Step := pickI (wI (y.f.tdiv 3)) 4 } : Fact).cells) _ from Nw11)
       change Wx.Sep _ _ _ [_, _, _] at hS
       refine LW.nil (KW.then (CW.seq (CW.region ?_)))
       refine LW.p (PEv.fieldAddr (off := 14) Tryz.underlying46 rfl rfl Tryz.sizeOf3 rfl (.tmp rfl)) rfl rfl rfl ?_
       refine LW.s (SEv.store Tryz.sizeOf3 (.tmp rfl) (.const _) rfl (hS.blk 2 rfl) (Nat.le_of_ble_eq_true rfl)) rfl rfl rfl ?_
       intro w12 Nw12
       have zw12 := Nw12.size
       replace hS := hS.putB 2 rfl (show Set_ _ w12 _ (({ someB y with Kind := 1, Tool := pickI y.f 3, Step := pickI (wI (y.f.tdiv 3)) 4, Recipe := 1 } : Fact).cells) _ from Nw12)
       change Wx.Sep _ _ _ [_, _, _] at hS
       refine LW.nil (KW.then (CW.seq (CW.region ?_)))
       refine LW.p (PEv.fieldAddr (off := 15) Tryz.underlying46 rfl rfl Tryz.sizeOf3 rfl (.tmp rfl)) rfl rfl rfl ?_
       refine LW.s (SEv.store Tryz.sizeOf3 (.tmp rfl) (.const _) rfl (hS.blk 2 rfl) (Nat.le_of_ble_eq_true rfl)) rfl rfl rfl ?_
       intro w13 Nw13
       have zw13 := Nw13.size
       replace hS := hS.putB 2 rfl (show Set_ _ w13 _ (({ someB y with Kind := 1, Tool := pickI y.f 3, Step := pickI (wI (y.f.tdiv 3)) 4, Recipe := 1, Revision := 1 } : Fact).cells) _ from Nw13)
       change Wx.Sep _ _ _ [_, _, _] at hS
       refine LW.nil (KW.then (CW.region ?_))
       refine LW.p (PEv.fieldAddr (off := 5) Tryz.underlying46 rfl rfl Tryz.sizeOf3 rfl (.tmp rfl)) rfl rfl rfl ?_
       refine LW.p (PEv.load Tryz.isAgg3 (.tmp rfl) ((hS.blk 2 rfl).celln rfl)) rfl rfl rfl ?_
       refine LW.p (PEv.add_w (.tmp rfl) (.const _)) rfl rfl rfl ?_
       refine LW.p (PEv.fieldAddr (off := 6) Tryz.underlying46 rfl rfl Tryz.sizeOf3 rfl (.tmp rfl)) rfl rfl rfl ?_
       refine LW.s (SEv.store Tryz.sizeOf3 (.tmp rfl) (.tmp rfl) rfl (hS.blk 2 rfl) (Nat.le_of_ble_eq_true rfl)) rfl rfl rfl ?_
       intro w14 Nw14
       have zw14 := Nw14.size
       replace hS := hS.putB 2 rfl (show Set_ _ w14 _ (({ someB y with Kind := 1, Tool := pickI y.f 3, Step := pickI (wI (y.f.tdiv 3)) 4, Recipe := 1, Revision := 1, Until := wI ((someB y).Time + 5) } : Fact).cells) _ from Nw14)
       change Wx.Sep _ _ _ [_, _, _] at hS
       refine LW.nil (KW.inBlock (KW.then ?_))
       first | rw [← someF_p (by omega)] at hS | rw [← someF_s (by omega)] at hS | rw [← someF_l (by omega) (by omega) (by omega)] at hS
       have hsl := someL_len (xs.take k)
       refine CW.region (LW.p (PEv.move (.tmp rfl)) rfl rfl rfl ?_)
       refine LW.p (PEv.loadA Tryz.isAgg46 Tryz.sizeOf46 rfl (.tmp rfl) ((hS.blk 2 rfl).agg)) rfl rfl rfl ?_
       refine LW.r (REv.buildSlice (xs := [someF y]) (enc := Fact.cells) (mk := fun f : Fact => .agg f.cells) Tryz.underlying22 Tryz.sizeOf46 Tryz.zeroValue46 rfl (by decide) (fun _ => rfl) (fun _ => rfl) (.cons (.tmp rfl) .nil) rfl) rfl rfl rfl rfl ?_
       rintro _ w15 ⟨B95, cB95, rfl, NB95, yB95, xB95⟩
       have eB95 := NB95.at_
       have zB95 := NB95.size
       replace hS := hS.up NB95.up
       have hE95 := xB95
       refine LW.r (REv.appendF (enc := Fact.cells) (bytes := 160) (i := Tryz.t46) Tryz.underlying22 (by kernel_rfl) rfl rfl rfl rfl (by decide) (fun _ => rfl) Fact.one (.tmp rfl) (.tmp rfl) (hS.own 0 rfl) (Sl.of_els hE95) (by have := hsl; simp [maxLen]; omega) (by have := hsl; simp; omega)) rfl rfl rfl rfl ?_
       intro v96 w16 Gw16
       have zw16 := Gw16.fr.size
       replace hS := hS.stp 0 rfl Gw16
       change Wx.Sep _ _ _ [_, _, _] at hS
       refine LW.p (PEv.assign (.tmp rfl)) rfl rfl rfl (LW.nil (KW.inBlock (KW.then (CW.region (LW.p (PEv.move (.tmp rfl)) rfl rfl rfl ?_)))))
       refine LW.p (PEv.inc (.tmp rfl) (by omega)) rfl rfl rfl ?_
       refine LW.p (PEv.assign (.tmp rfl)) rfl rfl rfl (LW.nil (KW.round ?_))
       exact ⟨(k + 1, v96), ⟨⟨by show k + 1 ≤ _; omega, by show k + 1 ≤ _; omega⟩, by rw [someL_step hy hkl.2]; exact hS.take 1⟩, ⟨rfl, rfl, rfl, rfl, trivial⟩, by show xs.length - (k + 1) < xs.length - k; omega⟩
      ·first | replace h62 := of_decide_eq_true h62 | replace h62 := of_decide_eq_false h62 | skip
       refine CW.seq (CW.region ?_)
       refine LW.p (PEv.eql (.tmp rfl) (.const _)) rfl rfl rfl ?_
       refine LW.p (PEv.assign (.tmp rfl)) rfl rfl rfl (LW.nil (KW.then ?_))
       refine CW.cond (.tmp rfl) (fun h81 => ?_) (fun h81 => ?_)
       ·first | replace h81 := of_decide_eq_true h81 | replace h81 := of_decide_eq_false h81 | skip
        refine CW.seq (CW.region ?_)
        refine LW.p (PEv.fieldAddr (off := 0) Tryz.underlying46 rfl rfl Tryz.sizeOf3 rfl (.tmp rfl)) rfl rfl rfl ?_
        refine LW.s (SEv.store Tryz.sizeOf3 (.tmp rfl) (.const _) rfl (hS.blk 2 rfl) (Nat.le_of_ble_eq_true rfl)) rfl rfl rfl ?_
        intro w17 Nw17
        have zw17 := Nw17.size
        replace hS := hS.putB 2 rfl (show Set_ _ w17 _ (({ someB y with Kind := 3 } : Fact).cells) _ from Nw17)
        change Wx.Sep _ _ _ [_, _, _] at hS
        refine LW.nil (KW.then ?_)
        refine CW.draws_then 8 (by kernel_rfl) (by kernel_rfl) (by kernel_rfl) (by kernel_rfl) (by kernel_rfl) rfl rfl ?_
        refine HW.p (PEv.fieldAddr (off := 7) Tryz.underlying46 rfl rfl Tryz.sizeOf3 rfl (.tmp rfl)) rfl rfl ?_
        refine HW.p (PEv.load Tryz.isAgg3 (.tmp rfl) ((hS.blk 2 rfl).celln rfl)) rfl rfl ?_
        refine HW.p (PEv.indexArr (j := 5) Tryz.underlying67 Tryz.sizeOf3 (.tmp rfl) (.const _) (by decide)) rfl rfl ?_
        refine HW.p (PEv.load Tryz.isAgg3 (.tmp rfl) ((hS.blk 1 rfl).celln rfl)) rfl rfl ?_
        refine HW.c (fun a w _ ha => enter_call0 (.cons (.tmp rfl) (.cons (.const _) .nil)) (Tryz.en37) a ha) rfl rfl (fun w hu => pickR_any _ _ w (by decide)) ?_
        refine HW.p (PEv.add_w (.tmp rfl) (.tmp rfl)) rfl rfl ?_
        refine HW.p (PEv.rem (.tmp rfl) (.const _) (by decide)) rfl rfl ?_
        refine HW.p (PEv.add_w (.const _) (.tmp rfl)) rfl rfl ?_
        refine HW.nil ?_
        intro w18 uw18
        have zw18 := uw18.size
        replace hS := hS.up uw18
        refine LW.p (PEv.fieldAddr (off := 8) Tryz.underlying46 rfl rfl Tryz.sizeOf3 rfl (.tmp rfl)) rfl rfl rfl ?_
        refine LW.s (SEv.store Tryz.sizeOf3 (.tmp rfl) (.tmp rfl) rfl (hS.blk 2 rfl) (Nat.le_of_ble_eq_true rfl)) rfl rfl rfl ?_
        intro w19 Nw19
        have zw19 := Nw19.size
        replace hS := hS.putB 2 rfl (show Set_ _ w19 _ (({ someB y with Kind := 3, Other := wI (1 + (wI ((someB y).Wafer + pickI y.f 5)).tmod 6) } : Fact).cells) _ from Nw19)
        change Wx.Sep _ _ _ [_, _, _] at hS
        refine LW.nil (KW.inBlock (KW.then ?_))
        first | rw [← someF_p (by omega)] at hS | rw [← someF_s (by omega)] at hS | rw [← someF_l (by omega) (by omega) (by omega)] at hS
        have hsl := someL_len (xs.take k)
        refine CW.region (LW.p (PEv.move (.tmp rfl)) rfl rfl rfl ?_)
        refine LW.p (PEv.loadA Tryz.isAgg46 Tryz.sizeOf46 rfl (.tmp rfl) ((hS.blk 2 rfl).agg)) rfl rfl rfl ?_
        refine LW.r (REv.buildSlice (xs := [someF y]) (enc := Fact.cells) (mk := fun f : Fact => .agg f.cells) Tryz.underlying22 Tryz.sizeOf46 Tryz.zeroValue46 rfl (by decide) (fun _ => rfl) (fun _ => rfl) (.cons (.tmp rfl) .nil) rfl) rfl rfl rfl rfl ?_
        rintro _ w20 ⟨B95, cB95, rfl, NB95, yB95, xB95⟩
        have eB95 := NB95.at_
        have zB95 := NB95.size
        replace hS := hS.up NB95.up
        have hE95 := xB95
        refine LW.r (REv.appendF (enc := Fact.cells) (bytes := 160) (i := Tryz.t46) Tryz.underlying22 (by kernel_rfl) rfl rfl rfl rfl (by decide) (fun _ => rfl) Fact.one (.tmp rfl) (.tmp rfl) (hS.own 0 rfl) (Sl.of_els hE95) (by have := hsl; simp [maxLen]; omega) (by have := hsl; simp; omega)) rfl rfl rfl rfl ?_
        intro v96 w21 Gw21
        have zw21 := Gw21.fr.size
        replace hS := hS.stp 0 rfl Gw21
        change Wx.Sep _ _ _ [_, _, _] at hS
        refine LW.p (PEv.assign (.tmp rfl)) rfl rfl rfl (LW.nil (KW.inBlock (KW.then (CW.region (LW.p (PEv.move (.tmp rfl)) rfl rfl rfl ?_)))))
        refine LW.p (PEv.inc (.tmp rfl) (by omega)) rfl rfl rfl ?_
        refine LW.p (PEv.assign (.tmp rfl)) rfl rfl rfl (LW.nil (KW.round ?_))
        exact ⟨(k + 1, v96), ⟨⟨by show k + 1 ≤ _; omega, by show k + 1 ≤ _; omega⟩, by rw [someL_step hy hkl.2]; exact hS.take 1⟩, ⟨rfl, rfl, rfl, rfl, trivial⟩, by show xs.length - (k + 1) < xs.length - k; omega⟩
       ·first | replace h81 := of_decide_eq_true h81 | replace h81 := of_decide_eq_false h81 | skip
        refine CW.seq (CW.region ?_)
        refine LW.p (PEv.fieldAddr (off := 0) Tryz.underlying46 rfl rfl Tryz.sizeOf3 rfl (.tmp rfl)) rfl rfl rfl ?_
        refine LW.s (SEv.store Tryz.sizeOf3 (.tmp rfl) (.const _) rfl (hS.blk 2 rfl) (Nat.le_of_ble_eq_true rfl)) rfl rfl rfl ?_
        intro w22 Nw22
        have zw22 := Nw22.size
        replace hS := hS.putB 2 rfl (show Set_ _ w22 _ (({ someB y with Kind := 4 } : Fact).cells) _ from Nw22)
        change Wx.Sep _ _ _ [_, _, _] at hS
        refine LW.nil (KW.then (CW.seq (CW.region ?_)))
        refine LW.p (PEv.fieldAddr (off := 1) Tryz.underlying46 rfl rfl Tryz.sizeOf3 rfl (.tmp rfl)) rfl rfl rfl ?_
        refine LW.s (SEv.store Tryz.sizeOf3 (.tmp rfl) (.const _) rfl (hS.blk 2 rfl) (Nat.le_of_ble_eq_true rfl)) rfl rfl rfl ?_
        intro w23 Nw23
        have zw23 := Nw23.size
        replace hS := hS.putB 2 rfl (show Set_ _ w23 _ (({ someB y with Kind := 4, ID := 0 } : Fact).cells) _ from Nw23)
        change Wx.Sep _ _ _ [_, _, _] at hS
        refine LW.nil (KW.then (CW.seq (CW.region ?_)))
        refine LW.p (PEv.indexArr (j := 5) Tryz.underlying67 Tryz.sizeOf3 (.tmp rfl) (.const _) (by decide)) rfl rfl rfl ?_
        refine LW.p (PEv.load Tryz.isAgg3 (.tmp rfl) ((hS.blk 1 rfl).celln rfl)) rfl rfl rfl ?_
        refine LW.c (enter_call0 (.cons (.tmp rfl) (.cons (.const _) .nil)) (Tryz.en37)) rfl rfl rfl rfl (pickR_any _ _ _ (by decide)) ?_
        rintro _ w24 ⟨rfl, uw24⟩
        have zw24 := uw24.size
        replace hS := hS.up uw24
        refine LW.p (PEv.add_w (.const _) (.tmp rfl)) rfl rfl rfl ?_
        refine LW.p (PEv.fieldAddr (off := 9) Tryz.underlying46 rfl rfl Tryz.sizeOf3 rfl (.tmp rfl)) rfl rfl rfl ?_
        refine LW.s (SEv.store Tryz.sizeOf3 (.tmp rfl) (.tmp rfl) rfl (hS.blk 2 rfl) (Nat.le_of_ble_eq_true rfl)) rfl rfl rfl ?_
        intro w25 Nw25
        have zw25 := Nw25.size
        replace hS := hS.putB 2 rfl (show Set_ _ w25 _ (({ someB y with Kind := 4, ID := 0, Lot := wI (1 + pickI y.f 3) } : Fact).cells) _ from Nw25)
        change Wx.Sep _ _ _ [_, _, _] at hS
        refine LW.nil (KW.then (CW.region ?_))
        refine LW.p (PEv.indexArr (j := 5) Tryz.underlying67 Tryz.sizeOf3 (.tmp rfl) (.const _) (by decide)) rfl rfl rfl ?_
        refine LW.p (PEv.load Tryz.isAgg3 (.tmp rfl) ((hS.blk 1 rfl).celln rfl)) rfl rfl rfl ?_
        refine LW.p (PEv.quo (.tmp rfl) (.const _) (by decide)) rfl rfl rfl ?_
        refine LW.c (enter_call0 (.cons (.tmp rfl) (.cons (.const _) .nil)) (Tryz.en37)) rfl rfl rfl rfl (pickR_any _ _ _ (by decide)) ?_
        rintro _ w26 ⟨rfl, uw26⟩
        have zw26 := uw26.size
        replace hS := hS.up uw26
        refine LW.p (PEv.add_w (.const _) (.tmp rfl)) rfl rfl rfl ?_
        refine LW.p (PEv.fieldAddr (off := 10) Tryz.underlying46 rfl rfl Tryz.sizeOf3 rfl (.tmp rfl)) rfl rfl rfl ?_
        refine LW.s (SEv.store Tryz.sizeOf3 (.tmp rfl) (.tmp rfl) rfl (hS.blk 2 rfl) (Nat.le_of_ble_eq_true rfl)) rfl rfl rfl ?_
        intro w27 Nw27
        have zw27 := Nw27.size
        replace hS := hS.putB 2 rfl (show Set_ _ w27 _ (({ someB y with Kind := 4, ID := 0, Lot := wI (1 + pickI y.f 3), Product := wI (1 + pickI (wI (y.f.tdiv 3)) 2) } : Fact).cells) _ from Nw27)
        change Wx.Sep _ _ _ [_, _, _] at hS
        refine LW.nil (KW.inBlock (KW.then ?_))
        first | rw [← someF_p (by omega)] at hS | rw [← someF_s (by omega)] at hS | rw [← someF_l (by omega) (by omega) (by omega)] at hS
        have hsl := someL_len (xs.take k)
        refine CW.region (LW.p (PEv.move (.tmp rfl)) rfl rfl rfl ?_)
        refine LW.p (PEv.loadA Tryz.isAgg46 Tryz.sizeOf46 rfl (.tmp rfl) ((hS.blk 2 rfl).agg)) rfl rfl rfl ?_
        refine LW.r (REv.buildSlice (xs := [someF y]) (enc := Fact.cells) (mk := fun f : Fact => .agg f.cells) Tryz.underlying22 Tryz.sizeOf46 Tryz.zeroValue46 rfl (by decide) (fun _ => rfl) (fun _ => rfl) (.cons (.tmp rfl) .nil) rfl) rfl rfl rfl rfl ?_
        rintro _ w28 ⟨B95, cB95, rfl, NB95, yB95, xB95⟩
        have eB95 := NB95.at_
        have zB95 := NB95.size
        replace hS := hS.up NB95.up
        have hE95 := xB95
        refine LW.r (REv.appendF (enc := Fact.cells) (bytes := 160) (i := Tryz.t46) Tryz.underlying22 (by kernel_rfl) rfl rfl rfl rfl (by decide) (fun _ => rfl) Fact.one (.tmp rfl) (.tmp rfl) (hS.own 0 rfl) (Sl.of_els hE95) (by have := hsl; simp [maxLen]; omega) (by have := hsl; simp; omega)) rfl rfl rfl rfl ?_
        intro v96 w29 Gw29
        have zw29 := Gw29.fr.size
        replace hS := hS.stp 0 rfl Gw29
        change Wx.Sep _ _ _ [_, _, _] at hS
        refine LW.p (PEv.assign (.tmp rfl)) rfl rfl rfl (LW.nil (KW.inBlock (KW.then (CW.region (LW.p (PEv.move (.tmp rfl)) rfl rfl rfl ?_)))))
        refine LW.p (PEv.inc (.tmp rfl) (by omega)) rfl rfl rfl ?_
        refine LW.p (PEv.assign (.tmp rfl)) rfl rfl rfl (LW.nil (KW.round ?_))
        exact ⟨(k + 1, v96), ⟨⟨by show k + 1 ≤ _; omega, by show k + 1 ≤ _; omega⟩, by rw [someL_step hy hkl.2]; exact hS.take 1⟩, ⟨rfl, rfl, rfl, rfl, trivial⟩, by show xs.length - (k + 1) < xs.length - k; omega⟩
     ·first | replace h62 := of_decide_eq_true h62 | replace h62 := of_decide_eq_false h62 | skip
      refine CW.region ?_
      refine LW.p (PEv.eql (.tmp rfl) (.const _)) rfl rfl rfl ?_
      refine LW.p (PEv.assign (.tmp rfl)) rfl rfl rfl (LW.nil (KW.then ?_))
      refine CW.cond (.tmp rfl) (fun h62 => ?_) (fun h62 => ?_)
      ·first | replace h62 := of_decide_eq_true h62 | replace h62 := of_decide_eq_false h62 | skip
       refine CW.seq (CW.region ?_)
       refine LW.p (PEv.fieldAddr (off := 0) Tryz.underlying46 rfl rfl Tryz.sizeOf3 rfl (.tmp rfl)) rfl rfl rfl ?_
       refine LW.s (SEv.store Tryz.sizeOf3 (.tmp rfl) (.const _) rfl (hS.blk 2 rfl) (Nat.le_of_ble_eq_true rfl)) rfl rfl rfl ?_
       intro w30 Nw30
       have zw30 := Nw30.size
       replace hS := hS.putB 2 rfl (show Set_ _ w30 _ (({ someB y with Kind := 1 } : Fact).cells) _ from Nw30)
       change Wx.Sep _ _ _ [_, _, _] at hS
       refine LW.nil (KW.then (CW.seq (CW.region ?_)))
       refine LW.p (PEv.indexArr (j := 5) Tryz.underlying67 Tryz.sizeOf3 (.tmp rfl) (.const _) (by decide)) rfl rfl rfl ?_
       refine LW.p (PEv.load Tryz.isAgg3 (.tmp rfl) ((hS.blk 1 rfl).celln rfl)) rfl rfl rfl ?_
       refine LW.c (enter_call0 (.cons (.tmp rfl) (.cons (.const _) .nil)) (Tryz.en37)) rfl rfl rfl rfl (pickR_any _ _ _ (by decide)) ?_
       rintro _ w31 ⟨rfl, uw31⟩
       have zw31 := uw31.size
       replace hS := hS.up uw31
       refine LW.p (PEv.fieldAddr (off := 11) Tryz.underlying46 rfl rfl Tryz.sizeOf3 rfl (.tmp rfl)) rfl rfl rfl ?_
       refine LW.s (SEv.store Tryz.sizeOf3 (.tmp rfl) (.tmp rfl) rfl (hS.blk 2 rfl) (Nat.le_of_ble_eq_true rfl)) rfl rfl rfl ?_
       intro w32 Nw32
       have zw32 := Nw32.size
       replace hS := hS.putB 2 rfl (show Set_ _ w32 _ (({ someB y with Kind := 1, Tool := pickI y.f 3 } : Fact).cells) _ from Nw32)
       change Wx.Sep _ _ _ [_, _, _] at hS
       refine LW.nil (KW.then (CW.seq (CW.region ?_)))
       refine LW.p (PEv.indexArr (j := 5) Tryz.underlying67 Tryz.sizeOf3 (.tmp rfl) (.const _) (by decide)) rfl rfl rfl ?_
       refine LW.p (PEv.load Tryz.isAgg3 (.tmp rfl) ((hS.blk 1 rfl).celln rfl)) rfl rfl rfl ?_
       refine LW.p (PEv.quo (.tmp rfl) (.const _) (by decide)) rfl rfl rfl ?_
       refine LW.c (enter_call0 (.cons (.tmp rfl) (.cons (.const _) .nil)) (Tryz.en37)) rfl rfl rfl rfl (pickR_any _ _ _ (by decide)) ?_
       rintro _ w33 ⟨rfl, uw33⟩
       have zw33 := uw33.size
       replace hS := hS.up uw33
       refine LW.p (PEv.fieldAddr (off := 13) Tryz.underlying46 rfl rfl Tryz.sizeOf3 rfl (.tmp rfl)) rfl rfl rfl ?_
       refine LW.s (SEv.store Tryz.sizeOf3 (.tmp rfl) (.tmp rfl) rfl (hS.blk 2 rfl) (Nat.le_of_ble_eq_true rfl)) rfl rfl rfl ?_
       intro w34 Nw34
       have zw34 := Nw34.size
       replace hS := hS.putB 2 rfl (show Set_ _ w34 _ (({ someB y with Kind := 1, Tool := pickI y.f 3, Step := pickI (wI (y.f.tdiv 3)) 4 } : Fact).cells) _ from Nw34)
       change Wx.Sep _ _ _ [_, _, _] at hS
       refine LW.nil (KW.then (CW.seq (CW.region ?_)))
       refine LW.p (PEv.fieldAddr (off := 14) Tryz.underlying46 rfl rfl Tryz.sizeOf3 rfl (.tmp rfl)) rfl rfl rfl ?_
       refine LW.s (SEv.store Tryz.sizeOf3 (.tmp rfl) (.const _) rfl (hS.blk 2 rfl) (Nat.le_of_ble_eq_true rfl)) rfl rfl rfl ?_
       intro w35 Nw35
       have zw35 := Nw35.size
       replace hS := hS.putB 2 rfl (show Set_ _ w35 _ (({ someB y with Kind := 1, Tool := pickI y.f 3, Step := pickI (wI (y.f.tdiv 3)) 4, Recipe := 1 } : Fact).cells) _ from Nw35)
       change Wx.Sep _ _ _ [_, _, _] at hS
       refine LW.nil (KW.then (CW.seq (CW.region ?_)))
       refine LW.p (PEv.fieldAddr (off := 15) Tryz.underlying46 rfl rfl Tryz.sizeOf3 rfl (.tmp rfl)) rfl rfl rfl ?_
       refine LW.s (SEv.store Tryz.sizeOf3 (.tmp rfl) (.const _) rfl (hS.blk 2 rfl) (Nat.le_of_ble_eq_true rfl)) rfl rfl rfl ?_
       intro w36 Nw36
       have zw36 := Nw36.size
       replace hS := hS.putB 2 rfl (show Set_ _ w36 _ (({ someB y with Kind := 1, Tool := pickI y.f 3, Step := pickI (wI (y.f.tdiv 3)) 4, Recipe := 1, Revision := 1 } : Fact).cells) _ from Nw36)
       change Wx.Sep _ _ _ [_, _, _] at hS
       refine LW.nil (KW.then (CW.region ?_))
       refine LW.p (PEv.fieldAddr (off := 5) Tryz.underlying46 rfl rfl Tryz.sizeOf3 rfl (.tmp rfl)) rfl rfl rfl ?_
       refine LW.p (PEv.load Tryz.isAgg3 (.tmp rfl) ((hS.blk 2 rfl).celln rfl)) rfl rfl rfl ?_
       refine LW.p (PEv.add_w (.tmp rfl) (.const _)) rfl rfl rfl ?_
       refine LW.p (PEv.fieldAddr (off := 6) Tryz.underlying46 rfl rfl Tryz.sizeOf3 rfl (.tmp rfl)) rfl rfl rfl ?_
       refine LW.s (SEv.store Tryz.sizeOf3 (.tmp rfl) (.tmp rfl) rfl (hS.blk 2 rfl) (Nat.le_of_ble_eq_true rfl)) rfl rfl rfl ?_
       intro w37 Nw37
       have zw37 := Nw37.size
       replace hS := hS.putB 2 rfl (show Set_ _ w37 _ (({ someB y with Kind := 1, Tool := pickI y.f 3, Step := pickI (wI (y.f.tdiv 3)) 4, Recipe := 1, Revision := 1, Until := wI ((someB y).Time + 5) } : Fact).cells) _ from Nw37)
       change Wx.Sep _ _ _ [_, _, _] at hS
       refine LW.nil (KW.inBlock (KW.then ?_))
       first | rw [← someF_p (by omega)] at hS | rw [← someF_s (by omega)] at hS | rw [← someF_l (by omega) (by omega) (by omega)] at hS
       have hsl := someL_len (xs.take k)
       refine CW.region (LW.p (PEv.move (.tmp rfl)) rfl rfl rfl ?_)
       refine LW.p (PEv.loadA Tryz.isAgg46 Tryz.sizeOf46 rfl (.tmp rfl) ((hS.blk 2 rfl).agg)) rfl rfl rfl ?_
       refine LW.r (REv.buildSlice (xs := [someF y]) (enc := Fact.cells) (mk := fun f : Fact => .agg f.cells) Tryz.underlying22 Tryz.sizeOf46 Tryz.zeroValue46 rfl (by decide) (fun _ => rfl) (fun _ => rfl) (.cons (.tmp rfl) .nil) rfl) rfl rfl rfl rfl ?_
       rintro _ w38 ⟨B95, cB95, rfl, NB95, yB95, xB95⟩
       have eB95 := NB95.at_
       have zB95 := NB95.size
       replace hS := hS.up NB95.up
       have hE95 := xB95
       refine LW.r (REv.appendF (enc := Fact.cells) (bytes := 160) (i := Tryz.t46) Tryz.underlying22 (by kernel_rfl) rfl rfl rfl rfl (by decide) (fun _ => rfl) Fact.one (.tmp rfl) (.tmp rfl) (hS.own 0 rfl) (Sl.of_els hE95) (by have := hsl; simp [maxLen]; omega) (by have := hsl; simp; omega)) rfl rfl rfl rfl ?_
       intro v96 w39 Gw39
       have zw39 := Gw39.fr.size
       replace hS := hS.stp 0 rfl Gw39
       change Wx.Sep _ _ _ [_, _, _] at hS
       refine LW.p (PEv.assign (.tmp rfl)) rfl rfl rfl (LW.nil (KW.inBlock (KW.then (CW.region (LW.p (PEv.move (.tmp rfl)) rfl rfl rfl ?_)))))
       refine LW.p (PEv.inc (.tmp rfl) (by omega)) rfl rfl rfl ?_
       refine LW.p (PEv.assign (.tmp rfl)) rfl rfl rfl (LW.nil (KW.round ?_))
       exact ⟨(k + 1, v96), ⟨⟨by show k + 1 ≤ _; omega, by show k + 1 ≤ _; omega⟩, by rw [someL_step hy hkl.2]; exact hS.take 1⟩, ⟨rfl, rfl, rfl, rfl, trivial⟩, by show xs.length - (k + 1) < xs.length - k; omega⟩
      ·first | replace h62 := of_decide_eq_true h62 | replace h62 := of_decide_eq_false h62 | skip
       refine CW.seq (CW.region ?_)
       refine LW.p (PEv.eql (.tmp rfl) (.const _)) rfl rfl rfl ?_
       refine LW.p (PEv.assign (.tmp rfl)) rfl rfl rfl (LW.nil (KW.then ?_))
       refine CW.cond (.tmp rfl) (fun h81 => ?_) (fun h81 => ?_)
       ·first | replace h81 := of_decide_eq_true h81 | replace h81 := of_decide_eq_false h81 | skip
        refine CW.seq (CW.region ?_)
        refine LW.p (PEv.fieldAddr (off := 0) Tryz.underlying46 rfl rfl Tryz.sizeOf3 rfl (.tmp rfl)) rfl rfl rfl ?_
        refine LW.s (SEv.store Tryz.sizeOf3 (.tmp rfl) (.const _) rfl (hS.blk 2 rfl) (Nat.le_of_ble_eq_true rfl)) rfl rfl rfl ?_
        intro w40 Nw40
        have zw40 := Nw40.size
        replace hS := hS.putB 2 rfl (show Set_ _ w40 _ (({ someB y with Kind := 3 } : Fact).cells) _ from Nw40)
        change Wx.Sep _ _ _ [_, _, _] at hS
        refine LW.nil (KW.then ?_)
        refine CW.draws_then 8 (by kernel_rfl) (by kernel_rfl) (by kernel_rfl) (by kernel_rfl) (by kernel_rfl) rfl rfl ?_
        refine HW.p (PEv.fieldAddr (off := 7) Tryz.underlying46 rfl rfl Tryz.sizeOf3 rfl (.tmp rfl)) rfl rfl ?_
        refine HW.p (PEv.load Tryz.isAgg3 (.tmp rfl) ((hS.blk 2 rfl).celln rfl)) rfl rfl ?_
        refine HW.p (PEv.indexArr (j := 5) Tryz.underlying67 Tryz.sizeOf3 (.tmp rfl) (.const _) (by decide)) rfl rfl ?_
        refine HW.p (PEv.load Tryz.isAgg3 (.tmp rfl) ((hS.blk 1 rfl).celln rfl)) rfl rfl ?_
        refine HW.c (fun a w _ ha => enter_call0 (.cons (.tmp rfl) (.cons (.const _) .nil)) (Tryz.en37) a ha) rfl rfl (fun w hu => pickR_any _ _ w (by decide)) ?_
        refine HW.p (PEv.add_w (.tmp rfl) (.tmp rfl)) rfl rfl ?_
        refine HW.p (PEv.rem (.tmp rfl) (.const _) (by decide)) rfl rfl ?_
        refine HW.p (PEv.add_w (.const _) (.tmp rfl)) rfl rfl ?_
        refine HW.nil ?_
        intro w41 uw41
        have zw41 := uw41.size
        replace hS := hS.up uw41
        refine LW.p (PEv.fieldAddr (off := 8) Tryz.underlying46 rfl rfl Tryz.sizeOf3 rfl (.tmp rfl)) rfl rfl rfl ?_
        refine LW.s (SEv.store Tryz.sizeOf3 (.tmp rfl) (.tmp rfl) rfl (hS.blk 2 rfl) (Nat.le_of_ble_eq_true rfl)) rfl rfl rfl ?_
        intro w42 Nw42
        have zw42 := Nw42.size
        replace hS := hS.putB 2 rfl (show Set_ _ w42 _ (({ someB y with Kind := 3, Other := wI (1 + (wI ((someB y).Wafer + pickI y.f 5)).tmod 6) } : Fact).cells) _ from Nw42)
        change Wx.Sep _ _ _ [_, _, _] at hS
        refine LW.nil (KW.inBlock (KW.then ?_))
        first | rw [← someF_p (by omega)] at hS | rw [← someF_s (by omega)] at hS | rw [← someF_l (by omega) (by omega) (by omega)] at hS
        have hsl := someL_len (xs.take k)
        refine CW.region (LW.p (PEv.move (.tmp rfl)) rfl rfl rfl ?_)
        refine LW.p (PEv.loadA Tryz.isAgg46 Tryz.sizeOf46 rfl (.tmp rfl) ((hS.blk 2 rfl).agg)) rfl rfl rfl ?_
        refine LW.r (REv.buildSlice (xs := [someF y]) (enc := Fact.cells) (mk := fun f : Fact => .agg f.cells) Tryz.underlying22 Tryz.sizeOf46 Tryz.zeroValue46 rfl (by decide) (fun _ => rfl) (fun _ => rfl) (.cons (.tmp rfl) .nil) rfl) rfl rfl rfl rfl ?_
        rintro _ w43 ⟨B95, cB95, rfl, NB95, yB95, xB95⟩
        have eB95 := NB95.at_
        have zB95 := NB95.size
        replace hS := hS.up NB95.up
        have hE95 := xB95
        refine LW.r (REv.appendF (enc := Fact.cells) (bytes := 160) (i := Tryz.t46) Tryz.underlying22 (by kernel_rfl) rfl rfl rfl rfl (by decide) (fun _ => rfl) Fact.one (.tmp rfl) (.tmp rfl) (hS.own 0 rfl) (Sl.of_els hE95) (by have := hsl; simp [maxLen]; omega) (by have := hsl; simp; omega)) rfl rfl rfl rfl ?_
        intro v96 w44 Gw44
        have zw44 := Gw44.fr.size
        replace hS := hS.stp 0 rfl Gw44
        change Wx.Sep _ _ _ [_, _, _] at hS
        refine LW.p (PEv.assign (.tmp rfl)) rfl rfl rfl (LW.nil (KW.inBlock (KW.then (CW.region (LW.p (PEv.move (.tmp rfl)) rfl rfl rfl ?_)))))
        refine LW.p (PEv.inc (.tmp rfl) (by omega)) rfl rfl rfl ?_
        refine LW.p (PEv.assign (.tmp rfl)) rfl rfl rfl (LW.nil (KW.round ?_))
        exact ⟨(k + 1, v96), ⟨⟨by show k + 1 ≤ _; omega, by show k + 1 ≤ _; omega⟩, by rw [someL_step hy hkl.2]; exact hS.take 1⟩, ⟨rfl, rfl, rfl, rfl, trivial⟩, by show xs.length - (k + 1) < xs.length - k; omega⟩
       ·first | replace h81 := of_decide_eq_true h81 | replace h81 := of_decide_eq_false h81 | skip
        refine CW.seq (CW.region ?_)
        refine LW.p (PEv.fieldAddr (off := 0) Tryz.underlying46 rfl rfl Tryz.sizeOf3 rfl (.tmp rfl)) rfl rfl rfl ?_
        refine LW.s (SEv.store Tryz.sizeOf3 (.tmp rfl) (.const _) rfl (hS.blk 2 rfl) (Nat.le_of_ble_eq_true rfl)) rfl rfl rfl ?_
        intro w45 Nw45
        have zw45 := Nw45.size
        replace hS := hS.putB 2 rfl (show Set_ _ w45 _ (({ someB y with Kind := 4 } : Fact).cells) _ from Nw45)
        change Wx.Sep _ _ _ [_, _, _] at hS
        refine LW.nil (KW.then (CW.seq (CW.region ?_)))
        refine LW.p (PEv.fieldAddr (off := 1) Tryz.underlying46 rfl rfl Tryz.sizeOf3 rfl (.tmp rfl)) rfl rfl rfl ?_
        refine LW.s (SEv.store Tryz.sizeOf3 (.tmp rfl) (.const _) rfl (hS.blk 2 rfl) (Nat.le_of_ble_eq_true rfl)) rfl rfl rfl ?_
        intro w46 Nw46
        have zw46 := Nw46.size
        replace hS := hS.putB 2 rfl (show Set_ _ w46 _ (({ someB y with Kind := 4, ID := 0 } : Fact).cells) _ from Nw46)
        change Wx.Sep _ _ _ [_, _, _] at hS
        refine LW.nil (KW.then (CW.seq (CW.region ?_)))
        refine LW.p (PEv.indexArr (j := 5) Tryz.underlying67 Tryz.sizeOf3 (.tmp rfl) (.const _) (by decide)) rfl rfl rfl ?_
        refine LW.p (PEv.load Tryz.isAgg3 (.tmp rfl) ((hS.blk 1 rfl).celln rfl)) rfl rfl rfl ?_
        refine LW.c (enter_call0 (.cons (.tmp rfl) (.cons (.const _) .nil)) (Tryz.en37)) rfl rfl rfl rfl (pickR_any _ _ _ (by decide)) ?_
        rintro _ w47 ⟨rfl, uw47⟩
        have zw47 := uw47.size
        replace hS := hS.up uw47
        refine LW.p (PEv.add_w (.const _) (.tmp rfl)) rfl rfl rfl ?_
        refine LW.p (PEv.fieldAddr (off := 9) Tryz.underlying46 rfl rfl Tryz.sizeOf3 rfl (.tmp rfl)) rfl rfl rfl ?_
        refine LW.s (SEv.store Tryz.sizeOf3 (.tmp rfl) (.tmp rfl) rfl (hS.blk 2 rfl) (Nat.le_of_ble_eq_true rfl)) rfl rfl rfl ?_
        intro w48 Nw48
        have zw48 := Nw48.size
        replace hS := hS.putB 2 rfl (show Set_ _ w48 _ (({ someB y with Kind := 4, ID := 0, Lot := wI (1 + pickI y.f 3) } : Fact).cells) _ from Nw48)
        change Wx.Sep _ _ _ [_, _, _] at hS
        refine LW.nil (KW.then (CW.region ?_))
        refine LW.p (PEv.indexArr (j := 5) Tryz.underlying67 Tryz.sizeOf3 (.tmp rfl) (.const _) (by decide)) rfl rfl rfl ?_
        refine LW.p (PEv.load Tryz.isAgg3 (.tmp rfl) ((hS.blk 1 rfl).celln rfl)) rfl rfl rfl ?_
        refine LW.p (PEv.quo (.tmp rfl) (.const _) (by decide)) rfl rfl rfl ?_
        refine LW.c (enter_call0 (.cons (.tmp rfl) (.cons (.const _) .nil)) (Tryz.en37)) rfl rfl rfl rfl (pickR_any _ _ _ (by decide)) ?_
        rintro _ w49 ⟨rfl, uw49⟩
        have zw49 := uw49.size
        replace hS := hS.up uw49
        refine LW.p (PEv.add_w (.const _) (.tmp rfl)) rfl rfl rfl ?_
        refine LW.p (PEv.fieldAddr (off := 10) Tryz.underlying46 rfl rfl Tryz.sizeOf3 rfl (.tmp rfl)) rfl rfl rfl ?_
        refine LW.s (SEv.store Tryz.sizeOf3 (.tmp rfl) (.tmp rfl) rfl (hS.blk 2 rfl) (Nat.le_of_ble_eq_true rfl)) rfl rfl rfl ?_
        intro w50 Nw50
        have zw50 := Nw50.size
        replace hS := hS.putB 2 rfl (show Set_ _ w50 _ (({ someB y with Kind := 4, ID := 0, Lot := wI (1 + pickI y.f 3), Product := wI (1 + pickI (wI (y.f.tdiv 3)) 2) } : Fact).cells) _ from Nw50)
        change Wx.Sep _ _ _ [_, _, _] at hS
        refine LW.nil (KW.inBlock (KW.then ?_))
        first | rw [← someF_p (by omega)] at hS | rw [← someF_s (by omega)] at hS | rw [← someF_l (by omega) (by omega) (by omega)] at hS
        have hsl := someL_len (xs.take k)
        refine CW.region (LW.p (PEv.move (.tmp rfl)) rfl rfl rfl ?_)
        refine LW.p (PEv.loadA Tryz.isAgg46 Tryz.sizeOf46 rfl (.tmp rfl) ((hS.blk 2 rfl).agg)) rfl rfl rfl ?_
        refine LW.r (REv.buildSlice (xs := [someF y]) (enc := Fact.cells) (mk := fun f : Fact => .agg f.cells) Tryz.underlying22 Tryz.sizeOf46 Tryz.zeroValue46 rfl (by decide) (fun _ => rfl) (fun _ => rfl) (.cons (.tmp rfl) .nil) rfl) rfl rfl rfl rfl ?_
        rintro _ w51 ⟨B95, cB95, rfl, NB95, yB95, xB95⟩
        have eB95 := NB95.at_
        have zB95 := NB95.size
        replace hS := hS.up NB95.up
        have hE95 := xB95
        refine LW.r (REv.appendF (enc := Fact.cells) (bytes := 160) (i := Tryz.t46) Tryz.underlying22 (by kernel_rfl) rfl rfl rfl rfl (by decide) (fun _ => rfl) Fact.one (.tmp rfl) (.tmp rfl) (hS.own 0 rfl) (Sl.of_els hE95) (by have := hsl; simp [maxLen]; omega) (by have := hsl; simp; omega)) rfl rfl rfl rfl ?_
        intro v96 w52 Gw52
        have zw52 := Gw52.fr.size
        replace hS := hS.stp 0 rfl Gw52
        change Wx.Sep _ _ _ [_, _, _] at hS
        refine LW.p (PEv.assign (.tmp rfl)) rfl rfl rfl (LW.nil (KW.inBlock (KW.then (CW.region (LW.p (PEv.move (.tmp rfl)) rfl rfl rfl ?_)))))
        refine LW.p (PEv.inc (.tmp rfl) (by omega)) rfl rfl rfl ?_
        refine LW.p (PEv.assign (.tmp rfl)) rfl rfl rfl (LW.nil (KW.round ?_))
        exact ⟨(k + 1, v96), ⟨⟨by show k + 1 ≤ _; omega, by show k + 1 ≤ _; omega⟩, by rw [someL_step hy hkl.2]; exact hS.take 1⟩, ⟨rfl, rfl, rfl, rfl, trivial⟩, by show xs.length - (k + 1) < xs.length - k; omega⟩
   ·first | replace h14 := of_decide_eq_true h14 | replace h14 := of_decide_eq_false h14 | skip
    refine CW.exit (KW.then_exit (KW.then_exit (KW.block_hit (KW.then (CW.seq (CW.region (LW.p (PEv.move (.tmp rfl)) rfl rfl rfl (LW.p (PEv.assign (.tmp rfl)) rfl rfl rfl (LW.nil (KW.then (CW.ret ?_)))))))))))
    refine KW.ret1 rfl rfl ⟨_, rfl, ?_⟩
    rw [someL_end (by simp at h14; omega)] at hS
    exact ⟨OwnS.ofSep hS, hS.upd⟩
end Go.Proofs.YthfjagphcekcbaaGreat
namespace Go.Wx
def exF (k : Nat) (p : Int × Int) : Fact := { zeroF with Kind := 1, Version := 1, ID := ((1 + k : Nat) : Int), Wafer := p.1, Recipe := 1, Revision := 1, Time := p.2, Until := p.2 }
def ePr (p : Int × Int) : Array Go.Value := #[vi p.1, vi p.2]
def exR : List (Int × Int) := [(5, 10), (5, 30), (6, 40)]
def exP : List Fact := [exF 0 (5, 10), exF 1 (5, 30), exF 2 (6, 40)]
def exS : Fact := { zeroF with Kind := 3, Version := 1, ID := 1, Wafer := 5, Other := 6, Time := 20 }
def exL1 : Fact := { zeroF with Kind := 4, Version := 1, Wafer := 5, Lot := 7, Product := 1 }
def exL2 : Fact := { zeroF with Kind := 4, Version := 1, Wafer := 5, Lot := 8, Product := 1, Time := 25 }
def exB : Base := ⟨exP, [], [exS], [exL1, exL2], [], [], [], [], [], [], []⟩
theorem Els.gr {α : Type} {w w' : World} {B base k : Nat} {enc : α → Array Go.Value} {xs : List α} (h : Els w (some ⟨B, 0, none⟩) k enc xs) (g : Grew base w w') (hB : B < base) : Els w' (some ⟨B, 0, none⟩) k enc xs := fun i x hx => by
  obtain ⟨B', o, e, hc⟩ := h i x hx
  cases e
  refine ⟨B, 0, rfl, fun j v hv => ?_⟩
  have h1 := hc j v hv
  have hlt := block_lt_of_cell h1
  unfold World.cell? at h1 ⊢
  rw [g.block B hlt hB]
  exact h1
theorem exP_step {k : Nat} {p : Int × Int} (h : exR[k]? = some p) : exP.take (k + 1) = exP.take k ++ [exF k p] := by
  have hk : k < 3 := (List.getElem?_eq_some_iff.1 h).1
  rcases (by omega : k = 0 ∨ k = 1 ∨ k = 2) with rfl | rfl | rfl <;> (cases h; rfl)
end Go.Wx
namespace Go.Proofs.YthfjagphcekcbaaGreat
open Go.Wx Go.RowKit
set_option maxHeartbeats 4000000 in
theorem example_any (w : World) : Ret Tryz.prog 32 #[] w fun r w' => ∃ bc, r = .agg bc ∧ BaseC w' bc exB ∧ Up w w' := by
  have hW := Up.refl w
  obtain ⟨w0, rfl⟩ : ∃ w0, w0 = w := ⟨_, rfl⟩
  refine Calls_start (n := 37) (m := 9) Tryz.func32 rfl rfl rfl ?_
  refine CW.seq (CW.region ?_)
  refine LW.r (REv.allocA Tryz.zeroValue24) rfl rfl rfl rfl ?_
  rintro _ w1 ⟨B0, rfl, NB0⟩
  have eB0 := NB0.at_
  have zB0 := NB0.size
  replace hW := hW.up NB0.up
  have hB0 := NB0.blk
  refine LW.nil (KW.then (CW.seq (CW.region ?_)))
  refine LW.r (REv.allocA Tryz.zeroValue24) rfl rfl rfl rfl ?_
  rintro _ w2 ⟨B1, rfl, NB1⟩
  have eB1 := NB1.at_
  have zB1 := NB1.size
  replace hW := hW.up NB1.up
  replace hB0 := hB0.up NB1.up
  have hB1 := NB1.blk
  refine LW.nil (KW.then (CW.seq (CW.seq (CW.region ?_))))
  refine LW.p (PEv.buildArr (cs := (ePr (5, 10))) Tryz.underlying85 Tryz.zeroValue85 Tryz.sizeOf3 (.cons (.const _) (.cons (.const _) .nil)) rfl) rfl rfl rfl ?_
  refine LW.p (PEv.buildArr (cs := (ePr (5, 30))) Tryz.underlying85 Tryz.zeroValue85 Tryz.sizeOf3 (.cons (.const _) (.cons (.const _) .nil)) rfl) rfl rfl rfl ?_
  refine LW.p (PEv.buildArr (cs := (ePr (6, 40))) Tryz.underlying85 Tryz.zeroValue85 Tryz.sizeOf3 (.cons (.const _) (.cons (.const _) .nil)) rfl) rfl rfl rfl ?_
  refine LW.r (REv.buildSlice (xs := exR) (enc := ePr) (mk := fun p => .agg (ePr p)) Tryz.underlying86 Tryz.sizeOf85 Tryz.zeroValue85 rfl (by decide) (fun _ => rfl) (fun _ => rfl) (.cons (.tmp rfl) (.cons (.tmp rfl) (.cons (.tmp rfl) .nil))) rfl) rfl rfl rfl rfl ?_
  rintro _ w3 ⟨B7, cB7, rfl, NB7, yB7, xB7⟩
  have eB7 := NB7.at_
  have zB7 := NB7.size
  replace hW := hW.up NB7.up
  replace hB0 := hB0.up NB7.up
  replace hB1 := hB1.up NB7.up
  have hB7 := NB7.blk
  have hE7 := xB7
  refine LW.p (PEv.lenS Tryz.underlying86 (.tmp rfl)) rfl rfl rfl ?_
  refine LW.p (PEv.move (.const _)) rfl rfl rfl ?_
  refine LW.nil (KW.then (CW.block ?_))
  refine CW.loopB (σ := Nat × Go.Value) (fun s w => (s.1 ≤ exR.length) ∧ (Blk w B0 #[.slice none 0 0, .slice none 0 0, .slice none 0 0, .slice none 0 0, .slice none 0 0, .slice none 0 0, .slice none 0 0, .slice none 0 0, .slice none 0 0, .slice none 0 0, .slice none 0 0] 24) ∧ (Blk w B1 #[s.2, .slice none 0 0, .slice none 0 0, .slice none 0 0, .slice none 0 0, .slice none 0 0, .slice none 0 0, .slice none 0 0, .slice none 0 0, .slice none 0 0, .slice none 0 0] 24) ∧ (Els w (some ⟨B7, 0, none⟩) 2 ePr exR) ∧ (OwnS w (B7 + 1) 46 19 Fact.cells s.2 (exP.take s.1)) ∧ (Sz (B7 + 1) w) ∧ (Up w0 w)) (fun s => [(9, .eq (vi (s.1 : Int)))]) ([(0, .eq _), (1, .eq _), (7, .eq _), (8, .eq _)]) (fun s => exR.length - s.1) (0, .slice none 0 0) ?_ ⟨rfl, rfl, rfl, rfl, rfl, trivial⟩ ?_
  ·exact ⟨Nat.zero_le _, hB0, hB1, hE7, OwnS.nil _ _ _ _ _, (show B7 + 1 ≤ _ by omega), hW⟩
  ·rintro ⟨k, v⟩ w4 ⟨hk, hB0, hB1, hE7, hO, hZ7, hW⟩
   dsimp only at hk hB1 hO
   change CW _ _ _ _ _ _ _ ([(9, .eq (vi (k : Int)))] ++ _) _
   refine CW.seq ?_
   skip
   refine CW.region ?_
   refine LW.p (PEv.lss (.tmp rfl) (.tmp rfl)) rfl rfl rfl ?_
   refine LW.nil (KW.then (CW.seq ?_))
   refine CW.cond (.tmp rfl) (fun h10 => ?_) (fun h10 => ?_)
   ·first | replace h10 := of_decide_eq_true h10 | replace h10 := of_decide_eq_false h10 | skip
    refine CW.skip (KW.then (CW.seq (CW.block (CW.seq ?_))))
    have hk3 : k < 3 := by have : exR.length = 3 := rfl; omega
    have z7 : B7 + 1 ≤ _ := hZ7
    refine CW.region (LW.p (PEv.move (.tmp rfl)) rfl rfl rfl ?_)
    obtain ⟨x, hx⟩ := getElem?_of_lt (xs := exR) (i := k) (by omega)
    obtain ⟨Bx, ox, ax, hcx⟩ := hE7 _ x hx
    refine LW.p (PEv.indexAddr' Tryz.underlying86 Tryz.sizeOf85 (.tmp rfl) (.tmp rfl) (by omega) ax) rfl rfl rfl ?_
    refine LW.p (PEv.loadA Tryz.isAgg85 Tryz.sizeOf85 rfl (.tmp rfl) (hcx)) rfl rfl rfl ?_
    refine LW.r (REv.allocA Tryz.zeroValue85) rfl rfl rfl rfl ?_
    rintro _ w5 ⟨B3, rfl, MB3⟩
    refine LW.p (PEv.assign (.tmp rfl)) rfl rfl rfl ?_
    refine LW.s (SEv.storeA Tryz.sizeOf85 rfl (.tmp rfl) (.tmp rfl) (by simp [ePr, Value.oneCell']) MB3.blk rfl) rfl rfl rfl ?_
    intro w6 LB3
    have NB3 := MB3.set LB3
    clear LB3 MB3
    have eB3 := NB3.at_
    have zB3 := NB3.size
    replace hB0 := hB0.up NB3.up
    replace hB1 := hB1.up NB3.up
    replace hE7 := hE7.up NB3.up
    replace hO := hO.up NB3.up
    replace hZ7 := hZ7.up NB3.up
    replace hW := hW.up NB3.up
    replace hcx := hcx.up NB3.up
    have hB3 := NB3.blk
    refine LW.nil (KW.then (CW.region ?_))
    refine LW.p (PEv.fieldAddr (off := 0) Tryz.underlying24 rfl rfl Tryz.sizeOf22 rfl (.tmp rfl)) rfl rfl rfl ?_
    refine LW.p (PEv.load Tryz.isAgg22 (.tmp rfl) (hB1.celln rfl)) rfl rfl rfl ?_
    refine LW.p (PEv.move (.tmp rfl)) rfl rfl rfl ?_
    refine LW.p (PEv.addN (i := 1) (.const _) (.tmp rfl) (by omega)) rfl rfl rfl ?_
    refine LW.p (PEv.indexArr (j := 0) Tryz.underlying85 Tryz.sizeOf3 (.tmp rfl) (.const _) (by decide)) rfl rfl rfl ?_
    refine LW.p (PEv.load Tryz.isAgg3 (.tmp rfl) (hB3.celln rfl)) rfl rfl rfl ?_
    refine LW.p (PEv.indexArr (j := 1) Tryz.underlying85 Tryz.sizeOf3 (.tmp rfl) (.const _) (by decide)) rfl rfl rfl ?_
    refine LW.p (PEv.load Tryz.isAgg3 (.tmp rfl) (hB3.celln rfl)) rfl rfl rfl ?_
    refine LW.p (PEv.indexArr (j := 1) Tryz.underlying85 Tryz.sizeOf3 (.tmp rfl) (.const _) (by decide)) rfl rfl rfl ?_
    refine LW.p (PEv.load Tryz.isAgg3 (.tmp rfl) (hB3.celln rfl)) rfl rfl rfl ?_
    refine LW.p (PEv.build (cs := (exF k x).cells) Tryz.underlying46 Tryz.zeroValue46 Tryz.places46 (.cons (.const _) (.cons (.const _) (.cons (.tmp rfl) (.cons (.tmp rfl) (.cons (.const _) (.cons (.const _) (.cons (.tmp rfl) (.cons (.tmp rfl) .nil)))))))) rfl) rfl rfl rfl ?_
    refine LW.r (REv.buildSlice (xs := [exF k x]) (enc := Fact.cells) (mk := fun f : Fact => .agg f.cells) Tryz.underlying22 Tryz.sizeOf46 Tryz.zeroValue46 rfl (by decide) (fun _ => rfl) (fun _ => rfl) (.cons (.tmp rfl) .nil) rfl) rfl rfl rfl rfl ?_
    rintro _ w7 ⟨B25, cB25, rfl, NB25, yB25, xB25⟩
    have eB25 := NB25.at_
    have zB25 := NB25.size
    replace hB0 := hB0.up NB25.up
    replace hB1 := hB1.up NB25.up
    replace hE7 := hE7.up NB25.up
    replace hO := hO.up NB25.up
    replace hZ7 := hZ7.up NB25.up
    replace hW := hW.up NB25.up
    replace hcx := hcx.up NB25.up
    replace hB3 := hB3.up NB25.up
    have hB25 := NB25.blk
    have hE25 := xB25
    refine LW.r (REv.append (enc := Fact.cells) (base := B7 + 1) (bytes := 160) (i := Tryz.t46) Tryz.underlying22 (by kernel_rfl) rfl rfl rfl rfl (by decide) (fun _ => rfl) Fact.one (.tmp rfl) (.tmp rfl) hO (Sl.of_els hE25) (by simp) (by simp [maxLen]; omega) (by simp; omega) (by omega)) rfl rfl rfl rfl ?_
    rintro v26 w8 ⟨Ow8, Gw8⟩
    have zw8 := Gw8.size
    replace hB0 := hB0.gr Gw8 (by omega)
    replace hB1 := hB1.gr Gw8 (by omega)
    replace hE7 := hE7.gr Gw8 (by omega)
    replace hZ7 := hZ7.gr Gw8 rfl
    replace hW := hW.gr Gw8 (by omega)
    replace hO := Ow8
    refine LW.p (PEv.fieldAddr (off := 0) Tryz.underlying24 rfl rfl Tryz.sizeOf22 rfl (.tmp rfl)) rfl rfl rfl ?_
    refine LW.s (SEv.store Tryz.sizeOf22 (.tmp rfl) (.tmp rfl) hO.one hB1 (Nat.le_of_ble_eq_true rfl)) rfl rfl rfl ?_
    intro w9 Nw9
    have zw9 := Nw9.size
    replace hB0 := hB0.sto Nw9.sto (by omega)
    replace hE7 := hE7.sto Nw9.sto (by omega)
    replace hO := hO.sto Nw9.sto (by omega)
    replace hZ7 := hZ7.sto Nw9.sto (by omega)
    replace hW := hW.sto Nw9.sto (by omega)
    replace hB1 := Nw9.blk
    replace hB1 : Blk w9 B1 #[v26, .slice none 0 0, .slice none 0 0, .slice none 0 0, .slice none 0 0, .slice none 0 0, .slice none 0 0, .slice none 0 0, .slice none 0 0, .slice none 0 0, .slice none 0 0] _ := hB1
    refine LW.nil (KW.inBlock (KW.then (CW.region ?_)))
    refine LW.p (PEv.inc (.tmp rfl) (by omega)) rfl rfl rfl ?_
    refine LW.p (PEv.move (.tmp rfl)) rfl rfl rfl (LW.nil (KW.round ?_))
    exact ⟨(k + 1, v26), ⟨by show k + 1 ≤ _; omega, hB0, hB1, hE7, by rw [exP_step hx]; exact hO, hZ7, hW⟩, ⟨rfl, rfl, rfl, rfl, rfl, trivial⟩, by show exR.length - (k + 1) < exR.length - k; omega⟩
   ·first | replace h10 := of_decide_eq_true h10 | replace h10 := of_decide_eq_false h10 | skip
    refine CW.exit (KW.then_exit (KW.then_exit (KW.block_hit (KW.then (CW.seq ?_)))))
    have hk3 : k = 3 := by have : exR.length = 3 := rfl; omega
    subst hk3
    have z7 : B7 + 1 ≤ _ := hZ7
    refine CW.region ?_
    refine LW.p (PEv.build (cs := exS.cells) Tryz.underlying46 Tryz.zeroValue46 Tryz.places46 (.cons (.const _) (.cons (.const _) (.cons (.const _) (.cons (.const _) (.cons (.const _) (.cons (.const _) .nil)))))) rfl) rfl rfl rfl ?_
    refine LW.r (REv.buildSlice (xs := [exS]) (enc := Fact.cells) (mk := fun f : Fact => .agg f.cells) Tryz.underlying22 Tryz.sizeOf46 Tryz.zeroValue46 rfl (by decide) (fun _ => rfl) (fun _ => rfl) (.cons (.tmp rfl) .nil) rfl) rfl rfl rfl rfl ?_
    rintro _ w10 ⟨B30, cB30, rfl, NB30, yB30, xB30⟩
    have eB30 := NB30.at_
    have zB30 := NB30.size
    replace hB0 := hB0.up NB30.up
    replace hB1 := hB1.up NB30.up
    replace hE7 := hE7.up NB30.up
    replace hO := hO.up NB30.up
    replace hZ7 := hZ7.up NB30.up
    replace hW := hW.up NB30.up
    have hB30 := NB30.blk
    have hE30 := xB30
    refine LW.p (PEv.fieldAddr (off := 2) Tryz.underlying24 rfl rfl Tryz.sizeOf22 rfl (.tmp rfl)) rfl rfl rfl ?_
    refine LW.s (SEv.store Tryz.sizeOf22 (.tmp rfl) (.tmp rfl) rfl hB1 (Nat.le_of_ble_eq_true rfl)) rfl rfl rfl ?_
    intro w11 Nw11
    have zw11 := Nw11.size
    replace hB0 := hB0.sto Nw11.sto (by omega)
    replace hE7 := hE7.sto Nw11.sto (by omega)
    replace hO := hO.sto Nw11.sto (by omega)
    replace hZ7 := hZ7.sto Nw11.sto (by omega)
    replace hW := hW.sto Nw11.sto (by omega)
    replace hB30 := hB30.sto Nw11.sto (by omega)
    replace hE30 := hE30.sto Nw11.sto (by omega)
    replace hB1 := Nw11.blk
    replace hB1 : Blk w11 B1 #[v, .slice none 0 0, .slice (some ⟨B30, 0, none⟩) 1 1, .slice none 0 0, .slice none 0 0, .slice none 0 0, .slice none 0 0, .slice none 0 0, .slice none 0 0, .slice none 0 0, .slice none 0 0] _ := hB1
    refine LW.nil (KW.then (CW.seq (CW.region ?_)))
    refine LW.p (PEv.build (cs := exL1.cells) Tryz.underlying46 Tryz.zeroValue46 Tryz.places46 (.cons (.const _) (.cons (.const _) (.cons (.const _) (.cons (.const _) (.cons (.const _) .nil))))) rfl) rfl rfl rfl ?_
    refine LW.p (PEv.build (cs := exL2.cells) Tryz.underlying46 Tryz.zeroValue46 Tryz.places46 (.cons (.const _) (.cons (.const _) (.cons (.const _) (.cons (.const _) (.cons (.const _) (.cons (.const _) .nil)))))) rfl) rfl rfl rfl ?_
    refine LW.r (REv.buildSlice (xs := [exL1, exL2]) (enc := Fact.cells) (mk := fun f : Fact => .agg f.cells) Tryz.underlying22 Tryz.sizeOf46 Tryz.zeroValue46 rfl (by decide) (fun _ => rfl) (fun _ => rfl) (.cons (.tmp rfl) (.cons (.tmp rfl) .nil)) rfl) rfl rfl rfl rfl ?_
    rintro _ w12 ⟨B34, cB34, rfl, NB34, yB34, xB34⟩
    have eB34 := NB34.at_
    have zB34 := NB34.size
    replace hB0 := hB0.up NB34.up
    replace hB1 := hB1.up NB34.up
    replace hE7 := hE7.up NB34.up
    replace hO := hO.up NB34.up
    replace hZ7 := hZ7.up NB34.up
    replace hW := hW.up NB34.up
    replace hB30 := hB30.up NB34.up
    replace hE30 := hE30.up NB34.up
    have hB34 := NB34.blk
    have hE34 := xB34
    refine LW.p (PEv.fieldAddr (off := 3) Tryz.underlying24 rfl rfl Tryz.sizeOf22 rfl (.tmp rfl)) rfl rfl rfl ?_
    refine LW.s (SEv.store Tryz.sizeOf22 (.tmp rfl) (.tmp rfl) rfl hB1 (Nat.le_of_ble_eq_true rfl)) rfl rfl rfl ?_
    intro w13 Nw13
    have zw13 := Nw13.size
    replace hB0 := hB0.sto Nw13.sto (by omega)
    replace hE7 := hE7.sto Nw13.sto (by omega)
    replace hO := hO.sto Nw13.sto (by omega)
    replace hZ7 := hZ7.sto Nw13.sto (by omega)
    replace hW := hW.sto Nw13.sto (by omega)
    replace hB30 := hB30.sto Nw13.sto (by omega)
    replace hE30 := hE30.sto Nw13.sto (by omega)
    replace hB34 := hB34.sto Nw13.sto (by omega)
    replace hE34 := hE34.sto Nw13.sto (by omega)
    replace hB1 := Nw13.blk
    replace hB1 : Blk w13 B1 #[v, .slice none 0 0, .slice (some ⟨B30, 0, none⟩) 1 1, .slice (some ⟨B34, 0, none⟩) 2 2, .slice none 0 0, .slice none 0 0, .slice none 0 0, .slice none 0 0, .slice none 0 0, .slice none 0 0, .slice none 0 0] _ := hB1
    refine LW.nil (KW.then (CW.seq ?_))
    have hv1 := hO.one
    refine CW.region ?_
    refine LW.p (PEv.loadA Tryz.isAgg24 Tryz.sizeOf24 rfl (.tmp rfl) (hB1.agg)) rfl rfl rfl ?_
    refine LW.s (SEv.storeA Tryz.sizeOf24 rfl (.tmp rfl) (.tmp rfl) (by simp [Value.oneCell']; exact hv1) hB0 rfl) rfl rfl rfl ?_
    intro w14 Nw14
    have zw14 := Nw14.size
    replace hB1 := hB1.sto Nw14.sto (by omega)
    replace hE7 := hE7.sto Nw14.sto (by omega)
    replace hO := hO.sto Nw14.sto (by omega)
    replace hZ7 := hZ7.sto Nw14.sto (by omega)
    replace hW := hW.sto Nw14.sto (by omega)
    replace hB30 := hB30.sto Nw14.sto (by omega)
    replace hE30 := hE30.sto Nw14.sto (by omega)
    replace hB34 := hB34.sto Nw14.sto (by omega)
    replace hE34 := hE34.sto Nw14.sto (by omega)
    replace hB0 := Nw14.blk
    replace hB0 : Blk w14 B0 #[v, .slice none 0 0, .slice (some ⟨B30, 0, none⟩) 1 1, .slice (some ⟨B34, 0, none⟩) 2 2, .slice none 0 0, .slice none 0 0, .slice none 0 0, .slice none 0 0, .slice none 0 0, .slice none 0 0, .slice none 0 0] _ := hB0
    refine LW.nil (KW.then (CW.ret ?_))
    refine KW.retA rfl rfl Tryz.isAgg24 Tryz.sizeOf24 rfl (hB0.agg) ⟨_, rfl, ?_⟩
    exact ⟨_, rfl, ⟨_, _, _, _, _, _, _, _, _, _, _, rfl, hO.sl (fun _ => rfl), Sl.nil _ _ _, Sl.of_els hE30, Sl.of_els hE34, Sl.nil _ _ _, Sl.nil _ _ _, Sl.nil _ _ _, Sl.nil _ _ _, Sl.nil _ _ _, Sl.nil _ _ _, Sl.nil _ _ _⟩, hW⟩
end Go.Proofs.YthfjagphcekcbaaGreat
namespace Go.Wx
theorem ex_h5 : histL exB.Processes exB.Swaps 5 = [exF 0 (5, 10), exF 2 (6, 40)] := by kernel_rfl
theorem ex_h6 : histL exB.Processes exB.Swaps 6 = [exF 1 (5, 30)] := by kernel_rfl
theorem ex_l1 : lotOf exB.Lots 5 24 = (7, 1) := by kernel_rfl
theorem ex_l2 : lotOf exB.Lots 5 25 = (8, 1) := by kernel_rfl
theorem ex_w1 : whoL exB.Swaps 19 5 = 5 := by kernel_rfl
theorem ex_w2 : whoL exB.Swaps 20 5 = 6 := by kernel_rfl
theorem ex_w3 : whoL exB.Swaps 20 6 = 5 := by kernel_rfl
theorem ex_m1 : markL exB.Swaps 40 5 = 6 := by kernel_rfl
theorem ex_me : membersL exB.Lots 8 30 = [5] := by
  unfold membersL sortI
  rw [show memK exB.Lots 8 30 exB.Lots = [5] from by kernel_rfl]
  exact List.mergeSort_of_pairwise (by decide)
theorem ex_wa : wafersL exB.Lots exB.Processes exB.Swaps = [5, 6] := by
  unfold wafersL sortI
  rw [show (proK exB.Swaps (lotK exB.Lots) exB.Processes).filter isIDb = [5, 6] from by kernel_rfl]
  exact List.mergeSort_of_pairwise (by decide)
end Go.Wx
namespace Go.Proofs.YthfjagphcekcbaaGreat
open Go.Wx Go.RowKit
set_option maxHeartbeats 2000000 in
theorem sane_any (w : World) : Ret Tryz.prog 11 #[] w fun r w' => r = .bool true ∧ Up w w' := by
  have hW := Up.refl w
  refine Calls_start (n := 80) (m := 9) Tryz.func11 rfl rfl rfl ?_
  refine CW.seq (CW.region (LW.p (PEv.assign (.const _)) rfl rfl rfl (LW.nil (KW.then (CW.seq (CW.region ?_))))))
  refine LW.c (enter_call0 .nil (Tryz.en32)) rfl rfl rfl rfl (example_any _) ?_
  rintro _ w1 ⟨bc, rfl, hC, uw1⟩
  have zw1 := uw1.size
  replace hW := hW.up uw1
  refine LW.r (REv.allocA Tryz.zeroValue24) rfl rfl rfl rfl ?_
  rintro _ w2 ⟨B1, rfl, MB1⟩
  refine LW.s (SEv.storeA Tryz.sizeOf24 (hC.size) (.tmp rfl) (.tmp rfl) (hC.one) MB1.blk rfl) rfl rfl rfl ?_
  intro w3 LB1
  have NB1 := MB1.set LB1
  clear LB1 MB1
  have eB1 := NB1.at_
  have zB1 := NB1.size
  replace hW := hW.up NB1.up
  replace hC := hC.up NB1.up
  have hB1 := NB1.blk
  refine LW.nil (KW.then (CW.seq (CW.region ?_)))
  refine LW.p (PEv.loadA Tryz.isAgg24 Tryz.sizeOf24 (hC.size) (.tmp rfl) (hB1.agg)) rfl rfl rfl ?_
  refine LW.c (enter_call0 (.cons (.tmp rfl) (.cons (.const _) .nil)) (Tryz.en23)) rfl rfl rfl rfl (History_any bc exB 5 _ hC (by decide) (by decide)) ?_
  rintro v10 w4 ⟨hO10, uw4⟩
  have zw4 := uw4.size
  replace hW := hW.up uw4
  replace hC := hC.up uw4
  replace hB1 := hB1.up uw4
  rw [ex_h5] at hO10
  obtain ⟨ad10, cp10, rfl, hE100⟩ := hO10.sl (fun _ => rfl)
  have hE10 : Els w4 ad10 19 Fact.cells [exF 0 (5, 10), exF 2 (6, 40)] := hE100
  clear hO10 hE100
  refine LW.p (PEv.assign (.tmp rfl)) rfl rfl rfl (LW.nil (KW.then (CW.seq (CW.region ?_))))
  refine LW.p (PEv.loadA Tryz.isAgg24 Tryz.sizeOf24 (hC.size) (.tmp rfl) (hB1.agg)) rfl rfl rfl ?_
  refine LW.c (enter_call0 (.cons (.tmp rfl) (.cons (.const _) (.cons (.const _) .nil))) (Tryz.en16)) rfl rfl rfl rfl (lot_any bc exB 5 24 _ hC (by decide)) ?_
  rintro _ w5 ⟨rfl, uw5⟩
  have zw5 := uw5.size
  replace hW := hW.up uw5
  replace hC := hC.up uw5
  replace hB1 := hB1.up uw5
  replace hE10 := hE10.up uw5
  rw [ex_l1]
  refine LW.p (PEv.move (.tmp rfl)) rfl rfl rfl (LW.p (PEv.extract (.tmp rfl) rfl) rfl rfl rfl (LW.p (PEv.extract (.tmp rfl) rfl) rfl rfl rfl (LW.p (PEv.assign (.tmp rfl)) rfl rfl rfl (LW.p (PEv.assign (.tmp rfl)) rfl rfl rfl (LW.nil (KW.then (CW.seq (CW.region ?_))))))))
  refine LW.p (PEv.loadA Tryz.isAgg24 Tryz.sizeOf24 (hC.size) (.tmp rfl) (hB1.agg)) rfl rfl rfl ?_
  refine LW.c (enter_call0 (.cons (.tmp rfl) (.cons (.const _) (.cons (.const _) .nil))) (Tryz.en16)) rfl rfl rfl rfl (lot_any bc exB 5 25 _ hC (by decide)) ?_
  rintro _ w6 ⟨rfl, uw6⟩
  have zw6 := uw6.size
  replace hW := hW.up uw6
  replace hC := hC.up uw6
  replace hB1 := hB1.up uw6
  replace hE10 := hE10.up uw6
  rw [ex_l2]
  refine LW.p (PEv.move (.tmp rfl)) rfl rfl rfl (LW.p (PEv.extract (.tmp rfl) rfl) rfl rfl rfl (LW.p (PEv.extract (.tmp rfl) rfl) rfl rfl rfl (LW.p (PEv.assign (.tmp rfl)) rfl rfl rfl (LW.p (PEv.assign (.tmp rfl)) rfl rfl rfl (LW.nil (KW.then (CW.seq (CW.seq (CW.region (LW.p (PEv.move (.tmp rfl)) rfl rfl rfl ?_))))))))))
  refine LW.p (PEv.lenS Tryz.underlying22 (.tmp rfl)) rfl rfl rfl ?_
  refine LW.p (PEv.fa (PEv.neq (.tmp rfl) (.const _)) (rfl)) rfl rfl rfl ?_
  refine LW.p (PEv.move (.tmp rfl)) rfl rfl rfl ?_
  refine LW.yes rfl rfl rfl rfl rfl rfl ?_
  refine LW.p (PEv.loadA Tryz.isAgg24 Tryz.sizeOf24 (hC.size) (.tmp rfl) (hB1.agg)) rfl rfl rfl ?_
  refine LW.yes rfl rfl rfl rfl rfl rfl ?_
  refine LW.c (enter_call0 (.cons (.tmp rfl) (.cons (.const _) .nil)) (Tryz.en23)) rfl rfl rfl rfl (History_any bc exB 6 _ hC (by decide) (by decide)) ?_
  rintro v26 w7 ⟨hO26, uw7⟩
  have zw7 := uw7.size
  replace hW := hW.up uw7
  replace hC := hC.up uw7
  replace hB1 := hB1.up uw7
  replace hE10 := hE10.up uw7
  rw [ex_h6] at hO26
  obtain ⟨ad26, cp26, rfl, hE260⟩ := hO26.sl (fun _ => rfl)
  have hE26 : Els w7 ad26 19 Fact.cells [exF 1 (5, 30)] := hE260
  clear hO26 hE260
  refine LW.yes rfl rfl rfl rfl rfl rfl ?_
  refine LW.p (PEv.lenS Tryz.underlying22 (.tmp rfl)) rfl rfl rfl ?_
  refine LW.yes rfl rfl rfl rfl rfl rfl ?_
  refine LW.p (PEv.fa (PEv.neq (.tmp rfl) (.const _)) (rfl)) rfl rfl rfl ?_
  refine LW.p (PEv.pick_or (.tmp rfl) (fun hp => (by first | exact .const _ | exact .tmp rfl | exact .cond rfl (by first | assumption | simp_all)))) rfl rfl rfl ?_
  refine LW.nil (KW.then ?_)
  refine CW.cond_false (.tmp rfl) ?_
  refine CW.skip (KW.then (CW.seq (CW.region ?_)))
  refine LW.p (PEv.loadA Tryz.isAgg24 Tryz.sizeOf24 (hC.size) (.tmp rfl) (hB1.agg)) rfl rfl rfl ?_
  refine LW.c (enter_call0 (.cons (.tmp rfl) (.cons (.const _) (.cons (.const _) .nil))) (Tryz.en18)) rfl rfl rfl rfl (Who_any bc exB 5 19 _ hC (by decide)) ?_
  rintro _ w8 ⟨rfl, uw8⟩
  have zw8 := uw8.size
  replace hW := hW.up uw8
  replace hC := hC.up uw8
  replace hB1 := hB1.up uw8
  replace hE10 := hE10.up uw8
  replace hE26 := hE26.up uw8
  rw [ex_w1]
  refine LW.p (PEv.tr (PEv.eql (.tmp rfl) (.const _)) (rfl)) rfl rfl rfl ?_
  refine LW.p (PEv.move (.tmp rfl)) rfl rfl rfl ?_
  refine LW.yes rfl rfl rfl rfl rfl rfl ?_
  refine LW.p (PEv.loadA Tryz.isAgg24 Tryz.sizeOf24 (hC.size) (.tmp rfl) (hB1.agg)) rfl rfl rfl ?_
  refine LW.yes rfl rfl rfl rfl rfl rfl ?_
  refine LW.c (enter_call0 (.cons (.tmp rfl) (.cons (.const _) (.cons (.const _) .nil))) (Tryz.en18)) rfl rfl rfl rfl (Who_any bc exB 5 20 _ hC (by decide)) ?_
  rintro _ w9 ⟨rfl, uw9⟩
  have zw9 := uw9.size
  replace hW := hW.up uw9
  replace hC := hC.up uw9
  replace hB1 := hB1.up uw9
  replace hE10 := hE10.up uw9
  replace hE26 := hE26.up uw9
  rw [ex_w2]
  refine LW.yes rfl rfl rfl rfl rfl rfl ?_
  refine LW.p (PEv.tr (PEv.eql (.tmp rfl) (.const _)) (rfl)) rfl rfl rfl ?_
  refine LW.p (PEv.pick_and (.tmp rfl) (fun hp => (by first | exact .const _ | exact .tmp rfl | exact .cond rfl (by first | assumption | simp_all)))) rfl rfl rfl ?_
  refine LW.p (PEv.move (.tmp rfl)) rfl rfl rfl ?_
  refine LW.yes rfl rfl rfl rfl rfl rfl ?_
  refine LW.p (PEv.loadA Tryz.isAgg24 Tryz.sizeOf24 (hC.size) (.tmp rfl) (hB1.agg)) rfl rfl rfl ?_
  refine LW.yes rfl rfl rfl rfl rfl rfl ?_
  refine LW.c (enter_call0 (.cons (.tmp rfl) (.cons (.const _) (.cons (.const _) .nil))) (Tryz.en18)) rfl rfl rfl rfl (Who_any bc exB 6 20 _ hC (by decide)) ?_
  rintro _ w10 ⟨rfl, uw10⟩
  have zw10 := uw10.size
  replace hW := hW.up uw10
  replace hC := hC.up uw10
  replace hB1 := hB1.up uw10
  replace hE10 := hE10.up uw10
  replace hE26 := hE26.up uw10
  rw [ex_w3]
  refine LW.yes rfl rfl rfl rfl rfl rfl ?_
  refine LW.p (PEv.tr (PEv.eql (.tmp rfl) (.const _)) (rfl)) rfl rfl rfl ?_
  refine LW.p (PEv.pick_and (.tmp rfl) (fun hp => (by first | exact .const _ | exact .tmp rfl | exact .cond rfl (by first | assumption | simp_all)))) rfl rfl rfl ?_
  refine LW.p (PEv.move (.tmp rfl)) rfl rfl rfl ?_
  refine LW.yes rfl rfl rfl rfl rfl rfl ?_
  refine LW.p (PEv.loadA Tryz.isAgg24 Tryz.sizeOf24 (hC.size) (.tmp rfl) (hB1.agg)) rfl rfl rfl ?_
  refine LW.yes rfl rfl rfl rfl rfl rfl ?_
  refine LW.c (enter_call0 (.cons (.tmp rfl) (.cons (.const _) (.cons (.const _) .nil))) (Tryz.en20)) rfl rfl rfl rfl (Mark_any bc exB 5 40 _ hC (by decide)) ?_
  rintro _ w11 ⟨rfl, uw11⟩
  have zw11 := uw11.size
  replace hW := hW.up uw11
  replace hC := hC.up uw11
  replace hB1 := hB1.up uw11
  replace hE10 := hE10.up uw11
  replace hE26 := hE26.up uw11
  rw [ex_m1]
  refine LW.yes rfl rfl rfl rfl rfl rfl ?_
  refine LW.p (PEv.tr (PEv.eql (.tmp rfl) (.const _)) (rfl)) rfl rfl rfl ?_
  refine LW.p (PEv.pick_and (.tmp rfl) (fun hp => (by first | exact .const _ | exact .tmp rfl | exact .cond rfl (by first | assumption | simp_all)))) rfl rfl rfl ?_
  refine LW.p (PEv.assign (.tmp rfl)) rfl rfl rfl (LW.nil (KW.then (CW.seq ?_)))
  obtain ⟨Bx, ox, ax, hcx⟩ := hE10 1 _ rfl
  refine CW.region (LW.p (PEv.move (.tmp rfl)) rfl rfl rfl (LW.p (PEv.move (.tmp rfl)) rfl rfl rfl ?_))
  refine LW.yes rfl rfl rfl rfl rfl rfl ?_
  refine LW.p (PEv.move (.tmp rfl)) rfl rfl rfl ?_
  refine LW.yes rfl rfl rfl rfl rfl rfl ?_
  refine LW.p (PEv.indexAddr' Tryz.underlying22 Tryz.sizeOf46 (.tmp rfl) (.const _) (by decide) ax) rfl rfl rfl ?_
  refine LW.yes rfl rfl rfl rfl rfl rfl ?_
  refine LW.p (PEv.fieldAddr (off := 1) Tryz.underlying46 rfl rfl Tryz.sizeOf3 rfl (.tmp rfl)) rfl rfl rfl ?_
  refine LW.yes rfl rfl rfl rfl rfl rfl ?_
  refine LW.p (PEv.load Tryz.isAgg3 (.tmp rfl) (hcx.nth (j := 1) rfl)) rfl rfl rfl ?_
  refine LW.yes rfl rfl rfl rfl rfl rfl ?_
  refine LW.p (PEv.tr (PEv.eql (.tmp rfl) (.const _)) (rfl)) rfl rfl rfl ?_
  refine LW.p (PEv.pick_and (.tmp rfl) (fun hp => (by first | exact .const _ | exact .tmp rfl | exact .cond rfl (by first | assumption | simp_all)))) rfl rfl rfl ?_
  refine LW.p (PEv.move (.tmp rfl)) rfl rfl rfl ?_
  refine LW.yes rfl rfl rfl rfl rfl rfl ?_
  refine LW.p (PEv.move (.tmp rfl)) rfl rfl rfl ?_
  refine LW.yes rfl rfl rfl rfl rfl rfl ?_
  refine LW.p (PEv.tr (PEv.eql (.tmp rfl) (.const _)) (rfl)) rfl rfl rfl ?_
  refine LW.p (PEv.pick_and (.tmp rfl) (fun hp => (by first | exact .const _ | exact .tmp rfl | exact .cond rfl (by first | assumption | simp_all)))) rfl rfl rfl ?_
  refine LW.p (PEv.move (.tmp rfl)) rfl rfl rfl ?_
  refine LW.yes rfl rfl rfl rfl rfl rfl ?_
  refine LW.p (PEv.move (.tmp rfl)) rfl rfl rfl ?_
  refine LW.yes rfl rfl rfl rfl rfl rfl ?_
  refine LW.p (PEv.tr (PEv.eql (.tmp rfl) (.const _)) (rfl)) rfl rfl rfl ?_
  refine LW.p (PEv.pick_and (.tmp rfl) (fun hp => (by first | exact .const _ | exact .tmp rfl | exact .cond rfl (by first | assumption | simp_all)))) rfl rfl rfl ?_
  refine LW.p (PEv.move (.tmp rfl)) rfl rfl rfl ?_
  refine LW.yes rfl rfl rfl rfl rfl rfl ?_
  refine LW.p (PEv.move (.tmp rfl)) rfl rfl rfl ?_
  refine LW.yes rfl rfl rfl rfl rfl rfl ?_
  refine LW.p (PEv.tr (PEv.eql (.tmp rfl) (.const _)) (rfl)) rfl rfl rfl ?_
  refine LW.p (PEv.pick_and (.tmp rfl) (fun hp => (by first | exact .const _ | exact .tmp rfl | exact .cond rfl (by first | assumption | simp_all)))) rfl rfl rfl ?_
  refine LW.p (PEv.move (.tmp rfl)) rfl rfl rfl ?_
  refine LW.yes rfl rfl rfl rfl rfl rfl ?_
  refine LW.p (PEv.loadA Tryz.isAgg24 Tryz.sizeOf24 (hC.size) (.tmp rfl) (hB1.agg)) rfl rfl rfl ?_
  refine LW.yes rfl rfl rfl rfl rfl rfl ?_
  refine LW.c (enter_call0 (.cons (.tmp rfl) (.cons (.const _) (.cons (.const _) .nil))) (Tryz.en26)) rfl rfl rfl rfl (Members_any bc exB 8 30 _ hC (by decide)) ?_
  rintro v70 w12 ⟨hO70, uw12⟩
  have zw12 := uw12.size
  replace hW := hW.up uw12
  replace hC := hC.up uw12
  replace hB1 := hB1.up uw12
  replace hE10 := hE10.up uw12
  replace hE26 := hE26.up uw12
  replace hcx := hcx.up uw12
  rw [ex_me] at hO70
  obtain ⟨ad70, cp70, rfl, hE700⟩ := hO70.sl (fun _ => rfl)
  have hE70 : Els w12 ad70 1 eInt [5] := hE700
  clear hO70 hE700
  refine LW.yes rfl rfl rfl rfl rfl rfl ?_
  refine LW.r (REv.buildSlice (xs := ([5] : List Int)) (enc := eInt) (mk := vi) Tryz.underlying32 Tryz.sizeOf3 Tryz.zeroValue3 rfl (by decide) (fun _ => rfl) (fun _ => rfl) (.cons (.const _) .nil) rfl) rfl rfl rfl rfl ?_
  rintro _ w13 ⟨B71, cB71, rfl, NB71, yB71, xB71⟩
  have eB71 := NB71.at_
  have zB71 := NB71.size
  replace hW := hW.up NB71.up
  replace hC := hC.up NB71.up
  replace hB1 := hB1.up NB71.up
  replace hE10 := hE10.up NB71.up
  replace hE26 := hE26.up NB71.up
  replace hcx := hcx.up NB71.up
  replace hE70 := hE70.up NB71.up
  have hB71 := NB71.blk
  have hE71 := xB71
  refine LW.yes rfl rfl rfl rfl rfl rfl ?_
  refine LW.c (enter_call0 (.cons (.tmp rfl) (.cons (.tmp rfl) .nil)) (Tryz.en25)) rfl rfl rfl rfl (sameInts_any _ _ [5] [5] _ (Sl.of_els hE70) (Sl.of_els hE71) (by decide) (by decide)) ?_
  rintro _ w14 ⟨rfl, uw14⟩
  have zw14 := uw14.size
  replace hW := hW.up uw14
  replace hC := hC.up uw14
  replace hB1 := hB1.up uw14
  replace hE10 := hE10.up uw14
  replace hE26 := hE26.up uw14
  replace hcx := hcx.up uw14
  replace hE70 := hE70.up uw14
  replace hB71 := hB71.up uw14
  replace hE71 := hE71.up uw14
  rw [decide_eq_true rfl]
  refine LW.p (PEv.pick_and (.tmp rfl) (fun hp => (by first | exact .const _ | exact .tmp rfl | exact .cond rfl (by first | assumption | simp_all)))) rfl rfl rfl ?_
  refine LW.p (PEv.move (.tmp rfl)) rfl rfl rfl ?_
  refine LW.yes rfl rfl rfl rfl rfl rfl ?_
  refine LW.p (PEv.loadA Tryz.isAgg24 Tryz.sizeOf24 (hC.size) (.tmp rfl) (hB1.agg)) rfl rfl rfl ?_
  refine LW.yes rfl rfl rfl rfl rfl rfl ?_
  refine LW.c (enter_call0 (.cons (.tmp rfl) .nil) (Tryz.en28)) rfl rfl rfl rfl (Wafers_any bc exB _ hC (by decide) (by decide)) ?_
  rintro v76 w15 ⟨hO76, uw15⟩
  have zw15 := uw15.size
  replace hW := hW.up uw15
  replace hC := hC.up uw15
  replace hB1 := hB1.up uw15
  replace hE10 := hE10.up uw15
  replace hE26 := hE26.up uw15
  replace hcx := hcx.up uw15
  replace hE70 := hE70.up uw15
  replace hB71 := hB71.up uw15
  replace hE71 := hE71.up uw15
  rw [ex_wa] at hO76
  obtain ⟨ad76, cp76, rfl, hE760⟩ := hO76.sl (fun _ => rfl)
  have hE76 : Els w15 ad76 1 eInt [5, 6] := hE760
  clear hO76 hE760
  refine LW.yes rfl rfl rfl rfl rfl rfl ?_
  refine LW.r (REv.buildSlice (xs := ([5, 6] : List Int)) (enc := eInt) (mk := vi) Tryz.underlying32 Tryz.sizeOf3 Tryz.zeroValue3 rfl (by decide) (fun _ => rfl) (fun _ => rfl) (.cons (.const _) (.cons (.const _) .nil)) rfl) rfl rfl rfl rfl ?_
  rintro _ w16 ⟨B77, cB77, rfl, NB77, yB77, xB77⟩
  have eB77 := NB77.at_
  have zB77 := NB77.size
  replace hW := hW.up NB77.up
  replace hC := hC.up NB77.up
  replace hB1 := hB1.up NB77.up
  replace hE10 := hE10.up NB77.up
  replace hE26 := hE26.up NB77.up
  replace hcx := hcx.up NB77.up
  replace hE70 := hE70.up NB77.up
  replace hB71 := hB71.up NB77.up
  replace hE71 := hE71.up NB77.up
  replace hE76 := hE76.up NB77.up
  have hB77 := NB77.blk
  have hE77 := xB77
  refine LW.yes rfl rfl rfl rfl rfl rfl ?_
  refine LW.c (enter_call0 (.cons (.tmp rfl) (.cons (.tmp rfl) .nil)) (Tryz.en25)) rfl rfl rfl rfl (sameInts_any _ _ [5, 6] [5, 6] _ (Sl.of_els hE76) (Sl.of_els hE77) (by decide) (by decide)) ?_
  rintro _ w17 ⟨rfl, uw17⟩
  have zw17 := uw17.size
  replace hW := hW.up uw17
  replace hC := hC.up uw17
  replace hB1 := hB1.up uw17
  replace hE10 := hE10.up uw17
  replace hE26 := hE26.up uw17
  replace hcx := hcx.up uw17
  replace hE70 := hE70.up uw17
  replace hB71 := hB71.up uw17
  replace hE71 := hE71.up uw17
  replace hE76 := hE76.up uw17
  replace hB77 := hB77.up uw17
  replace hE77 := hE77.up uw17
  rw [decide_eq_true rfl]
  refine LW.p (PEv.pick_and (.tmp rfl) (fun hp => (by first | exact .const _ | exact .tmp rfl | exact .cond rfl (by first | assumption | simp_all)))) rfl rfl rfl ?_
  refine LW.p (PEv.assign (.tmp rfl)) rfl rfl rfl (LW.nil (KW.then (CW.ret ?_)))
  refine KW.ret1 rfl rfl ⟨_, rfl, ?_⟩
  exact ⟨rfl, hW⟩
end Go.Proofs.YthfjagphcekcbaaGreat
end
section
namespace Go.Wx
theorem histL_len (ps ss : List Fact) (w : Int) : (histL ps ss w).length ≤ ps.length := by
  unfold histL
  split
  · exact ordG_len _ _
  · exact Nat.zero_le _
theorem sortI_len (ks : List Int) : (sortI ks).length = ks.length := List.length_mergeSort _
theorem wafersL_len (ls ps ss : List Fact) : (wafersL ls ps ss).length ≤ ls.length + ps.length := by
  unfold wafersL
  rw [sortI_len]
  exact Nat.le_trans (List.length_filter_le isIDb _) (Nat.le_trans (proK_len ss (lotK ls) ps) (Nat.add_le_add_right (lotK_len ls) _))
theorem OwnS.rebase {α : Type} {enc : α → Array Value} {b e k : Nat} {w : World} {v : Value} {xs : List α} (h : OwnS w 0 e k enc v xs) (hb : ∀ i, (aOwn e k enc v xs).foot i → b ≤ i) : OwnS w b e k enc v xs := by
  obtain ⟨h1, h2⟩ := h
  refine ⟨h1, ?_⟩
  rcases h2 with h2 | ⟨g, cap, cur, e, _, rest⟩
  · exact .inl h2
  · exact .inr ⟨g, cap, cur, e, hb g (by rw [e]; rfl), rest⟩
theorem memK_len2 (lots : List Fact) (lot t : Int) : (membersL lots lot t).length ≤ lots.length := by unfold membersL; rw [sortI_len]; exact memK_len _ _ _ _
end Go.Wx
namespace Go.Proofs.YthfjagphcekcbaaGreat
open Go.Wx Go.RowKit
theorem OfV_any (v : Go.Value) (l : List Fact) (d : Int) (w : World) (h : Sl w v 19 Fact.cells l) (hl : l.length ≤ 100000) : Ret Tryz.prog 13 #[v, vi d] w fun r w' => ∃ bc, r = .agg bc ∧ BaseC w' bc (ofB l d) ∧ Up w w' := by
  obtain ⟨ad, cp, rfl, hE⟩ := h
  exact Of_any ad cp l d w hE hl
theorem sameFacts_v (v1 v2 : Go.Value) (l m : List Fact) (w : World) (h1 : Sl w v1 19 Fact.cells l) (h2 : Sl w v2 19 Fact.cells m) (hl : l.length ≤ 100000) : Ret Tryz.prog 22 #[v1, v2] w fun r w' => r = .bool (eqFs l m) ∧ Up w w' := by
  obtain ⟨ad, cp, rfl, hE⟩ := h1
  obtain ⟨ad', cp', rfl, hE'⟩ := h2
  exact sameFacts_any ad ad' cp cp' l m w hE hE' hl
end Go.Proofs.YthfjagphcekcbaaGreat
end
section
namespace Go.Wx
open Go.RowKit
def hLateOK (ops : Array Oper) : List Nat → List Nat → Bool
  | _, [] => true
  | acc, j :: r => (match ops[j]? with | some o => o.after.any fun e => Region.binds .any e && acc.contains e.on | none => false) && hLateOK ops (j :: acc) r
def hEarlyOK (ops : Array Oper) : List Nat → List Nat → Bool
  | _, [] => true
  | acc, j :: r => (acc.any fun i => match ops[i]? with | some o => o.after.any fun e => Region.binds .any e && Nat.beq e.on j | none => false) && hEarlyOK ops (j :: acc) r
def usesOK (ops : Array Oper) (k h : Nat) (early : List Nat) : Bool := (List.range k).all fun i => Nat.beq i h || early.contains i || (match ops[i]? with | some o => o.after.all fun e => !(Region.binds .any e && early.contains e.on) | none => true)
def keptL (K : World → World → Prop) (skip : List Nat) : Nat → List Ph → Prop
  | _, [] => True
  | i, q :: r => (skip.contains i = true ∨ ∀ v W W', q.holds v W → K W W' → q.holds v W') ∧ keptL K skip (i + 1) r
theorem keptL.at {K : World → World → Prop} {skip : List Nat} : ∀ {l : List Ph} {s : Nat}, keptL K skip s l → ∀ i, skip.contains (s + i) = false → ∀ v W W', (l.getD i (.eq undef)).holds v W → K W W' → (l.getD i (.eq undef)).holds v W'
  | [], _, _, i, _, v, W, W', h, _ => by
    have e : ([] : List Ph).getD i (.eq undef) = .eq undef := by simp
    rw [e] at h ⊢
    exact h
  | q :: r, s, hk, 0, hs, v, W, W', h, k => by
    rcases hk.1 with e | e
    · rw [show s + 0 = s from rfl] at hs; rw [hs] at e; cases e
    · simpa using e v W W' (by simpa using h) k
  | q :: r, s, hk, i + 1, hs, v, W, W', h, k => by
    simpa using hk.2.at i (by rw [show s + 1 + i = s + (i + 1) by omega]; exact hs) v W W' (by simpa using h) k
theorem late_of {ops : Array Oper} {L : Nat → Bool} {h : Nat} (hDn : DnL ops L) : ∀ {late acc : List Nat}, hLateOK ops acc late = true → (∀ i ∈ acc, L i = true → L h = true) → ∀ j ∈ late, L j = true → L h = true
  | [], _, _, _, j, hj, _ => by cases hj
  | i :: r, acc, hl, ha, j, hj, hL => by
    unfold hLateOK at hl
    rw [Bool.and_eq_true] at hl
    have hi : L i = true → L h = true := fun h1 => by
      cases ho : ops[i]? with
      | none => rw [ho] at hl; cases hl.1
      | some o =>
        rw [ho] at hl
        obtain ⟨e, he, hb⟩ := Array.any_eq_true'.1 hl.1
        rw [Bool.and_eq_true] at hb
        exact ha e.on (by simpa using hb.2) (hDn i o ho h1 e he hb.1)
    rcases List.mem_cons.1 hj with rfl | hj
    · exact hi hL
    · exact late_of hDn hl.2 (fun m hm h2 => (List.mem_cons.1 hm).elim (fun e => hi (e ▸ h2)) (fun hm => ha m hm h2)) j hj hL
theorem early_of {ops : Array Oper} {L : Nat → Bool} (hDn : DnL ops L) : ∀ {early acc : List Nat}, hEarlyOK ops acc early = true → (∀ i ∈ acc, L i = true) → ∀ j ∈ early, L j = true
  | [], _, _, _, j, hj => by cases hj
  | i :: r, acc, hl, ha, j, hj => by
    unfold hEarlyOK at hl
    rw [Bool.and_eq_true] at hl
    have hi : L i = true := by
      obtain ⟨m, hm, h1⟩ := List.any_eq_true.1 hl.1
      cases ho : ops[m]? with
      | none => rw [ho] at h1; cases h1
      | some o =>
        rw [ho] at h1
        obtain ⟨e, he, hb⟩ := Array.any_eq_true'.1 h1
        rw [Bool.and_eq_true] at hb
        rw [← Nat.eq_of_beq_eq_true hb.2]
        exact hDn m o ho (ha m hm) e he hb.1
    rcases List.mem_cons.1 hj with rfl | hj
    · exact hi
    · exact early_of hDn hl.2 (fun m hm => (List.mem_cons.1 hm).elim (fun e => e ▸ hi) (fun hm => ha m hm)) j hj
section
variable {R : Option Nat} {m : Nat} {P : Program} {n : Nat} {ds : List Deferred} {Q : Exit → Go.Act → World → Prop} {l : Env} {w : World}
theorem CW.freeH {id : Nat} {opsL : List Oper} (k h : Nat) (early late : List Nat) (phs : List Ph) (keep : List Nat) (K : World → World → Prop) (hm : P.follows .mixedOrders = true) (hl : noPred l = true)
    (hA : aheadOK opsL.toArray = true) (hC : (Nat.beq k opsL.toArray.size || closOK opsL.toArray k) = true) (hF : farOK opsL.toArray k = true) (hks : Nat.ble k opsL.toArray.size = true) (hD : dstOK' n opsL.toArray 0 k = true) (hTl : tailOK opsL.toArray k = true)
    (hfree : freeOK l (opsL.take k) = true) (hla : hLateOK opsL.toArray [h] late = true) (hea : hEarlyOK opsL.toArray [h] early = true) (hus : usesOK opsL.toArray k h early = true) (hph : allU phs) (hkp : keptL K (h :: (early ++ late)) 0 phs)
    (hop : ∀ W, Up w.drew W → allL (fun i o => o.guard = none ∧ (i ≠ h → TU P n ds (knp opsL.toArray (fun i => phs.getD i (.eq undef)) 0 o ++ l) W o (phs.getD i (.eq undef))) ∧
      (i = h → ∀ a, Ag n ds (knp opsL.toArray (fun i => phs.getD i (.eq undef)) 0 o ++ l) a W → OpY P o a W (fun v W' => (Up w.drew W' ∧ K W W') ∧ (phs.getD i (.eq undef)).holds v W'))) 0 (opsL.take k))
    (hend : ∀ W (g : Nat → Value), Up w.drew W → (∀ i o d, i < k → early.contains i = false → opsL[i]? = some o → o.dst = some d → (phs.getD i (.eq undef)).holds (g d) W) → LW R m P n ds opsL.toArray Q (opsL.drop k) (keep.map (fun d => (d, .eq (g d))) ++ l) W) :
    CW R m P n ds (.region id opsL.toArray true) Q l w := by
  have hks' : k ≤ opsL.length := by have := Nat.le_of_ble_eq_true hks; simp at this; omega
  have sub : ∀ j o, j < k → opsL.toArray[j]? = some o → (opsL.take k)[j]? = some o := fun j o hjk ho => by
    rw [List.getElem?_take_of_lt hjk]; simpa using ho
  have hbd : ∀ i ph, lk l i = some ph → ∀ (j : Nat) (o : Oper), 0 ≤ j → j < k → opsL.toArray[j]? = some o → o.dst ≠ some i := fun i ph hi j o _ hjk ho => freeOK_at hfree hi (List.mem_of_getElem? (sub j o hjk ho))
  refine CW.draws_up hm hl fun fuel listed a hf hu ha => ?_
  refine AWF.gen (k := k) (fun _ => .pred fun _ _ => True) (fun _ _ => True) (fun L f W => Up w.drew W ∧ ∀ (j : Nat) (o : Oper) (d : Nat), j < k → L j = true → opsL.toArray[j]? = some o → o.dst = some d → (early.contains j = true → L h = false) → (phs.getD j (.eq undef)).holds (f d) W) (f0 := fun t => a.tmps.getD t undef) (fun _ => trivial) (fun _ _ _ _ _ => trivial) (fun _ _ _ _ _ _ => trivial) hA hC hF hks (by simp) hD hl hbd ?_ ⟨Up.refl _, fun j o d _ hj => by simp at hj⟩ ?_ fuel listed a hf hu ha (fun _ => rfl)
  · intro i o _ hi hio L f W _ hDn hLi hed hInv a ha hsl
    obtain ⟨hU, hI⟩ := hInv
    have ha2 : Ag n ds (knp opsL.toArray (fun i => phs.getD i (.eq undef)) 0 o ++ l) a W := by
      refine ⟨ha.defers, ha.size, fun t q ht => ?_⟩
      rcases lk_append ht with h1 | h1
      · obtain ⟨e, he, hb, _, p, hp, hpd, rfl⟩ := knp_at h1
        rw [hsl]
        refine hI e.on p t (by have := aheadOK_at hA hio e he hb; omega) (hed e he hb) hp hpd (fun hE => ?_)
        by_cases ih : i = h
        · rw [← ih]; exact hLi
        · have h2 := List.all_eq_true.1 hus i (List.mem_range.2 hi)
          rw [Bool.or_eq_true, Bool.or_eq_true] at h2
          rcases h2 with (h2 | h2) | h2
          · exact absurd (Nat.eq_of_beq_eq_true h2) ih
          · cases hLh : L h with
            | false => rfl
            | true =>
              have := early_of hDn hea (fun m hm => by rw [List.mem_singleton.1 hm]; exact hLh) i (by simpa using h2)
              rw [hLi] at this; cases this
          · rw [hio] at h2
            have h3 := Array.all_eq_true_iff_forall_mem.1 h2 e he
            rw [hb, hE] at h3
            cases h3
      · refine ha.val t q ?_
        rw [lk_right]
        · exact h1
        · cases hq : lk (knp opsL.toArray (fun _ => Ph.pred fun _ _ => True) 0 o) t with
          | none => rfl
          | some q' =>
            obtain ⟨e, he, hb, _, p, hp, hpd, _⟩ := knp_at hq
            exact absurd hpd (hbd t q h1 e.on p (Nat.zero_le _) (by have := aheadOK_at hA hio e he hb; omega) hp)
    have h3 := (hop W hU).at (sub i o hi hio)
    rw [Nat.zero_add] at h3
    obtain ⟨hg, h3, h4⟩ := h3
    rw [if_pos (by simp [Region.wanted, hg])]
    by_cases ih : i = h
    · have done : ∀ v W', (Up w.drew W' ∧ K W W') ∧ (phs.getD i (.eq undef)).holds v W' → True ∧ (∀ d, o.dst = some d → (Ph.pred fun _ _ => True).holds v W') ∧ Up w.drew W' ∧ ∀ (j : Nat) (o' : Oper) (d : Nat), j < k → setL L i j = true → opsL.toArray[j]? = some o' → o'.dst = some d → (early.contains j = true → setL L i h = false) → (phs.getD j (.eq undef)).holds (setS f o.dst v d) W' := by
        rintro v W' ⟨⟨hu, hk⟩, hv⟩
        refine ⟨trivial, fun _ _ => trivial, hu, fun j o' d hj hLj hj' hd hE => ?_⟩
        by_cases e : j = i
        · subst e
          rw [hio] at hj'; cases hj'
          simpa [setS, hd] using hv
        · have h5 : L j = true := by simpa [setL, e] using hLj
          have h6 : setS f o.dst v d = f d := by
            have := (dstOK'_at hD (Nat.zero_le _) hj hj' hd).2 i o (Nat.zero_le _) hi (Ne.symm e) hio
            simp [setS, this]
          rw [h6]
          have h7 : early.contains j = false := by
            cases hc : early.contains j with
            | false => rfl
            | true => have := hE hc; simp [setL, ih] at this
          have h8 : late.contains j = false := by
            cases hc : late.contains j with
            | false => rfl
            | true =>
              have := late_of (h := h) hDn hla (fun m hm h2 => (List.mem_singleton.1 hm) ▸ h2) j (by simpa using hc) h5
              rw [← ih, hLi] at this; cases this
          refine hkp.at j ?_ _ W W' (hI j o' d hj h5 hj' hd (fun hc => by rw [h7] at hc; cases hc)) hk
          rw [Nat.zero_add, Bool.eq_false_iff]
          intro hc
          rw [List.contains_iff_mem, List.mem_cons, List.mem_append] at hc
          rcases hc with hc | hc | hc
          · exact e (hc.trans ih.symm)
          · rw [← List.contains_iff_mem, h7] at hc; cases hc
          · rw [← List.contains_iff_mem, h8] at hc; cases hc
      rcases h4 ih a ha2 with ⟨v, W', hr, hp⟩ | ⟨fn, args, w1, hr, hc⟩
      · exact .inl (.inl ⟨v, W', hr, done v W' hp⟩)
      · exact .inl (.inr ⟨fn, args, w1, hr, hc.mono done⟩)
    · have done : ∀ v W', Up W W' ∧ (phs.getD i (.eq undef)).holds v W' → True ∧ (∀ d, o.dst = some d → (Ph.pred fun _ _ => True).holds v W') ∧ Up w.drew W' ∧ ∀ (j : Nat) (o' : Oper) (d : Nat), j < k → setL L i j = true → opsL.toArray[j]? = some o' → o'.dst = some d → (early.contains j = true → setL L i h = false) → (phs.getD j (.eq undef)).holds (setS f o.dst v d) W' := by
        rintro v W' ⟨hu, hv⟩
        refine ⟨trivial, fun _ _ => trivial, hU.trans hu, fun j o' d hj hLj hj' hd hE => ?_⟩
        by_cases e : j = i
        · subst e
          rw [hio] at hj'; cases hj'
          simpa [setS, hd] using hv
        · have h5 : L j = true := by simpa [setL, e] using hLj
          have h6 : setS f o.dst v d = f d := by
            have := (dstOK'_at hD (Nat.zero_le _) hj hj' hd).2 i o (Nat.zero_le _) hi (Ne.symm e) hio
            simp [setS, this]
          rw [h6]
          exact hph.at j _ W W' (hI j o' d hj h5 hj' hd (fun hc => by have := hE hc; simpa [setL, Ne.symm ih] using this)) hu
      rcases h3 ih a ha2 with ⟨v, W', hr, hp⟩ | ⟨fn, args, w1, hr, hc⟩
      · exact .inl (.inl ⟨v, W', hr, done v W' hp⟩)
      · exact .inl (.inr ⟨fn, args, w1, hr, hc.mono done⟩)
  · intro f W _ hInv fuel' listed' a' hf' hu' ha' hsl'
    obtain ⟨hUp, hI⟩ := hInv
    have key : ∀ i o d, i < k → early.contains i = false → opsL[i]? = some o → o.dst = some d → (phs.getD i (.eq undef)).holds (f d) W := fun i o d hik hE ho hd => hI i o d hik (by simpa using hik) (by simpa using ho) hd (fun hc => by rw [hE] at hc; cases hc)
    refine tail_order hTl hA (opsL.toArray.size - k) k fuel' listed' a' W rfl (by simp; omega) (Nat.le_refl _) hf' hu' ?_
    refine hend W f hUp key a' ⟨ha'.defers, ha'.size, fun t q ht => ?_⟩
    rcases lk_append ht with h | h
    · obtain ⟨d, _, he⟩ := List.mem_map.1 (lk_mem h)
      cases he
      exact hsl' _
    · refine ha'.val t q ?_
      rw [lk_right]
      · exact h
      · cases hq : lk (allP opsL.toArray (fun _ => Ph.pred fun _ _ => True) 0 k) t with
        | none => rfl
        | some q' =>
          obtain ⟨j, p, _, hjk, hp, hpd, _⟩ := allP_at hq
          exact absurd hpd (hbd t q h j p (Nat.zero_le _) hjk hp)
theorem Ag.learn {t : Nat} {v : Value} {a : Go.Act} {env : Env} (ha : Ag n ds env a w) (hv : a.tmps.getD t undef = v) : Ag n ds ((t, .eq v) :: env) a w := ⟨ha.defers, ha.size, fun s q hs => by
  by_cases e : s = t
  · subst e; rw [lk_cons_eq] at hs; cases hs; exact hv
  · rw [lk_cons_ne e] at hs; exact ha.val s q hs⟩
end
end Go.Wx
end
section
namespace Go.Wx
theorem quo7 {o : Int} (h : inI o) : inI (o.tdiv 7) ∧ Go.Value.int .i64 (IntKind.i64.wrap (o.tdiv 7)) = vi (o.tdiv 7) := by
  have e : (o.tdiv 7).natAbs = o.natAbs / 7 := Int.natAbs_tdiv o 7
  obtain ⟨h1, h2⟩ := h
  have b : inI (o.tdiv 7) := ⟨by omega, by omega⟩
  exact ⟨b, by rw [wrap_i64_in b.1 b.2]⟩
theorem half_val {n : Nat} (h : n ≤ 30) : Go.Value.int .i64 (IntKind.i64.wrap ((n : Int).tdiv 2)) = vi ((n / 2 : Nat) : Int) := by
  rw [show ((n : Int).tdiv 2) = ((n / 2 : Nat) : Int) from rfl, wrap_i64_in (by omega) (by omega)]
theorem half_len {α : Type} (l : List α) : ((l.take (l.length / 2)).length : Nat) = l.length / 2 := by rw [List.length_take]; omega
def dblL (l : List Fact) : List Fact := l ++ l.take (l.length / 2)
theorem dblL_mem (l : List Fact) (z : Fact) : z ∈ dblL l ↔ z ∈ l := by
  unfold dblL
  rw [List.mem_append]
  exact ⟨fun h => h.elim id List.mem_of_mem_take, .inl⟩
theorem dblL_len {l : List Fact} (h : l.length ≤ 30) : (dblL l).length ≤ 45 := by unfold dblL; rw [List.length_append, half_len]; omega
theorem own_take {w : World} {b e c n : Nat} {ad : Option Addr} {l : List Fact} {u : Nat} (h : OwnS w b e 19 Fact.cells (.slice ad u c) l) (hn : n ≤ l.length) : Sl w (.slice ad n c) 19 Fact.cells (l.take n) := by
  have hE := h.elB (fun _ => rfl)
  refine ⟨ad, c, by rw [List.length_take, Nat.min_eq_left hn], fun i x hx => hE i x ?_⟩
  rw [List.getElem?_take] at hx
  split at hx
  · exact hx
  · cases hx
theorem swap_mem {α : Type} {M : List α} {a b : Nat} {x y : α} (hx : M[a]? = some x) (hy : M[b]? = some y) (z : α) : z ∈ (M.set a y).set b x ↔ z ∈ M := by
  have la := (List.getElem?_eq_some_iff.1 hx).1
  have lb := (List.getElem?_eq_some_iff.1 hy).1
  rw [List.mem_iff_getElem?, List.mem_iff_getElem?]
  constructor
  · rintro ⟨i, hi⟩
    rw [List.getElem?_set, List.getElem?_set] at hi
    split at hi
    · rw [List.length_set, if_pos lb] at hi
      cases hi
      exact ⟨a, hx⟩
    · split at hi
      · first | (rw [if_pos la] at hi; cases hi) | cases hi
        exact ⟨b, hy⟩
      · exact ⟨i, hi⟩
  · rintro ⟨i, hi⟩
    by_cases e1 : i = a
    · subst e1
      rw [hx] at hi
      cases hi
      exact ⟨b, by rw [List.getElem?_set, if_pos rfl, List.length_set, if_pos lb]⟩
    · by_cases e2 : i = b
      · subst e2
        rw [hy] at hi
        cases hi
        exact ⟨a, by rw [List.getElem?_set, if_neg (fun e => e1 e), List.getElem?_set, if_pos rfl, if_pos la]⟩
      · exact ⟨i, by rw [List.getElem?_set, if_neg (fun e => e2 e.symm), List.getElem?_set, if_neg (fun e => e1 e.symm)]; exact hi⟩
end Go.Wx
namespace Go.Proofs.YthfjagphcekcbaaGreat
open Go.Wx Go.RowKit
set_option maxHeartbeats 4000000 in
theorem GenealogyOrder_any (ad ad' : Option Addr) (cp cp' : Nat) (xs : List I6) (os : List Int) (day wafer : Int) (w : World) (hE1 : Els w ad 6 I6.cells xs) (hE2 : Els w ad' 1 eInt os) (ho : ∀ o ∈ os, inI o) (hday : inI day) : Ret Tryz.prog 10 #[.slice ad xs.length cp, vi day, .slice ad' os.length cp', vi wafer] w fun r w' => r = .bool true ∧ Up w w' := by
  obtain ⟨w0, rfl⟩ : ∃ w0, w0 = w := ⟨_, rfl⟩
  have hS := Sep.start no w0
  refine Calls_start (n := 108) (m := 9) Tryz.func10 rfl rfl rfl ?_
  refine CW.seq (CW.region (LW.p (PEv.assign (.const _)) rfl rfl rfl (LW.nil (KW.then (CW.seq (CW.region ?_))))))
  refine LW.c (enter_call0 .nil (Tryz.en11)) rfl rfl rfl rfl (sane_any _) ?_
  rintro _ w1 ⟨rfl, uw1⟩
  have zw1 := uw1.size
  replace hS := hS.up uw1
  refine LW.p (PEv.assign (.tmp rfl)) rfl rfl rfl (LW.nil (KW.then (CW.seq (CW.region (LW.p (PEv.move (.tmp rfl)) rfl rfl rfl ?_)))))
  refine LW.c (enter_call0 (.cons (.tmp rfl) .nil) (Tryz.en14)) rfl rfl rfl rfl (Some_any ad cp xs _ (Els.up hE1 hS.upd)) ?_
  rintro v19 w2 ⟨hO19, uw2⟩
  have zw2 := uw2.size
  replace hS := hS.add uw2 (A' := aOwn 46 19 Fact.cells v19 (someL xs)) (hO19.mono (Nat.zero_le _)) (fun i h => hO19.base i h)
  change Wx.Sep _ _ _ [_] at hS
  clear hO19
  obtain ⟨ad19, cp19, rfl, _⟩ := (hS.own 0 rfl).sl (fun _ => rfl)
  have hl19 := someL_len xs
  refine LW.p (PEv.assign (.tmp rfl)) rfl rfl rfl (LW.nil (KW.then (CW.seq ?_)))
  refine CW.freeH 9 8 [2, 7, 0] [] [.pred fun v W => ∃ B, v = .slice (some ⟨B, 0, none⟩) 0 0 ∧ OwnS W w2.drew.heap.size 46 19 Fact.cells (.slice (some ⟨B, 0, none⟩) 0 0) ([] : List Fact), .eq (.slice ad19 (someL xs).length cp19), .pred fun v W => OwnS W w2.drew.heap.size 46 19 Fact.cells v ((someL xs)), .eq (.slice ad19 (someL xs).length cp19), .eq (.slice ad19 (someL xs).length cp19), .eq (vi ((someL xs).length : Int)), .eq (vi (((someL xs).length / 2 : Nat) : Int)), .pred fun v W => Sl W v 19 Fact.cells ((someL xs).take ((someL xs).length / 2)), .pred fun v W => OwnS W w2.drew.heap.size 46 19 Fact.cells v (dblL (someL xs))] [28] (fun _ _ => True) (by kernel_rfl) rfl (by kernel_rfl) (by kernel_rfl) (by kernel_rfl) (by kernel_rfl) (by kernel_rfl) (by kernel_rfl) (by kernel_rfl) (by kernel_rfl) (by kernel_rfl) (by kernel_rfl) ⟨PhU.pred fun _ _ _ h u => let ⟨B, e, ho⟩ := h; ⟨B, e, ho.up u⟩, PhU.eq _, PhU.pred fun _ _ _ h u => OwnS.up h u, PhU.eq _, PhU.eq _, PhU.eq _, PhU.eq _, PhU.pred fun _ _ _ h u => Sl.up h u, PhU.pred fun _ _ _ h u => OwnS.up h u, trivial⟩ ⟨.inl rfl, .inr (fun _ _ _ h _ => h), .inl rfl, .inr (fun _ _ _ h _ => h), .inr (fun _ _ _ h _ => h), .inr (fun _ _ _ h _ => h), .inr (fun _ _ _ h _ => h), .inl rfl, .inl rfl, trivial⟩ ?_ ?_
  ·intro W hU0
   have hU := (Up.drew w2).trans hU0
   have hSW := hS.up hU
   have zU0 := hU0.size
   refine allL.cons ⟨rfl, fun _ => TU.r (REv.buildSlice (xs := ([] : List Fact)) (enc := Fact.cells) (mk := fun f : Fact => .agg f.cells) Tryz.underlying22 Tryz.sizeOf46 Tryz.zeroValue46 rfl (Nat.le_of_ble_eq_true rfl) (fun _ => rfl) (fun _ => rfl) .nil rfl) (fun v W' h => let ⟨u, B, e, ho⟩ := NewSl.own0 (base := w2.drew.heap.size) h zU0; ⟨u, B, e, ho⟩), fun h => absurd h (by decide)⟩ ?_
   refine allL.cons ⟨rfl, fun _ => TU.p (PEv.move (.tmp rfl)) rfl, fun h => absurd h (by decide)⟩ ?_
   refine allL.cons ⟨rfl, fun _ => TU.open (d := 20) rfl fun v hv => by obtain ⟨B, rfl, ho⟩ := hv; exact TU.r (REv.append0 (enc := Fact.cells) (k := 19) (bytes := 160) (i := Tryz.t46) Tryz.underlying22 (by kernel_rfl) rfl rfl rfl rfl (by decide) (fun _ => rfl) (.tmp rfl) (.tmp rfl) ho (by have := (hSW.own 0 rfl).sl (fun _ => rfl); simpa using this) (by unfold maxLen; omega) (by omega) zU0) (fun _ _ h => h), fun h => absurd h (by decide)⟩ ?_
   refine allL.cons ⟨rfl, fun _ => TU.p (PEv.move (.tmp rfl)) rfl, fun h => absurd h (by decide)⟩ ?_
   refine allL.cons ⟨rfl, fun _ => TU.p (PEv.move (.tmp rfl)) rfl, fun h => absurd h (by decide)⟩ ?_
   refine allL.cons ⟨rfl, fun _ => TU.p (PEv.lenS Tryz.underlying22 (.tmp rfl)) rfl, fun h => absurd h (by decide)⟩ ?_
   refine allL.cons ⟨rfl, fun _ => TU.p (PEv.val (PEv.quo (.tmp rfl) (.const _) (by decide)) (half_val hl19)) rfl, fun h => absurd h (by decide)⟩ ?_
   refine allL.cons ⟨rfl, fun _ => TU.p (PEv.sliceHi Tryz.underlying22 Tryz.sizeOf46 (.tmp rfl) (.tmp rfl) (by have := own_cap (hSW.own 0 rfl); omega)) (own_take (hSW.own 0 rfl) (by omega)), fun h => absurd h (by decide)⟩ ?_
   refine allL.cons ⟨rfl, fun h => absurd rfl h, fun _ a ha => ?_⟩ ?_
   ·skip
    have h22 := ha.known (p := fun v W => OwnS W w2.drew.heap.size 46 19 Fact.cells v (someL xs)) (t := 22) rfl
    have h27 := ha.known (p := fun v W => Sl W v 19 Fact.cells ((someL xs).take ((someL xs).length / 2))) (t := 27) rfl
    have hhl := half_len (someL xs)
    obtain ⟨v, W', hr, hG⟩ := REv.appendF (enc := Fact.cells) (bytes := 160) (i := Tryz.t46) Tryz.underlying22 (by kernel_rfl) rfl rfl rfl rfl (by decide) (fun _ => rfl) Fact.one (.tmp (t := 22) rfl) (.tmp (t := 27) rfl) (h22.mono (Nat.zero_le _)) h27 (by rw [hhl]; unfold maxLen; omega) (by rw [hhl]; omega) a ((ha.learn (t := 22) rfl).learn (t := 27) rfl)
    exact .inl ⟨v, W', hr, ⟨hU0.frz hG.fr (fun b hb => h22.base b hb), trivial⟩, OwnS.rebase hG.holds fun i hi => (hG.sub i hi).elim (fun h => h22.base i h) (fun h => Nat.le_trans zU0 h)⟩
   exact allL.nil
  ·intro w3 g hU0 hg
   have hU := (Up.drew w2).trans hU0
   have zw3 := hU.size
   have hO28 : OwnS w3 w2.drew.heap.size 46 19 Fact.cells (g 28) (dblL (someL xs)) := hg 8 _ 28 (by decide) rfl rfl rfl
   obtain ⟨v28, e28⟩ : ∃ v, v = g 28 := ⟨_, rfl⟩
   change LW _ _ _ _ _ _ _ _ ((28, .eq (g 28)) :: _) _
   rw [← e28] at hO28 ⊢
   clear hg e28
   replace hS := hS.add hU (A' := aOwn 46 19 Fact.cells v28 (dblL (someL xs))) (hO28.mono (Nat.zero_le _)) (fun i h => hO28.base i h)
   change Wx.Sep _ _ _ [_, _] at hS
   clear hO28
   refine LW.p (PEv.assign (.tmp rfl)) rfl rfl rfl (LW.nil (KW.then (CW.seq (CW.seq (CW.region (LW.p (PEv.assign (.const _)) rfl rfl rfl (LW.nil (KW.then (CW.block ?_)))))))))
   refine CW.loopB (σ := Nat × Go.Value × List Fact) (fun s w => (s.1 ≤ 60) ∧ (∀ z, z ∈ s.2.2 ↔ z ∈ someL xs) ∧ (s.2.2.length ≤ 45) ∧ (Wx.Sep no w0 w [aOwn 46 19 Fact.cells (.slice ad19 (someL xs).length cp19) ((someL xs)), aOwn 46 19 Fact.cells s.2.1 (s.2.2)])) (fun s => [(12, .eq (vi (s.1 : Int))), (11, .eq (s.2.1))]) ([(1, .eq _), (2, .eq _), (3, .eq _), (8, .eq _), (9, .eq _), (10, .eq _)]) (fun s => 60 - s.1) (0, v28, dblL (someL xs)) ?_ ⟨rfl, rfl, rfl, rfl, rfl, rfl, rfl, rfl, trivial⟩ ?_
   ·exact ⟨Nat.zero_le _, dblL_mem _, dblL_len hl19, hS⟩
   ·rintro ⟨i, v, M⟩ w4 ⟨hi, hM, hl, hS⟩
    dsimp only at hi hM hl hS
    change CW _ _ _ _ _ _ _ ([(12, .eq (vi (i : Int))), (11, .eq (v))] ++ _) _
    refine CW.seq (CW.seq ?_)
    obtain ⟨adv, cpv, rfl, _⟩ := (hS.own 1 rfl).sl (fun _ => rfl)
    refine CW.region (LW.p (PEv.move (.tmp rfl)) rfl rfl rfl (LW.p (PEv.move (.tmp rfl)) rfl rfl rfl ?_))
    refine LW.p (PEv.lenS Tryz.underlying32 (.tmp rfl)) rfl rfl rfl ?_
    refine LW.p (PEv.lss (.tmp rfl) (.tmp rfl)) rfl rfl rfl ?_
    refine LW.p (PEv.move (.tmp rfl)) rfl rfl rfl ?_
    refine LW.g rfl rfl rfl rfl rfl rfl rfl (fun hc => PEv.move (.tmp rfl)) ?_
    refine LW.g rfl rfl rfl rfl rfl rfl rfl (fun hc => PEv.lss (by first | exact .tmp rfl | exact .cond rfl (by first | assumption | simp_all)) (.const _)) ?_
    refine LW.p (PEv.pick_and (.tmp rfl) (fun hp => (by first | exact .const _ | exact .tmp rfl | exact .cond rfl (by first | assumption | simp_all)))) rfl rfl rfl ?_
    refine LW.p (PEv.move (.tmp rfl)) rfl rfl rfl ?_
    refine LW.g rfl rfl rfl rfl rfl rfl rfl (fun hc => PEv.move (.tmp rfl)) ?_
    refine LW.g rfl rfl rfl rfl rfl rfl rfl (fun hc => PEv.lenS Tryz.underlying22 (by first | exact .tmp rfl | exact .cond rfl (by first | assumption | simp_all))) ?_
    refine LW.g rfl rfl rfl rfl rfl rfl rfl (fun hc => PEv.gtr (by first | exact .tmp rfl | exact .cond rfl (by first | assumption | simp_all)) (.const _)) ?_
    refine LW.p (PEv.pick_and (.tmp rfl) (fun hp => (by first | exact .const _ | exact .tmp rfl | exact .cond rfl (by first | assumption | simp_all)))) rfl rfl rfl ?_
    refine LW.nil (KW.then ?_)
    refine CW.cond (.tmp rfl) (fun h41 => ?_) (fun h41 => ?_)
    ·first | replace h41 := of_decide_eq_true h41 | replace h41 := of_decide_eq_false h41 | skip
     have hc : i < os.length ∧ i < 60 ∧ 0 < M.length := by simp at h41; omega
     refine CW.skip (KW.then (CW.seq (CW.block (CW.seq ?_))))
     obtain ⟨o, hoi⟩ := getElem?_of_lt (xs := os) (i := i) (by omega)
     have hio := ho o (List.mem_of_getElem? hoi)
     obtain ⟨Bo, oo, ao, hco⟩ := hE2 i o hoi
     obtain ⟨g, rfl⟩ := (hS.own 1 rfl).adr hc.2.2
     refine CW.region (LW.p (PEv.move (.tmp rfl)) rfl rfl rfl (LW.p (PEv.move (.tmp rfl)) rfl rfl rfl ?_))
     refine LW.p (PEv.indexAddr' Tryz.underlying32 Tryz.sizeOf3 (.tmp rfl) (.tmp rfl) (by omega) ao) rfl rfl rfl ?_
     refine LW.p (PEv.load Tryz.isAgg3 (.tmp rfl) ((hco.up hS.upd).nth (j := 0) rfl)) rfl rfl rfl ?_
     refine LW.p (PEv.move (.tmp rfl)) rfl rfl rfl ?_
     refine LW.p (PEv.lenS Tryz.underlying22 (.tmp rfl)) rfl rfl rfl ?_
     refine LW.c (enter_call0 (.cons (.tmp rfl) (.cons (.tmp rfl) .nil)) (Tryz.en15)) rfl rfl rfl rfl (pick_any _ _ _ (by omega)) ?_
     rintro _ w5 ⟨rfl, uw5⟩
     have zw5 := uw5.size
     replace hS := hS.up uw5
     have hp := pick_range (c := o) (n := (M.length : Int)) hio (by omega)
     obtain ⟨p, ep⟩ : ∃ p : Nat, pickI (o) (M.length : Int) = (p : Int) := ⟨(pickI (o) (M.length : Int)).toNat, by omega⟩
     rw [ep] at hp ⊢
     refine LW.p (PEv.assign (.tmp rfl)) rfl rfl rfl (LW.nil (KW.then (CW.seq (CW.region (LW.p (PEv.move (.tmp rfl)) rfl rfl rfl (LW.p (PEv.move (.tmp rfl)) rfl rfl rfl ?_))))))
     refine LW.p (PEv.indexAddr' Tryz.underlying32 Tryz.sizeOf3 (.tmp rfl) (.tmp rfl) (by omega) ao) rfl rfl rfl ?_
     refine LW.p (PEv.load Tryz.isAgg3 (.tmp rfl) ((hco.up hS.upd).nth (j := 0) rfl)) rfl rfl rfl ?_
     refine LW.p (PEv.val (v' := vi (o.tdiv 7)) (PEv.quo (.tmp rfl) (.const _) (by decide)) (quo7 hio).2) rfl rfl rfl ?_
     refine LW.p (PEv.move (.tmp rfl)) rfl rfl rfl ?_
     refine LW.p (PEv.lenS Tryz.underlying22 (.tmp rfl)) rfl rfl rfl ?_
     refine LW.c (enter_call0 (.cons (.tmp rfl) (.cons (.tmp rfl) .nil)) (Tryz.en15)) rfl rfl rfl rfl (pick_any _ _ _ (by omega)) ?_
     rintro _ w6 ⟨rfl, uw6⟩
     have zw6 := uw6.size
     replace hS := hS.up uw6
     have hq := pick_range (c := o.tdiv 7) (n := (M.length : Int)) (quo7 hio).1 (by omega)
     obtain ⟨q, eq⟩ : ∃ q : Nat, pickI (o.tdiv 7) (M.length : Int) = (q : Int) := ⟨(pickI (o.tdiv 7) (M.length : Int)).toNat, by omega⟩
     rw [eq] at hq ⊢
     refine LW.p (PEv.assign (.tmp rfl)) rfl rfl rfl (LW.nil (KW.then ?_))
     obtain ⟨x, hx⟩ := getElem?_of_lt (xs := M) (i := p) (by omega)
     obtain ⟨y, hy⟩ := getElem?_of_lt (xs := M) (i := q) (by omega)
     refine CW.stores2 13 15 [.slice (some ⟨g, 0, none⟩) M.length cpv, vi ((p : Nat) : Int), .slice (some ⟨g, 0, none⟩) M.length cpv, vi ((q : Nat) : Int), .slice (some ⟨g, 0, none⟩) M.length cpv, vi ((q : Nat) : Int), .pointer (some ⟨g, 0 + (q) * 19, none⟩), .agg (Fact.cells y), .slice (some ⟨g, 0, none⟩) M.length cpv, vi ((p : Nat) : Int), .pointer (some ⟨g, 0 + (p) * 19, none⟩), .agg (Fact.cells x), .pointer (some ⟨g, 0 + (p) * 19, none⟩), undef, .pointer (some ⟨g, 0 + (q) * 19, none⟩), undef] (fun W => Wx.Sep no w0 W [aOwn 46 19 Fact.cells (.slice ad19 (someL xs).length cp19) ((someL xs)), aOwn 46 19 Fact.cells (.slice (some ⟨g, 0, none⟩) M.length cpv) (M)]) (fun W => Wx.Sep no w0 W [aOwn 46 19 Fact.cells (.slice ad19 (someL xs).length cp19) ((someL xs)), aOwn 46 19 Fact.cells (.slice (some ⟨g, 0, none⟩) M.length cpv) ((M).set (p) y)]) (fun W => Wx.Sep no w0 W [aOwn 46 19 Fact.cells (.slice ad19 (someL xs).length cp19) ((someL xs)), aOwn 46 19 Fact.cells (.slice (some ⟨g, 0, none⟩) M.length cpv) (((M).set (p) y).set (q) x)]) (by kernel_rfl) rfl (by kernel_rfl) (by kernel_rfl) (by kernel_rfl) (by kernel_rfl) (by kernel_rfl) (by kernel_rfl) (hS.up (Up.drew _)) ?_ _ _ rfl rfl ⟨rfl, rfl⟩ ⟨rfl, rfl⟩ ?_ ?_ ?_
     ·refine allL.cons (.inr ⟨rfl, .inr fun W => PEv.move (.tmp rfl)⟩) ?_
      refine allL.cons (.inr ⟨rfl, .inr fun W => PEv.move (.tmp rfl)⟩) ?_
      refine allL.cons (.inr ⟨rfl, .inr fun W => PEv.move (.tmp rfl)⟩) ?_
      refine allL.cons (.inr ⟨rfl, .inr fun W => PEv.move (.tmp rfl)⟩) ?_
      refine allL.cons (.inr ⟨rfl, .inr fun W => PEv.move (.tmp rfl)⟩) ?_
      refine allL.cons (.inr ⟨rfl, .inr fun W => PEv.move (.tmp rfl)⟩) ?_
      refine allL.cons (.inr ⟨rfl, .inr fun W => PEv.indexAddr Tryz.underlying22 Tryz.sizeOf46 (.tmp rfl) (.tmp rfl) (by omega)⟩) ?_
      refine allL.cons (.inr ⟨rfl, .inl ⟨by kernel_rfl, fun W hS => PEv.loadA Tryz.isAgg46 Tryz.sizeOf46 rfl (.tmp rfl) ((hS.own 1 rfl).at (fun _ => rfl) hy)⟩⟩) ?_
      refine allL.cons (.inr ⟨rfl, .inr fun W => PEv.move (.tmp rfl)⟩) ?_
      refine allL.cons (.inr ⟨rfl, .inr fun W => PEv.move (.tmp rfl)⟩) ?_
      refine allL.cons (.inr ⟨rfl, .inr fun W => PEv.indexAddr Tryz.underlying22 Tryz.sizeOf46 (.tmp rfl) (.tmp rfl) (by omega)⟩) ?_
      refine allL.cons (.inr ⟨rfl, .inl ⟨by kernel_rfl, fun W hS => PEv.loadA Tryz.isAgg46 Tryz.sizeOf46 rfl (.tmp rfl) ((hS.own 1 rfl).at (fun _ => rfl) hx)⟩⟩) ?_
      refine allL.cons (.inr ⟨rfl, .inr fun W => PEv.indexAddr Tryz.underlying22 Tryz.sizeOf46 (.tmp rfl) (.tmp rfl) (by omega)⟩) ?_
      refine allL.cons (.inl (by simp)) ?_
      refine allL.cons (.inr ⟨rfl, .inr fun W => PEv.indexAddr Tryz.underlying22 Tryz.sizeOf46 (.tmp rfl) (.tmp rfl) (by omega)⟩) ?_
      refine allL.cons (.inl (by simp)) ?_
      exact allL.nil
     ·intro W hS
      exact SEv.mono (SEv.storeOwnA (i := p) (z := y) Tryz.sizeOf46 (fun _ => rfl) Fact.one (.tmp rfl) (.tmp rfl) (hS.own 1 rfl) (by omega)) (fun _ h => hS.stp 1 rfl h)
     ·intro W hS
      exact SEv.mono (SEv.storeOwnA (i := q) (z := x) Tryz.sizeOf46 (fun _ => rfl) Fact.one (.tmp rfl) (.tmp rfl) (hS.own 1 rfl) (by omega)) (fun _ h => hS.stp 1 rfl h)
     ·intro w7 hS
      have hS : Wx.Sep no w0 w7 [aOwn 46 19 Fact.cells (.slice ad19 (someL xs).length cp19) ((someL xs)), aOwn 46 19 Fact.cells (.slice (some ⟨g, 0, none⟩) M.length cpv) (((M).set (p) y).set (q) x)] := hS
      obtain ⟨M2, eM2⟩ : ∃ M2, M2 = (M.set p y).set q x := ⟨_, rfl⟩
      have hM2 : ∀ z, z ∈ M2 ↔ z ∈ someL xs := fun z => by rw [eM2, swap_mem hx hy]; exact hM z
      have hl2 : M2.length = M.length := by rw [eM2, List.length_set, List.length_set]
      rw [← eM2] at hS
      refine KW.inBlock (KW.then (CW.region (LW.p (PEv.move (.tmp rfl)) rfl rfl rfl ?_)))
      refine LW.p (PEv.inc (.tmp rfl) (by omega)) rfl rfl rfl ?_
      refine LW.p (PEv.assign (.tmp rfl)) rfl rfl rfl (LW.nil (KW.round ?_))
      exact ⟨(i + 1, .slice (some ⟨g, 0, none⟩) M.length cpv, M2), ⟨by show i + 1 ≤ 60; omega, hM2, by show M2.length ≤ 45; omega, hS⟩, ⟨rfl, rfl, rfl, rfl, rfl, rfl, rfl, rfl, trivial⟩, by show 60 - (i + 1) < 60 - i; omega⟩
    ·first | replace h41 := of_decide_eq_true h41 | replace h41 := of_decide_eq_false h41 | skip
     refine CW.exit (KW.then_exit (KW.then_exit (KW.block_hit (KW.then (CW.seq (CW.region (LW.p (PEv.move (.tmp rfl)) rfl rfl rfl ?_)))))))
     refine LW.c (enter_call0 (.cons (.tmp rfl) (.cons (.const _) .nil)) (Tryz.en15)) rfl rfl rfl rfl (pick_any _ _ _ (by decide)) ?_
     rintro _ w8 ⟨rfl, uw8⟩
     have zw8 := uw8.size
     replace hS := hS.up uw8
     have hd := pick_range (c := day) (n := 11) hday (by decide)
     obtain ⟨d, ed⟩ : ∃ d, d = pickI day 11 := ⟨_, rfl⟩
     rw [← ed] at hd ⊢
     refine LW.p (PEv.assign (.tmp rfl)) rfl rfl rfl (LW.nil (KW.then (CW.seq (CW.region (LW.p (PEv.move (.tmp rfl)) rfl rfl rfl (LW.p (PEv.move (.tmp rfl)) rfl rfl rfl ?_))))))
     refine LW.c (enter_call0 (.cons (.tmp rfl) (.cons (.tmp rfl) .nil)) (Tryz.en13)) rfl rfl rfl rfl (Of_any ad19 cp19 (someL xs) d _ ((hS.own 0 rfl).els (fun _ => rfl)) (by omega)) ?_
     rintro _ w9 ⟨bc1, rfl, hC1, uw9⟩
     have zw9 := uw9.size
     replace hS := hS.up uw9
     refine LW.r (REv.allocA Tryz.zeroValue24) rfl rfl rfl rfl ?_
     rintro _ w10 ⟨B15, rfl, MB15⟩
     refine LW.s (SEv.storeA Tryz.sizeOf24 (hC1.size) (.tmp rfl) (.tmp rfl) (hC1.one) MB15.blk rfl) rfl rfl rfl ?_
     intro w11 LB15
     have NB15 := MB15.set LB15
     clear LB15 MB15
     have eB15 := NB15.at_
     have zB15 := NB15.size
     replace hC1 := hC1.up NB15.up
     replace hS := hS.addB NB15
     change Wx.Sep _ _ _ [_, _, _] at hS
     refine LW.nil (KW.then (CW.seq (CW.region (LW.p (PEv.move (.tmp rfl)) rfl rfl rfl (LW.p (PEv.move (.tmp rfl)) rfl rfl rfl ?_)))))
     refine LW.c (enter_call0 (.cons (.tmp rfl) (.cons (.tmp rfl) .nil)) (Tryz.en13)) rfl rfl rfl rfl (OfV_any _ M d _ ((hS.own 1 rfl).sl (fun _ => rfl)) (by omega)) ?_
     rintro _ w12 ⟨bc2, rfl, hC2, uw12⟩
     have zw12 := uw12.size
     replace hS := hS.up uw12
     replace hC1 := hC1.up uw12
     rw [ofB_set hM] at hC2
     refine LW.r (REv.allocA Tryz.zeroValue24) rfl rfl rfl rfl ?_
     rintro _ w13 ⟨B16, rfl, MB16⟩
     refine LW.s (SEv.storeA Tryz.sizeOf24 (hC2.size) (.tmp rfl) (.tmp rfl) (hC2.one) MB16.blk rfl) rfl rfl rfl ?_
     intro w14 LB16
     have NB16 := MB16.set LB16
     clear LB16 MB16
     have eB16 := NB16.at_
     have zB16 := NB16.size
     replace hC1 := hC1.up NB16.up
     replace hC2 := hC2.up NB16.up
     replace hS := hS.addB NB16
     change Wx.Sep _ _ _ [_, _, _, _] at hS
     refine LW.nil (KW.then (CW.seq (CW.region (LW.p (PEv.move (.tmp rfl)) rfl rfl rfl ?_))))
     refine LW.c (enter_call0 (.cons (.tmp rfl) (.cons (.const _) .nil)) (Tryz.en15)) rfl rfl rfl rfl (pick_any _ _ _ (by decide)) ?_
     rintro _ w15 ⟨rfl, uw15⟩
     have zw15 := uw15.size
     replace hS := hS.up uw15
     replace hC1 := hC1.up uw15
     replace hC2 := hC2.up uw15
     refine LW.p (PEv.add_w (.const _) (.tmp rfl)) rfl rfl rfl ?_
     refine LW.p (PEv.assign (.tmp rfl)) rfl rfl rfl (LW.nil (KW.then (CW.seq ?_)))
     have hSh := ofB_short (l := someL xs) (by omega) d
     refine CW.draws (by kernel_rfl) (by kernel_rfl) rfl rfl ?_
     refine HW.p (PEv.move (.tmp rfl)) rfl rfl ?_
     refine HW.p (PEv.move (.tmp rfl)) rfl rfl ?_
     refine HW.yp rfl rfl rfl rfl rfl (PEv.loadA Tryz.isAgg24 Tryz.sizeOf24 (hC1.size) (.tmp rfl) ((hS.blk 2 rfl).agg)) rfl ?_
     refine HW.yp rfl rfl rfl rfl rfl (PEv.move (.tmp rfl)) rfl ?_
     refine HW.yqc (ph := .pred fun v w => Sl w v 19 Fact.cells (histL (ofB (someL xs) d).Processes (ofB (someL xs) d).Swaps (IntKind.i64.wrap (1 + pickI wafer 6)))) (fun _ _ _ h u => Sl.up h u) rfl rfl rfl rfl rfl (fun a w hu ha => ⟨_, _, enter_call0 (.cons (.tmp rfl) (.cons (.tmp rfl) .nil)) (Tryz.en23) a ha, (History_any bc1 (ofB (someL xs) d) (IntKind.i64.wrap (1 + pickI wafer 6)) w (hC1.up hu) (Nat.le_trans (hSh 2) (by decide)) (Nat.le_trans (hSh 0) (by decide))).mono fun v w' h => ⟨h.2, h.1.sl (fun _ => rfl)⟩⟩) rfl ?_
     refine HW.yp rfl rfl rfl rfl rfl (PEv.loadA Tryz.isAgg24 Tryz.sizeOf24 (hC2.size) (.tmp rfl) ((hS.blk 3 rfl).agg)) rfl ?_
     refine HW.yp rfl rfl rfl rfl rfl (PEv.move (.tmp rfl)) rfl ?_
     refine HW.yqc (ph := .pred fun v w => Sl w v 19 Fact.cells (histL (ofB (someL xs) d).Processes (ofB (someL xs) d).Swaps (IntKind.i64.wrap (1 + pickI wafer 6)))) (fun _ _ _ h u => Sl.up h u) rfl rfl rfl rfl rfl (fun a w hu ha => ⟨_, _, enter_call0 (.cons (.tmp rfl) (.cons (.tmp rfl) .nil)) (Tryz.en23) a ha, (History_any bc2 (ofB (someL xs) d) (IntKind.i64.wrap (1 + pickI wafer 6)) w (hC2.up hu) (Nat.le_trans (hSh 2) (by decide)) (Nat.le_trans (hSh 0) (by decide))).mono fun v w' h => ⟨h.2, h.1.sl (fun _ => rfl)⟩⟩) rfl ?_
     refine HW.yqc (ph := .eq (.bool true)) (phUp.eq _) rfl rfl rfl rfl rfl (fun a w hu ha => ⟨_, _, enter_any2 Tryz.en22 a w, (sameFacts_v (a.eval (.tmp 88)) (a.eval (.tmp 91)) (histL (ofB (someL xs) d).Processes (ofB (someL xs) d).Swaps (IntKind.i64.wrap (1 + pickI wafer 6))) (histL (ofB (someL xs) d).Processes (ofB (someL xs) d).Swaps (IntKind.i64.wrap (1 + pickI wafer 6))) w (ha.known (p := fun v w => Sl w v 19 Fact.cells (histL (ofB (someL xs) d).Processes (ofB (someL xs) d).Swaps (IntKind.i64.wrap (1 + pickI wafer 6)))) rfl) (ha.known (p := fun v w => Sl w v 19 Fact.cells (histL (ofB (someL xs) d).Processes (ofB (someL xs) d).Swaps (IntKind.i64.wrap (1 + pickI wafer 6)))) rfl) (Nat.le_trans (histL_len _ _ _) (hSh 0))).mono fun _ _ h => ⟨h.2, h.1.trans (by rw [eqFs_refl])⟩⟩) rfl ?_
     refine HW.p (PEv.pick_and (.tmp rfl) (fun hp => (by first | exact .const _ | exact .tmp rfl | exact .cond rfl (by first | assumption | simp_all)))) rfl rfl ?_
     refine HW.p (PEv.move (.tmp rfl)) rfl rfl ?_
     refine HW.yp rfl rfl rfl rfl rfl (PEv.loadA Tryz.isAgg24 Tryz.sizeOf24 (hC1.size) (.tmp rfl) ((hS.blk 2 rfl).agg)) rfl ?_
     refine HW.yqc (ph := .pred fun v w => Sl w v 1 eInt (wafersL (ofB (someL xs) d).Lots (ofB (someL xs) d).Processes (ofB (someL xs) d).Swaps)) (fun _ _ _ h u => Sl.up h u) rfl rfl rfl rfl rfl (fun a w hu ha => ⟨_, _, enter_call0 (.cons (.tmp rfl) .nil) (Tryz.en28) a ha, (Wafers_any bc1 (ofB (someL xs) d) w (hC1.up hu) (Nat.le_trans (hSh 2) (by decide)) (by have h1 : (ofB (someL xs) d).Lots.length ≤ 100000 := hSh 3; have h2 : (ofB (someL xs) d).Processes.length ≤ 100000 := hSh 0; omega)).mono fun v w' h => ⟨h.2, h.1.sl (fun _ => rfl)⟩⟩) rfl ?_
     refine HW.yp rfl rfl rfl rfl rfl (PEv.loadA Tryz.isAgg24 Tryz.sizeOf24 (hC2.size) (.tmp rfl) ((hS.blk 3 rfl).agg)) rfl ?_
     refine HW.yqc (ph := .pred fun v w => Sl w v 1 eInt (wafersL (ofB (someL xs) d).Lots (ofB (someL xs) d).Processes (ofB (someL xs) d).Swaps)) (fun _ _ _ h u => Sl.up h u) rfl rfl rfl rfl rfl (fun a w hu ha => ⟨_, _, enter_call0 (.cons (.tmp rfl) .nil) (Tryz.en28) a ha, (Wafers_any bc2 (ofB (someL xs) d) w (hC2.up hu) (Nat.le_trans (hSh 2) (by decide)) (by have h1 : (ofB (someL xs) d).Lots.length ≤ 100000 := hSh 3; have h2 : (ofB (someL xs) d).Processes.length ≤ 100000 := hSh 0; omega)).mono fun v w' h => ⟨h.2, h.1.sl (fun _ => rfl)⟩⟩) rfl ?_
     refine HW.yqc (ph := .eq (.bool true)) (phUp.eq _) rfl rfl rfl rfl rfl (fun a w hu ha => ⟨_, _, enter_any2 Tryz.en25 a w, (sameInts_any (a.eval (.tmp 96)) (a.eval (.tmp 98)) (wafersL (ofB (someL xs) d).Lots (ofB (someL xs) d).Processes (ofB (someL xs) d).Swaps) (wafersL (ofB (someL xs) d).Lots (ofB (someL xs) d).Processes (ofB (someL xs) d).Swaps) w (ha.known (p := fun v w => Sl w v 1 eInt (wafersL (ofB (someL xs) d).Lots (ofB (someL xs) d).Processes (ofB (someL xs) d).Swaps)) rfl) (ha.known (p := fun v w => Sl w v 1 eInt (wafersL (ofB (someL xs) d).Lots (ofB (someL xs) d).Processes (ofB (someL xs) d).Swaps)) rfl) (by have h1 := wafersL_len (ofB (someL xs) d).Lots (ofB (someL xs) d).Processes (ofB (someL xs) d).Swaps; have h2 : (ofB (someL xs) d).Lots.length ≤ 100000 := hSh 3; have h3 : (ofB (someL xs) d).Processes.length ≤ 100000 := hSh 0; omega) (by have h1 := wafersL_len (ofB (someL xs) d).Lots (ofB (someL xs) d).Processes (ofB (someL xs) d).Swaps; have h2 : (ofB (someL xs) d).Lots.length ≤ 100000 := hSh 3; have h3 : (ofB (someL xs) d).Processes.length ≤ 100000 := hSh 0; omega)).mono fun _ _ h => ⟨h.2, h.1.trans (by rw [decide_eq_true rfl])⟩⟩) rfl ?_
     refine HW.p (PEv.pick_and (.tmp rfl) (fun hp => (by first | exact .const _ | exact .tmp rfl | exact .cond rfl (by first | assumption | simp_all)))) rfl rfl ?_
     refine HW.p (PEv.move (.tmp rfl)) rfl rfl ?_
     refine HW.yp rfl rfl rfl rfl rfl (PEv.loadA Tryz.isAgg24 Tryz.sizeOf24 (hC1.size) (.tmp rfl) ((hS.blk 2 rfl).agg)) rfl ?_
     refine HW.yqc (ph := .pred fun v w => Sl w v 1 eInt (membersL (ofB (someL xs) d).Lots 1 30)) (fun _ _ _ h u => Sl.up h u) rfl rfl rfl rfl rfl (fun a w hu ha => ⟨_, _, enter_call0 (.cons (.tmp rfl) (.cons (.const _) (.cons (.const _) .nil))) (Tryz.en26) a ha, (Members_any bc1 (ofB (someL xs) d) 1 30 w (hC1.up hu) (Nat.le_trans (hSh 3) (by decide))).mono fun v w' h => ⟨h.2, h.1.sl (fun _ => rfl)⟩⟩) rfl ?_
     refine HW.yp rfl rfl rfl rfl rfl (PEv.loadA Tryz.isAgg24 Tryz.sizeOf24 (hC2.size) (.tmp rfl) ((hS.blk 3 rfl).agg)) rfl ?_
     refine HW.yqc (ph := .pred fun v w => Sl w v 1 eInt (membersL (ofB (someL xs) d).Lots 1 30)) (fun _ _ _ h u => Sl.up h u) rfl rfl rfl rfl rfl (fun a w hu ha => ⟨_, _, enter_call0 (.cons (.tmp rfl) (.cons (.const _) (.cons (.const _) .nil))) (Tryz.en26) a ha, (Members_any bc2 (ofB (someL xs) d) 1 30 w (hC2.up hu) (Nat.le_trans (hSh 3) (by decide))).mono fun v w' h => ⟨h.2, h.1.sl (fun _ => rfl)⟩⟩) rfl ?_
     refine HW.yqc (ph := .eq (.bool true)) (phUp.eq _) rfl rfl rfl rfl rfl (fun a w hu ha => ⟨_, _, enter_any2 Tryz.en25 a w, (sameInts_any (a.eval (.tmp 103)) (a.eval (.tmp 105)) (membersL (ofB (someL xs) d).Lots 1 30) (membersL (ofB (someL xs) d).Lots 1 30) w (ha.known (p := fun v w => Sl w v 1 eInt (membersL (ofB (someL xs) d).Lots 1 30)) rfl) (ha.known (p := fun v w => Sl w v 1 eInt (membersL (ofB (someL xs) d).Lots 1 30)) rfl) (by have h1 := memK_len2 (ofB (someL xs) d).Lots 1 30; have h2 : (ofB (someL xs) d).Lots.length ≤ 100000 := hSh 3; omega) (by have h1 := memK_len2 (ofB (someL xs) d).Lots 1 30; have h2 : (ofB (someL xs) d).Lots.length ≤ 100000 := hSh 3; omega)).mono fun _ _ h => ⟨h.2, h.1.trans (by rw [decide_eq_true rfl])⟩⟩) rfl ?_
     refine HW.p (PEv.pick_and (.tmp rfl) (fun hp => (by first | exact .const _ | exact .tmp rfl | exact .cond rfl (by first | assumption | simp_all)))) rfl rfl ?_
     refine HW.p (PEv.assign (.tmp rfl)) rfl rfl ?_
     refine HW.nil ?_
     intro w16 uw16
     have zw16 := uw16.size
     replace hS := hS.up uw16
     replace hC1 := hC1.up uw16
     replace hC2 := hC2.up uw16
     refine KW.then (CW.ret ?_)
     refine KW.ret1 rfl rfl ⟨_, rfl, ?_⟩
     exact ⟨rfl, hS.upd⟩
end Go.Proofs.YthfjagphcekcbaaGreat
end
