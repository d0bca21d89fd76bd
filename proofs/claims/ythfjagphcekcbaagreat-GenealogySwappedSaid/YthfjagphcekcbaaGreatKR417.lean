import Derived.Test.YthfjagphcekcbaaGreatKR416
section
namespace Go.Wx
def wI (n : Int) : Int := IntKind.i64.wrap n
def someB (y : I6) : Fact := { zeroF with Version := wI (1 + pickI (wI (y.a.tdiv 4)) 3), Day := pickI y.b 10, Gone := decide (pickI (wI (y.b.tdiv 10)) 6 = 0), ID := wI (1 + pickI y.c 12), Wafer := wI (1 + pickI y.d 6), Time := pickI y.e 50 }
def someF (y : I6) : Fact := if pickI y.a 4 = 0 ∨ pickI y.a 4 = 1 then { someB y with Kind := 1, Tool := pickI y.f 3, Step := pickI (wI (y.f.tdiv 3)) 4, Recipe := 1, Revision := 1, Until := wI ((someB y).Time + 5) } else if pickI y.a 4 = 2 then { someB y with Kind := 3, Other := wI (1 + (wI ((someB y).Wafer + pickI y.f 5)).tmod 6) } else { someB y with Kind := 4, ID := 0, Lot := wI (1 + pickI y.f 3), Product := wI (1 + pickI (wI (y.f.tdiv 3)) 2) }
def someL (xs : List I6) : List Fact := (xs.take 30).map someF
theorem someF_p {y : I6} (h : pickI y.a 4 = 0 ∨ pickI y.a 4 = 1) : someF y = { someB y with Kind := 1, Tool := pickI y.f 3, Step := pickI (wI (y.f.tdiv 3)) 4, Recipe := 1, Revision := 1, Until := wI ((someB y).Time + 5) } := if_pos h
theorem someF_s {y : I6} (h : pickI y.a 4 = 2) : someF y = { someB y with Kind := 3, Other := wI (1 + (wI ((someB y).Wafer + pickI y.f 5)).tmod 6) } := by unfold someF; rw [if_neg (by omega), if_pos h]
theorem someF_l {y : I6} (h0 : ¬ pickI y.a 4 = 0) (h1 : ¬ pickI y.a 4 = 1) (h2 : ¬ pickI y.a 4 = 2) : someF y = { someB y with Kind := 4, ID := 0, Lot := wI (1 + pickI y.f 3), Product := wI (1 + pickI (wI (y.f.tdiv 3)) 2) } := by unfold someF; rw [if_neg (by omega), if_neg h2]
theorem someL_len (xs : List I6) : (someL xs).length ≤ 30 := by unfold someL; rw [List.length_map, List.length_take]; omega
theorem someL_step {xs : List I6} {k : Nat} {y : I6} (hy : xs[k]? = some y) (hk : k < 30) : someL (xs.take (k + 1)) = someL (xs.take k) ++ [someF y] := by
  have hl := (List.getElem?_eq_some_iff.1 hy).1
  unfold someL
  rw [List.take_take, List.take_take, Nat.min_eq_right (by omega), Nat.min_eq_right (by omega), take_succ_of hy, List.map_append]; rfl
theorem someL_end {xs : List I6} {k : Nat} (h : ¬ (k < xs.length ∧ k < 30)) : someL (xs.take k) = someL xs := by
  unfold someL
  rw [List.take_take]
  congr 1
  by_cases h1 : k < 30
  · rw [Nat.min_eq_right (by omega), List.take_of_length_le (by omega), List.take_of_length_le (by omega)]
  · rw [Nat.min_eq_left (by omega)]
end Go.Wx
namespace Go.Proofs.YthfjagphcekcbaaGreat
open Go.Wx Go.RowKit
set_option maxHeartbeats 2000000 in
theorem Some_any (ad : Option Addr) (cp : Nat) (xs : List I6) (w : World) (hE0 : Els w ad 6 I6.cells xs) : Ret Tryz.prog 14 #[.slice ad xs.length cp] w fun r w' => OwnS w' w.heap.size 46 19 Fact.cells r (someL xs) ∧ Up w w' := by
  obtain ⟨w0, rfl⟩ : ∃ w0, w0 = w := ⟨_, rfl⟩
  have hS := Sep.start no w0
  refine Calls_start (n := 98) (m := 9) Tryz.func14 rfl rfl rfl ?_
  refine CW.seq (CW.region (LW.p (PEv.assign (.const _)) rfl rfl rfl (LW.nil (KW.then (CW.seq (CW.region (LW.p (PEv.assign (.const _)) rfl rfl rfl (LW.nil (KW.then (CW.seq (CW.seq ?_)))))))))))
  replace hS := hS.add (Up.refl _) (A' := aOwn 46 19 Fact.cells (.slice none 0 0) ([] : List Fact)) (OwnS.nil _ _ _ _ _) (fun i h => by cases h)
  change Wx.Sep _ _ _ [_] at hS
  refine CW.region (LW.p (PEv.assign (.const _)) rfl rfl rfl (LW.nil (KW.then (CW.block ?_))))
  refine CW.loopB (σ := Nat × Go.Value) (fun s w => (s.1 ≤ xs.length ∧ s.1 ≤ 30) ∧ (Wx.Sep no w0 w [aOwn 46 19 Fact.cells s.2 (someL (xs.take s.1))])) (fun s => [(4, .eq (vi (s.1 : Int))), (3, .eq (s.2))]) ([(0, .eq _), (2, .eq _)]) (fun s => xs.length - s.1) (0, .slice none 0 0) ?_ ⟨rfl, rfl, rfl, rfl, trivial⟩ ?_
  ·exact ⟨⟨Nat.zero_le _, Nat.zero_le _⟩, hS⟩
  ·rintro ⟨k, v⟩ w1 ⟨hk, hS⟩
   dsimp only at hk hS
   change CW _ _ _ _ _ _ _ ([(4, .eq (vi (k : Int))), (3, .eq (v))] ++ _) _
   refine CW.seq (CW.seq ?_)
   skip
   refine CW.region (LW.p (PEv.move (.tmp rfl)) rfl rfl rfl (LW.p (PEv.move (.tmp rfl)) rfl rfl rfl ?_))
   refine LW.p (PEv.lenS Tryz.underlying25 (.tmp rfl)) rfl rfl rfl ?_
   refine LW.p (PEv.lss (.tmp rfl) (.tmp rfl)) rfl rfl rfl ?_
   refine LW.p (PEv.move (.tmp rfl)) rfl rfl rfl ?_
   refine LW.g rfl rfl rfl rfl rfl rfl rfl (fun hc => PEv.move (.tmp rfl)) ?_
   refine LW.g rfl rfl rfl rfl rfl rfl rfl (fun hc => PEv.lss (by first | exact .tmp rfl | exact .cond rfl (by first | assumption | simp_all)) (.const _)) ?_
   refine LW.p (PEv.pick_and (.tmp rfl) (fun hp => (by first | exact .const _ | exact .tmp rfl | exact .cond rfl (by first | assumption | simp_all)))) rfl rfl rfl ?_
   refine LW.nil (KW.then ?_)
   refine CW.cond (.tmp rfl) (fun h14 => ?_) (fun h14 => ?_)
   ·first | replace h14 := of_decide_eq_true h14 | replace h14 := of_decide_eq_false h14 | skip
    refine CW.skip (KW.then (CW.seq (CW.block (CW.seq ?_))))
    have hE := hE0.up hS.upd
    have hkl : k < xs.length ∧ k < 30 := by simp at h14; omega
    refine CW.region (LW.p (PEv.move (.tmp rfl)) rfl rfl rfl (LW.p (PEv.move (.tmp rfl)) rfl rfl rfl ?_))
    obtain ⟨y, hy⟩ := getElem?_of_lt (xs := xs) (i := k) (by omega)
    obtain ⟨By, oy, ay, hcy⟩ := hE _ y hy
    refine LW.p (PEv.indexAddr' Tryz.underlying25 Tryz.sizeOf67 (.tmp rfl) (.tmp rfl) (by omega) ay) rfl rfl rfl ?_
    refine LW.p (PEv.loadA Tryz.isAgg67 Tryz.sizeOf67 rfl (.tmp rfl) (hcy)) rfl rfl rfl ?_
    refine LW.r (REv.allocA Tryz.zeroValue67) rfl rfl rfl rfl ?_
    rintro _ w2 ⟨B5, rfl, MB5⟩
    refine LW.s (SEv.storeA Tryz.sizeOf67 rfl (.tmp rfl) (.tmp rfl) (I6.one _) MB5.blk rfl) rfl rfl rfl ?_
    intro w3 LB5
    have NB5 := MB5.set LB5
    clear LB5 MB5
    have eB5 := NB5.at_
    have zB5 := NB5.size
    replace hcy := hcy.up NB5.up
    replace hS := hS.addB NB5
    change Wx.Sep _ _ _ [_, _] at hS
    refine LW.nil (KW.then (CW.seq ?_))
    refine CW.free 26 [.eq (.pointer (some ⟨B5, 0, none⟩)), .eq (vi (y.a)), .eq (vi (wI (y.a.tdiv 4))), .eq (vi (pickI (wI (y.a.tdiv 4)) 3)), .eq (vi (wI (1 + pickI (wI (y.a.tdiv 4)) 3))), .eq (.pointer (some ⟨B5, 1, none⟩)), .eq (vi (y.b)), .eq (vi (pickI y.b 10)), .eq (.pointer (some ⟨B5, 1, none⟩)), .eq (vi (y.b)), .eq (vi (wI (y.b.tdiv 10))), .eq (vi (pickI (wI (y.b.tdiv 10)) 6)), .eq (.bool (decide (pickI (wI (y.b.tdiv 10)) 6 = 0))), .eq (.pointer (some ⟨B5, 2, none⟩)), .eq (vi (y.c)), .eq (vi (pickI y.c 12)), .eq (vi (wI (1 + pickI y.c 12))), .eq (.pointer (some ⟨B5, 3, none⟩)), .eq (vi (y.d)), .eq (vi (pickI y.d 6)), .eq (vi (wI (1 + pickI y.d 6))), .eq (.pointer (some ⟨B5, 4, none⟩)), .eq (vi (y.e)), .eq (vi (pickI y.e 50)), .eq (.agg (someB y).cells), .pred fun v W => ∃ B, v = .pointer (some ⟨B, 0, none⟩) ∧ w3.drew.heap.size ≤ B ∧ Blk W B zeroF.cells 46] [6, 45] (by kernel_rfl) rfl (by kernel_rfl) (by kernel_rfl) (by kernel_rfl) (by kernel_rfl) (by kernel_rfl) (by kernel_rfl) (by kernel_rfl) ⟨PhU.eq _, PhU.eq _, PhU.eq _, PhU.eq _, PhU.eq _, PhU.eq _, PhU.eq _, PhU.eq _, PhU.eq _, PhU.eq _, PhU.eq _, PhU.eq _, PhU.eq _, PhU.eq _, PhU.eq _, PhU.eq _, PhU.eq _, PhU.eq _, PhU.eq _, PhU.eq _, PhU.eq _, PhU.eq _, PhU.eq _, PhU.eq _, PhU.eq _, PhU.pred fun _ _ _ h u => let ⟨B, e, hz, hb⟩ := h; ⟨B, e, hz, hb.up u⟩, trivial⟩ ?_ ?_
    ·intro W hU0
     have hU := (Up.drew w3).trans hU0
     have zU0 := hU0.size
     refine allL.cons ⟨rfl, TU.p (PEv.indexArr (j := 0) Tryz.underlying67 Tryz.sizeOf3 (.tmp rfl) (.const _) (by decide)) rfl⟩ ?_
     refine allL.cons ⟨rfl, TU.p (PEv.load Tryz.isAgg3 (.tmp rfl) (((hS.blk 1 rfl).up hU).celln rfl)) rfl⟩ ?_
     refine allL.cons ⟨rfl, TU.p (PEv.quo (.tmp rfl) (.const _) (by decide)) rfl⟩ ?_
     refine allL.cons ⟨rfl, TU.c (enter_call0 (.cons (.tmp rfl) (.cons (.const _) .nil)) (Tryz.en37)) (pickR_any _ _ _ (by decide)) (by rintro _ W1 ⟨rfl, u⟩; exact ⟨u, rfl⟩)⟩ ?_
     refine allL.cons ⟨rfl, TU.p (PEv.add_w (.const _) (.tmp rfl)) rfl⟩ ?_
     refine allL.cons ⟨rfl, TU.p (PEv.indexArr (j := 1) Tryz.underlying67 Tryz.sizeOf3 (.tmp rfl) (.const _) (by decide)) rfl⟩ ?_
     refine allL.cons ⟨rfl, TU.p (PEv.load Tryz.isAgg3 (.tmp rfl) (((hS.blk 1 rfl).up hU).celln rfl)) rfl⟩ ?_
     refine allL.cons ⟨rfl, TU.c (enter_call0 (.cons (.tmp rfl) (.cons (.const _) .nil)) (Tryz.en37)) (pickR_any _ _ _ (by decide)) (by rintro _ W1 ⟨rfl, u⟩; exact ⟨u, rfl⟩)⟩ ?_
     refine allL.cons ⟨rfl, TU.p (PEv.indexArr (j := 1) Tryz.underlying67 Tryz.sizeOf3 (.tmp rfl) (.const _) (by decide)) rfl⟩ ?_
     refine allL.cons ⟨rfl, TU.p (PEv.load Tryz.isAgg3 (.tmp rfl) (((hS.blk 1 rfl).up hU).celln rfl)) rfl⟩ ?_
     refine allL.cons ⟨rfl, TU.p (PEv.quo (.tmp rfl) (.const _) (by decide)) rfl⟩ ?_
     refine allL.cons ⟨rfl, TU.c (enter_call0 (.cons (.tmp rfl) (.cons (.const _) .nil)) (Tryz.en37)) (pickR_any _ _ _ (by decide)) (by rintro _ W1 ⟨rfl, u⟩; exact ⟨u, rfl⟩)⟩ ?_
     refine allL.cons ⟨rfl, TU.p (PEv.eql (.tmp rfl) (.const _)) rfl⟩ ?_
     refine allL.cons ⟨rfl, TU.p (PEv.indexArr (j := 2) Tryz.underlying67 Tryz.sizeOf3 (.tmp rfl) (.const _) (by decide)) rfl⟩ ?_
     refine allL.cons ⟨rfl, TU.p (PEv.load Tryz.isAgg3 (.tmp rfl) (((hS.blk 1 rfl).up hU).celln rfl)) rfl⟩ ?_
     refine allL.cons ⟨rfl, TU.c (enter_call0 (.cons (.tmp rfl) (.cons (.const _) .nil)) (Tryz.en37)) (pickR_any _ _ _ (by decide)) (by rintro _ W1 ⟨rfl, u⟩; exact ⟨u, rfl⟩)⟩ ?_
     refine allL.cons ⟨rfl, TU.p (PEv.add_w (.const _) (.tmp rfl)) rfl⟩ ?_
     refine allL.cons ⟨rfl, TU.p (PEv.indexArr (j := 3) Tryz.underlying67 Tryz.sizeOf3 (.tmp rfl) (.const _) (by decide)) rfl⟩ ?_
     refine allL.cons ⟨rfl, TU.p (PEv.load Tryz.isAgg3 (.tmp rfl) (((hS.blk 1 rfl).up hU).celln rfl)) rfl⟩ ?_
     refine allL.cons ⟨rfl, TU.c (enter_call0 (.cons (.tmp rfl) (.cons (.const _) .nil)) (Tryz.en37)) (pickR_any _ _ _ (by decide)) (by rintro _ W1 ⟨rfl, u⟩; exact ⟨u, rfl⟩)⟩ ?_
     refine allL.cons ⟨rfl, TU.p (PEv.add_w (.const _) (.tmp rfl)) rfl⟩ ?_
     refine allL.cons ⟨rfl, TU.p (PEv.indexArr (j := 4) Tryz.underlying67 Tryz.sizeOf3 (.tmp rfl) (.const _) (by decide)) rfl⟩ ?_
     refine allL.cons ⟨rfl, TU.p (PEv.load Tryz.isAgg3 (.tmp rfl) (((hS.blk 1 rfl).up hU).celln rfl)) rfl⟩ ?_
     refine allL.cons ⟨rfl, TU.c (enter_call0 (.cons (.tmp rfl) (.cons (.const _) .nil)) (Tryz.en37)) (pickR_any _ _ _ (by decide)) (by rintro _ W1 ⟨rfl, u⟩; exact ⟨u, rfl⟩)⟩ ?_
     refine allL.cons ⟨rfl, TU.p (PEv.build (cs := (someB y).cells) Tryz.underlying46 Tryz.zeroValue46 Tryz.places46 (.cons (.tmp rfl) (.cons (.tmp rfl) (.cons (.tmp rfl) (.cons (.tmp rfl) (.cons (.tmp rfl) (.cons (.tmp rfl) .nil)))))) rfl) rfl⟩ ?_
     refine allL.cons ⟨rfl, TU.r (REv.allocA Tryz.zeroValue46) (fun v W' h => let ⟨B, e, N⟩ := h; ⟨N.up, B, e, by rw [N.at_]; exact zU0, N.blk⟩)⟩ ?_
     exact allL.nil
    ·intro w4 g hU0 hg
     have hU := (Up.drew w3).trans hU0
     have zw4 := hU.size
     obtain ⟨B6, e6, z6, hB6⟩ : ∃ B, g 6 = .pointer (some ⟨B, 0, none⟩) ∧ w3.drew.heap.size ≤ B ∧ Blk w4 B zeroF.cells 46 := hg 25 _ 6 (by decide) rfl rfl
     have e45 : g 45 = .agg (someB y).cells := hg 24 _ 45 (by decide) rfl rfl
     change LW _ _ _ _ _ _ _ _ ((6, .eq (g 6)) :: (45, .eq (g 45)) :: _) _
     rw [e6, e45]
     clear hg e6 e45
     replace hS := (hS.up (Up.drew _)).add hU0 (A' := aBlk B6 zeroF.cells 46) hB6 (fun i (e : i = B6) => by omega)
     change Wx.Sep no w0 _ [_, _, _] at hS
     refine LW.s (SEv.storeA Tryz.sizeOf46 rfl (.tmp rfl) (.tmp rfl) (Fact.one _) (hS.blk 2 rfl) rfl) rfl rfl rfl ?_
     intro w5 Nw5
     have zw5 := Nw5.size
     replace hS := hS.putB 2 rfl (show Set_ _ w5 _ ((someB y).cells) _ from Nw5)
     change Wx.Sep _ _ _ [_, _, _] at hS
     refine LW.nil (KW.then (CW.seq (CW.seq (CW.region ?_))))
     refine LW.p (PEv.indexArr (j := 0) Tryz.underlying67 Tryz.sizeOf3 (.tmp rfl) (.const _) (by decide)) rfl rfl rfl ?_
     refine LW.p (PEv.load Tryz.isAgg3 (.tmp rfl) ((hS.blk 1 rfl).celln rfl)) rfl rfl rfl ?_
     refine LW.c (enter_call0 (.cons (.tmp rfl) (.cons (.const _) .nil)) (Tryz.en37)) rfl rfl rfl rfl (pickR_any _ _ _ (by decide)) ?_
     rintro _ w6 ⟨rfl, uw6⟩
     have zw6 := uw6.size
     replace hS := hS.up uw6
     refine LW.nil (KW.then (CW.block (CW.seq (CW.seq (CW.region ?_)))))
     refine LW.p (PEv.eql (.tmp rfl) (.const _)) rfl rfl rfl ?_
     refine LW.p (PEv.assign (.tmp rfl)) rfl rfl rfl (LW.nil (KW.then ?_))
     refine CW.cond (.tmp rfl) (fun h62 => ?_) (fun h62 => ?_)
     ·first | replace h62 := of_decide_eq_true h62 | replace h62 := of_decide_eq_false h62 | skip
      refine CW.skip (KW.then ?_)
      refine CW.cond (.tmp rfl) (fun h62 => ?_) (fun h62 => ?_)
      ·first | replace h62 := of_decide_eq_true h62 | replace h62 := of_decide_eq_false h62 | skip
       refine CW.seq (CW.region ?_)
       refine LW.p (PEv.fieldAddr (off := 0) Tryz.underlying46 rfl rfl Tryz.sizeOf3 rfl (.tmp rfl)) rfl rfl rfl ?_
       refine LW.s (SEv.store Tryz.sizeOf3 (.tmp rfl) (.const _) rfl (hS.blk 2 rfl) (Nat.le_of_ble_eq_true rfl)) rfl rfl rfl ?_
       intro w7 Nw7
       have zw7 := Nw7.size
       replace hS := hS.putB 2 rfl (show Set_ _ w7 _ (({ someB y with Kind := 1 } : Fact).cells) _ from Nw7)
       change Wx.Sep _ _ _ [_, _, _] at hS
       refine LW.nil (KW.then (CW.seq (CW.region ?_)))
       refine LW.p (PEv.indexArr (j := 5) Tryz.underlying67 Tryz.sizeOf3 (.tmp rfl) (.const _) (by decide)) rfl rfl rfl ?_
       refine LW.p (PEv.load Tryz.isAgg3 (.tmp rfl) ((hS.blk 1 rfl).celln rfl)) rfl rfl rfl ?_
       refine LW.c (enter_call0 (.cons (.tmp rfl) (.cons (.const _) .nil)) (Tryz.en37)) rfl rfl rfl rfl (pickR_any _ _ _ (by decide)) ?_
       rintro _ w8 ⟨rfl, uw8⟩
       have zw8 := uw8.size
       replace hS := hS.up uw8
       refine LW.p (PEv.fieldAddr (off := 11) Tryz.underlying46 rfl rfl Tryz.sizeOf3 rfl (.tmp rfl)) rfl rfl rfl ?_
       refine LW.s (SEv.store Tryz.sizeOf3 (.tmp rfl) (.tmp rfl) rfl (hS.blk 2 rfl) (Nat.le_of_ble_eq_true rfl)) rfl rfl rfl ?_
       intro w9 Nw9
       have zw9 := Nw9.size
       replace hS := hS.putB 2 rfl (show Set_ _ w9 _ (({ someB y with Kind := 1, Tool := pickI y.f 3 } : Fact).cells) _ from Nw9)
       change Wx.Sep _ _ _ [_, _, _] at hS
       refine LW.nil (KW.then (CW.seq (CW.region ?_)))
       refine LW.p (PEv.indexArr (j := 5) Tryz.underlying67 Tryz.sizeOf3 (.tmp rfl) (.const _) (by decide)) rfl rfl rfl ?_
       refine LW.p (PEv.load Tryz.isAgg3 (.tmp rfl) ((hS.blk 1 rfl).celln rfl)) rfl rfl rfl ?_
       refine LW.p (PEv.quo (.tmp rfl) (.const _) (by decide)) rfl rfl rfl ?_
       refine LW.c (enter_call0 (.cons (.tmp rfl) (.cons (.const _) .nil)) (Tryz.en37)) rfl rfl rfl rfl (pickR_any _ _ _ (by decide)) ?_
       rintro _ w10 ⟨rfl, uw10⟩
       have zw10 := uw10.size
       replace hS := hS.up uw10
       refine LW.p (PEv.fieldAddr (off := 13) Tryz.underlying46 rfl rfl Tryz.sizeOf3 rfl (.tmp rfl)) rfl rfl rfl ?_
       refine LW.s (SEv.store Tryz.sizeOf3 (.tmp rfl) (.tmp rfl) rfl (hS.blk 2 rfl) (Nat.le_of_ble_eq_true rfl)) rfl rfl rfl ?_
       intro w11 Nw11
       have zw11 := Nw11.size
       replace hS := hS.putB 2 rfl (show Set_ _ w11 _ (({ someB y with Kind := 1, Tool := pickI y.f 3, Step := pickI (wI (y.f.tdiv 3)) 4 } : Fact).cells) _ from Nw11)
       change Wx.Sep _ _ _ [_, _, _] at hS
       refine LW.nil (KW.then (CW.seq (CW.region ?_)))
       refine LW.p (PEv.fieldAddr (off := 14) Tryz.underlying46 rfl rfl Tryz.sizeOf3 rfl (.tmp rfl)) rfl rfl rfl ?_
       refine LW.s (SEv.store Tryz.sizeOf3 (.tmp rfl) (.const _) rfl (hS.blk 2 rfl) (Nat.le_of_ble_eq_true rfl)) rfl rfl rfl ?_
       intro w12 Nw12
       have zw12 := Nw12.size
       replace hS := hS.putB 2 rfl (show Set_ _ w12 _ (({ someB y with Kind := 1, Tool := pickI y.f 3, Step := pickI (wI (y.f.tdiv 3)) 4, Recipe := 1 } : Fact).cells) _ from Nw12)
       change Wx.Sep _ _ _ [_, _, _] at hS
       refine LW.nil (KW.then (CW.seq (CW.region ?_)))
       refine LW.p (PEv.fieldAddr (off := 15) Tryz.underlying46 rfl rfl Tryz.sizeOf3 rfl (.tmp rfl)) rfl rfl rfl ?_
       refine LW.s (SEv.store Tryz.sizeOf3 (.tmp rfl) (.const _) rfl (hS.blk 2 rfl) (Nat.le_of_ble_eq_true rfl)) rfl rfl rfl ?_
       intro w13 Nw13
       have zw13 := Nw13.size
       replace hS := hS.putB 2 rfl (show Set_ _ w13 _ (({ someB y with Kind := 1, Tool := pickI y.f 3, Step := pickI (wI (y.f.tdiv 3)) 4, Recipe := 1, Revision := 1 } : Fact).cells) _ from Nw13)
       change Wx.Sep _ _ _ [_, _, _] at hS
       refine LW.nil (KW.then (CW.region ?_))
       refine LW.p (PEv.fieldAddr (off := 5) Tryz.underlying46 rfl rfl Tryz.sizeOf3 rfl (.tmp rfl)) rfl rfl rfl ?_
       refine LW.p (PEv.load Tryz.isAgg3 (.tmp rfl) ((hS.blk 2 rfl).celln rfl)) rfl rfl rfl ?_
       refine LW.p (PEv.add_w (.tmp rfl) (.const _)) rfl rfl rfl ?_
       refine LW.p (PEv.fieldAddr (off := 6) Tryz.underlying46 rfl rfl Tryz.sizeOf3 rfl (.tmp rfl)) rfl rfl rfl ?_
       refine LW.s (SEv.store Tryz.sizeOf3 (.tmp rfl) (.tmp rfl) rfl (hS.blk 2 rfl) (Nat.le_of_ble_eq_true rfl)) rfl rfl rfl ?_
       intro w14 Nw14
       have zw14 := Nw14.size
       replace hS := hS.putB 2 rfl (show Set_ _ w14 _ (({ someB y with Kind := 1, Tool := pickI y.f 3, Step := pickI (wI (y.f.tdiv 3)) 4, Recipe := 1, Revision := 1, Until := wI ((someB y).Time + 5) } : Fact).cells) _ from Nw14)
       change Wx.Sep _ _ _ [_, _, _] at hS
       refine LW.nil (KW.inBlock (KW.then ?_))
       first | rw [← someF_p (by omega)] at hS | rw [← someF_s (by omega)] at hS | rw [← someF_l (by omega) (by omega) (by omega)] at hS
       have hsl := someL_len (xs.take k)
       refine CW.region (LW.p (PEv.move (.tmp rfl)) rfl rfl rfl ?_)
       refine LW.p (PEv.loadA Tryz.isAgg46 Tryz.sizeOf46 rfl (.tmp rfl) ((hS.blk 2 rfl).agg)) rfl rfl rfl ?_
       refine LW.r (REv.buildSlice (xs := [someF y]) (enc := Fact.cells) (mk := fun f : Fact => .agg f.cells) Tryz.underlying22 Tryz.sizeOf46 Tryz.zeroValue46 rfl (by decide) (fun _ => rfl) (fun _ => rfl) (.cons (.tmp rfl) .nil) rfl) rfl rfl rfl rfl ?_
       rintro _ w15 ⟨B95, cB95, rfl, NB95, yB95, xB95⟩
       have eB95 := NB95.at_
       have zB95 := NB95.size
       replace hS := hS.up NB95.up
       have hE95 := xB95
       refine LW.r (REv.appendF (enc := Fact.cells) (bytes := 160) (i := Tryz.t46) Tryz.underlying22 (by kernel_rfl) rfl rfl rfl rfl (by decide) (fun _ => rfl) Fact.one (.tmp rfl) (.tmp rfl) (hS.own 0 rfl) (Sl.of_els hE95) (by have := hsl; simp [maxLen]; omega) (by have := hsl; simp; omega)) rfl rfl rfl rfl ?_
       intro v96 w16 Gw16
       have zw16 := Gw16.fr.size
       replace hS := hS.stp 0 rfl Gw16
       change Wx.Sep _ _ _ [_, _, _] at hS
       refine LW.p (PEv.assign (.tmp rfl)) rfl rfl rfl (LW.nil (KW.inBlock (KW.then (CW.region (LW.p (PEv.move (.tmp rfl)) rfl rfl rfl ?_)))))
       refine LW.p (PEv.inc (.tmp rfl) (by omega)) rfl rfl rfl ?_
       refine LW.p (PEv.assign (.tmp rfl)) rfl rfl rfl (LW.nil (KW.round ?_))
       exact ⟨(k + 1, v96), ⟨⟨by show k + 1 ≤ _; omega, by show k + 1 ≤ _; omega⟩, by rw [someL_step hy hkl.2]; exact hS.take 1⟩, ⟨rfl, rfl, rfl, rfl, trivial⟩, by show xs.length - (k + 1) < xs.length - k; omega⟩
      ·first | replace h62 := of_decide_eq_true h62 | replace h62 := of_decide_eq_false h62 | skip
       refine CW.seq (CW.region ?_)
       refine LW.p (PEv.eql (.tmp rfl) (.const _)) rfl rfl rfl ?_
       refine LW.p (PEv.assign (.tmp rfl)) rfl rfl rfl (LW.nil (KW.then ?_))
       refine CW.cond (.tmp rfl) (fun h81 => ?_) (fun h81 => ?_)
       ·first | replace h81 := of_decide_eq_true h81 | replace h81 := of_decide_eq_false h81 | skip
        refine CW.seq (CW.region ?_)
        refine LW.p (PEv.fieldAddr (off := 0) Tryz.underlying46 rfl rfl Tryz.sizeOf3 rfl (.tmp rfl)) rfl rfl rfl ?_
        refine LW.s (SEv.store Tryz.sizeOf3 (.tmp rfl) (.const _) rfl (hS.blk 2 rfl) (Nat.le_of_ble_eq_true rfl)) rfl rfl rfl ?_
        intro w17 Nw17
        have zw17 := Nw17.size
        replace hS := hS.putB 2 rfl (show Set_ _ w17 _ (({ someB y with Kind := 3 } : Fact).cells) _ from Nw17)
        change Wx.Sep _ _ _ [_, _, _] at hS
        refine LW.nil (KW.then ?_)
        refine CW.draws_then 8 (by kernel_rfl) (by kernel_rfl) (by kernel_rfl) (by kernel_rfl) (by kernel_rfl) rfl rfl ?_
        refine HW.p (PEv.fieldAddr (off := 7) Tryz.underlying46 rfl rfl Tryz.sizeOf3 rfl (.tmp rfl)) rfl rfl ?_
        refine HW.p (PEv.load Tryz.isAgg3 (.tmp rfl) ((hS.blk 2 rfl).celln rfl)) rfl rfl ?_
        refine HW.p (PEv.indexArr (j := 5) Tryz.underlying67 Tryz.sizeOf3 (.tmp rfl) (.const _) (by decide)) rfl rfl ?_
        refine HW.p (PEv.load Tryz.isAgg3 (.tmp rfl) ((hS.blk 1 rfl).celln rfl)) rfl rfl ?_
        refine HW.c (fun a w _ ha => enter_call0 (.cons (.tmp rfl) (.cons (.const _) .nil)) (Tryz.en37) a ha) rfl rfl (fun w hu => pickR_any _ _ w (by decide)) ?_
        refine HW.p (PEv.add_w (.tmp rfl) (.tmp rfl)) rfl rfl ?_
        refine HW.p (PEv.rem (.tmp rfl) (.const _) (by decide)) rfl rfl ?_
        refine HW.p (PEv.add_w (.const _) (.tmp rfl)) rfl rfl ?_
        refine HW.nil ?_
        intro w18 uw18
        have zw18 := uw18.size
        replace hS := hS.up uw18
        refine LW.p (PEv.fieldAddr (off := 8) Tryz.underlying46 rfl rfl Tryz.sizeOf3 rfl (.tmp rfl)) rfl rfl rfl ?_
        refine LW.s (SEv.store Tryz.sizeOf3 (.tmp rfl) (.tmp rfl) rfl (hS.blk 2 rfl) (Nat.le_of_ble_eq_true rfl)) rfl rfl rfl ?_
        intro w19 Nw19
        have zw19 := Nw19.size
        replace hS := hS.putB 2 rfl (show Set_ _ w19 _ (({ someB y with Kind := 3, Other := wI (1 + (wI ((someB y).Wafer + pickI y.f 5)).tmod 6) } : Fact).cells) _ from Nw19)
        change Wx.Sep _ _ _ [_, _, _] at hS
        refine LW.nil (KW.inBlock (KW.then ?_))
        first | rw [← someF_p (by omega)] at hS | rw [← someF_s (by omega)] at hS | rw [← someF_l (by omega) (by omega) (by omega)] at hS
        have hsl := someL_len (xs.take k)
        refine CW.region (LW.p (PEv.move (.tmp rfl)) rfl rfl rfl ?_)
        refine LW.p (PEv.loadA Tryz.isAgg46 Tryz.sizeOf46 rfl (.tmp rfl) ((hS.blk 2 rfl).agg)) rfl rfl rfl ?_
        refine LW.r (REv.buildSlice (xs := [someF y]) (enc := Fact.cells) (mk := fun f : Fact => .agg f.cells) Tryz.underlying22 Tryz.sizeOf46 Tryz.zeroValue46 rfl (by decide) (fun _ => rfl) (fun _ => rfl) (.cons (.tmp rfl) .nil) rfl) rfl rfl rfl rfl ?_
        rintro _ w20 ⟨B95, cB95, rfl, NB95, yB95, xB95⟩
        have eB95 := NB95.at_
        have zB95 := NB95.size
        replace hS := hS.up NB95.up
        have hE95 := xB95
        refine LW.r (REv.appendF (enc := Fact.cells) (bytes := 160) (i := Tryz.t46) Tryz.underlying22 (by kernel_rfl) rfl rfl rfl rfl (by decide) (fun _ => rfl) Fact.one (.tmp rfl) (.tmp rfl) (hS.own 0 rfl) (Sl.of_els hE95) (by have := hsl; simp [maxLen]; omega) (by have := hsl; simp; omega)) rfl rfl rfl rfl ?_
        intro v96 w21 Gw21
        have zw21 := Gw21.fr.size
        replace hS := hS.stp 0 rfl Gw21
        change Wx.Sep _ _ _ [_, _, _] at hS
        refine LW.p (PEv.assign (.tmp rfl)) rfl rfl rfl (LW.nil (KW.inBlock (KW.then (CW.region (LW.p (PEv.move (.tmp rfl)) rfl rfl rfl ?_)))))
        refine LW.p (PEv.inc (.tmp rfl) (by omega)) rfl rfl rfl ?_
        refine LW.p (PEv.assign (.tmp rfl)) rfl rfl rfl (LW.nil (KW.round ?_))
        exact ⟨(k + 1, v96), ⟨⟨by show k + 1 ≤ _; omega, by show k + 1 ≤ _; omega⟩, by rw [someL_step hy hkl.2]; exact hS.take 1⟩, ⟨rfl, rfl, rfl, rfl, trivial⟩, by show xs.length - (k + 1) < xs.length - k; omega⟩
       ·first | replace h81 := of_decide_eq_true h81 | replace h81 := of_decide_eq_false h81 | skip
        refine CW.seq (CW.region ?_)
        refine LW.p (PEv.fieldAddr (off := 0) Tryz.underlying46 rfl rfl Tryz.sizeOf3 rfl (.tmp rfl)) rfl rfl rfl ?_
        refine LW.s (SEv.store Tryz.sizeOf3 (.tmp rfl) (.const _) rfl (hS.blk 2 rfl) (Nat.le_of_ble_eq_true rfl)) rfl rfl rfl ?_
        intro w22 Nw22
        have zw22 := Nw22.size
        replace hS := hS.putB 2 rfl (show Set_ _ w22 _ (({ someB y with Kind := 4 } : Fact).cells) _ from Nw22)
        change Wx.Sep _ _ _ [_, _, _] at hS
        refine LW.nil (KW.then (CW.seq (CW.region ?_)))
        refine LW.p (PEv.fieldAddr (off := 1) Tryz.underlying46 rfl rfl Tryz.sizeOf3 rfl (.tmp rfl)) rfl rfl rfl ?_
        refine LW.s (SEv.store Tryz.sizeOf3 (.tmp rfl) (.const _) rfl (hS.blk 2 rfl) (Nat.le_of_ble_eq_true rfl)) rfl rfl rfl ?_
        intro w23 Nw23
        have zw23 := Nw23.size
        replace hS := hS.putB 2 rfl (show Set_ _ w23 _ (({ someB y with Kind := 4, ID := 0 } : Fact).cells) _ from Nw23)
        change Wx.Sep _ _ _ [_, _, _] at hS
        refine LW.nil (KW.then (CW.seq (CW.region ?_)))
        refine LW.p (PEv.indexArr (j := 5) Tryz.underlying67 Tryz.sizeOf3 (.tmp rfl) (.const _) (by decide)) rfl rfl rfl ?_
        refine LW.p (PEv.load Tryz.isAgg3 (.tmp rfl) ((hS.blk 1 rfl).celln rfl)) rfl rfl rfl ?_
        refine LW.c (enter_call0 (.cons (.tmp rfl) (.cons (.const _) .nil)) (Tryz.en37)) rfl rfl rfl rfl (pickR_any _ _ _ (by decide)) ?_
        rintro _ w24 ⟨rfl, uw24⟩
        have zw24 := uw24.size
        replace hS := hS.up uw24
        refine LW.p (PEv.add_w (.const _) (.tmp rfl)) rfl rfl rfl ?_
        refine LW.p (PEv.fieldAddr (off := 9) Tryz.underlying46 rfl rfl Tryz.sizeOf3 rfl (.tmp rfl)) rfl rfl rfl ?_
        refine LW.s (SEv.store Tryz.sizeOf3 (.tmp rfl) (.tmp rfl) rfl (hS.blk 2 rfl) (Nat.le_of_ble_eq_true rfl)) rfl rfl rfl ?_
        intro w25 Nw25
        have zw25 := Nw25.size
        replace hS := hS.putB 2 rfl (show Set_ _ w25 _ (({ someB y with Kind := 4, ID := 0, Lot := wI (1 + pickI y.f 3) } : Fact).cells) _ from Nw25)
        change Wx.Sep _ _ _ [_, _, _] at hS
        refine LW.nil (KW.then (CW.region ?_))
        refine LW.p (PEv.indexArr (j := 5) Tryz.underlying67 Tryz.sizeOf3 (.tmp rfl) (.const _) (by decide)) rfl rfl rfl ?_
        refine LW.p (PEv.load Tryz.isAgg3 (.tmp rfl) ((hS.blk 1 rfl).celln rfl)) rfl rfl rfl ?_
        refine LW.p (PEv.quo (.tmp rfl) (.const _) (by decide)) rfl rfl rfl ?_
        refine LW.c (enter_call0 (.cons (.tmp rfl) (.cons (.const _) .nil)) (Tryz.en37)) rfl rfl rfl rfl (pickR_any _ _ _ (by decide)) ?_
        rintro _ w26 ⟨rfl, uw26⟩
        have zw26 := uw26.size
        replace hS := hS.up uw26
        refine LW.p (PEv.add_w (.const _) (.tmp rfl)) rfl rfl rfl ?_
        refine LW.p (PEv.fieldAddr (off := 10) Tryz.underlying46 rfl rfl Tryz.sizeOf3 rfl (.tmp rfl)) rfl rfl rfl ?_
        refine LW.s (SEv.store Tryz.sizeOf3 (.tmp rfl) (.tmp rfl) rfl (hS.blk 2 rfl) (Nat.le_of_ble_eq_true rfl)) rfl rfl rfl ?_
        intro w27 Nw27
        have zw27 := Nw27.size
        replace hS := hS.putB 2 rfl (show Set_ _ w27 _ (({ someB y with Kind := 4, ID := 0, Lot := wI (1 + pickI y.f 3), Product := wI (1 + pickI (wI (y.f.tdiv 3)) 2) } : Fact).cells) _ from Nw27)
        change Wx.Sep _ _ _ [_, _, _] at hS
        refine LW.nil (KW.inBlock (KW.then ?_))
        first | rw [← someF_p (by omega)] at hS | rw [← someF_s (by omega)] at hS | rw [← someF_l (by omega) (by omega) (by omega)] at hS
        have hsl := someL_len (xs.take k)
        refine CW.region (LW.p (PEv.move (.tmp rfl)) rfl rfl rfl ?_)
        refine LW.p (PEv.loadA Tryz.isAgg46 Tryz.sizeOf46 rfl (.tmp rfl) ((hS.blk 2 rfl).agg)) rfl rfl rfl ?_
        refine LW.r (REv.buildSlice (xs := [someF y]) (enc := Fact.cells) (mk := fun f : Fact => .agg f.cells) Tryz.underlying22 Tryz.sizeOf46 Tryz.zeroValue46 rfl (by decide) (fun _ => rfl) (fun _ => rfl) (.cons (.tmp rfl) .nil) rfl) rfl rfl rfl rfl ?_
        rintro _ w28 ⟨B95, cB95, rfl, NB95, yB95, xB95⟩
        have eB95 := NB95.at_
        have zB95 := NB95.size
        replace hS := hS.up NB95.up
        have hE95 := xB95
        refine LW.r (REv.appendF (enc := Fact.cells) (bytes := 160) (i := Tryz.t46) Tryz.underlying22 (by kernel_rfl) rfl rfl rfl rfl (by decide) (fun _ => rfl) Fact.one (.tmp rfl) (.tmp rfl) (hS.own 0 rfl) (Sl.of_els hE95) (by have := hsl; simp [maxLen]; omega) (by have := hsl; simp; omega)) rfl rfl rfl rfl ?_
        intro v96 w29 Gw29
        have zw29 := Gw29.fr.size
        replace hS := hS.stp 0 rfl Gw29
        change Wx.Sep _ _ _ [_, _, _] at hS
        refine LW.p (PEv.assign (.tmp rfl)) rfl rfl rfl (LW.nil (KW.inBlock (KW.then (CW.region (LW.p (PEv.move (.tmp rfl)) rfl rfl rfl ?_)))))
        refine LW.p (PEv.inc (.tmp rfl) (by omega)) rfl rfl rfl ?_
        refine LW.p (PEv.assign (.tmp rfl)) rfl rfl rfl (LW.nil (KW.round ?_))
        exact ⟨(k + 1, v96), ⟨⟨by show k + 1 ≤ _; omega, by show k + 1 ≤ _; omega⟩, by rw [someL_step hy hkl.2]; exact hS.take 1⟩, ⟨rfl, rfl, rfl, rfl, trivial⟩, by show xs.length - (k + 1) < xs.length - k; omega⟩
     ·first | replace h62 := of_decide_eq_true h62 | replace h62 := of_decide_eq_false h62 | skip
      refine CW.region ?_
      refine LW.p (PEv.eql (.tmp rfl) (.const _)) rfl rfl rfl ?_
      refine LW.p (PEv.assign (.tmp rfl)) rfl rfl rfl (LW.nil (KW.then ?_))
      refine CW.cond (.tmp rfl) (fun h62 => ?_) (fun h62 => ?_)
      ·first | replace h62 := of_decide_eq_true h62 | replace h62 := of_decide_eq_false h62 | skip
       refine CW.seq (CW.region ?_)
       refine LW.p (PEv.fieldAddr (off := 0) Tryz.underlying46 rfl rfl Tryz.sizeOf3 rfl (.tmp rfl)) rfl rfl rfl ?_
       refine LW.s (SEv.store Tryz.sizeOf3 (.tmp rfl) (.const _) rfl (hS.blk 2 rfl) (Nat.le_of_ble_eq_true rfl)) rfl rfl rfl ?_
       intro w30 Nw30
       have zw30 := Nw30.size
       replace hS := hS.putB 2 rfl (show Set_ _ w30 _ (({ someB y with Kind := 1 } : Fact).cells) _ from Nw30)
       change Wx.Sep _ _ _ [_, _, _] at hS
       refine LW.nil (KW.then (CW.seq (CW.region ?_)))
       refine LW.p (PEv.indexArr (j := 5) Tryz.underlying67 Tryz.sizeOf3 (.tmp rfl) (.const _) (by decide)) rfl rfl rfl ?_
       refine LW.p (PEv.load Tryz.isAgg3 (.tmp rfl) ((hS.blk 1 rfl).celln rfl)) rfl rfl rfl ?_
       refine LW.c (enter_call0 (.cons (.tmp rfl) (.cons (.const _) .nil)) (Tryz.en37)) rfl rfl rfl rfl (pickR_any _ _ _ (by decide)) ?_
       rintro _ w31 ⟨rfl, uw31⟩
       have zw31 := uw31.size
       replace hS := hS.up uw31
       refine LW.p (PEv.fieldAddr (off := 11) Tryz.underlying46 rfl rfl Tryz.sizeOf3 rfl (.tmp rfl)) rfl rfl rfl ?_
       refine LW.s (SEv.store Tryz.sizeOf3 (.tmp rfl) (.tmp rfl) rfl (hS.blk 2 rfl) (Nat.le_of_ble_eq_true rfl)) rfl rfl rfl ?_
       intro w32 Nw32
       have zw32 := Nw32.size
       replace hS := hS.putB 2 rfl (show Set_ _ w32 _ (({ someB y with Kind := 1, Tool := pickI y.f 3 } : Fact).cells) _ from Nw32)
       change Wx.Sep _ _ _ [_, _, _] at hS
       refine LW.nil (KW.then (CW.seq (CW.region ?_)))
       refine LW.p (PEv.indexArr (j := 5) Tryz.underlying67 Tryz.sizeOf3 (.tmp rfl) (.const _) (by decide)) rfl rfl rfl ?_
       refine LW.p (PEv.load Tryz.isAgg3 (.tmp rfl) ((hS.blk 1 rfl).celln rfl)) rfl rfl rfl ?_
       refine LW.p (PEv.quo (.tmp rfl) (.const _) (by decide)) rfl rfl rfl ?_
       refine LW.c (enter_call0 (.cons (.tmp rfl) (.cons (.const _) .nil)) (Tryz.en37)) rfl rfl rfl rfl (pickR_any _ _ _ (by decide)) ?_
       rintro _ w33 ⟨rfl, uw33⟩
       have zw33 := uw33.size
       replace hS := hS.up uw33
       refine LW.p (PEv.fieldAddr (off := 13) Tryz.underlying46 rfl rfl Tryz.sizeOf3 rfl (.tmp rfl)) rfl rfl rfl ?_
       refine LW.s (SEv.store Tryz.sizeOf3 (.tmp rfl) (.tmp rfl) rfl (hS.blk 2 rfl) (Nat.le_of_ble_eq_true rfl)) rfl rfl rfl ?_
       intro w34 Nw34
       have zw34 := Nw34.size
       replace hS := hS.putB 2 rfl (show Set_ _ w34 _ (({ someB y with Kind := 1, Tool := pickI y.f 3, Step := pickI (wI (y.f.tdiv 3)) 4 } : Fact).cells) _ from Nw34)
       change Wx.Sep _ _ _ [_, _, _] at hS
       refine LW.nil (KW.then (CW.seq (CW.region ?_)))
       refine LW.p (PEv.fieldAddr (off := 14) Tryz.underlying46 rfl rfl Tryz.sizeOf3 rfl (.tmp rfl)) rfl rfl rfl ?_
       refine LW.s (SEv.store Tryz.sizeOf3 (.tmp rfl) (.const _) rfl (hS.blk 2 rfl) (Nat.le_of_ble_eq_true rfl)) rfl rfl rfl ?_
       intro w35 Nw35
       have zw35 := Nw35.size
       replace hS := hS.putB 2 rfl (show Set_ _ w35 _ (({ someB y with Kind := 1, Tool := pickI y.f 3, Step := pickI (wI (y.f.tdiv 3)) 4, Recipe := 1 } : Fact).cells) _ from Nw35)
       change Wx.Sep _ _ _ [_, _, _] at hS
       refine LW.nil (KW.then (CW.seq (CW.region ?_)))
       refine LW.p (PEv.fieldAddr (off := 15) Tryz.underlying46 rfl rfl Tryz.sizeOf3 rfl (.tmp rfl)) rfl rfl rfl ?_
       refine LW.s (SEv.store Tryz.sizeOf3 (.tmp rfl) (.const _) rfl (hS.blk 2 rfl) (Nat.le_of_ble_eq_true rfl)) rfl rfl rfl ?_
       intro w36 Nw36
       have zw36 := Nw36.size
       replace hS := hS.putB 2 rfl (show Set_ _ w36 _ (({ someB y with Kind := 1, Tool := pickI y.f 3, Step := pickI (wI (y.f.tdiv 3)) 4, Recipe := 1, Revision := 1 } : Fact).cells) _ from Nw36)
       change Wx.Sep _ _ _ [_, _, _] at hS
       refine LW.nil (KW.then (CW.region ?_))
       refine LW.p (PEv.fieldAddr (off := 5) Tryz.underlying46 rfl rfl Tryz.sizeOf3 rfl (.tmp rfl)) rfl rfl rfl ?_
       refine LW.p (PEv.load Tryz.isAgg3 (.tmp rfl) ((hS.blk 2 rfl).celln rfl)) rfl rfl rfl ?_
       refine LW.p (PEv.add_w (.tmp rfl) (.const _)) rfl rfl rfl ?_
       refine LW.p (PEv.fieldAddr (off := 6) Tryz.underlying46 rfl rfl Tryz.sizeOf3 rfl (.tmp rfl)) rfl rfl rfl ?_
       refine LW.s (SEv.store Tryz.sizeOf3 (.tmp rfl) (.tmp rfl) rfl (hS.blk 2 rfl) (Nat.le_of_ble_eq_true rfl)) rfl rfl rfl ?_
       intro w37 Nw37
       have zw37 := Nw37.size
       replace hS := hS.putB 2 rfl (show Set_ _ w37 _ (({ someB y with Kind := 1, Tool := pickI y.f 3, Step := pickI (wI (y.f.tdiv 3)) 4, Recipe := 1, Revision := 1, Until := wI ((someB y).Time + 5) } : Fact).cells) _ from Nw37)
       change Wx.Sep _ _ _ [_, _, _] at hS
       refine LW.nil (KW.inBlock (KW.then ?_))
       first | rw [← someF_p (by omega)] at hS | rw [← someF_s (by omega)] at hS | rw [← someF_l (by omega) (by omega) (by omega)] at hS
       have hsl := someL_len (xs.take k)
       refine CW.region (LW.p (PEv.move (.tmp rfl)) rfl rfl rfl ?_)
       refine LW.p (PEv.loadA Tryz.isAgg46 Tryz.sizeOf46 rfl (.tmp rfl) ((hS.blk 2 rfl).agg)) rfl rfl rfl ?_
       refine LW.r (REv.buildSlice (xs := [someF y]) (enc := Fact.cells) (mk := fun f : Fact => .agg f.cells) Tryz.underlying22 Tryz.sizeOf46 Tryz.zeroValue46 rfl (by decide) (fun _ => rfl) (fun _ => rfl) (.cons (.tmp rfl) .nil) rfl) rfl rfl rfl rfl ?_
       rintro _ w38 ⟨B95, cB95, rfl, NB95, yB95, xB95⟩
       have eB95 := NB95.at_
       have zB95 := NB95.size
       replace hS := hS.up NB95.up
       have hE95 := xB95
       refine LW.r (REv.appendF (enc := Fact.cells) (bytes := 160) (i := Tryz.t46) Tryz.underlying22 (by kernel_rfl) rfl rfl rfl rfl (by decide) (fun _ => rfl) Fact.one (.tmp rfl) (.tmp rfl) (hS.own 0 rfl) (Sl.of_els hE95) (by have := hsl; simp [maxLen]; omega) (by have := hsl; simp; omega)) rfl rfl rfl rfl ?_
       intro v96 w39 Gw39
       have zw39 := Gw39.fr.size
       replace hS := hS.stp 0 rfl Gw39
       change Wx.Sep _ _ _ [_, _, _] at hS
       refine LW.p (PEv.assign (.tmp rfl)) rfl rfl rfl (LW.nil (KW.inBlock (KW.then (CW.region (LW.p (PEv.move (.tmp rfl)) rfl rfl rfl ?_)))))
       refine LW.p (PEv.inc (.tmp rfl) (by omega)) rfl rfl rfl ?_
       refine LW.p (PEv.assign (.tmp rfl)) rfl rfl rfl (LW.nil (KW.round ?_))
       exact ⟨(k + 1, v96), ⟨⟨by show k + 1 ≤ _; omega, by show k + 1 ≤ _; omega⟩, by rw [someL_step hy hkl.2]; exact hS.take 1⟩, ⟨rfl, rfl, rfl, rfl, trivial⟩, by show xs.length - (k + 1) < xs.length - k; omega⟩
      ·first | replace h62 := of_decide_eq_true h62 | replace h62 := of_decide_eq_false h62 | skip
       refine CW.seq (CW.region ?_)
       refine LW.p (PEv.eql (.tmp rfl) (.const _)) rfl rfl rfl ?_
       refine LW.p (PEv.assign (.tmp rfl)) rfl rfl rfl (LW.nil (KW.then ?_))
       refine CW.cond (.tmp rfl) (fun h81 => ?_) (fun h81 => ?_)
       ·first | replace h81 := of_decide_eq_true h81 | replace h81 := of_decide_eq_false h81 | skip
        refine CW.seq (CW.region ?_)
        refine LW.p (PEv.fieldAddr (off := 0) Tryz.underlying46 rfl rfl Tryz.sizeOf3 rfl (.tmp rfl)) rfl rfl rfl ?_
        refine LW.s (SEv.store Tryz.sizeOf3 (.tmp rfl) (.const _) rfl (hS.blk 2 rfl) (Nat.le_of_ble_eq_true rfl)) rfl rfl rfl ?_
        intro w40 Nw40
        have zw40 := Nw40.size
        replace hS := hS.putB 2 rfl (show Set_ _ w40 _ (({ someB y with Kind := 3 } : Fact).cells) _ from Nw40)
        change Wx.Sep _ _ _ [_, _, _] at hS
        refine LW.nil (KW.then ?_)
        refine CW.draws_then 8 (by kernel_rfl) (by kernel_rfl) (by kernel_rfl) (by kernel_rfl) (by kernel_rfl) rfl rfl ?_
        refine HW.p (PEv.fieldAddr (off := 7) Tryz.underlying46 rfl rfl Tryz.sizeOf3 rfl (.tmp rfl)) rfl rfl ?_
        refine HW.p (PEv.load Tryz.isAgg3 (.tmp rfl) ((hS.blk 2 rfl).celln rfl)) rfl rfl ?_
        refine HW.p (PEv.indexArr (j := 5) Tryz.underlying67 Tryz.sizeOf3 (.tmp rfl) (.const _) (by decide)) rfl rfl ?_
        refine HW.p (PEv.load Tryz.isAgg3 (.tmp rfl) ((hS.blk 1 rfl).celln rfl)) rfl rfl ?_
        refine HW.c (fun a w _ ha => enter_call0 (.cons (.tmp rfl) (.cons (.const _) .nil)) (Tryz.en37) a ha) rfl rfl (fun w hu => pickR_any _ _ w (by decide)) ?_
        refine HW.p (PEv.add_w (.tmp rfl) (.tmp rfl)) rfl rfl ?_
        refine HW.p (PEv.rem (.tmp rfl) (.const _) (by decide)) rfl rfl ?_
        refine HW.p (PEv.add_w (.const _) (.tmp rfl)) rfl rfl ?_
        refine HW.nil ?_
        intro w41 uw41
        have zw41 := uw41.size
        replace hS := hS.up uw41
        refine LW.p (PEv.fieldAddr (off := 8) Tryz.underlying46 rfl rfl Tryz.sizeOf3 rfl (.tmp rfl)) rfl rfl rfl ?_
        refine LW.s (SEv.store Tryz.sizeOf3 (.tmp rfl) (.tmp rfl) rfl (hS.blk 2 rfl) (Nat.le_of_ble_eq_true rfl)) rfl rfl rfl ?_
        intro w42 Nw42
        have zw42 := Nw42.size
        replace hS := hS.putB 2 rfl (show Set_ _ w42 _ (({ someB y with Kind := 3, Other := wI (1 + (wI ((someB y).Wafer + pickI y.f 5)).tmod 6) } : Fact).cells) _ from Nw42)
        change Wx.Sep _ _ _ [_, _, _] at hS
        refine LW.nil (KW.inBlock (KW.then ?_))
        first | rw [← someF_p (by omega)] at hS | rw [← someF_s (by omega)] at hS | rw [← someF_l (by omega) (by omega) (by omega)] at hS
        have hsl := someL_len (xs.take k)
        refine CW.region (LW.p (PEv.move (.tmp rfl)) rfl rfl rfl ?_)
        refine LW.p (PEv.loadA Tryz.isAgg46 Tryz.sizeOf46 rfl (.tmp rfl) ((hS.blk 2 rfl).agg)) rfl rfl rfl ?_
        refine LW.r (REv.buildSlice (xs := [someF y]) (enc := Fact.cells) (mk := fun f : Fact => .agg f.cells) Tryz.underlying22 Tryz.sizeOf46 Tryz.zeroValue46 rfl (by decide) (fun _ => rfl) (fun _ => rfl) (.cons (.tmp rfl) .nil) rfl) rfl rfl rfl rfl ?_
        rintro _ w43 ⟨B95, cB95, rfl, NB95, yB95, xB95⟩
        have eB95 := NB95.at_
        have zB95 := NB95.size
        replace hS := hS.up NB95.up
        have hE95 := xB95
        refine LW.r (REv.appendF (enc := Fact.cells) (bytes := 160) (i := Tryz.t46) Tryz.underlying22 (by kernel_rfl) rfl rfl rfl rfl (by decide) (fun _ => rfl) Fact.one (.tmp rfl) (.tmp rfl) (hS.own 0 rfl) (Sl.of_els hE95) (by have := hsl; simp [maxLen]; omega) (by have := hsl; simp; omega)) rfl rfl rfl rfl ?_
        intro v96 w44 Gw44
        have zw44 := Gw44.fr.size
        replace hS := hS.stp 0 rfl Gw44
        change Wx.Sep _ _ _ [_, _, _] at hS
        refine LW.p (PEv.assign (.tmp rfl)) rfl rfl rfl (LW.nil (KW.inBlock (KW.then (CW.region (LW.p (PEv.move (.tmp rfl)) rfl rfl rfl ?_)))))
        refine LW.p (PEv.inc (.tmp rfl) (by omega)) rfl rfl rfl ?_
        refine LW.p (PEv.assign (.tmp rfl)) rfl rfl rfl (LW.nil (KW.round ?_))
        exact ⟨(k + 1, v96), ⟨⟨by show k + 1 ≤ _; omega, by show k + 1 ≤ _; omega⟩, by rw [someL_step hy hkl.2]; exact hS.take 1⟩, ⟨rfl, rfl, rfl, rfl, trivial⟩, by show xs.length - (k + 1) < xs.length - k; omega⟩
       ·first | replace h81 := of_decide_eq_true h81 | replace h81 := of_decide_eq_false h81 | skip
        refine CW.seq (CW.region ?_)
        refine LW.p (PEv.fieldAddr (off := 0) Tryz.underlying46 rfl rfl Tryz.sizeOf3 rfl (.tmp rfl)) rfl rfl rfl ?_
        refine LW.s (SEv.store Tryz.sizeOf3 (.tmp rfl) (.const _) rfl (hS.blk 2 rfl) (Nat.le_of_ble_eq_true rfl)) rfl rfl rfl ?_
        intro w45 Nw45
        have zw45 := Nw45.size
        replace hS := hS.putB 2 rfl (show Set_ _ w45 _ (({ someB y with Kind := 4 } : Fact).cells) _ from Nw45)
        change Wx.Sep _ _ _ [_, _, _] at hS
        refine LW.nil (KW.then (CW.seq (CW.region ?_)))
        refine LW.p (PEv.fieldAddr (off := 1) Tryz.underlying46 rfl rfl Tryz.sizeOf3 rfl (.tmp rfl)) rfl rfl rfl ?_
        refine LW.s (SEv.store Tryz.sizeOf3 (.tmp rfl) (.const _) rfl (hS.blk 2 rfl) (Nat.le_of_ble_eq_true rfl)) rfl rfl rfl ?_
        intro w46 Nw46
        have zw46 := Nw46.size
        replace hS := hS.putB 2 rfl (show Set_ _ w46 _ (({ someB y with Kind := 4, ID := 0 } : Fact).cells) _ from Nw46)
        change Wx.Sep _ _ _ [_, _, _] at hS
        refine LW.nil (KW.then (CW.seq (CW.region ?_)))
        refine LW.p (PEv.indexArr (j := 5) Tryz.underlying67 Tryz.sizeOf3 (.tmp rfl) (.const _) (by decide)) rfl rfl rfl ?_
        refine LW.p (PEv.load Tryz.isAgg3 (.tmp rfl) ((hS.blk 1 rfl).celln rfl)) rfl rfl rfl ?_
        refine LW.c (enter_call0 (.cons (.tmp rfl) (.cons (.const _) .nil)) (Tryz.en37)) rfl rfl rfl rfl (pickR_any _ _ _ (by decide)) ?_
        rintro _ w47 ⟨rfl, uw47⟩
        have zw47 := uw47.size
        replace hS := hS.up uw47
        refine LW.p (PEv.add_w (.const _) (.tmp rfl)) rfl rfl rfl ?_
        refine LW.p (PEv.fieldAddr (off := 9) Tryz.underlying46 rfl rfl Tryz.sizeOf3 rfl (.tmp rfl)) rfl rfl rfl ?_
        refine LW.s (SEv.store Tryz.sizeOf3 (.tmp rfl) (.tmp rfl) rfl (hS.blk 2 rfl) (Nat.le_of_ble_eq_true rfl)) rfl rfl rfl ?_
        intro w48 Nw48
        have zw48 := Nw48.size
        replace hS := hS.putB 2 rfl (show Set_ _ w48 _ (({ someB y with Kind := 4, ID := 0, Lot := wI (1 + pickI y.f 3) } : Fact).cells) _ from Nw48)
        change Wx.Sep _ _ _ [_, _, _] at hS
        refine LW.nil (KW.then (CW.region ?_))
        refine LW.p (PEv.indexArr (j := 5) Tryz.underlying67 Tryz.sizeOf3 (.tmp rfl) (.const _) (by decide)) rfl rfl rfl ?_
        refine LW.p (PEv.load Tryz.isAgg3 (.tmp rfl) ((hS.blk 1 rfl).celln rfl)) rfl rfl rfl ?_
        refine LW.p (PEv.quo (.tmp rfl) (.const _) (by decide)) rfl rfl rfl ?_
        refine LW.c (enter_call0 (.cons (.tmp rfl) (.cons (.const _) .nil)) (Tryz.en37)) rfl rfl rfl rfl (pickR_any _ _ _ (by decide)) ?_
        rintro _ w49 ⟨rfl, uw49⟩
        have zw49 := uw49.size
        replace hS := hS.up uw49
        refine LW.p (PEv.add_w (.const _) (.tmp rfl)) rfl rfl rfl ?_
        refine LW.p (PEv.fieldAddr (off := 10) Tryz.underlying46 rfl rfl Tryz.sizeOf3 rfl (.tmp rfl)) rfl rfl rfl ?_
        refine LW.s (SEv.store Tryz.sizeOf3 (.tmp rfl) (.tmp rfl) rfl (hS.blk 2 rfl) (Nat.le_of_ble_eq_true rfl)) rfl rfl rfl ?_
        intro w50 Nw50
        have zw50 := Nw50.size
        replace hS := hS.putB 2 rfl (show Set_ _ w50 _ (({ someB y with Kind := 4, ID := 0, Lot := wI (1 + pickI y.f 3), Product := wI (1 + pickI (wI (y.f.tdiv 3)) 2) } : Fact).cells) _ from Nw50)
        change Wx.Sep _ _ _ [_, _, _] at hS
        refine LW.nil (KW.inBlock (KW.then ?_))
        first | rw [← someF_p (by omega)] at hS | rw [← someF_s (by omega)] at hS | rw [← someF_l (by omega) (by omega) (by omega)] at hS
        have hsl := someL_len (xs.take k)
        refine CW.region (LW.p (PEv.move (.tmp rfl)) rfl rfl rfl ?_)
        refine LW.p (PEv.loadA Tryz.isAgg46 Tryz.sizeOf46 rfl (.tmp rfl) ((hS.blk 2 rfl).agg)) rfl rfl rfl ?_
        refine LW.r (REv.buildSlice (xs := [someF y]) (enc := Fact.cells) (mk := fun f : Fact => .agg f.cells) Tryz.underlying22 Tryz.sizeOf46 Tryz.zeroValue46 rfl (by decide) (fun _ => rfl) (fun _ => rfl) (.cons (.tmp rfl) .nil) rfl) rfl rfl rfl rfl ?_
        rintro _ w51 ⟨B95, cB95, rfl, NB95, yB95, xB95⟩
        have eB95 := NB95.at_
        have zB95 := NB95.size
        replace hS := hS.up NB95.up
        have hE95 := xB95
        refine LW.r (REv.appendF (enc := Fact.cells) (bytes := 160) (i := Tryz.t46) Tryz.underlying22 (by kernel_rfl) rfl rfl rfl rfl (by decide) (fun _ => rfl) Fact.one (.tmp rfl) (.tmp rfl) (hS.own 0 rfl) (Sl.of_els hE95) (by have := hsl; simp [maxLen]; omega) (by have := hsl; simp; omega)) rfl rfl rfl rfl ?_
        intro v96 w52 Gw52
        have zw52 := Gw52.fr.size
        replace hS := hS.stp 0 rfl Gw52
        change Wx.Sep _ _ _ [_, _, _] at hS
        refine LW.p (PEv.assign (.tmp rfl)) rfl rfl rfl (LW.nil (KW.inBlock (KW.then (CW.region (LW.p (PEv.move (.tmp rfl)) rfl rfl rfl ?_)))))
        refine LW.p (PEv.inc (.tmp rfl) (by omega)) rfl rfl rfl ?_
        refine LW.p (PEv.assign (.tmp rfl)) rfl rfl rfl (LW.nil (KW.round ?_))
        exact ⟨(k + 1, v96), ⟨⟨by show k + 1 ≤ _; omega, by show k + 1 ≤ _; omega⟩, by rw [someL_step hy hkl.2]; exact hS.take 1⟩, ⟨rfl, rfl, rfl, rfl, trivial⟩, by show xs.length - (k + 1) < xs.length - k; omega⟩
   ·first | replace h14 := of_decide_eq_true h14 | replace h14 := of_decide_eq_false h14 | skip
    refine CW.exit (KW.then_exit (KW.then_exit (KW.block_hit (KW.then (CW.seq (CW.region (LW.p (PEv.move (.tmp rfl)) rfl rfl rfl (LW.p (PEv.assign (.tmp rfl)) rfl rfl rfl (LW.nil (KW.then (CW.ret ?_)))))))))))
    refine KW.ret1 rfl rfl ⟨_, rfl, ?_⟩
    rw [someL_end (by simp at h14; omega)] at hS
    exact ⟨OwnS.ofSep hS, hS.upd⟩
end Go.Proofs.YthfjagphcekcbaaGreat
namespace Go.Wx
def exF (k : Nat) (p : Int × Int) : Fact := { zeroF with Kind := 1, Version := 1, ID := ((1 + k : Nat) : Int), Wafer := p.1, Recipe := 1, Revision := 1, Time := p.2, Until := p.2 }
def ePr (p : Int × Int) : Array Go.Value := #[vi p.1, vi p.2]
def exR : List (Int × Int) := [(5, 10), (5, 30), (6, 40)]
def exP : List Fact := [exF 0 (5, 10), exF 1 (5, 30), exF 2 (6, 40)]
def exS : Fact := { zeroF with Kind := 3, Version := 1, ID := 1, Wafer := 5, Other := 6, Time := 20 }
def exL1 : Fact := { zeroF with Kind := 4, Version := 1, Wafer := 5, Lot := 7, Product := 1 }
def exL2 : Fact := { zeroF with Kind := 4, Version := 1, Wafer := 5, Lot := 8, Product := 1, Time := 25 }
def exB : Base := ⟨exP, [], [exS], [exL1, exL2], [], [], [], [], [], [], []⟩
theorem Els.gr {α : Type} {w w' : World} {B base k : Nat} {enc : α → Array Go.Value} {xs : List α} (h : Els w (some ⟨B, 0, none⟩) k enc xs) (g : Grew base w w') (hB : B < base) : Els w' (some ⟨B, 0, none⟩) k enc xs := fun i x hx => by
  obtain ⟨B', o, e, hc⟩ := h i x hx
  cases e
  refine ⟨B, 0, rfl, fun j v hv => ?_⟩
  have h1 := hc j v hv
  have hlt := block_lt_of_cell h1
  unfold World.cell? at h1 ⊢
  rw [g.block B hlt hB]
  exact h1
theorem exP_step {k : Nat} {p : Int × Int} (h : exR[k]? = some p) : exP.take (k + 1) = exP.take k ++ [exF k p] := by
  have hk : k < 3 := (List.getElem?_eq_some_iff.1 h).1
  rcases (by omega : k = 0 ∨ k = 1 ∨ k = 2) with rfl | rfl | rfl <;> (cases h; rfl)
end Go.Wx
namespace Go.Proofs.YthfjagphcekcbaaGreat
open Go.Wx Go.RowKit
set_option maxHeartbeats 4000000 in
theorem example_any (w : World) : Ret Tryz.prog 32 #[] w fun r w' => ∃ bc, r = .agg bc ∧ BaseC w' bc exB ∧ Up w w' := by
  have hW := Up.refl w
  obtain ⟨w0, rfl⟩ : ∃ w0, w0 = w := ⟨_, rfl⟩
  refine Calls_start (n := 37) (m := 9) Tryz.func32 rfl rfl rfl ?_
  refine CW.seq (CW.region ?_)
  refine LW.r (REv.allocA Tryz.zeroValue24) rfl rfl rfl rfl ?_
  rintro _ w1 ⟨B0, rfl, NB0⟩
  have eB0 := NB0.at_
  have zB0 := NB0.size
  replace hW := hW.up NB0.up
  have hB0 := NB0.blk
  refine LW.nil (KW.then (CW.seq (CW.region ?_)))
  refine LW.r (REv.allocA Tryz.zeroValue24) rfl rfl rfl rfl ?_
  rintro _ w2 ⟨B1, rfl, NB1⟩
  have eB1 := NB1.at_
  have zB1 := NB1.size
  replace hW := hW.up NB1.up
  replace hB0 := hB0.up NB1.up
  have hB1 := NB1.blk
  refine LW.nil (KW.then (CW.seq (CW.seq (CW.region ?_))))
  refine LW.p (PEv.buildArr (cs := (ePr (5, 10))) Tryz.underlying85 Tryz.zeroValue85 Tryz.sizeOf3 (.cons (.const _) (.cons (.const _) .nil)) rfl) rfl rfl rfl ?_
  refine LW.p (PEv.buildArr (cs := (ePr (5, 30))) Tryz.underlying85 Tryz.zeroValue85 Tryz.sizeOf3 (.cons (.const _) (.cons (.const _) .nil)) rfl) rfl rfl rfl ?_
  refine LW.p (PEv.buildArr (cs := (ePr (6, 40))) Tryz.underlying85 Tryz.zeroValue85 Tryz.sizeOf3 (.cons (.const _) (.cons (.const _) .nil)) rfl) rfl rfl rfl ?_
  refine LW.r (REv.buildSlice (xs := exR) (enc := ePr) (mk := fun p => .agg (ePr p)) Tryz.underlying86 Tryz.sizeOf85 Tryz.zeroValue85 rfl (by decide) (fun _ => rfl) (fun _ => rfl) (.cons (.tmp rfl) (.cons (.tmp rfl) (.cons (.tmp rfl) .nil))) rfl) rfl rfl rfl rfl ?_
  rintro _ w3 ⟨B7, cB7, rfl, NB7, yB7, xB7⟩
  have eB7 := NB7.at_
  have zB7 := NB7.size
  replace hW := hW.up NB7.up
  replace hB0 := hB0.up NB7.up
  replace hB1 := hB1.up NB7.up
  have hB7 := NB7.blk
  have hE7 := xB7
  refine LW.p (PEv.lenS Tryz.underlying86 (.tmp rfl)) rfl rfl rfl ?_
  refine LW.p (PEv.move (.const _)) rfl rfl rfl ?_
  refine LW.nil (KW.then (CW.block ?_))
  refine CW.loopB (σ := Nat × Go.Value) (fun s w => (s.1 ≤ exR.length) ∧ (Blk w B0 #[.slice none 0 0, .slice none 0 0, .slice none 0 0, .slice none 0 0, .slice none 0 0, .slice none 0 0, .slice none 0 0, .slice none 0 0, .slice none 0 0, .slice none 0 0, .slice none 0 0] 24) ∧ (Blk w B1 #[s.2, .slice none 0 0, .slice none 0 0, .slice none 0 0, .slice none 0 0, .slice none 0 0, .slice none 0 0, .slice none 0 0, .slice none 0 0, .slice none 0 0, .slice none 0 0] 24) ∧ (Els w (some ⟨B7, 0, none⟩) 2 ePr exR) ∧ (OwnS w (B7 + 1) 46 19 Fact.cells s.2 (exP.take s.1)) ∧ (Sz (B7 + 1) w) ∧ (Up w0 w)) (fun s => [(9, .eq (vi (s.1 : Int)))]) ([(0, .eq _), (1, .eq _), (7, .eq _), (8, .eq _)]) (fun s => exR.length - s.1) (0, .slice none 0 0) ?_ ⟨rfl, rfl, rfl, rfl, rfl, trivial⟩ ?_
  ·exact ⟨Nat.zero_le _, hB0, hB1, hE7, OwnS.nil _ _ _ _ _, (show B7 + 1 ≤ _ by omega), hW⟩
  ·rintro ⟨k, v⟩ w4 ⟨hk, hB0, hB1, hE7, hO, hZ7, hW⟩
   dsimp only at hk hB1 hO
   change CW _ _ _ _ _ _ _ ([(9, .eq (vi (k : Int)))] ++ _) _
   refine CW.seq ?_
   skip
   refine CW.region ?_
   refine LW.p (PEv.lss (.tmp rfl) (.tmp rfl)) rfl rfl rfl ?_
   refine LW.nil (KW.then (CW.seq ?_))
   refine CW.cond (.tmp rfl) (fun h10 => ?_) (fun h10 => ?_)
   ·first | replace h10 := of_decide_eq_true h10 | replace h10 := of_decide_eq_false h10 | skip
    refine CW.skip (KW.then (CW.seq (CW.block (CW.seq ?_))))
    have hk3 : k < 3 := by have : exR.length = 3 := rfl; omega
    have z7 : B7 + 1 ≤ _ := hZ7
    refine CW.region (LW.p (PEv.move (.tmp rfl)) rfl rfl rfl ?_)
    obtain ⟨x, hx⟩ := getElem?_of_lt (xs := exR) (i := k) (by omega)
    obtain ⟨Bx, ox, ax, hcx⟩ := hE7 _ x hx
    refine LW.p (PEv.indexAddr' Tryz.underlying86 Tryz.sizeOf85 (.tmp rfl) (.tmp rfl) (by omega) ax) rfl rfl rfl ?_
    refine LW.p (PEv.loadA Tryz.isAgg85 Tryz.sizeOf85 rfl (.tmp rfl) (hcx)) rfl rfl rfl ?_
    refine LW.r (REv.allocA Tryz.zeroValue85) rfl rfl rfl rfl ?_
    rintro _ w5 ⟨B3, rfl, MB3⟩
    refine LW.p (PEv.assign (.tmp rfl)) rfl rfl rfl ?_
    refine LW.s (SEv.storeA Tryz.sizeOf85 rfl (.tmp rfl) (.tmp rfl) (by simp [ePr, Value.oneCell']) MB3.blk rfl) rfl rfl rfl ?_
    intro w6 LB3
    have NB3 := MB3.set LB3
    clear LB3 MB3
    have eB3 := NB3.at_
    have zB3 := NB3.size
    replace hB0 := hB0.up NB3.up
    replace hB1 := hB1.up NB3.up
    replace hE7 := hE7.up NB3.up
    replace hO := hO.up NB3.up
    replace hZ7 := hZ7.up NB3.up
    replace hW := hW.up NB3.up
    replace hcx := hcx.up NB3.up
    have hB3 := NB3.blk
    refine LW.nil (KW.then (CW.region ?_))
    refine LW.p (PEv.fieldAddr (off := 0) Tryz.underlying24 rfl rfl Tryz.sizeOf22 rfl (.tmp rfl)) rfl rfl rfl ?_
    refine LW.p (PEv.load Tryz.isAgg22 (.tmp rfl) (hB1.celln rfl)) rfl rfl rfl ?_
    refine LW.p (PEv.move (.tmp rfl)) rfl rfl rfl ?_
    refine LW.p (PEv.addN (i := 1) (.const _) (.tmp rfl) (by omega)) rfl rfl rfl ?_
    refine LW.p (PEv.indexArr (j := 0) Tryz.underlying85 Tryz.sizeOf3 (.tmp rfl) (.const _) (by decide)) rfl rfl rfl ?_
    refine LW.p (PEv.load Tryz.isAgg3 (.tmp rfl) (hB3.celln rfl)) rfl rfl rfl ?_
    refine LW.p (PEv.indexArr (j := 1) Tryz.underlying85 Tryz.sizeOf3 (.tmp rfl) (.const _) (by decide)) rfl rfl rfl ?_
    refine LW.p (PEv.load Tryz.isAgg3 (.tmp rfl) (hB3.celln rfl)) rfl rfl rfl ?_
    refine LW.p (PEv.indexArr (j := 1) Tryz.underlying85 Tryz.sizeOf3 (.tmp rfl) (.const _) (by decide)) rfl rfl rfl ?_
    refine LW.p (PEv.load Tryz.isAgg3 (.tmp rfl) (hB3.celln rfl)) rfl rfl rfl ?_
    refine LW.p (PEv.build (cs := (exF k x).cells) Tryz.underlying46 Tryz.zeroValue46 Tryz.places46 (.cons (.const _) (.cons (.const _) (.cons (.tmp rfl) (.cons (.tmp rfl) (.cons (.const _) (.cons (.const _) (.cons (.tmp rfl) (.cons (.tmp rfl) .nil)))))))) rfl) rfl rfl rfl ?_
    refine LW.r (REv.buildSlice (xs := [exF k x]) (enc := Fact.cells) (mk := fun f : Fact => .agg f.cells) Tryz.underlying22 Tryz.sizeOf46 Tryz.zeroValue46 rfl (by decide) (fun _ => rfl) (fun _ => rfl) (.cons (.tmp rfl) .nil) rfl) rfl rfl rfl rfl ?_
    rintro _ w7 ⟨B25, cB25, rfl, NB25, yB25, xB25⟩
    have eB25 := NB25.at_
    have zB25 := NB25.size
    replace hB0 := hB0.up NB25.up
    replace hB1 := hB1.up NB25.up
    replace hE7 := hE7.up NB25.up
    replace hO := hO.up NB25.up
    replace hZ7 := hZ7.up NB25.up
    replace hW := hW.up NB25.up
    replace hcx := hcx.up NB25.up
    replace hB3 := hB3.up NB25.up
    have hB25 := NB25.blk
    have hE25 := xB25
    refine LW.r (REv.append (enc := Fact.cells) (base := B7 + 1) (bytes := 160) (i := Tryz.t46) Tryz.underlying22 (by kernel_rfl) rfl rfl rfl rfl (by decide) (fun _ => rfl) Fact.one (.tmp rfl) (.tmp rfl) hO (Sl.of_els hE25) (by simp) (by simp [maxLen]; omega) (by simp; omega) (by omega)) rfl rfl rfl rfl ?_
    rintro v26 w8 ⟨Ow8, Gw8⟩
    have zw8 := Gw8.size
    replace hB0 := hB0.gr Gw8 (by omega)
    replace hB1 := hB1.gr Gw8 (by omega)
    replace hE7 := hE7.gr Gw8 (by omega)
    replace hZ7 := hZ7.gr Gw8 rfl
    replace hW := hW.gr Gw8 (by omega)
    replace hO := Ow8
    refine LW.p (PEv.fieldAddr (off := 0) Tryz.underlying24 rfl rfl Tryz.sizeOf22 rfl (.tmp rfl)) rfl rfl rfl ?_
    refine LW.s (SEv.store Tryz.sizeOf22 (.tmp rfl) (.tmp rfl) hO.one hB1 (Nat.le_of_ble_eq_true rfl)) rfl rfl rfl ?_
    intro w9 Nw9
    have zw9 := Nw9.size
    replace hB0 := hB0.sto Nw9.sto (by omega)
    replace hE7 := hE7.sto Nw9.sto (by omega)
    replace hO := hO.sto Nw9.sto (by omega)
    replace hZ7 := hZ7.sto Nw9.sto (by omega)
    replace hW := hW.sto Nw9.sto (by omega)
    replace hB1 := Nw9.blk
    replace hB1 : Blk w9 B1 #[v26, .slice none 0 0, .slice none 0 0, .slice none 0 0, .slice none 0 0, .slice none 0 0, .slice none 0 0, .slice none 0 0, .slice none 0 0, .slice none 0 0, .slice none 0 0] _ := hB1
    refine LW.nil (KW.inBlock (KW.then (CW.region ?_)))
    refine LW.p (PEv.inc (.tmp rfl) (by omega)) rfl rfl rfl ?_
    refine LW.p (PEv.move (.tmp rfl)) rfl rfl rfl (LW.nil (KW.round ?_))
    exact ⟨(k + 1, v26), ⟨by show k + 1 ≤ _; omega, hB0, hB1, hE7, by rw [exP_step hx]; exact hO, hZ7, hW⟩, ⟨rfl, rfl, rfl, rfl, rfl, trivial⟩, by show exR.length - (k + 1) < exR.length - k; omega⟩
   ·first | replace h10 := of_decide_eq_true h10 | replace h10 := of_decide_eq_false h10 | skip
    refine CW.exit (KW.then_exit (KW.then_exit (KW.block_hit (KW.then (CW.seq ?_)))))
    have hk3 : k = 3 := by have : exR.length = 3 := rfl; omega
    subst hk3
    have z7 : B7 + 1 ≤ _ := hZ7
    refine CW.region ?_
    refine LW.p (PEv.build (cs := exS.cells) Tryz.underlying46 Tryz.zeroValue46 Tryz.places46 (.cons (.const _) (.cons (.const _) (.cons (.const _) (.cons (.const _) (.cons (.const _) (.cons (.const _) .nil)))))) rfl) rfl rfl rfl ?_
    refine LW.r (REv.buildSlice (xs := [exS]) (enc := Fact.cells) (mk := fun f : Fact => .agg f.cells) Tryz.underlying22 Tryz.sizeOf46 Tryz.zeroValue46 rfl (by decide) (fun _ => rfl) (fun _ => rfl) (.cons (.tmp rfl) .nil) rfl) rfl rfl rfl rfl ?_
    rintro _ w10 ⟨B30, cB30, rfl, NB30, yB30, xB30⟩
    have eB30 := NB30.at_
    have zB30 := NB30.size
    replace hB0 := hB0.up NB30.up
    replace hB1 := hB1.up NB30.up
    replace hE7 := hE7.up NB30.up
    replace hO := hO.up NB30.up
    replace hZ7 := hZ7.up NB30.up
    replace hW := hW.up NB30.up
    have hB30 := NB30.blk
    have hE30 := xB30
    refine LW.p (PEv.fieldAddr (off := 2) Tryz.underlying24 rfl rfl Tryz.sizeOf22 rfl (.tmp rfl)) rfl rfl rfl ?_
    refine LW.s (SEv.store Tryz.sizeOf22 (.tmp rfl) (.tmp rfl) rfl hB1 (Nat.le_of_ble_eq_true rfl)) rfl rfl rfl ?_
    intro w11 Nw11
    have zw11 := Nw11.size
    replace hB0 := hB0.sto Nw11.sto (by omega)
    replace hE7 := hE7.sto Nw11.sto (by omega)
    replace hO := hO.sto Nw11.sto (by omega)
    replace hZ7 := hZ7.sto Nw11.sto (by omega)
    replace hW := hW.sto Nw11.sto (by omega)
    replace hB30 := hB30.sto Nw11.sto (by omega)
    replace hE30 := hE30.sto Nw11.sto (by omega)
    replace hB1 := Nw11.blk
    replace hB1 : Blk w11 B1 #[v, .slice none 0 0, .slice (some ⟨B30, 0, none⟩) 1 1, .slice none 0 0, .slice none 0 0, .slice none 0 0, .slice none 0 0, .slice none 0 0, .slice none 0 0, .slice none 0 0, .slice none 0 0] _ := hB1
    refine LW.nil (KW.then (CW.seq (CW.region ?_)))
    refine LW.p (PEv.build (cs := exL1.cells) Tryz.underlying46 Tryz.zeroValue46 Tryz.places46 (.cons (.const _) (.cons (.const _) (.cons (.const _) (.cons (.const _) (.cons (.const _) .nil))))) rfl) rfl rfl rfl ?_
    refine LW.p (PEv.build (cs := exL2.cells) Tryz.underlying46 Tryz.zeroValue46 Tryz.places46 (.cons (.const _) (.cons (.const _) (.cons (.const _) (.cons (.const _) (.cons (.const _) (.cons (.const _) .nil)))))) rfl) rfl rfl rfl ?_
    refine LW.r (REv.buildSlice (xs := [exL1, exL2]) (enc := Fact.cells) (mk := fun f : Fact => .agg f.cells) Tryz.underlying22 Tryz.sizeOf46 Tryz.zeroValue46 rfl (by decide) (fun _ => rfl) (fun _ => rfl) (.cons (.tmp rfl) (.cons (.tmp rfl) .nil)) rfl) rfl rfl rfl rfl ?_
    rintro _ w12 ⟨B34, cB34, rfl, NB34, yB34, xB34⟩
    have eB34 := NB34.at_
    have zB34 := NB34.size
    replace hB0 := hB0.up NB34.up
    replace hB1 := hB1.up NB34.up
    replace hE7 := hE7.up NB34.up
    replace hO := hO.up NB34.up
    replace hZ7 := hZ7.up NB34.up
    replace hW := hW.up NB34.up
    replace hB30 := hB30.up NB34.up
    replace hE30 := hE30.up NB34.up
    have hB34 := NB34.blk
    have hE34 := xB34
    refine LW.p (PEv.fieldAddr (off := 3) Tryz.underlying24 rfl rfl Tryz.sizeOf22 rfl (.tmp rfl)) rfl rfl rfl ?_
    refine LW.s (SEv.store Tryz.sizeOf22 (.tmp rfl) (.tmp rfl) rfl hB1 (Nat.le_of_ble_eq_true rfl)) rfl rfl rfl ?_
    intro w13 Nw13
    have zw13 := Nw13.size
    replace hB0 := hB0.sto Nw13.sto (by omega)
    replace hE7 := hE7.sto Nw13.sto (by omega)
    replace hO := hO.sto Nw13.sto (by omega)
    replace hZ7 := hZ7.sto Nw13.sto (by omega)
    replace hW := hW.sto Nw13.sto (by omega)
    replace hB30 := hB30.sto Nw13.sto (by omega)
    replace hE30 := hE30.sto Nw13.sto (by omega)
    replace hB34 := hB34.sto Nw13.sto (by omega)
    replace hE34 := hE34.sto Nw13.sto (by omega)
    replace hB1 := Nw13.blk
    replace hB1 : Blk w13 B1 #[v, .slice none 0 0, .slice (some ⟨B30, 0, none⟩) 1 1, .slice (some ⟨B34, 0, none⟩) 2 2, .slice none 0 0, .slice none 0 0, .slice none 0 0, .slice none 0 0, .slice none 0 0, .slice none 0 0, .slice none 0 0] _ := hB1
    refine LW.nil (KW.then (CW.seq ?_))
    have hv1 := hO.one
    refine CW.region ?_
    refine LW.p (PEv.loadA Tryz.isAgg24 Tryz.sizeOf24 rfl (.tmp rfl) (hB1.agg)) rfl rfl rfl ?_
    refine LW.s (SEv.storeA Tryz.sizeOf24 rfl (.tmp rfl) (.tmp rfl) (by simp [Value.oneCell']; exact hv1) hB0 rfl) rfl rfl rfl ?_
    intro w14 Nw14
    have zw14 := Nw14.size
    replace hB1 := hB1.sto Nw14.sto (by omega)
    replace hE7 := hE7.sto Nw14.sto (by omega)
    replace hO := hO.sto Nw14.sto (by omega)
    replace hZ7 := hZ7.sto Nw14.sto (by omega)
    replace hW := hW.sto Nw14.sto (by omega)
    replace hB30 := hB30.sto Nw14.sto (by omega)
    replace hE30 := hE30.sto Nw14.sto (by omega)
    replace hB34 := hB34.sto Nw14.sto (by omega)
    replace hE34 := hE34.sto Nw14.sto (by omega)
    replace hB0 := Nw14.blk
    replace hB0 : Blk w14 B0 #[v, .slice none 0 0, .slice (some ⟨B30, 0, none⟩) 1 1, .slice (some ⟨B34, 0, none⟩) 2 2, .slice none 0 0, .slice none 0 0, .slice none 0 0, .slice none 0 0, .slice none 0 0, .slice none 0 0, .slice none 0 0] _ := hB0
    refine LW.nil (KW.then (CW.ret ?_))
    refine KW.retA rfl rfl Tryz.isAgg24 Tryz.sizeOf24 rfl (hB0.agg) ⟨_, rfl, ?_⟩
    exact ⟨_, rfl, ⟨_, _, _, _, _, _, _, _, _, _, _, rfl, hO.sl (fun _ => rfl), Sl.nil _ _ _, Sl.of_els hE30, Sl.of_els hE34, Sl.nil _ _ _, Sl.nil _ _ _, Sl.nil _ _ _, Sl.nil _ _ _, Sl.nil _ _ _, Sl.nil _ _ _, Sl.nil _ _ _⟩, hW⟩
end Go.Proofs.YthfjagphcekcbaaGreat
namespace Go.Wx
theorem ex_h5 : histL exB.Processes exB.Swaps 5 = [exF 0 (5, 10), exF 2 (6, 40)] := by kernel_rfl
theorem ex_h6 : histL exB.Processes exB.Swaps 6 = [exF 1 (5, 30)] := by kernel_rfl
theorem ex_l1 : lotOf exB.Lots 5 24 = (7, 1) := by kernel_rfl
theorem ex_l2 : lotOf exB.Lots 5 25 = (8, 1) := by kernel_rfl
theorem ex_w1 : whoL exB.Swaps 19 5 = 5 := by kernel_rfl
theorem ex_w2 : whoL exB.Swaps 20 5 = 6 := by kernel_rfl
theorem ex_w3 : whoL exB.Swaps 20 6 = 5 := by kernel_rfl
theorem ex_m1 : markL exB.Swaps 40 5 = 6 := by kernel_rfl
theorem ex_me : membersL exB.Lots 8 30 = [5] := by
  unfold membersL sortI
  rw [show memK exB.Lots 8 30 exB.Lots = [5] from by kernel_rfl]
  exact List.mergeSort_of_pairwise (by decide)
theorem ex_wa : wafersL exB.Lots exB.Processes exB.Swaps = [5, 6] := by
  unfold wafersL sortI
  rw [show (proK exB.Swaps (lotK exB.Lots) exB.Processes).filter isIDb = [5, 6] from by kernel_rfl]
  exact List.mergeSort_of_pairwise (by decide)
end Go.Wx
namespace Go.Proofs.YthfjagphcekcbaaGreat
open Go.Wx Go.RowKit
set_option maxHeartbeats 2000000 in
theorem sane_any (w : World) : Ret Tryz.prog 11 #[] w fun r w' => r = .bool true ∧ Up w w' := by
  have hW := Up.refl w
  refine Calls_start (n := 80) (m := 9) Tryz.func11 rfl rfl rfl ?_
  refine CW.seq (CW.region (LW.p (PEv.assign (.const _)) rfl rfl rfl (LW.nil (KW.then (CW.seq (CW.region ?_))))))
  refine LW.c (enter_call0 .nil (Tryz.en32)) rfl rfl rfl rfl (example_any _) ?_
  rintro _ w1 ⟨bc, rfl, hC, uw1⟩
  have zw1 := uw1.size
  replace hW := hW.up uw1
  refine LW.r (REv.allocA Tryz.zeroValue24) rfl rfl rfl rfl ?_
  rintro _ w2 ⟨B1, rfl, MB1⟩
  refine LW.s (SEv.storeA Tryz.sizeOf24 (hC.size) (.tmp rfl) (.tmp rfl) (hC.one) MB1.blk rfl) rfl rfl rfl ?_
  intro w3 LB1
  have NB1 := MB1.set LB1
  clear LB1 MB1
  have eB1 := NB1.at_
  have zB1 := NB1.size
  replace hW := hW.up NB1.up
  replace hC := hC.up NB1.up
  have hB1 := NB1.blk
  refine LW.nil (KW.then (CW.seq (CW.region ?_)))
  refine LW.p (PEv.loadA Tryz.isAgg24 Tryz.sizeOf24 (hC.size) (.tmp rfl) (hB1.agg)) rfl rfl rfl ?_
  refine LW.c (enter_call0 (.cons (.tmp rfl) (.cons (.const _) .nil)) (Tryz.en23)) rfl rfl rfl rfl (History_any bc exB 5 _ hC (by decide) (by decide)) ?_
  rintro v10 w4 ⟨hO10, uw4⟩
  have zw4 := uw4.size
  replace hW := hW.up uw4
  replace hC := hC.up uw4
  replace hB1 := hB1.up uw4
  rw [ex_h5] at hO10
  obtain ⟨ad10, cp10, rfl, hE100⟩ := hO10.sl (fun _ => rfl)
  have hE10 : Els w4 ad10 19 Fact.cells [exF 0 (5, 10), exF 2 (6, 40)] := hE100
  clear hO10 hE100
  refine LW.p (PEv.assign (.tmp rfl)) rfl rfl rfl (LW.nil (KW.then (CW.seq (CW.region ?_))))
  refine LW.p (PEv.loadA Tryz.isAgg24 Tryz.sizeOf24 (hC.size) (.tmp rfl) (hB1.agg)) rfl rfl rfl ?_
  refine LW.c (enter_call0 (.cons (.tmp rfl) (.cons (.const _) (.cons (.const _) .nil))) (Tryz.en16)) rfl rfl rfl rfl (lot_any bc exB 5 24 _ hC (by decide)) ?_
  rintro _ w5 ⟨rfl, uw5⟩
  have zw5 := uw5.size
  replace hW := hW.up uw5
  replace hC := hC.up uw5
  replace hB1 := hB1.up uw5
  replace hE10 := hE10.up uw5
  rw [ex_l1]
  refine LW.p (PEv.move (.tmp rfl)) rfl rfl rfl (LW.p (PEv.extract (.tmp rfl) rfl) rfl rfl rfl (LW.p (PEv.extract (.tmp rfl) rfl) rfl rfl rfl (LW.p (PEv.assign (.tmp rfl)) rfl rfl rfl (LW.p (PEv.assign (.tmp rfl)) rfl rfl rfl (LW.nil (KW.then (CW.seq (CW.region ?_))))))))
  refine LW.p (PEv.loadA Tryz.isAgg24 Tryz.sizeOf24 (hC.size) (.tmp rfl) (hB1.agg)) rfl rfl rfl ?_
  refine LW.c (enter_call0 (.cons (.tmp rfl) (.cons (.const _) (.cons (.const _) .nil))) (Tryz.en16)) rfl rfl rfl rfl (lot_any bc exB 5 25 _ hC (by decide)) ?_
  rintro _ w6 ⟨rfl, uw6⟩
  have zw6 := uw6.size
  replace hW := hW.up uw6
  replace hC := hC.up uw6
  replace hB1 := hB1.up uw6
  replace hE10 := hE10.up uw6
  rw [ex_l2]
  refine LW.p (PEv.move (.tmp rfl)) rfl rfl rfl (LW.p (PEv.extract (.tmp rfl) rfl) rfl rfl rfl (LW.p (PEv.extract (.tmp rfl) rfl) rfl rfl rfl (LW.p (PEv.assign (.tmp rfl)) rfl rfl rfl (LW.p (PEv.assign (.tmp rfl)) rfl rfl rfl (LW.nil (KW.then (CW.seq (CW.seq (CW.region (LW.p (PEv.move (.tmp rfl)) rfl rfl rfl ?_))))))))))
  refine LW.p (PEv.lenS Tryz.underlying22 (.tmp rfl)) rfl rfl rfl ?_
  refine LW.p (PEv.fa (PEv.neq (.tmp rfl) (.const _)) (rfl)) rfl rfl rfl ?_
  refine LW.p (PEv.move (.tmp rfl)) rfl rfl rfl ?_
  refine LW.yes rfl rfl rfl rfl rfl rfl ?_
  refine LW.p (PEv.loadA Tryz.isAgg24 Tryz.sizeOf24 (hC.size) (.tmp rfl) (hB1.agg)) rfl rfl rfl ?_
  refine LW.yes rfl rfl rfl rfl rfl rfl ?_
  refine LW.c (enter_call0 (.cons (.tmp rfl) (.cons (.const _) .nil)) (Tryz.en23)) rfl rfl rfl rfl (History_any bc exB 6 _ hC (by decide) (by decide)) ?_
  rintro v26 w7 ⟨hO26, uw7⟩
  have zw7 := uw7.size
  replace hW := hW.up uw7
  replace hC := hC.up uw7
  replace hB1 := hB1.up uw7
  replace hE10 := hE10.up uw7
  rw [ex_h6] at hO26
  obtain ⟨ad26, cp26, rfl, hE260⟩ := hO26.sl (fun _ => rfl)
  have hE26 : Els w7 ad26 19 Fact.cells [exF 1 (5, 30)] := hE260
  clear hO26 hE260
  refine LW.yes rfl rfl rfl rfl rfl rfl ?_
  refine LW.p (PEv.lenS Tryz.underlying22 (.tmp rfl)) rfl rfl rfl ?_
  refine LW.yes rfl rfl rfl rfl rfl rfl ?_
  refine LW.p (PEv.fa (PEv.neq (.tmp rfl) (.const _)) (rfl)) rfl rfl rfl ?_
  refine LW.p (PEv.pick_or (.tmp rfl) (fun hp => (by first | exact .const _ | exact .tmp rfl | exact .cond rfl (by first | assumption | simp_all)))) rfl rfl rfl ?_
  refine LW.nil (KW.then ?_)
  refine CW.cond_false (.tmp rfl) ?_
  refine CW.skip (KW.then (CW.seq (CW.region ?_)))
  refine LW.p (PEv.loadA Tryz.isAgg24 Tryz.sizeOf24 (hC.size) (.tmp rfl) (hB1.agg)) rfl rfl rfl ?_
  refine LW.c (enter_call0 (.cons (.tmp rfl) (.cons (.const _) (.cons (.const _) .nil))) (Tryz.en18)) rfl rfl rfl rfl (Who_any bc exB 5 19 _ hC (by decide)) ?_
  rintro _ w8 ⟨rfl, uw8⟩
  have zw8 := uw8.size
  replace hW := hW.up uw8
  replace hC := hC.up uw8
  replace hB1 := hB1.up uw8
  replace hE10 := hE10.up uw8
  replace hE26 := hE26.up uw8
  rw [ex_w1]
  refine LW.p (PEv.tr (PEv.eql (.tmp rfl) (.const _)) (rfl)) rfl rfl rfl ?_
  refine LW.p (PEv.move (.tmp rfl)) rfl rfl rfl ?_
  refine LW.yes rfl rfl rfl rfl rfl rfl ?_
  refine LW.p (PEv.loadA Tryz.isAgg24 Tryz.sizeOf24 (hC.size) (.tmp rfl) (hB1.agg)) rfl rfl rfl ?_
  refine LW.yes rfl rfl rfl rfl rfl rfl ?_
  refine LW.c (enter_call0 (.cons (.tmp rfl) (.cons (.const _) (.cons (.const _) .nil))) (Tryz.en18)) rfl rfl rfl rfl (Who_any bc exB 5 20 _ hC (by decide)) ?_
  rintro _ w9 ⟨rfl, uw9⟩
  have zw9 := uw9.size
  replace hW := hW.up uw9
  replace hC := hC.up uw9
  replace hB1 := hB1.up uw9
  replace hE10 := hE10.up uw9
  replace hE26 := hE26.up uw9
  rw [ex_w2]
  refine LW.yes rfl rfl rfl rfl rfl rfl ?_
  refine LW.p (PEv.tr (PEv.eql (.tmp rfl) (.const _)) (rfl)) rfl rfl rfl ?_
  refine LW.p (PEv.pick_and (.tmp rfl) (fun hp => (by first | exact .const _ | exact .tmp rfl | exact .cond rfl (by first | assumption | simp_all)))) rfl rfl rfl ?_
  refine LW.p (PEv.move (.tmp rfl)) rfl rfl rfl ?_
  refine LW.yes rfl rfl rfl rfl rfl rfl ?_
  refine LW.p (PEv.loadA Tryz.isAgg24 Tryz.sizeOf24 (hC.size) (.tmp rfl) (hB1.agg)) rfl rfl rfl ?_
  refine LW.yes rfl rfl rfl rfl rfl rfl ?_
  refine LW.c (enter_call0 (.cons (.tmp rfl) (.cons (.const _) (.cons (.const _) .nil))) (Tryz.en18)) rfl rfl rfl rfl (Who_any bc exB 6 20 _ hC (by decide)) ?_
  rintro _ w10 ⟨rfl, uw10⟩
  have zw10 := uw10.size
  replace hW := hW.up uw10
  replace hC := hC.up uw10
  replace hB1 := hB1.up uw10
  replace hE10 := hE10.up uw10
  replace hE26 := hE26.up uw10
  rw [ex_w3]
  refine LW.yes rfl rfl rfl rfl rfl rfl ?_
  refine LW.p (PEv.tr (PEv.eql (.tmp rfl) (.const _)) (rfl)) rfl rfl rfl ?_
  refine LW.p (PEv.pick_and (.tmp rfl) (fun hp => (by first | exact .const _ | exact .tmp rfl | exact .cond rfl (by first | assumption | simp_all)))) rfl rfl rfl ?_
  refine LW.p (PEv.move (.tmp rfl)) rfl rfl rfl ?_
  refine LW.yes rfl rfl rfl rfl rfl rfl ?_
  refine LW.p (PEv.loadA Tryz.isAgg24 Tryz.sizeOf24 (hC.size) (.tmp rfl) (hB1.agg)) rfl rfl rfl ?_
  refine LW.yes rfl rfl rfl rfl rfl rfl ?_
  refine LW.c (enter_call0 (.cons (.tmp rfl) (.cons (.const _) (.cons (.const _) .nil))) (Tryz.en20)) rfl rfl rfl rfl (Mark_any bc exB 5 40 _ hC (by decide)) ?_
  rintro _ w11 ⟨rfl, uw11⟩
  have zw11 := uw11.size
  replace hW := hW.up uw11
  replace hC := hC.up uw11
  replace hB1 := hB1.up uw11
  replace hE10 := hE10.up uw11
  replace hE26 := hE26.up uw11
  rw [ex_m1]
  refine LW.yes rfl rfl rfl rfl rfl rfl ?_
  refine LW.p (PEv.tr (PEv.eql (.tmp rfl) (.const _)) (rfl)) rfl rfl rfl ?_
  refine LW.p (PEv.pick_and (.tmp rfl) (fun hp => (by first | exact .const _ | exact .tmp rfl | exact .cond rfl (by first | assumption | simp_all)))) rfl rfl rfl ?_
  refine LW.p (PEv.assign (.tmp rfl)) rfl rfl rfl (LW.nil (KW.then (CW.seq ?_)))
  obtain ⟨Bx, ox, ax, hcx⟩ := hE10 1 _ rfl
  refine CW.region (LW.p (PEv.move (.tmp rfl)) rfl rfl rfl (LW.p (PEv.move (.tmp rfl)) rfl rfl rfl ?_))
  refine LW.yes rfl rfl rfl rfl rfl rfl ?_
  refine LW.p (PEv.move (.tmp rfl)) rfl rfl rfl ?_
  refine LW.yes rfl rfl rfl rfl rfl rfl ?_
  refine LW.p (PEv.indexAddr' Tryz.underlying22 Tryz.sizeOf46 (.tmp rfl) (.const _) (by decide) ax) rfl rfl rfl ?_
  refine LW.yes rfl rfl rfl rfl rfl rfl ?_
  refine LW.p (PEv.fieldAddr (off := 1) Tryz.underlying46 rfl rfl Tryz.sizeOf3 rfl (.tmp rfl)) rfl rfl rfl ?_
  refine LW.yes rfl rfl rfl rfl rfl rfl ?_
  refine LW.p (PEv.load Tryz.isAgg3 (.tmp rfl) (hcx.nth (j := 1) rfl)) rfl rfl rfl ?_
  refine LW.yes rfl rfl rfl rfl rfl rfl ?_
  refine LW.p (PEv.tr (PEv.eql (.tmp rfl) (.const _)) (rfl)) rfl rfl rfl ?_
  refine LW.p (PEv.pick_and (.tmp rfl) (fun hp => (by first | exact .const _ | exact .tmp rfl | exact .cond rfl (by first | assumption | simp_all)))) rfl rfl rfl ?_
  refine LW.p (PEv.move (.tmp rfl)) rfl rfl rfl ?_
  refine LW.yes rfl rfl rfl rfl rfl rfl ?_
  refine LW.p (PEv.move (.tmp rfl)) rfl rfl rfl ?_
  refine LW.yes rfl rfl rfl rfl rfl rfl ?_
  refine LW.p (PEv.tr (PEv.eql (.tmp rfl) (.const _)) (rfl)) rfl rfl rfl ?_
  refine LW.p (PEv.pick_and (.tmp rfl) (fun hp => (by first | exact .const _ | exact .tmp rfl | exact .cond rfl (by first | assumption | simp_all)))) rfl rfl rfl ?_
  refine LW.p (PEv.move (.tmp rfl)) rfl rfl rfl ?_
  refine LW.yes rfl rfl rfl rfl rfl rfl ?_
  refine LW.p (PEv.move (.tmp rfl)) rfl rfl rfl ?_
  refine LW.yes rfl rfl rfl rfl rfl rfl ?_
  refine LW.p (PEv.tr (PEv.eql (.tmp rfl) (.const _)) (rfl)) rfl rfl rfl ?_
  refine LW.p (PEv.pick_and (.tmp rfl) (fun hp => (by first | exact .const _ | exact .tmp rfl | exact .cond rfl (by first | assumption | simp_all)))) rfl rfl rfl ?_
  refine LW.p (PEv.move (.tmp rfl)) rfl rfl rfl ?_
  refine LW.yes rfl rfl rfl rfl rfl rfl ?_
  refine LW.p (PEv.move (.tmp rfl)) rfl rfl rfl ?_
  refine LW.yes rfl rfl rfl rfl rfl rfl ?_
  refine LW.p (PEv.tr (PEv.eql (.tmp rfl) (.const _)) (rfl)) rfl rfl rfl ?_
  refine LW.p (PEv.pick_and (.tmp rfl) (fun hp => (by first | exact .const _ | exact .tmp rfl | exact .cond rfl (by first | assumption | simp_all)))) rfl rfl rfl ?_
  refine LW.p (PEv.move (.tmp rfl)) rfl rfl rfl ?_
  refine LW.yes rfl rfl rfl rfl rfl rfl ?_
  refine LW.p (PEv.loadA Tryz.isAgg24 Tryz.sizeOf24 (hC.size) (.tmp rfl) (hB1.agg)) rfl rfl rfl ?_
  refine LW.yes rfl rfl rfl rfl rfl rfl ?_
  refine LW.c (enter_call0 (.cons (.tmp rfl) (.cons (.const _) (.cons (.const _) .nil))) (Tryz.en26)) rfl rfl rfl rfl (Members_any bc exB 8 30 _ hC (by decide)) ?_
  rintro v70 w12 ⟨hO70, uw12⟩
  have zw12 := uw12.size
  replace hW := hW.up uw12
  replace hC := hC.up uw12
  replace hB1 := hB1.up uw12
  replace hE10 := hE10.up uw12
  replace hE26 := hE26.up uw12
  replace hcx := hcx.up uw12
  rw [ex_me] at hO70
  obtain ⟨ad70, cp70, rfl, hE700⟩ := hO70.sl (fun _ => rfl)
  have hE70 : Els w12 ad70 1 eInt [5] := hE700
  clear hO70 hE700
  refine LW.yes rfl rfl rfl rfl rfl rfl ?_
  refine LW.r (REv.buildSlice (xs := ([5] : List Int)) (enc := eInt) (mk := vi) Tryz.underlying32 Tryz.sizeOf3 Tryz.zeroValue3 rfl (by decide) (fun _ => rfl) (fun _ => rfl) (.cons (.const _) .nil) rfl) rfl rfl rfl rfl ?_
  rintro _ w13 ⟨B71, cB71, rfl, NB71, yB71, xB71⟩
  have eB71 := NB71.at_
  have zB71 := NB71.size
  replace hW := hW.up NB71.up
  replace hC := hC.up NB71.up
  replace hB1 := hB1.up NB71.up
  replace hE10 := hE10.up NB71.up
  replace hE26 := hE26.up NB71.up
  replace hcx := hcx.up NB71.up
  replace hE70 := hE70.up NB71.up
  have hB71 := NB71.blk
  have hE71 := xB71
  refine LW.yes rfl rfl rfl rfl rfl rfl ?_
  refine LW.c (enter_call0 (.cons (.tmp rfl) (.cons (.tmp rfl) .nil)) (Tryz.en25)) rfl rfl rfl rfl (sameInts_any _ _ [5] [5] _ (Sl.of_els hE70) (Sl.of_els hE71) (by decide) (by decide)) ?_
  rintro _ w14 ⟨rfl, uw14⟩
  have zw14 := uw14.size
  replace hW := hW.up uw14
  replace hC := hC.up uw14
  replace hB1 := hB1.up uw14
  replace hE10 := hE10.up uw14
  replace hE26 := hE26.up uw14
  replace hcx := hcx.up uw14
  replace hE70 := hE70.up uw14
  replace hB71 := hB71.up uw14
  replace hE71 := hE71.up uw14
  rw [decide_eq_true rfl]
  refine LW.p (PEv.pick_and (.tmp rfl) (fun hp => (by first | exact .const _ | exact .tmp rfl | exact .cond rfl (by first | assumption | simp_all)))) rfl rfl rfl ?_
  refine LW.p (PEv.move (.tmp rfl)) rfl rfl rfl ?_
  refine LW.yes rfl rfl rfl rfl rfl rfl ?_
  refine LW.p (PEv.loadA Tryz.isAgg24 Tryz.sizeOf24 (hC.size) (.tmp rfl) (hB1.agg)) rfl rfl rfl ?_
  refine LW.yes rfl rfl rfl rfl rfl rfl ?_
  refine LW.c (enter_call0 (.cons (.tmp rfl) .nil) (Tryz.en28)) rfl rfl rfl rfl (Wafers_any bc exB _ hC (by decide) (by decide)) ?_
  rintro v76 w15 ⟨hO76, uw15⟩
  have zw15 := uw15.size
  replace hW := hW.up uw15
  replace hC := hC.up uw15
  replace hB1 := hB1.up uw15
  replace hE10 := hE10.up uw15
  replace hE26 := hE26.up uw15
  replace hcx := hcx.up uw15
  replace hE70 := hE70.up uw15
  replace hB71 := hB71.up uw15
  replace hE71 := hE71.up uw15
  rw [ex_wa] at hO76
  obtain ⟨ad76, cp76, rfl, hE760⟩ := hO76.sl (fun _ => rfl)
  have hE76 : Els w15 ad76 1 eInt [5, 6] := hE760
  clear hO76 hE760
  refine LW.yes rfl rfl rfl rfl rfl rfl ?_
  refine LW.r (REv.buildSlice (xs := ([5, 6] : List Int)) (enc := eInt) (mk := vi) Tryz.underlying32 Tryz.sizeOf3 Tryz.zeroValue3 rfl (by decide) (fun _ => rfl) (fun _ => rfl) (.cons (.const _) (.cons (.const _) .nil)) rfl) rfl rfl rfl rfl ?_
  rintro _ w16 ⟨B77, cB77, rfl, NB77, yB77, xB77⟩
  have eB77 := NB77.at_
  have zB77 := NB77.size
  replace hW := hW.up NB77.up
  replace hC := hC.up NB77.up
  replace hB1 := hB1.up NB77.up
  replace hE10 := hE10.up NB77.up
  replace hE26 := hE26.up NB77.up
  replace hcx := hcx.up NB77.up
  replace hE70 := hE70.up NB77.up
  replace hB71 := hB71.up NB77.up
  replace hE71 := hE71.up NB77.up
  replace hE76 := hE76.up NB77.up
  have hB77 := NB77.blk
  have hE77 := xB77
  refine LW.yes rfl rfl rfl rfl rfl rfl ?_
  refine LW.c (enter_call0 (.cons (.tmp rfl) (.cons (.tmp rfl) .nil)) (Tryz.en25)) rfl rfl rfl rfl (sameInts_any _ _ [5, 6] [5, 6] _ (Sl.of_els hE76) (Sl.of_els hE77) (by decide) (by decide)) ?_
  rintro _ w17 ⟨rfl, uw17⟩
  have zw17 := uw17.size
  replace hW := hW.up uw17
  replace hC := hC.up uw17
  replace hB1 := hB1.up uw17
  replace hE10 := hE10.up uw17
  replace hE26 := hE26.up uw17
  replace hcx := hcx.up uw17
  replace hE70 := hE70.up uw17
  replace hB71 := hB71.up uw17
  replace hE71 := hE71.up uw17
  replace hE76 := hE76.up uw17
  replace hB77 := hB77.up uw17
  replace hE77 := hE77.up uw17
  rw [decide_eq_true rfl]
  refine LW.p (PEv.pick_and (.tmp rfl) (fun hp => (by first | exact .const _ | exact .tmp rfl | exact .cond rfl (by first | assumption | simp_all)))) rfl rfl rfl ?_
  refine LW.p (PEv.assign (.tmp rfl)) rfl rfl rfl (LW.nil (KW.then (CW.ret ?_)))
  refine KW.ret1 rfl rfl ⟨_, rfl, ?_⟩
  exact ⟨rfl, hW⟩
end Go.Proofs.YthfjagphcekcbaaGreat
end
section
namespace Go.Wx
open Go.RowKit
def hLateOK (ops : Array Oper) : List Nat → List Nat → Bool
  | _, [] => true
  | acc, j :: r => (match ops[j]? with | some o => o.after.any fun e => Region.binds .any e && acc.contains e.on | none => false) && hLateOK ops (j :: acc) r
def hEarlyOK (ops : Array Oper) : List Nat → List Nat → Bool
  | _, [] => true
  | acc, j :: r => (acc.any fun i => match ops[i]? with | some o => o.after.any fun e => Region.binds .any e && Nat.beq e.on j | none => false) && hEarlyOK ops (j :: acc) r
def usesOK (ops : Array Oper) (k h : Nat) (early : List Nat) : Bool := (List.range k).all fun i => Nat.beq i h || early.contains i || (match ops[i]? with | some o => o.after.all fun e => !(Region.binds .any e && early.contains e.on) | none => true)
def keptL (K : World → World → Prop) (skip : List Nat) : Nat → List Ph → Prop
  | _, [] => True
  | i, q :: r => (skip.contains i = true ∨ ∀ v W W', q.holds v W → K W W' → q.holds v W') ∧ keptL K skip (i + 1) r
theorem keptL.at {K : World → World → Prop} {skip : List Nat} : ∀ {l : List Ph} {s : Nat}, keptL K skip s l → ∀ i, skip.contains (s + i) = false → ∀ v W W', (l.getD i (.eq undef)).holds v W → K W W' → (l.getD i (.eq undef)).holds v W'
  | [], _, _, i, _, v, W, W', h, _ => by
    have e : ([] : List Ph).getD i (.eq undef) = .eq undef := by simp
    rw [e] at h ⊢
    exact h
  | q :: r, s, hk, 0, hs, v, W, W', h, k => by
    rcases hk.1 with e | e
    · rw [show s + 0 = s from rfl] at hs; rw [hs] at e; cases e
    · simpa using e v W W' (by simpa using h) k
  | q :: r, s, hk, i + 1, hs, v, W, W', h, k => by
    simpa using hk.2.at i (by rw [show s + 1 + i = s + (i + 1) by omega]; exact hs) v W W' (by simpa using h) k
theorem late_of {ops : Array Oper} {L : Nat → Bool} {h : Nat} (hDn : DnL ops L) : ∀ {late acc : List Nat}, hLateOK ops acc late = true → (∀ i ∈ acc, L i = true → L h = true) → ∀ j ∈ late, L j = true → L h = true
  | [], _, _, _, j, hj, _ => by cases hj
  | i :: r, acc, hl, ha, j, hj, hL => by
    unfold hLateOK at hl
    rw [Bool.and_eq_true] at hl
    have hi : L i = true → L h = true := fun h1 => by
      cases ho : ops[i]? with
      | none => rw [ho] at hl; cases hl.1
      | some o =>
        rw [ho] at hl
        obtain ⟨e, he, hb⟩ := Array.any_eq_true'.1 hl.1
        rw [Bool.and_eq_true] at hb
        exact ha e.on (by simpa using hb.2) (hDn i o ho h1 e he hb.1)
    rcases List.mem_cons.1 hj with rfl | hj
    · exact hi hL
    · exact late_of hDn hl.2 (fun m hm h2 => (List.mem_cons.1 hm).elim (fun e => hi (e ▸ h2)) (fun hm => ha m hm h2)) j hj hL
theorem early_of {ops : Array Oper} {L : Nat → Bool} (hDn : DnL ops L) : ∀ {early acc : List Nat}, hEarlyOK ops acc early = true → (∀ i ∈ acc, L i = true) → ∀ j ∈ early, L j = true
  | [], _, _, _, j, hj => by cases hj
  | i :: r, acc, hl, ha, j, hj => by
    unfold hEarlyOK at hl
    rw [Bool.and_eq_true] at hl
    have hi : L i = true := by
      obtain ⟨m, hm, h1⟩ := List.any_eq_true.1 hl.1
      cases ho : ops[m]? with
      | none => rw [ho] at h1; cases h1
      | some o =>
        rw [ho] at h1
        obtain ⟨e, he, hb⟩ := Array.any_eq_true'.1 h1
        rw [Bool.and_eq_true] at hb
        rw [← Nat.eq_of_beq_eq_true hb.2]
        exact hDn m o ho (ha m hm) e he hb.1
    rcases List.mem_cons.1 hj with rfl | hj
    · exact hi
    · exact early_of hDn hl.2 (fun m hm => (List.mem_cons.1 hm).elim (fun e => e ▸ hi) (fun hm => ha m hm)) j hj
section
variable {R : Option Nat} {m : Nat} {P : Program} {n : Nat} {ds : List Deferred} {Q : Exit → Go.Act → World → Prop} {l : Env} {w : World}
theorem CW.freeH {id : Nat} {opsL : List Oper} (k h : Nat) (early late : List Nat) (phs : List Ph) (keep : List Nat) (K : World → World → Prop) (hm : P.follows .mixedOrders = true) (hl : noPred l = true)
    (hA : aheadOK opsL.toArray = true) (hC : (Nat.beq k opsL.toArray.size || closOK opsL.toArray k) = true) (hF : farOK opsL.toArray k = true) (hks : Nat.ble k opsL.toArray.size = true) (hD : dstOK' n opsL.toArray 0 k = true) (hTl : tailOK opsL.toArray k = true)
    (hfree : freeOK l (opsL.take k) = true) (hla : hLateOK opsL.toArray [h] late = true) (hea : hEarlyOK opsL.toArray [h] early = true) (hus : usesOK opsL.toArray k h early = true) (hph : allU phs) (hkp : keptL K (h :: (early ++ late)) 0 phs)
    (hop : ∀ W, Up w.drew W → allL (fun i o => o.guard = none ∧ (i ≠ h → TU P n ds (knp opsL.toArray (fun i => phs.getD i (.eq undef)) 0 o ++ l) W o (phs.getD i (.eq undef))) ∧
      (i = h → ∀ a, Ag n ds (knp opsL.toArray (fun i => phs.getD i (.eq undef)) 0 o ++ l) a W → OpY P o a W (fun v W' => (Up w.drew W' ∧ K W W') ∧ (phs.getD i (.eq undef)).holds v W'))) 0 (opsL.take k))
    (hend : ∀ W (g : Nat → Value), Up w.drew W → (∀ i o d, i < k → early.contains i = false → opsL[i]? = some o → o.dst = some d → (phs.getD i (.eq undef)).holds (g d) W) → LW R m P n ds opsL.toArray Q (opsL.drop k) (keep.map (fun d => (d, .eq (g d))) ++ l) W) :
    CW R m P n ds (.region id opsL.toArray true) Q l w := by
  have hks' : k ≤ opsL.length := by have := Nat.le_of_ble_eq_true hks; simp at this; omega
  have sub : ∀ j o, j < k → opsL.toArray[j]? = some o → (opsL.take k)[j]? = some o := fun j o hjk ho => by
    rw [List.getElem?_take_of_lt hjk]; simpa using ho
  have hbd : ∀ i ph, lk l i = some ph → ∀ (j : Nat) (o : Oper), 0 ≤ j → j < k → opsL.toArray[j]? = some o → o.dst ≠ some i := fun i ph hi j o _ hjk ho => freeOK_at hfree hi (List.mem_of_getElem? (sub j o hjk ho))
  refine CW.draws_up hm hl fun fuel listed a hf hu ha => ?_
  refine AWF.gen (k := k) (fun _ => .pred fun _ _ => True) (fun _ _ => True) (fun L f W => Up w.drew W ∧ ∀ (j : Nat) (o : Oper) (d : Nat), j < k → L j = true → opsL.toArray[j]? = some o → o.dst = some d → (early.contains j = true → L h = false) → (phs.getD j (.eq undef)).holds (f d) W) (f0 := fun t => a.tmps.getD t undef) (fun _ => trivial) (fun _ _ _ _ _ => trivial) (fun _ _ _ _ _ _ => trivial) hA hC hF hks (by simp) hD hl hbd ?_ ⟨Up.refl _, fun j o d _ hj => by simp at hj⟩ ?_ fuel listed a hf hu ha (fun _ => rfl)
  · intro i o _ hi hio L f W _ hDn hLi hed hInv a ha hsl
    obtain ⟨hU, hI⟩ := hInv
    have ha2 : Ag n ds (knp opsL.toArray (fun i => phs.getD i (.eq undef)) 0 o ++ l) a W := by
      refine ⟨ha.defers, ha.size, fun t q ht => ?_⟩
      rcases lk_append ht with h1 | h1
      · obtain ⟨e, he, hb, _, p, hp, hpd, rfl⟩ := knp_at h1
        rw [hsl]
        refine hI e.on p t (by have := aheadOK_at hA hio e he hb; omega) (hed e he hb) hp hpd (fun hE => ?_)
        by_cases ih : i = h
        · rw [← ih]; exact hLi
        · have h2 := List.all_eq_true.1 hus i (List.mem_range.2 hi)
          rw [Bool.or_eq_true, Bool.or_eq_true] at h2
          rcases h2 with (h2 | h2) | h2
          · exact absurd (Nat.eq_of_beq_eq_true h2) ih
          · cases hLh : L h with
            | false => rfl
            | true =>
              have := early_of hDn hea (fun m hm => by rw [List.mem_singleton.1 hm]; exact hLh) i (by simpa using h2)
              rw [hLi] at this; cases this
          · rw [hio] at h2
            have h3 := Array.all_eq_true_iff_forall_mem.1 h2 e he
            rw [hb, hE] at h3
            cases h3
      · refine ha.val t q ?_
        rw [lk_right]
        · exact h1
        · cases hq : lk (knp opsL.toArray (fun _ => Ph.pred fun _ _ => True) 0 o) t with
          | none => rfl
          | some q' =>
            obtain ⟨e, he, hb, _, p, hp, hpd, _⟩ := knp_at hq
            exact absurd hpd (hbd t q h1 e.on p (Nat.zero_le _) (by have := aheadOK_at hA hio e he hb; omega) hp)
    have h3 := (hop W hU).at (sub i o hi hio)
    rw [Nat.zero_add] at h3
    obtain ⟨hg, h3, h4⟩ := h3
    rw [if_pos (by simp [Region.wanted, hg])]
    by_cases ih : i = h
    · have done : ∀ v W', (Up w.drew W' ∧ K W W') ∧ (phs.getD i (.eq undef)).holds v W' → True ∧ (∀ d, o.dst = some d → (Ph.pred fun _ _ => True).holds v W') ∧ Up w.drew W' ∧ ∀ (j : Nat) (o' : Oper) (d : Nat), j < k → setL L i j = true → opsL.toArray[j]? = some o' → o'.dst = some d → (early.contains j = true → setL L i h = false) → (phs.getD j (.eq undef)).holds (setS f o.dst v d) W' := by
        rintro v W' ⟨⟨hu, hk⟩, hv⟩
        refine ⟨trivial, fun _ _ => trivial, hu, fun j o' d hj hLj hj' hd hE => ?_⟩
        by_cases e : j = i
        · subst e
          rw [hio] at hj'; cases hj'
          simpa [setS, hd] using hv
        · have h5 : L j = true := by simpa [setL, e] using hLj
          have h6 : setS f o.dst v d = f d := by
            have := (dstOK'_at hD (Nat.zero_le _) hj hj' hd).2 i o (Nat.zero_le _) hi (Ne.symm e) hio
            simp [setS, this]
          rw [h6]
          have h7 : early.contains j = false := by
            cases hc : early.contains j with
            | false => rfl
            | true => have := hE hc; simp [setL, ih] at this
          have h8 : late.contains j = false := by
            cases hc : late.contains j with
            | false => rfl
            | true =>
              have := late_of (h := h) hDn hla (fun m hm h2 => (List.mem_singleton.1 hm) ▸ h2) j (by simpa using hc) h5
              rw [← ih, hLi] at this; cases this
          refine hkp.at j ?_ _ W W' (hI j o' d hj h5 hj' hd (fun hc => by rw [h7] at hc; cases hc)) hk
          rw [Nat.zero_add, Bool.eq_false_iff]
          intro hc
          rw [List.contains_iff_mem, List.mem_cons, List.mem_append] at hc
          rcases hc with hc | hc | hc
          · exact e (hc.trans ih.symm)
          · rw [← List.contains_iff_mem, h7] at hc; cases hc
          · rw [← List.contains_iff_mem, h8] at hc; cases hc
      rcases h4 ih a ha2 with ⟨v, W', hr, hp⟩ | ⟨fn, args, w1, hr, hc⟩
      · exact .inl (.inl ⟨v, W', hr, done v W' hp⟩)
      · exact .inl (.inr ⟨fn, args, w1, hr, hc.mono done⟩)
    · have done : ∀ v W', Up W W' ∧ (phs.getD i (.eq undef)).holds v W' → True ∧ (∀ d, o.dst = some d → (Ph.pred fun _ _ => True).holds v W') ∧ Up w.drew W' ∧ ∀ (j : Nat) (o' : Oper) (d : Nat), j < k → setL L i j = true → opsL.toArray[j]? = some o' → o'.dst = some d → (early.contains j = true → setL L i h = false) → (phs.getD j (.eq undef)).holds (setS f o.dst v d) W' := by
        rintro v W' ⟨hu, hv⟩
        refine ⟨trivial, fun _ _ => trivial, hU.trans hu, fun j o' d hj hLj hj' hd hE => ?_⟩
        by_cases e : j = i
        · subst e
          rw [hio] at hj'; cases hj'
          simpa [setS, hd] using hv
        · have h5 : L j = true := by simpa [setL, e] using hLj
          have h6 : setS f o.dst v d = f d := by
            have := (dstOK'_at hD (Nat.zero_le _) hj hj' hd).2 i o (Nat.zero_le _) hi (Ne.symm e) hio
            simp [setS, this]
          rw [h6]
          exact hph.at j _ W W' (hI j o' d hj h5 hj' hd (fun hc => by have := hE hc; simpa [setL, Ne.symm ih] using this)) hu
      rcases h3 ih a ha2 with ⟨v, W', hr, hp⟩ | ⟨fn, args, w1, hr, hc⟩
      · exact .inl (.inl ⟨v, W', hr, done v W' hp⟩)
      · exact .inl (.inr ⟨fn, args, w1, hr, hc.mono done⟩)
  · intro f W _ hInv fuel' listed' a' hf' hu' ha' hsl'
    obtain ⟨hUp, hI⟩ := hInv
    have key : ∀ i o d, i < k → early.contains i = false → opsL[i]? = some o → o.dst = some d → (phs.getD i (.eq undef)).holds (f d) W := fun i o d hik hE ho hd => hI i o d hik (by simpa using hik) (by simpa using ho) hd (fun hc => by rw [hE] at hc; cases hc)
    refine tail_order hTl hA (opsL.toArray.size - k) k fuel' listed' a' W rfl (by simp; omega) (Nat.le_refl _) hf' hu' ?_
    refine hend W f hUp key a' ⟨ha'.defers, ha'.size, fun t q ht => ?_⟩
    rcases lk_append ht with h | h
    · obtain ⟨d, _, he⟩ := List.mem_map.1 (lk_mem h)
      cases he
      exact hsl' _
    · refine ha'.val t q ?_
      rw [lk_right]
      · exact h
      · cases hq : lk (allP opsL.toArray (fun _ => Ph.pred fun _ _ => True) 0 k) t with
        | none => rfl
        | some q' =>
          obtain ⟨j, p, _, hjk, hp, hpd, _⟩ := allP_at hq
          exact absurd hpd (hbd t q h j p (Nat.zero_le _) hjk hp)
theorem Ag.learn {t : Nat} {v : Value} {a : Go.Act} {env : Env} (ha : Ag n ds env a w) (hv : a.tmps.getD t undef = v) : Ag n ds ((t, .eq v) :: env) a w := ⟨ha.defers, ha.size, fun s q hs => by
  by_cases e : s = t
  · subst e; rw [lk_cons_eq] at hs; cases hs; exact hv
  · rw [lk_cons_ne e] at hs; exact ha.val s q hs⟩
end
end Go.Wx
end
section
namespace Go.Wx
open Go.RowKit
section
variable {P : Program} {n : Nat} {ds : List Deferred} {l : Env} {w : World} {d : Option Tmp} {ty : TypeId} {ps : String} {af : Array Edge} {g : Option (Nat × Bool)}
theorem PEv.max2 {x y : Operand} {ts : Array TypeId} {i j : Int} (hx : Val l x (.int .i64 i)) (hy : Val l y (.int .i64 j)) :
    PEv P n ds l w ⟨d, .call { callee := .builtin .max, args := #[x, y], argTypes := ts }, ty, ps, af, g⟩ (.int .i64 (if i < j then j else i)) := fun a w' ha _ => by
  rw [BigFrame.execOp_builtin, BigFrame.builtin_max]
  refine run_v ?_
  have e : (#[x, y] : Array Operand).map a.eval = #[.int .i64 i, .int .i64 j] := by simp [ha.ev hx, ha.ev hy]
  rw [e]
  exact run_max_int2 w' _ _ _ _ _ _
end
theorem BaseC.setSwaps {w : World} {bc : Array Go.Value} {b : Base} {v : Value} {xs : List Fact} (h : BaseC w bc b) (hv : Sl w v 19 Fact.cells xs) : BaseC w (bc.setIfInBounds 2 v) { b with Swaps := xs } := by
  obtain ⟨v0, v1, v2, v3, v4, v5, v6, v7, v8, v9, v10, e, h0, h1, h2, h3, h4, h5, h6, h7, h8, h9, h10⟩ := h
  subst e
  exact ⟨v0, v1, v, v3, v4, v5, v6, v7, v8, v9, v10, rfl, h0, h1, hv, h3, h4, h5, h6, h7, h8, h9, h10⟩
theorem OwnS.rebase {α : Type} {enc : α → Array Value} {b e k : Nat} {w : World} {v : Value} {xs : List α} (h : OwnS w 0 e k enc v xs) (hb : ∀ i, (aOwn e k enc v xs).foot i → b ≤ i) : OwnS w b e k enc v xs := by
  obtain ⟨h1, h2⟩ := h
  refine ⟨h1, ?_⟩
  rcases h2 with h2 | ⟨g, cap, cur, e, _, rest⟩
  · exact .inl h2
  · exact .inr ⟨g, cap, cur, e, hb g (by rw [e]; rfl), rest⟩
end Go.Wx
end
section
namespace Go.Wx
abbrev zb : Array Go.Value := #[.slice none 0 0, .slice none 0 0, .slice none 0 0, .slice none 0 0, .slice none 0 0, .slice none 0 0, .slice none 0 0, .slice none 0 0, .slice none 0 0, .slice none 0 0, .slice none 0 0]
theorem zb_no (i : Nat) (n : Int) : zb[i]? ≠ some (vi n) := by
  match i with
  | 0 | 1 | 2 | 3 | 4 | 5 | 6 | 7 | 8 | 9 | 10 => intro h; cases h
  | k + 11 => intro h; rw [Array.getElem?_eq_none (by simp)] at h; cases h
theorem Els.stoF {w w' : World} {B : Nat} {cs : Array Go.Value} {T : TypeId} {ad : Option Addr} {xs : List Fact} (h : Els w ad 19 Fact.cells xs) (hb : Blk w B cs T) (hc : ∀ (i : Nat) (n : Int), cs[i]? ≠ some (vi n)) (u : Sto B w w') : Els w' ad 19 Fact.cells xs := fun i x hx => by
  obtain ⟨B', o, h1, h2⟩ := h i x hx
  refine ⟨B', o, h1, h2.sto u (fun e => ?_)⟩
  subst e
  have h3 := h2 0 (vi x.Kind) rfl
  have h4 : w.cell? ⟨B', o + i * 19 + 0, none⟩ = cs[o + i * 19 + 0]? := by unfold World.cell?; rw [hb]; rfl
  rw [h4] at h3
  exact hc _ _ h3
theorem Sl.stoF {w w' : World} {B : Nat} {cs : Array Go.Value} {T : TypeId} {v : Go.Value} {xs : List Fact} (h : Sl w v 19 Fact.cells xs) (hb : Blk w B cs T) (hc : ∀ (i : Nat) (n : Int), cs[i]? ≠ some (vi n)) (u : Sto B w w') : Sl w' v 19 Fact.cells xs := let ⟨ad, c, e, hE⟩ := h; ⟨ad, c, e, Els.stoF hE hb hc u⟩
theorem BaseC.stoF {w w' : World} {B : Nat} {cs : Array Go.Value} {T : TypeId} {bc : Array Go.Value} {b : Base} (h : BaseC w bc b) (hb : Blk w B cs T) (hc : ∀ (i : Nat) (n : Int), cs[i]? ≠ some (vi n)) (u : Sto B w w') : BaseC w' bc b := by
  obtain ⟨v0, v1, v2, v3, v4, v5, v6, v7, v8, v9, v10, e, h0, h1, h2, h3, h4, h5, h6, h7, h8, h9, h10⟩ := h
  exact ⟨v0, v1, v2, v3, v4, v5, v6, v7, v8, v9, v10, e, h0.stoF hb hc u, h1.stoF hb hc u, h2.stoF hb hc u, h3.stoF hb hc u, h4.stoF hb hc u, h5.stoF hb hc u, h6.stoF hb hc u, h7.stoF hb hc u, h8.stoF hb hc u, h9.stoF hb hc u, h10.stoF hb hc u⟩
theorem lst_mem {l : List Fact} {d : Int} {j : Nat} (hj : j < 11) {x : Fact} : x ∈ lstOf (ofB l d) j ↔ eff l d x ∧ x.Gone = false ∧ x.Kind = ((j + 1 : Nat) : Int) := by
  rw [lst_ofB l d hj]
  unfold lstAt
  rw [if_pos (List.mem_singleton.2 rfl), (sortK_sts _).same.mem, List.mem_filter, best_eff]
  simp
end Go.Wx
namespace Go.Proofs.YthfjagphcekcbaaGreat
open Go.Wx Go.RowKit
theorem known_any (ad : Option Addr) (cp : Nat) (xs : List I6) (day : Int) (w : World) (hE1 : Els w ad 6 I6.cells xs) : Ret Tryz.prog 30 #[.slice ad xs.length cp, vi day] w fun r w' => (∃ bc, r = .agg bc ∧ BaseC w' bc (ofB (someL xs) (pickI day 11))) ∧ Up w w' := by
  obtain ⟨w0, rfl⟩ : ∃ w0, w0 = w := ⟨_, rfl⟩
  have hS := Sep.start no w0
  refine Calls_start (n := 10) (m := 9) Tryz.func30 rfl rfl rfl ?_
  refine CW.seq (CW.region ?_)
  refine LW.r (REv.allocA Tryz.zeroValue24) rfl rfl rfl rfl ?_
  rintro _ w1 ⟨B4, rfl, NB4⟩
  have eB4 := NB4.at_
  have zB4 := NB4.size
  replace hS := hS.addB NB4
  change Wx.Sep _ _ _ [_] at hS
  refine LW.nil (KW.then (CW.seq (CW.region (LW.p (PEv.move (.tmp rfl)) rfl rfl rfl ?_))))
  refine LW.c (enter_call0 (.cons (.tmp rfl) .nil) (Tryz.en14)) rfl rfl rfl rfl (Some_any ad cp xs _ (Els.up hE1 hS.upd)) ?_
  rintro v6 w2 ⟨hO6, uw2⟩
  have zw2 := uw2.size
  replace hS := hS.add uw2 (A' := aOwn 46 19 Fact.cells v6 (someL xs)) (hO6.mono (Nat.zero_le _)) (fun i h => hO6.base i h)
  change Wx.Sep _ _ _ [_, _] at hS
  clear hO6
  obtain ⟨ad6, cp6, rfl, _⟩ := (hS.own 1 rfl).sl (fun _ => rfl)
  have hl6 := someL_len xs
  refine LW.p (PEv.move (.tmp rfl)) rfl rfl rfl ?_
  refine LW.c (enter_call0 (.cons (.tmp rfl) (.cons (.const _) .nil)) (Tryz.en15)) rfl rfl rfl rfl (pick_any _ _ _ (by decide)) ?_
  rintro _ w3 ⟨rfl, uw3⟩
  have zw3 := uw3.size
  replace hS := hS.up uw3
  refine LW.c (enter_call0 (.cons (.tmp rfl) (.cons (.tmp rfl) .nil)) (Tryz.en13)) rfl rfl rfl rfl (Of_any ad6 cp6 (someL xs) _ _ ((hS.own 1 rfl).els (fun _ => rfl)) (by omega)) ?_
  rintro _ w4 ⟨bc, rfl, hC, uw4⟩
  have zw4 := uw4.size
  replace hS := hS.up uw4
  have hBz := hS.blk 0 rfl
  refine LW.s (SEv.storeA Tryz.sizeOf24 hC.size (.tmp rfl) (.tmp rfl) hC.one (hS.blk 0 rfl) rfl) rfl rfl rfl ?_
  intro w5 Nw5
  have zw5 := Nw5.size
  replace hS := hS.putB 0 rfl Nw5
  change Wx.Sep _ _ _ [_, _] at hS
  replace hC := hC.stoF hBz zb_no Nw5.sto
  refine LW.nil (KW.then (CW.ret ?_))
  refine KW.retA rfl rfl Tryz.isAgg24 Tryz.sizeOf24 hC.size ((hS.blk 0 rfl).agg) ⟨_, rfl, ?_⟩
  exact ⟨⟨bc, rfl, hC⟩, hS.upd⟩
end Go.Proofs.YthfjagphcekcbaaGreat
end
section
namespace Go.Wx
theorem wI_in {n : Int} (h0 : -9223372036854775808 ≤ n) (h1 : n < 9223372036854775808) : wI n = n := wrap_i64_in h0 (by omega)
theorem isID_small {k : Int} (h : 1 ≤ k ∧ k ≤ 7) : isIDb k = true := by unfold isIDb; simp; omega
theorem insK_end {α : Type} {key : α → K2} {x : α} : ∀ {l : List α}, (∀ y ∈ l, ltK (key x) (key y) = false) → insK key x l = l ++ [x]
  | [], _ => rfl
  | y :: l, h => by
    unfold insK
    rw [if_neg (by rw [h y List.mem_cons_self]; exact Bool.false_ne_true), insK_end fun z hz => h z (List.mem_cons_of_mem _ hz)]
    rfl
theorem ordG_snoc {p : Fact → Bool} {l : List Fact} {x : Fact} (h : ∀ y ∈ l, y.Time ≤ x.Time ∧ y.ID ≤ x.ID) : ordG p (l ++ [x]) = if p x = true then ordG p l ++ [x] else ordG p l := by
  unfold ordG
  rw [List.filter_append]
  by_cases hp : p x = true
  · rw [if_pos hp, List.filter_cons_of_pos hp, List.filter_nil]
    unfold sortK
    rw [List.foldl_append]
    show insK keyTI x (sortK keyTI (l.filter p)) = sortK keyTI (l.filter p) ++ [x]
    refine insK_end fun y hy => ?_
    rw [(sortK_sts _).same.mem, List.mem_filter] at hy
    have := h y hy.1
    rw [ltK_not]
    show ¬ (x.Time < y.Time ∨ (x.Time = y.Time ∧ x.ID < y.ID))
    omega
  · rw [if_neg hp, List.filter_cons_of_neg (by simpa using hp), List.filter_nil, List.append_nil]
theorem whoL_in {l : List Fact} {t k : Int} (hk : 1 ≤ k ∧ k ≤ 7) : whoL l t k = whoF (ordG (swOk t) l) k := by rw [whoL_eq, if_pos (isID_small hk)]
theorem whoF_snoc (L : List Fact) (x : Fact) (k : Int) : whoF (L ++ [x]) k = whoF L (tau x k) := by unfold whoF; rw [List.foldr_append]; rfl
theorem whoL_snoc {l : List Fact} {x : Fact} {t k : Int} (h : ∀ y ∈ l, y.Time ≤ x.Time ∧ y.ID ≤ x.ID) (hk : isIDb k = true) : whoL (l ++ [x]) t k = if swOk t x = true then whoF (ordG (swOk t) l) (tau x k) else whoF (ordG (swOk t) l) k := by
  rw [whoL_eq, if_pos hk, ordG_snoc h]
  split
  · rw [whoF_snoc]
  · rfl
end Go.Wx
namespace Go.Proofs.YthfjagphcekcbaaGreat
open Go.Wx Go.RowKit
end Go.Proofs.YthfjagphcekcbaaGreat
end
section
namespace Go.Wx
def swF (a b t i : Int) : Fact := { zeroF with Kind := 3, Version := 1, ID := i, Wafer := a, Other := b, Time := t }
def atF (p : Int) (a : Int) (f : Fact) : Int := if a < wI (f.Time + p) then wI (f.Time + p) else a
def atM (p : Int) (l : List Fact) : Int := l.foldl (atF p) p
theorem atM_snoc (p : Int) {l : List Fact} {k : Nat} {x : Fact} (h : l[k]? = some x) : atM p (l.take (k + 1)) = atF p (atM p (l.take k)) x := by unfold atM; rw [take_succ_of h, List.foldl_append]; rfl
theorem atM_ge {p : Int} (hp : 0 ≤ p ∧ p < 10) : ∀ {l : List Fact} {a : Int}, (∀ f ∈ l, 0 ≤ f.Time ∧ f.Time < 50) → (a ≤ l.foldl (atF p) a) ∧ ∀ f ∈ l, f.Time ≤ l.foldl (atF p) a
  | [], a, _ => ⟨Int.le_refl _, fun f h => by cases h⟩
  | g :: l, a, h => by
    have h1 := atM_ge hp (l := l) (a := atF p a g) fun f hf => h f (List.mem_cons_of_mem _ hf)
    have hg := h g List.mem_cons_self
    have e : wI (g.Time + p) = g.Time + p := wI_in (by omega) (by omega)
    have h2 : a ≤ atF p a g ∧ g.Time ≤ atF p a g := by unfold atF; rw [e]; split <;> omega
    rw [List.foldl_cons]
    refine ⟨by omega, fun f hf => ?_⟩
    rcases List.mem_cons.1 hf with rfl | hf
    · omega
    · exact h1.2 f hf
theorem someF_ti {y : I6} (h : I6Ok y) : (0 ≤ (someF y).Time ∧ (someF y).Time < 50) ∧ (someF y).ID ≤ 12 := by
  have h1 := pick_range (c := y.e) (n := 50) h.2.2.2.2.1 (by decide)
  have h2 := pick_range (c := y.c) (n := 12) h.2.2.1 (by decide)
  have e : (someF y).Time = pickI y.e 50 := by
    unfold someF
    split
    · rfl
    · split <;> rfl
  have e2 : (someF y).ID = wI (1 + pickI y.c 12) ∨ (someF y).ID = 0 := by
    unfold someF
    split
    · exact .inl rfl
    · split
      · exact .inl rfl
      · exact .inr rfl
  rw [e]
  rw [wI_in (by omega) (by omega)] at e2
  omega
theorem swaps_ti {xs : List I6} (hx : ∀ y ∈ xs, I6Ok y) {d : Int} {f : Fact} (h : f ∈ (ofB (someL xs) d).Swaps) : (0 ≤ f.Time ∧ f.Time < 50) ∧ f.ID ≤ 12 := by
  obtain ⟨h1, _, h3⟩ := (lst_mem (j := 2) (by decide)).1 h
  obtain ⟨y, hy, rfl⟩ := List.mem_map.1 (show f ∈ ((xs.take 30).map someF) from h1.1)
  exact someF_ti (hx y (List.mem_of_mem_take hy))
theorem swF_ok {a b t i T : Int} (ha : 1 ≤ a ∧ a ≤ 6) (hb : 1 ≤ b ∧ b ≤ 6) : swOk T (swF a b t i) = decide (t ≤ T) := by
  have e1 : isIDb a = true := isID_small (by omega)
  have e2 : isIDb b = true := isID_small (by omega)
  show (isIDb a && isIDb b && decide (t ≤ T)) = _
  rw [e1, e2]; rfl
theorem swap_after {l : List Fact} {a b t T k : Int} (h : ∀ y ∈ l, y.Time ≤ t ∧ y.ID ≤ 12) (ha : 1 ≤ a ∧ a ≤ 6) (hb : 1 ≤ b ∧ b ≤ 6) (hk : 1 ≤ k ∧ k ≤ 7) : whoL (l ++ [swF a b t 500]) T k = if t ≤ T then whoF (ordG (swOk T) l) (tau (swF a b t 500) k) else whoF (ordG (swOk T) l) k := by
  rw [whoL_snoc (fun y hy => ⟨(h y hy).1, by have := (h y hy).2; show y.ID ≤ 500; omega⟩) (isID_small hk), swF_ok ha hb]
  by_cases e : t ≤ T
  · rw [decide_eq_true e, if_pos rfl, if_pos e]
  · rw [decide_eq_false e, if_neg Bool.false_ne_true, if_neg e]
theorem swap_twice {l : List Fact} {a b t T k : Int} (h : ∀ y ∈ l, y.Time ≤ t ∧ y.ID ≤ 12) (ha : 1 ≤ a ∧ a ≤ 6) (hb : 1 ≤ b ∧ b ≤ 6) (hk : 1 ≤ k ∧ k ≤ 7) : whoL ((l ++ [swF a b t 500]) ++ [swF a b t 501]) T k = whoF (ordG (swOk T) l) k := by
  have h1 : ∀ y ∈ l ++ [swF a b t 500], y.Time ≤ (swF a b t 501).Time ∧ y.ID ≤ (swF a b t 501).ID := fun y hy => by
    show y.Time ≤ t ∧ y.ID ≤ 501
    rcases List.mem_append.1 hy with hy | hy
    · have := h y hy; omega
    · rw [List.mem_singleton] at hy; subst hy; exact ⟨Int.le_refl _, by show (500 : Int) ≤ 501; decide⟩
  have h2 : ∀ y ∈ l, y.Time ≤ (swF a b t 500).Time ∧ y.ID ≤ (swF a b t 500).ID := fun y hy => ⟨(h y hy).1, by have := (h y hy).2; show y.ID ≤ 500; omega⟩
  rw [whoL_snoc h1 (isID_small hk), swF_ok ha hb, ordG_snoc h2, swF_ok ha hb]
  by_cases e : t ≤ T
  · rw [decide_eq_true e, if_pos rfl, if_pos rfl, whoF_snoc]
    show whoF _ (tau (swF a b t 500) (tau (swF a b t 500) k)) = _
    rw [tau_tau]
  · rw [decide_eq_false e, if_neg Bool.false_ne_true, if_neg Bool.false_ne_true]
theorem c113 {a b c : Prop} [Decidable a] [Decidable b] [Decidable c] : (decide a || !decide b && !decide c) = true ↔ a ∨ (¬ b ∧ ¬ c) := by simp
theorem tau_one {a b t i : Int} : tau (swF a b t i) a = b := by unfold tau; exact if_pos rfl
theorem tau_two {a b t i : Int} : tau (swF a b t i) b = a := by
  unfold tau
  split
  · rename_i e; exact e
  · exact if_pos rfl
theorem tau_none {a b t i k : Int} (h1 : k ≠ a) (h2 : k ≠ b) : tau (swF a b t i) k = k := (if_neg h1).trans (if_neg h2)
end Go.Wx
namespace Go.Proofs.YthfjagphcekcbaaGreat
open Go.Wx Go.RowKit
set_option maxHeartbeats 4000000 in
theorem GenealogySwapped_any (ad : Option Addr) (cp : Nat) (xs : List I6) (day one two later mark time : Int) (w : World) (hE1 : Els w ad 6 I6.cells xs) (hx : ∀ y ∈ xs, I6Ok y) (hone : inI one) (htwo : inI two) (hlater : inI later) (hmark : inI mark) : Ret Tryz.prog 6 #[.slice ad xs.length cp, vi day, vi one, vi two, vi later, vi mark, vi time] w fun r w' => r = .bool true ∧ Up w w' := by
  obtain ⟨w0, rfl⟩ : ∃ w0, w0 = w := ⟨_, rfl⟩
  have hS := Sep.start no w0
  refine Calls_start (n := 141) (m := 9) Tryz.func6 rfl rfl rfl ?_
  refine CW.seq (CW.region (LW.p (PEv.assign (.const _)) rfl rfl rfl (LW.nil (KW.then (CW.seq (CW.region ?_))))))
  refine LW.c (enter_call0 .nil (Tryz.en11)) rfl rfl rfl rfl (sane_any _) ?_
  rintro _ w1 ⟨rfl, uw1⟩
  have zw1 := uw1.size
  replace hS := hS.up uw1
  refine LW.p (PEv.assign (.tmp rfl)) rfl rfl rfl (LW.nil (KW.then (CW.seq (CW.region (LW.p (PEv.move (.tmp rfl)) rfl rfl rfl (LW.p (PEv.move (.tmp rfl)) rfl rfl rfl ?_))))))
  refine LW.c (enter_call0 (.cons (.tmp rfl) (.cons (.tmp rfl) .nil)) (Tryz.en30)) rfl rfl rfl rfl (known_any ad cp xs day _ (Els.up hE1 hS.upd)) ?_
  rintro _ w2 ⟨⟨bc, rfl, hC⟩, uw2⟩
  have zw2 := uw2.size
  replace hS := hS.up uw2
  refine LW.r (REv.allocA Tryz.zeroValue24) rfl rfl rfl rfl ?_
  rintro _ w3 ⟨B16, rfl, MB16⟩
  refine LW.s (SEv.storeA Tryz.sizeOf24 hC.size (.tmp rfl) (.tmp rfl) (hC.one) MB16.blk rfl) rfl rfl rfl ?_
  intro w4 LB16
  have NB16 := MB16.set LB16
  clear LB16 MB16
  have eB16 := NB16.at_
  have zB16 := NB16.size
  replace hC := hC.up NB16.up
  replace hS := hS.addB NB16
  change Wx.Sep _ _ _ [_] at hS
  refine LW.nil (KW.then (CW.seq (CW.region (LW.p (PEv.move (.tmp rfl)) rfl rfl rfl ?_))))
  refine LW.c (enter_call0 (.cons (.tmp rfl) (.cons (.const _) .nil)) (Tryz.en15)) rfl rfl rfl rfl (pick_any _ _ _ (by decide)) ?_
  rintro _ w5 ⟨rfl, uw5⟩
  have zw5 := uw5.size
  replace hS := hS.up uw5
  replace hC := hC.up uw5
  have hp1 := pick_range (c := one) (n := 6) hone (by decide)
  obtain ⟨p1, ep1⟩ : ∃ p1, p1 = pickI one 6 := ⟨_, rfl⟩
  rw [← ep1] at hp1 ⊢
  refine LW.p (PEv.add_w (.const _) (.tmp rfl)) rfl rfl rfl ?_
  refine LW.p (PEv.assign (.tmp rfl)) rfl rfl rfl (LW.nil (KW.then (CW.seq ?_)))
  obtain ⟨o1, eo1⟩ : ∃ o, o = IntKind.i64.wrap (1 + p1) := ⟨_, rfl⟩
  rw [← eo1]
  have ho1 : o1 = 1 + p1 := by rw [eo1]; exact wI_in (by omega) (by omega)
  refine CW.region (LW.p (PEv.move (.tmp rfl)) rfl rfl rfl (LW.p (PEv.move (.tmp rfl)) rfl rfl rfl ?_))
  refine LW.c (enter_call0 (.cons (.tmp rfl) (.cons (.const _) .nil)) (Tryz.en15)) rfl rfl rfl rfl (pick_any _ _ _ (by decide)) ?_
  rintro _ w6 ⟨rfl, uw6⟩
  have zw6 := uw6.size
  replace hS := hS.up uw6
  replace hC := hC.up uw6
  have hp2 := pick_range (c := two) (n := 5) htwo (by decide)
  obtain ⟨p2, ep2⟩ : ∃ p2, p2 = pickI two 5 := ⟨_, rfl⟩
  rw [← ep2] at hp2 ⊢
  refine LW.p (PEv.add_w (.tmp rfl) (.tmp rfl)) rfl rfl rfl ?_
  refine LW.p (PEv.rem (.tmp rfl) (.const _) (by decide)) rfl rfl rfl ?_
  refine LW.p (PEv.add_w (.const _) (.tmp rfl)) rfl rfl rfl ?_
  refine LW.p (PEv.assign (.tmp rfl)) rfl rfl rfl (LW.nil (KW.then (CW.seq ?_)))
  obtain ⟨o2, eo2⟩ : ∃ o, o = wI (1 + (wI (o1 + p2)).tmod 6) := ⟨_, rfl⟩
  have ho2 : 1 ≤ o2 ∧ o2 ≤ 6 := by
   rw [eo2, wI_in (n := o1 + p2) (by omega) (by omega), Int.tmod_eq_emod_of_nonneg (by omega), wI_in (by omega) (by omega)]
   omega
  change CW _ _ _ _ _ _ _ ((3, .eq (vi (wI (1 + (wI (o1 + p2)).tmod 6)))) :: _) _
  rw [← eo2]
  have hSh := ofB_short (l := someL xs) (by have := someL_len xs; omega) (pickI day 11)
  have hsl : (ofB (someL xs) (pickI day 11)).Swaps.length ≤ 100000 := hSh 2
  refine CW.region (LW.p (PEv.move (.tmp rfl)) rfl rfl rfl ?_)
  refine LW.c (enter_call0 (.cons (.tmp rfl) (.cons (.const _) .nil)) (Tryz.en15)) rfl rfl rfl rfl (pick_any _ _ _ (by decide)) ?_
  rintro _ w7 ⟨rfl, uw7⟩
  have zw7 := uw7.size
  replace hS := hS.up uw7
  replace hC := hC.up uw7
  have hpl := pick_range (c := later) (n := 10) hlater (by decide)
  obtain ⟨pl, epl⟩ : ∃ pl, pl = pickI later 10 := ⟨_, rfl⟩
  rw [← epl] at hpl ⊢
  have hpk := fun w : World => pick_any later 10 w (by decide)
  simp only [← epl] at hpk
  refine LW.p (PEv.assign (.tmp rfl)) rfl rfl rfl (LW.nil (KW.then (CW.seq (CW.seq (CW.region (LW.p (PEv.assign (.const _)) rfl rfl rfl (LW.nil (KW.then (CW.block ?_)))))))))
  refine CW.loopB (σ := Nat × Int) (fun s w => (s.1 ≤ (ofB (someL xs) (pickI day 11)).Swaps.length) ∧ (s.2 = atM pl ((ofB (someL xs) (pickI day 11)).Swaps.take s.1)) ∧ (Wx.Sep no w0 w [aBlk B16 bc 24]) ∧ (BaseC w bc (ofB (someL xs) (pickI day 11)))) (fun s => [(18, .eq (vi (s.1 : Int))), (17, .eq (vi s.2))]) ([(2, .eq _), (3, .eq _), (4, .eq _), (5, .eq _), (6, .eq _), (14, .eq _), (15, .eq _), (16, .eq _)]) (fun s => (ofB (someL xs) (pickI day 11)).Swaps.length - s.1) (0, pl) ?_ ⟨rfl, rfl, rfl, rfl, rfl, rfl, rfl, rfl, rfl, rfl, trivial⟩ ?_
  ·exact ⟨Nat.zero_le _, rfl, hS, hC⟩
  ·rintro ⟨k, a0⟩ w8 ⟨hk, ha0, hS, hC⟩
   dsimp only at hk ha0
   change CW _ _ _ _ _ _ _ ([(18, .eq (vi (k : Int))), (17, .eq (vi a0))] ++ _) _
   refine CW.seq (CW.seq ?_)
   obtain ⟨v2, h2, ad2, cp2, rfl, hEs⟩ := hC.at2
   refine CW.region (LW.p (PEv.move (.tmp rfl)) rfl rfl rfl ?_)
   refine LW.p (PEv.fieldAddr (off := 2) Tryz.underlying24 rfl rfl Tryz.sizeOf22 rfl (.tmp rfl)) rfl rfl rfl ?_
   refine LW.p (PEv.load Tryz.isAgg22 (.tmp rfl) ((hS.blk 0 rfl).cell h2)) rfl rfl rfl ?_
   refine LW.p (PEv.lenS Tryz.underlying22 (.tmp rfl)) rfl rfl rfl ?_
   refine LW.p (PEv.lss (.tmp rfl) (.tmp rfl)) rfl rfl rfl ?_
   refine LW.nil (KW.then ?_)
   refine CW.cond (.tmp rfl) (fun h44 => ?_) (fun h44 => ?_)
   ·first | replace h44 := of_decide_eq_true h44 | replace h44 := of_decide_eq_false h44 | skip
    refine CW.skip (KW.then (CW.seq (CW.block ?_)))
    obtain ⟨x, hx9⟩ := getElem?_of_lt (xs := (ofB (someL xs) (pickI day 11)).Swaps) (i := k) (by omega)
    obtain ⟨Bx, ox, ax, hcx⟩ := hEs k x hx9
    refine CW.draws_then 11 (by kernel_rfl) (by kernel_rfl) (by kernel_rfl) (by kernel_rfl) (by kernel_rfl) rfl rfl ?_
    refine HW.p (PEv.move (.tmp rfl)) rfl rfl ?_
    refine HW.p (PEv.fieldAddr (off := 2) Tryz.underlying24 rfl rfl Tryz.sizeOf22 rfl (.tmp rfl)) rfl rfl ?_
    refine HW.p (PEv.load Tryz.isAgg22 (.tmp rfl) ((hS.blk 0 rfl).cell h2)) rfl rfl ?_
    refine HW.p (PEv.move (.tmp rfl)) rfl rfl ?_
    refine HW.p (PEv.indexAddr' Tryz.underlying22 Tryz.sizeOf46 (.tmp rfl) (.tmp rfl) (by omega) ax) rfl rfl ?_
    refine HW.p (PEv.fieldAddr (off := 5) Tryz.underlying46 rfl rfl Tryz.sizeOf3 rfl (.tmp rfl)) rfl rfl ?_
    refine HW.p (PEv.load Tryz.isAgg3 (.tmp rfl) (hcx.nth (j := 5) rfl)) rfl rfl ?_
    refine HW.p (PEv.move (.tmp rfl)) rfl rfl ?_
    refine HW.c (fun a w _ ha => enter_call0 (.cons (.tmp rfl) (.cons (.const _) .nil)) (Tryz.en15) a ha) rfl rfl (fun w hu => hpk w) ?_
    refine HW.p (PEv.add_w (.tmp rfl) (.tmp rfl)) rfl rfl ?_
    refine HW.p (PEv.max2 (.tmp rfl) (.tmp rfl)) rfl rfl ?_
    refine HW.nil ?_
    intro w9 uw9
    have zw9 := uw9.size
    replace hS := hS.up uw9
    replace hC := hC.up uw9
    refine LW.p (PEv.assign (.tmp rfl)) rfl rfl rfl (LW.nil (KW.inBlock (KW.then (CW.region (LW.p (PEv.move (.tmp rfl)) rfl rfl rfl ?_)))))
    refine LW.p (PEv.inc (.tmp rfl) (by omega)) rfl rfl rfl ?_
    refine LW.p (PEv.assign (.tmp rfl)) rfl rfl rfl (LW.nil (KW.round ?_))
    exact ⟨(k + 1, atF pl a0 x), ⟨by show k + 1 ≤ _; omega, by rw [atM_snoc pl hx9, ← ha0], hS, hC⟩, ⟨rfl, rfl, rfl, rfl, rfl, rfl, rfl, rfl, rfl, rfl, trivial⟩, by show (ofB (someL xs) (pickI day 11)).Swaps.length - (k + 1) < (ofB (someL xs) (pickI day 11)).Swaps.length - k; omega⟩
   ·first | replace h44 := of_decide_eq_true h44 | replace h44 := of_decide_eq_false h44 | skip
    refine CW.exit (KW.then_exit (KW.then_exit (KW.block_hit (KW.then (CW.seq ?_)))))
    have hUz := hS.upd
    have hB16 := hS.blk 0 rfl
    replace hS := Sep.start no w8
    obtain ⟨at_, eat⟩ : ∃ a, a = a0 := ⟨_, rfl⟩
    rw [← eat]
    have hat : ∀ y ∈ (ofB (someL xs) (pickI day 11)).Swaps, y.Time ≤ at_ ∧ y.ID ≤ 12 := fun y hy => by
     have hkl : k = (ofB (someL xs) (pickI day 11)).Swaps.length := by omega
     rw [eat, ha0, hkl, List.take_length]
     exact ⟨(atM_ge hpl fun f hf => (swaps_ti hx hf).1).2 y hy, (swaps_ti hx hy).2⟩
    clear eat
    refine CW.region (LW.p (PEv.move (.tmp rfl)) rfl rfl rfl (LW.p (PEv.move (.tmp rfl)) rfl rfl rfl (LW.p (PEv.move (.tmp rfl)) rfl rfl rfl ?_)))
    refine LW.p (PEv.build (cs := (swF o1 o2 at_ 500).cells) Tryz.underlying46 Tryz.zeroValue46 Tryz.places46 (.cons (.const _) (.cons (.const _) (.cons (.const _) (.cons (.tmp rfl) (.cons (.tmp rfl) (.cons (.tmp rfl) .nil)))))) rfl) rfl rfl rfl ?_
    refine LW.r (REv.allocA Tryz.zeroValue46) rfl rfl rfl rfl ?_
    rintro _ w10 ⟨B19, rfl, MB19⟩
    refine LW.s (SEv.storeA Tryz.sizeOf46 rfl (.tmp rfl) (.tmp rfl) (Fact.one _) MB19.blk rfl) rfl rfl rfl ?_
    intro w11 LB19
    have NB19 := MB19.set LB19
    clear LB19 MB19
    have eB19 := NB19.at_
    have zB19 := NB19.size
    replace hS := hS.addB NB19
    change Wx.Sep _ _ _ [_] at hS
    refine LW.nil (KW.then (CW.seq (CW.region ?_)))
    refine LW.p (PEv.loadA Tryz.isAgg46 Tryz.sizeOf46 rfl (.tmp rfl) ((hS.blk 0 rfl).agg)) rfl rfl rfl ?_
    refine LW.r (REv.allocA Tryz.zeroValue46) rfl rfl rfl rfl ?_
    rintro _ w12 ⟨B20, rfl, MB20⟩
    refine LW.s (SEv.storeA Tryz.sizeOf46 rfl (.tmp rfl) (.tmp rfl) (Fact.one _) MB20.blk rfl) rfl rfl rfl ?_
    intro w13 LB20
    have NB20 := MB20.set LB20
    clear LB20 MB20
    have eB20 := NB20.at_
    have zB20 := NB20.size
    replace hS := hS.addB NB20
    change Wx.Sep _ _ _ [_, _] at hS
    refine LW.nil (KW.then (CW.seq (CW.region ?_)))
    refine LW.p (PEv.fieldAddr (off := 1) Tryz.underlying46 rfl rfl Tryz.sizeOf3 rfl (.tmp rfl)) rfl rfl rfl ?_
    refine LW.s (SEv.store Tryz.sizeOf3 (.tmp rfl) (.const _) rfl (hS.blk 1 rfl) (Nat.le_of_ble_eq_true rfl)) rfl rfl rfl ?_
    intro w14 Nw14
    have zw14 := Nw14.size
    replace hS := hS.putB 1 rfl (show Set_ _ w14 _ ((swF o1 o2 at_ 501).cells) _ from Nw14)
    change Wx.Sep _ _ _ [_, _] at hS
    refine LW.nil (KW.then (CW.seq (CW.region ?_)))
    refine LW.p (PEv.loadA Tryz.isAgg24 Tryz.sizeOf24 (hC.size) (.tmp rfl) ((hB16.up hS.upd).agg)) rfl rfl rfl ?_
    refine LW.r (REv.allocA Tryz.zeroValue24) rfl rfl rfl rfl ?_
    rintro _ w15 ⟨B21, rfl, MB21⟩
    refine LW.s (SEv.storeA Tryz.sizeOf24 hC.size (.tmp rfl) (.tmp rfl) (hC.one) MB21.blk rfl) rfl rfl rfl ?_
    intro w16 LB21
    have NB21 := MB21.set LB21
    clear LB21 MB21
    have eB21 := NB21.at_
    have zB21 := NB21.size
    replace hS := hS.addB NB21
    change Wx.Sep _ _ _ [_, _, _] at hS
    refine LW.nil (KW.then (CW.seq ?_))
    have hsl1 : ((ofB (someL xs) (pickI day 11)).Swaps ++ [(swF o1 o2 at_ 500)]).length ≤ 100001 := by rw [List.length_append, List.length_singleton]; omega
    refine CW.freeH 7 6 [3, 5, 0] [] [.pred fun v W => ∃ B, v = .slice (some ⟨B, 0, none⟩) 0 0 ∧ OwnS W w16.drew.heap.size 46 19 Fact.cells (.slice (some ⟨B, 0, none⟩) 0 0) ([] : List Fact), .eq (.pointer (some ⟨B16, 2, none⟩)), .eq (.slice ad2 (ofB (someL xs) (pickI day 11)).Swaps.length cp2), .pred fun v W => OwnS W w16.drew.heap.size 46 19 Fact.cells v ((ofB (someL xs) (pickI day 11)).Swaps), .eq (.agg ((swF o1 o2 at_ 500)).cells), .pred fun v W => Sl W v 19 Fact.cells [(swF o1 o2 at_ 500)], .pred fun v W => OwnS W w16.drew.heap.size 46 19 Fact.cells v ((ofB (someL xs) (pickI day 11)).Swaps ++ [(swF o1 o2 at_ 500)])] [71] (fun _ _ => True) (by kernel_rfl) rfl (by kernel_rfl) (by kernel_rfl) (by kernel_rfl) (by kernel_rfl) (by kernel_rfl) (by kernel_rfl) (by kernel_rfl) (by kernel_rfl) (by kernel_rfl) (by kernel_rfl) ⟨PhU.pred fun _ _ _ h u => let ⟨B, e, ho⟩ := h; ⟨B, e, ho.up u⟩, PhU.eq _, PhU.eq _, PhU.pred fun _ _ _ h u => OwnS.up h u, PhU.eq _, PhU.pred fun _ _ _ h u => Sl.up h u, PhU.pred fun _ _ _ h u => OwnS.up h u, trivial⟩ ⟨.inl rfl, .inr (fun _ _ _ h _ => h), .inr (fun _ _ _ h _ => h), .inl rfl, .inr (fun _ _ _ h _ => h), .inl rfl, .inl rfl, trivial⟩ ?_ ?_
    ·intro W hU0
     have hU := (Up.drew w16).trans hU0
     have hSW := hS.up hU
     have zU0 := hU0.size
     refine allL.cons ⟨rfl, fun _ => TU.r (REv.buildSlice (xs := ([] : List Fact)) (enc := Fact.cells) (mk := fun f : Fact => .agg f.cells) Tryz.underlying22 Tryz.sizeOf46 Tryz.zeroValue46 rfl (Nat.le_of_ble_eq_true rfl) (fun _ => rfl) (fun _ => rfl) .nil rfl) (fun v W' h => let ⟨u, B, e, ho⟩ := NewSl.own0 (base := w16.drew.heap.size) h zU0; ⟨u, B, e, ho⟩), fun h => absurd h (by decide)⟩ ?_
     refine allL.cons ⟨rfl, fun _ => TU.p (PEv.fieldAddr (off := 2) Tryz.underlying24 rfl rfl Tryz.sizeOf22 rfl (.tmp rfl)) rfl, fun h => absurd h (by decide)⟩ ?_
     refine allL.cons ⟨rfl, fun _ => TU.p (PEv.load Tryz.isAgg22 (.tmp rfl) ((hB16.up hSW.upd).cell h2)) rfl, fun h => absurd h (by decide)⟩ ?_
     refine allL.cons ⟨rfl, fun _ => TU.open (d := 65) rfl fun v hv => by obtain ⟨B, rfl, ho⟩ := hv; exact TU.r (REv.append0 (enc := Fact.cells) (k := 19) (bytes := 160) (i := Tryz.t46) Tryz.underlying22 (by kernel_rfl) rfl rfl rfl rfl (by decide) (fun _ => rfl) (.tmp rfl) (.tmp rfl) ho ((Sl.of_els (Els.up hEs hSW.upd))) (by unfold maxLen; omega) (by omega) zU0) (fun _ _ h => h), fun h => absurd h (by decide)⟩ ?_
     refine allL.cons ⟨rfl, fun _ => TU.p (PEv.loadA Tryz.isAgg46 Tryz.sizeOf46 rfl (.tmp rfl) ((hSW.blk 0 rfl).agg)) rfl, fun h => absurd h (by decide)⟩ ?_
     refine allL.cons ⟨rfl, fun _ => TU.r (REv.buildSlice (xs := [(swF o1 o2 at_ 500)]) (enc := Fact.cells) (mk := fun f : Fact => .agg f.cells) Tryz.underlying22 Tryz.sizeOf46 Tryz.zeroValue46 rfl (Nat.le_of_ble_eq_true rfl) (fun _ => rfl) (fun _ => rfl) (.cons (.tmp rfl) .nil) rfl) (fun v W' h => h.q), fun h => absurd h (by decide)⟩ ?_
     refine allL.cons ⟨rfl, fun h => absurd rfl h, fun _ a ha => ?_⟩ ?_
     ·skip
      have h1 := ha.known (p := fun v W => OwnS W w16.drew.heap.size 46 19 Fact.cells v ((ofB (someL xs) (pickI day 11)).Swaps)) (t := 68) rfl
      have h2 := ha.known (p := fun v W => Sl W v 19 Fact.cells [(swF o1 o2 at_ 500)]) (t := 70) rfl
      obtain ⟨v, W', hr, hG⟩ := REv.appendF (enc := Fact.cells) (bytes := 160) (i := Tryz.t46) Tryz.underlying22 (by kernel_rfl) rfl rfl rfl rfl (by decide) (fun _ => rfl) Fact.one (.tmp (t := 68) rfl) (.tmp (t := 70) rfl) (h1.mono (Nat.zero_le _)) h2 (by rw [List.length_singleton]; unfold maxLen; omega) (by rw [List.length_singleton]; omega) a ((ha.learn (t := 68) rfl).learn (t := 70) rfl)
      exact .inl ⟨v, W', hr, ⟨hU0.frz hG.fr (fun b hb => h1.base b hb), trivial⟩, OwnS.rebase hG.holds fun i hi => (hG.sub i hi).elim (fun h => h1.base i h) (fun h => Nat.le_trans zU0 h)⟩
     exact allL.nil
    ·intro w17 g hU0 hg
     have hU := (Up.drew w16).trans hU0
     have zw17 := hU.size
     have hOn : OwnS w17 w16.drew.heap.size 46 19 Fact.cells (g 71) ((ofB (someL xs) (pickI day 11)).Swaps ++ [(swF o1 o2 at_ 500)]) := hg 6 _ 71 (by decide) rfl rfl rfl
     obtain ⟨vn, en⟩ : ∃ v, v = g 71 := ⟨_, rfl⟩
     change LW _ _ _ _ _ _ _ _ ((71, .eq (g 71)) :: _) _
     rw [← en] at hOn ⊢
     clear hg en
     obtain ⟨ad71, cp71, rfl, _⟩ := hOn.sl (fun _ => rfl)
     replace hS := hS.add hU (A' := aOwn 46 19 Fact.cells (.slice ad71 ((ofB (someL xs) (pickI day 11)).Swaps ++ [(swF o1 o2 at_ 500)]).length cp71) ((ofB (someL xs) (pickI day 11)).Swaps ++ [(swF o1 o2 at_ 500)])) (hOn.mono (Nat.zero_le _)) (fun i h => hOn.base i h)
     change Wx.Sep _ _ _ [_, _, _, _] at hS
     clear hOn
     refine LW.p (PEv.fieldAddr (off := 2) Tryz.underlying24 rfl rfl Tryz.sizeOf22 rfl (.tmp rfl)) rfl rfl rfl ?_
     refine LW.s (SEv.store Tryz.sizeOf22 (.tmp rfl) (.tmp rfl) rfl (hS.blk 2 rfl) (by rw [hC.size]; decide)) rfl rfl rfl ?_
     intro w18 Nw18
     have zw18 := Nw18.size
     replace hS := hS.putB 2 rfl Nw18
     change Wx.Sep _ _ _ [_, _, _, _] at hS
     refine LW.nil (KW.then (CW.seq (CW.region ?_)))
     refine LW.p (PEv.loadA Tryz.isAgg24 Tryz.sizeOf24 (hC.size) (.tmp rfl) ((hB16.up hS.upd).agg)) rfl rfl rfl ?_
     refine LW.r (REv.allocA Tryz.zeroValue24) rfl rfl rfl rfl ?_
     rintro _ w19 ⟨B22, rfl, MB22⟩
     refine LW.s (SEv.storeA Tryz.sizeOf24 hC.size (.tmp rfl) (.tmp rfl) (hC.one) MB22.blk rfl) rfl rfl rfl ?_
     intro w20 LB22
     have NB22 := MB22.set LB22
     clear LB22 MB22
     have eB22 := NB22.at_
     have zB22 := NB22.size
     replace hS := hS.addB NB22
     change Wx.Sep _ _ _ [_, _, _, _, _] at hS
     refine LW.nil (KW.then (CW.seq ?_))
     refine CW.freeH 7 6 [3, 5, 0] [] [.pred fun v W => ∃ B, v = .slice (some ⟨B, 0, none⟩) 0 0 ∧ OwnS W w20.drew.heap.size 46 19 Fact.cells (.slice (some ⟨B, 0, none⟩) 0 0) ([] : List Fact), .eq (.pointer (some ⟨B21, 2, none⟩)), .eq (.slice ad71 ((ofB (someL xs) (pickI day 11)).Swaps ++ [(swF o1 o2 at_ 500)]).length cp71), .pred fun v W => OwnS W w20.drew.heap.size 46 19 Fact.cells v (((ofB (someL xs) (pickI day 11)).Swaps ++ [(swF o1 o2 at_ 500)])), .eq (.agg ((swF o1 o2 at_ 501)).cells), .pred fun v W => Sl W v 19 Fact.cells [(swF o1 o2 at_ 501)], .pred fun v W => OwnS W w20.drew.heap.size 46 19 Fact.cells v (((ofB (someL xs) (pickI day 11)).Swaps ++ [(swF o1 o2 at_ 500)]) ++ [(swF o1 o2 at_ 501)])] [80] (fun _ _ => True) (by kernel_rfl) rfl (by kernel_rfl) (by kernel_rfl) (by kernel_rfl) (by kernel_rfl) (by kernel_rfl) (by kernel_rfl) (by kernel_rfl) (by kernel_rfl) (by kernel_rfl) (by kernel_rfl) ⟨PhU.pred fun _ _ _ h u => let ⟨B, e, ho⟩ := h; ⟨B, e, ho.up u⟩, PhU.eq _, PhU.eq _, PhU.pred fun _ _ _ h u => OwnS.up h u, PhU.eq _, PhU.pred fun _ _ _ h u => Sl.up h u, PhU.pred fun _ _ _ h u => OwnS.up h u, trivial⟩ ⟨.inl rfl, .inr (fun _ _ _ h _ => h), .inr (fun _ _ _ h _ => h), .inl rfl, .inr (fun _ _ _ h _ => h), .inl rfl, .inl rfl, trivial⟩ ?_ ?_
     ·intro W hU0
      have hU := (Up.drew w20).trans hU0
      have hSW := hS.up hU
      have zU0 := hU0.size
      refine allL.cons ⟨rfl, fun _ => TU.r (REv.buildSlice (xs := ([] : List Fact)) (enc := Fact.cells) (mk := fun f : Fact => .agg f.cells) Tryz.underlying22 Tryz.sizeOf46 Tryz.zeroValue46 rfl (Nat.le_of_ble_eq_true rfl) (fun _ => rfl) (fun _ => rfl) .nil rfl) (fun v W' h => let ⟨u, B, e, ho⟩ := NewSl.own0 (base := w20.drew.heap.size) h zU0; ⟨u, B, e, ho⟩), fun h => absurd h (by decide)⟩ ?_
      refine allL.cons ⟨rfl, fun _ => TU.p (PEv.fieldAddr (off := 2) Tryz.underlying24 rfl rfl Tryz.sizeOf22 rfl (.tmp rfl)) rfl, fun h => absurd h (by decide)⟩ ?_
      refine allL.cons ⟨rfl, fun _ => TU.p (PEv.load Tryz.isAgg22 (.tmp rfl) ((hSW.blk 2 rfl).cell (by rw [Array.getElem?_setIfInBounds_self_of_lt (by rw [hC.size]; decide)]))) rfl, fun h => absurd h (by decide)⟩ ?_
      refine allL.cons ⟨rfl, fun _ => TU.open (d := 74) rfl fun v hv => by obtain ⟨B, rfl, ho⟩ := hv; exact TU.r (REv.append0 (enc := Fact.cells) (k := 19) (bytes := 160) (i := Tryz.t46) Tryz.underlying22 (by kernel_rfl) rfl rfl rfl rfl (by decide) (fun _ => rfl) (.tmp rfl) (.tmp rfl) ho (((hSW.own 3 rfl).sl (fun _ => rfl))) (by unfold maxLen; omega) (by omega) zU0) (fun _ _ h => h), fun h => absurd h (by decide)⟩ ?_
      refine allL.cons ⟨rfl, fun _ => TU.p (PEv.loadA Tryz.isAgg46 Tryz.sizeOf46 rfl (.tmp rfl) ((hSW.blk 1 rfl).agg)) rfl, fun h => absurd h (by decide)⟩ ?_
      refine allL.cons ⟨rfl, fun _ => TU.r (REv.buildSlice (xs := [(swF o1 o2 at_ 501)]) (enc := Fact.cells) (mk := fun f : Fact => .agg f.cells) Tryz.underlying22 Tryz.sizeOf46 Tryz.zeroValue46 rfl (Nat.le_of_ble_eq_true rfl) (fun _ => rfl) (fun _ => rfl) (.cons (.tmp rfl) .nil) rfl) (fun v W' h => h.q), fun h => absurd h (by decide)⟩ ?_
      refine allL.cons ⟨rfl, fun h => absurd rfl h, fun _ a ha => ?_⟩ ?_
      ·skip
       have h1 := ha.known (p := fun v W => OwnS W w20.drew.heap.size 46 19 Fact.cells v (((ofB (someL xs) (pickI day 11)).Swaps ++ [(swF o1 o2 at_ 500)]))) (t := 77) rfl
       have h2 := ha.known (p := fun v W => Sl W v 19 Fact.cells [(swF o1 o2 at_ 501)]) (t := 79) rfl
       obtain ⟨v, W', hr, hG⟩ := REv.appendF (enc := Fact.cells) (bytes := 160) (i := Tryz.t46) Tryz.underlying22 (by kernel_rfl) rfl rfl rfl rfl (by decide) (fun _ => rfl) Fact.one (.tmp (t := 77) rfl) (.tmp (t := 79) rfl) (h1.mono (Nat.zero_le _)) h2 (by rw [List.length_singleton]; unfold maxLen; omega) (by rw [List.length_singleton]; omega) a ((ha.learn (t := 77) rfl).learn (t := 79) rfl)
       exact .inl ⟨v, W', hr, ⟨hU0.frz hG.fr (fun b hb => h1.base b hb), trivial⟩, OwnS.rebase hG.holds fun i hi => (hG.sub i hi).elim (fun h => h1.base i h) (fun h => Nat.le_trans zU0 h)⟩
      exact allL.nil
     ·intro w21 g hU0 hg
      have hU := (Up.drew w20).trans hU0
      have zw21 := hU.size
      have hOn : OwnS w21 w20.drew.heap.size 46 19 Fact.cells (g 80) (((ofB (someL xs) (pickI day 11)).Swaps ++ [(swF o1 o2 at_ 500)]) ++ [(swF o1 o2 at_ 501)]) := hg 6 _ 80 (by decide) rfl rfl rfl
      obtain ⟨vn, en⟩ : ∃ v, v = g 80 := ⟨_, rfl⟩
      change LW _ _ _ _ _ _ _ _ ((80, .eq (g 80)) :: _) _
      rw [← en] at hOn ⊢
      clear hg en
      obtain ⟨ad80, cp80, rfl, _⟩ := hOn.sl (fun _ => rfl)
      replace hS := hS.add hU (A' := aOwn 46 19 Fact.cells (.slice ad80 (((ofB (someL xs) (pickI day 11)).Swaps ++ [(swF o1 o2 at_ 500)]) ++ [(swF o1 o2 at_ 501)]).length cp80) (((ofB (someL xs) (pickI day 11)).Swaps ++ [(swF o1 o2 at_ 500)]) ++ [(swF o1 o2 at_ 501)])) (hOn.mono (Nat.zero_le _)) (fun i h => hOn.base i h)
      change Wx.Sep _ _ _ [_, _, _, _, _, _] at hS
      clear hOn
      refine LW.p (PEv.fieldAddr (off := 2) Tryz.underlying24 rfl rfl Tryz.sizeOf22 rfl (.tmp rfl)) rfl rfl rfl ?_
      refine LW.s (SEv.store Tryz.sizeOf22 (.tmp rfl) (.tmp rfl) rfl (hS.blk 4 rfl) (by rw [hC.size]; decide)) rfl rfl rfl ?_
      intro w22 Nw22
      have zw22 := Nw22.size
      replace hS := hS.putB 4 rfl Nw22
      change Wx.Sep _ _ _ [_, _, _, _, _, _] at hS
      refine LW.nil (KW.then (CW.seq (CW.region (LW.p (PEv.move (.tmp rfl)) rfl rfl rfl ?_))))
      refine LW.c (enter_call0 (.cons (.tmp rfl) (.cons (.const _) .nil)) (Tryz.en15)) rfl rfl rfl rfl (pick_any _ _ _ (by decide)) ?_
      rintro _ w23 ⟨rfl, uw23⟩
      have zw23 := uw23.size
      replace hS := hS.up uw23
      have hpm := pick_range (c := mark) (n := 7) hmark (by decide)
      obtain ⟨pm, epm⟩ : ∃ pm, pm = pickI mark 7 := ⟨_, rfl⟩
      rw [← epm] at hpm ⊢
      refine LW.p (PEv.add_w (.const _) (.tmp rfl)) rfl rfl rfl ?_
      refine LW.p (PEv.assign (.tmp rfl)) rfl rfl rfl (LW.nil (KW.then (CW.seq ?_)))
      obtain ⟨mk, emk⟩ : ∃ o, o = IntKind.i64.wrap (1 + pm) := ⟨_, rfl⟩
      rw [← emk]
      have hmk : 1 ≤ mk ∧ mk ≤ 7 := by rw [emk, show IntKind.i64.wrap (1 + pm) = 1 + pm from wI_in (by omega) (by omega)]; omega
      refine CW.region (LW.p (PEv.move (.tmp rfl)) rfl rfl rfl ?_)
      refine LW.c (enter_call0 (.cons (.tmp rfl) (.cons (.const _) .nil)) (Tryz.en15)) rfl rfl rfl rfl (pick_any _ _ _ (by decide)) ?_
      rintro _ w24 ⟨rfl, uw24⟩
      have zw24 := uw24.size
      replace hS := hS.up uw24
      obtain ⟨tm, etm⟩ : ∃ tm, tm = pickI time 80 := ⟨_, rfl⟩
      rw [← etm]
      refine LW.p (PEv.assign (.tmp rfl)) rfl rfl rfl (LW.nil (KW.then (CW.seq ?_)))
      have ho1r : 1 ≤ o1 ∧ o1 ≤ 6 := by omega
      have hw1 := whoL_in (l := (ofB (someL xs) (pickI day 11)).Swaps) (t := tm) hmk
      have hw2 := swap_after (T := tm) hat ho1r ho2 hmk
      have hw3 := swap_twice (T := tm) hat ho1r ho2 hmk
      have hw4 := whoL_in (l := (ofB (someL xs) (pickI day 11)).Swaps) (t := tm) (k := o2) (by omega)
      have hw5 := whoL_in (l := (ofB (someL xs) (pickI day 11)).Swaps) (t := tm) (k := o1) (by omega)
      refine CW.region ?_
      refine LW.p (PEv.loadA Tryz.isAgg24 Tryz.sizeOf24 (hC.size) (.tmp rfl) ((hB16.up hS.upd).agg)) rfl rfl rfl ?_
      refine LW.p (PEv.move (.tmp rfl)) rfl rfl rfl (LW.p (PEv.move (.tmp rfl)) rfl rfl rfl ?_)
      refine LW.c (enter_call0 (.cons (.tmp rfl) (.cons (.tmp rfl) (.cons (.tmp rfl) .nil))) (Tryz.en18)) rfl rfl rfl rfl (Who_any bc (ofB (someL xs) (pickI day 11)) mk tm _ (hC.up hS.upd) (Nat.le_trans (hSh 2) (by decide))) ?_
      rintro _ w25 ⟨rfl, uw25⟩
      have zw25 := uw25.size
      replace hS := hS.up uw25
      rw [hw1]
      refine LW.p (PEv.assign (.tmp rfl)) rfl rfl rfl (LW.nil (KW.then (CW.seq (CW.region ?_))))
      refine LW.p (PEv.loadA Tryz.isAgg24 Tryz.sizeOf24 ((by rw [Array.size_setIfInBounds]; exact hC.size)) (.tmp rfl) ((hS.blk 2 rfl).agg)) rfl rfl rfl ?_
      refine LW.p (PEv.move (.tmp rfl)) rfl rfl rfl (LW.p (PEv.move (.tmp rfl)) rfl rfl rfl ?_)
      refine LW.c (enter_call0 (.cons (.tmp rfl) (.cons (.tmp rfl) (.cons (.tmp rfl) .nil))) (Tryz.en18)) rfl rfl rfl rfl (Who_any (bc.setIfInBounds 2 (.slice ad71 ((ofB (someL xs) (pickI day 11)).Swaps ++ [(swF o1 o2 at_ 500)]).length cp71)) { (ofB (someL xs) (pickI day 11)) with Swaps := ((ofB (someL xs) (pickI day 11)).Swaps ++ [(swF o1 o2 at_ 500)]) } mk tm _ ((hC.up hS.upd).setSwaps ((hS.own 3 rfl).sl (fun _ => rfl))) (by show ((ofB (someL xs) (pickI day 11)).Swaps ++ [(swF o1 o2 at_ 500)]).length ≤ _; rw [List.length_append, List.length_singleton]; omega)) ?_
      rintro _ w26 ⟨rfl, uw26⟩
      have zw26 := uw26.size
      replace hS := hS.up uw26
      rw [hw2]
      refine LW.p (PEv.assign (.tmp rfl)) rfl rfl rfl (LW.nil (KW.then (CW.seq (CW.seq (CW.region ?_)))))
      refine LW.p (PEv.loadA Tryz.isAgg24 Tryz.sizeOf24 ((by rw [Array.size_setIfInBounds]; exact hC.size)) (.tmp rfl) ((hS.blk 4 rfl).agg)) rfl rfl rfl ?_
      refine LW.p (PEv.move (.tmp rfl)) rfl rfl rfl (LW.p (PEv.move (.tmp rfl)) rfl rfl rfl ?_)
      refine LW.c (enter_call0 (.cons (.tmp rfl) (.cons (.tmp rfl) (.cons (.tmp rfl) .nil))) (Tryz.en18)) rfl rfl rfl rfl (Who_any (bc.setIfInBounds 2 (.slice ad80 (((ofB (someL xs) (pickI day 11)).Swaps ++ [(swF o1 o2 at_ 500)]) ++ [(swF o1 o2 at_ 501)]).length cp80)) { (ofB (someL xs) (pickI day 11)) with Swaps := (((ofB (someL xs) (pickI day 11)).Swaps ++ [(swF o1 o2 at_ 500)]) ++ [(swF o1 o2 at_ 501)]) } mk tm _ ((hC.up hS.upd).setSwaps ((hS.own 5 rfl).sl (fun _ => rfl))) (by show (((ofB (someL xs) (pickI day 11)).Swaps ++ [(swF o1 o2 at_ 500)]) ++ [(swF o1 o2 at_ 501)]).length ≤ _; rw [List.length_append, List.length_append, List.length_singleton, List.length_singleton]; omega)) ?_
      rintro _ w27 ⟨rfl, uw27⟩
      have zw27 := uw27.size
      replace hS := hS.up uw27
      rw [hw3]
      refine LW.p (PEv.move (.tmp rfl)) rfl rfl rfl ?_
      refine LW.p (PEv.fa (PEv.neq (.tmp rfl) (.tmp rfl)) (by simp)) rfl rfl rfl ?_
      refine LW.nil (KW.then ?_)
      refine CW.cond_false (.tmp rfl) ?_
      refine CW.skip (KW.then (CW.seq (CW.seq (CW.region (LW.p (PEv.move (.tmp rfl)) rfl rfl rfl (LW.p (PEv.move (.tmp rfl)) rfl rfl rfl ?_))))))
      refine LW.p (PEv.lss (.tmp rfl) (.tmp rfl)) rfl rfl rfl ?_
      refine LW.p (PEv.move (.tmp rfl)) rfl rfl rfl ?_
      refine LW.g rfl rfl rfl rfl rfl rfl rfl (fun hc => PEv.move (.tmp rfl)) ?_
      refine LW.g rfl rfl rfl rfl rfl rfl rfl (fun hc => PEv.move (.tmp rfl)) ?_
      refine LW.g rfl rfl rfl rfl rfl rfl rfl (fun hc => PEv.neq (by first | exact .tmp rfl | exact .cond rfl (by first | assumption | simp_all)) (by first | exact .tmp rfl | exact .cond rfl (by first | assumption | simp_all))) ?_
      refine LW.g rfl rfl rfl rfl rfl rfl rfl (fun hc => PEv.move (by first | exact .tmp rfl | exact .cond rfl (by first | assumption | simp_all))) ?_
      refine LW.gg rfl rfl rfl rfl rfl rfl rfl (fun hc => PEv.move (.tmp rfl)) ?_
      refine LW.gg rfl rfl rfl rfl rfl rfl rfl (fun hc => PEv.move (.tmp rfl)) ?_
      refine LW.gg rfl rfl rfl rfl rfl rfl rfl (fun hc => PEv.neq (by first | exact .tmp rfl | exact .cond rfl (by first | assumption | simp_all)) (by first | exact .tmp rfl | exact .cond rfl (by first | assumption | simp_all))) ?_
      refine LW.g rfl rfl rfl rfl rfl rfl rfl (fun hc => PEv.pick_and (by first | exact .tmp rfl | exact .cond rfl (by first | assumption | simp_all)) (fun hp => (by first | exact .const _ | exact .tmp rfl | exact .cond rfl (by first | assumption | (rw [hp]; rfl) | (rw [hc, hp]; rfl) | simp_all)))) ?_
      refine LW.p (PEv.pick_or (.tmp rfl) (fun hp => (by first | exact .const _ | exact .tmp rfl | exact .cond rfl (by first | assumption | (rw [hp]; rfl) | (rw [hc, hp]; rfl) | simp_all)))) rfl rfl rfl ?_
      refine LW.nil (KW.then ?_)
      refine CW.cond (.tmp rfl) (fun h113 => ?_) (fun h113 => ?_)
      ·first | replace h113 := of_decide_eq_true h113 | replace h113 := of_decide_eq_false h113 | skip
       have hc : tm < at_ ∨ (mk ≠ o1 ∧ mk ≠ o2) := c113.1 h113
       refine CW.seq (CW.region (LW.p (PEv.move (.tmp rfl)) rfl rfl rfl (LW.p (PEv.move (.tmp rfl)) rfl rfl rfl ?_)))
       refine LW.yes rfl rfl rfl rfl rfl rfl ?_
       refine LW.p (PEv.move (.tmp rfl)) rfl rfl rfl ?_
       refine LW.yes rfl rfl rfl rfl rfl rfl ?_
       refine LW.p (PEv.move (.tmp rfl)) rfl rfl rfl ?_
       refine LW.yes rfl rfl rfl rfl rfl rfl ?_
       refine LW.p (PEv.tr (PEv.eql (.tmp rfl) (.tmp rfl)) (decide_eq_true (by split; (rw [tau_none (by omega) (by omega)]); rfl))) rfl rfl rfl ?_
       refine LW.p (PEv.pick_and (.tmp rfl) (fun hp => (by first | exact .const _ | exact .tmp rfl | exact .cond rfl (by first | assumption | (rw [hp]; rfl) | (rw [hc, hp]; rfl) | simp_all)))) rfl rfl rfl ?_
       refine LW.p (PEv.assign (.tmp rfl)) rfl rfl rfl (LW.nil (KW.then (CW.ret (KW.then_ret ?_))))
       refine KW.ret1 rfl rfl ⟨_, rfl, ?_⟩
       exact ⟨rfl, hUz.trans hS.upd⟩
      ·first | replace h113 := of_decide_eq_true h113 | replace h113 := of_decide_eq_false h113 | skip
       have hc : at_ ≤ tm ∧ (mk = o1 ∨ mk = o2) := by
        have hc0 : ¬ (tm < at_ ∨ (mk ≠ o1 ∧ mk ≠ o2)) := fun e => by rw [c113.2 e] at h113; cases h113
        omega
       refine CW.skip (KW.then (CW.seq (CW.seq (CW.region (LW.p (PEv.move (.tmp rfl)) rfl rfl rfl (LW.p (PEv.move (.tmp rfl)) rfl rfl rfl ?_))))))
       refine LW.p (PEv.eql (.tmp rfl) (.tmp rfl)) rfl rfl rfl ?_
       refine LW.nil (KW.then ?_)
       refine CW.cond (.tmp rfl) (fun h122 => ?_) (fun h122 => ?_)
       ·first | replace h122 := of_decide_eq_true h122 | replace h122 := of_decide_eq_false h122 | skip
        refine CW.seq (CW.region (LW.p (PEv.move (.tmp rfl)) rfl rfl rfl (LW.p (PEv.move (.tmp rfl)) rfl rfl rfl ?_)))
        refine LW.yes rfl rfl rfl rfl rfl rfl ?_
        refine LW.p (PEv.move (.tmp rfl)) rfl rfl rfl ?_
        refine LW.yes rfl rfl rfl rfl rfl rfl ?_
        refine LW.p (PEv.loadA Tryz.isAgg24 Tryz.sizeOf24 (hC.size) (.tmp rfl) ((hB16.up hS.upd).agg)) rfl rfl rfl ?_
        refine LW.yes rfl rfl rfl rfl rfl rfl ?_
        refine LW.p (PEv.move (.tmp rfl)) rfl rfl rfl ?_
        refine LW.yes rfl rfl rfl rfl rfl rfl ?_
        refine LW.p (PEv.move (.tmp rfl)) rfl rfl rfl ?_
        refine LW.yes rfl rfl rfl rfl rfl rfl ?_
        refine LW.c (enter_call0 (.cons (.tmp rfl) (.cons (.tmp rfl) (.cons (.tmp rfl) .nil))) (Tryz.en18)) rfl rfl rfl rfl (Who_any bc (ofB (someL xs) (pickI day 11)) o2 tm _ (hC.up hS.upd) (Nat.le_trans (hSh 2) (by decide))) ?_
        rintro _ w28 ⟨rfl, uw28⟩
        have zw28 := uw28.size
        replace hS := hS.up uw28
        rw [hw4]
        refine LW.yes rfl rfl rfl rfl rfl rfl ?_
        refine LW.p (PEv.tr (PEv.eql (.tmp rfl) (.tmp rfl)) (decide_eq_true (by rw [if_pos hc.1, h122, tau_one]))) rfl rfl rfl ?_
        refine LW.p (PEv.pick_and (.tmp rfl) (fun hp => (by first | exact .const _ | exact .tmp rfl | exact .cond rfl (by first | assumption | (rw [hp]; rfl) | (rw [hc, hp]; rfl) | simp_all)))) rfl rfl rfl ?_
        refine LW.p (PEv.assign (.tmp rfl)) rfl rfl rfl (LW.nil (KW.then (CW.ret (KW.then_ret ?_))))
        refine KW.ret1 rfl rfl ⟨_, rfl, ?_⟩
        exact ⟨rfl, hUz.trans hS.upd⟩
       ·first | replace h122 := of_decide_eq_true h122 | replace h122 := of_decide_eq_false h122 | skip
        refine CW.skip (KW.then (CW.seq (CW.region (LW.p (PEv.move (.tmp rfl)) rfl rfl rfl (LW.p (PEv.move (.tmp rfl)) rfl rfl rfl ?_)))))
        refine LW.yes rfl rfl rfl rfl rfl rfl ?_
        refine LW.p (PEv.move (.tmp rfl)) rfl rfl rfl ?_
        refine LW.yes rfl rfl rfl rfl rfl rfl ?_
        refine LW.p (PEv.loadA Tryz.isAgg24 Tryz.sizeOf24 (hC.size) (.tmp rfl) ((hB16.up hS.upd).agg)) rfl rfl rfl ?_
        refine LW.yes rfl rfl rfl rfl rfl rfl ?_
        refine LW.p (PEv.move (.tmp rfl)) rfl rfl rfl ?_
        refine LW.yes rfl rfl rfl rfl rfl rfl ?_
        refine LW.p (PEv.move (.tmp rfl)) rfl rfl rfl ?_
        refine LW.yes rfl rfl rfl rfl rfl rfl ?_
        refine LW.c (enter_call0 (.cons (.tmp rfl) (.cons (.tmp rfl) (.cons (.tmp rfl) .nil))) (Tryz.en18)) rfl rfl rfl rfl (Who_any bc (ofB (someL xs) (pickI day 11)) o1 tm _ (hC.up hS.upd) (Nat.le_trans (hSh 2) (by decide))) ?_
        rintro _ w29 ⟨rfl, uw29⟩
        have zw29 := uw29.size
        replace hS := hS.up uw29
        rw [hw5]
        refine LW.yes rfl rfl rfl rfl rfl rfl ?_
        refine LW.p (PEv.tr (PEv.eql (.tmp rfl) (.tmp rfl)) (decide_eq_true (by rw [if_pos hc.1, hc.2.resolve_left h122, tau_two]))) rfl rfl rfl ?_
        refine LW.p (PEv.pick_and (.tmp rfl) (fun hp => (by first | exact .const _ | exact .tmp rfl | exact .cond rfl (by first | assumption | (rw [hp]; rfl) | (rw [hc, hp]; rfl) | simp_all)))) rfl rfl rfl ?_
        refine LW.p (PEv.assign (.tmp rfl)) rfl rfl rfl (LW.nil (KW.then (CW.ret ?_)))
        refine KW.ret1 rfl rfl ⟨_, rfl, ?_⟩
        exact ⟨rfl, hUz.trans hS.upd⟩
end Go.Proofs.YthfjagphcekcbaaGreat
end
