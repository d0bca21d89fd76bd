import Derived.Test.YthfjagphcekcbaaGreatKR516
section
namespace Go.Wx
def wI (n : Int) : Int := IntKind.i64.wrap n
def someB (y : I6) : Fact := { zeroF with Version := wI (1 + pickI (wI (y.a.tdiv 4)) 3), Day := pickI y.b 10, Gone := decide (pickI (wI (y.b.tdiv 10)) 6 = 0), ID := wI (1 + pickI y.c 12), Wafer := wI (1 + pickI y.d 6), Time := pickI y.e 50 }
def someF (y : I6) : Fact := if pickI y.a 4 = 0 ∨ pickI y.a 4 = 1 then { someB y with Kind := 1, Tool := pickI y.f 3, Step := pickI (wI (y.f.tdiv 3)) 4, Recipe := 1, Revision := 1, Until := wI ((someB y).Time + 5) } else if pickI y.a 4 = 2 then { someB y with Kind := 3, Other := wI (1 + (wI ((someB y).Wafer + pickI y.f 5)).tmod 6) } else { someB y with Kind := 4, ID := 0, Lot := wI (1 + pickI y.f 3), Product := wI (1 + pickI (wI (y.f.tdiv 3)) 2) }
def someL (xs : List I6) : List Fact := (xs.take 30).map someF
theorem someF_p {y : I6} (h : pickI y.a 4 = 0 ∨ pickI y.a 4 = 1) : someF y = { someB y with Kind := 1, Tool := pickI y.f 3, Step := pickI (wI (y.f.tdiv 3)) 4, Recipe := 1, Revision := 1, Until := wI ((someB y).Time + 5) } := if_pos h
theorem someF_s {y : I6} (h : pickI y.a 4 = 2) : someF y = { someB y with Kind := 3, Other := wI (1 + (wI ((someB y).Wafer + pickI y.f 5)).tmod 6) } := by unfold someF; rw [if_neg (by omega), if_pos h]
theorem someF_l {y : I6} (h0 : ¬ pickI y.a 4 = 0) (h1 : ¬ pickI y.a 4 = 1) (h2 : ¬ pickI y.a 4 = 2) : someF y = { someB y with Kind := 4, ID := 0, Lot := wI (1 + pickI y.f 3), Product := wI (1 + pickI (wI (y.f.tdiv 3)) 2) } := by unfold someF; rw [if_neg (by omega), if_neg h2]
theorem someL_len (xs : List I6) : (someL xs).length ≤ 30 := by unfold someL; rw [List.length_map, List.length_take]; omega
theorem someL_step {xs : List I6} {k : Nat} {y : I6} (hy : xs[k]? = some y) (hk : k < 30) : someL (xs.take (k + 1)) = someL (xs.take k) ++ [someF y] := by
  have hl := (List.getElem?_eq_some_iff.1 hy).1
  unfold someL
  rw [List.take_take, List.take_take, Nat.min_eq_right (by omega), Nat.min_eq_right (by omega), take_succ_of hy, List.map_append]; rfl
theorem someL_end {xs : List I6} {k : Nat} (h : ¬ (k < xs.length ∧ k < 30)) : someL (xs.take k) = someL xs := by
  unfold someL
  rw [List.take_take]
  congr 1
  by_cases h1 : k < 30
  · rw [Nat.min_eq_right (by omega), List.take_of_length_le (by omega), List.take_of_length_le (by omega)]
  · rw [Nat.min_eq_left (by omega)]
end Go.Wx
namespace Go.Proofs.YthfjagphcekcbaaGreat
open Go.Wx Go.RowKit
set_option maxHeartbeats 2000000 in
theorem Some_any (ad : Option Addr) (cp : Nat) (xs : List I6) (w : World) (hE0 : Els w ad 6 I6.cells xs) : Ret Tryz.prog 14 #[.slice ad xs.length cp] w fun r w' => OwnS w' w.heap.size 46 19 Fact.cells r (someL xs) ∧ Up w w' := by
  obtain ⟨w0, rfl⟩ : ∃ w0, w0 = w := ⟨_, rfl⟩
  have hS := Sep.start no w0
  refine Calls_start (n := 98) (m := 9) Tryz.func14 rfl rfl rfl ?_
  refine CW.seq (CW.region (LW.p (PEv.assign (.const _)) rfl rfl rfl (LW.nil (KW.then (CW.seq (CW.region (LW.p (PEv.assign (.const _)) rfl rfl rfl (LW.nil (KW.then (CW.seq (CW.seq ?_)))))))))))
  replace hS := hS.add (Up.refl _) (A' := aOwn 46 19 Fact.cells (.slice none 0 0) ([] : List Fact)) (OwnS.nil _ _ _ _ _) (fun i h => by cases h)
  change Wx.Sep _ _ _ [_] at hS
  refine CW.region (LW.p (PEv.assign (.const _)) rfl rfl rfl (LW.nil (KW.then (CW.block ?_))))
  refine CW.loopB (σ := Nat × Go.Value) (fun s w => (s.1 ≤ xs.length ∧ s.1 ≤ 30) ∧ (Wx.Sep no w0 w [aOwn 46 19 Fact.cells s.2 (someL (xs.take s.1))])) (fun s => [(4, .eq (vi (s.1 : Int))), (3, .eq (s.2))]) ([(0, .eq _), (2, .eq _)]) (fun s => xs.length - s.1) (0, .slice none 0 0) ?_ ⟨rfl, rfl, rfl, rfl, trivial⟩ ?_
  ·exact ⟨⟨Nat.zero_le _, Nat.zero_le _⟩, hS⟩
  ·rintro ⟨k, v⟩ w1 ⟨hk, hS⟩
   dsimp only at hk hS
   change CW _ _ _ _ _ _ _ ([(4, .eq (vi (k : Int))), (3, .eq (v))] ++ _) _
   refine CW.seq (CW.seq ?_)
   skip
   refine CW.region (LW.p (PEv.move (.tmp rfl)) rfl rfl rfl (LW.p (PEv.move (.tmp rfl)) rfl rfl rfl ?_))
   refine LW.p (PEv.lenS Tryz.underlying25 (.tmp rfl)) rfl rfl rfl ?_
   refine LW.p (PEv.lss (.tmp rfl) (.tmp rfl)) rfl rfl rfl ?_
   refine LW.p (PEv.move (.tmp rfl)) rfl rfl rfl ?_
   refine LW.g rfl rfl rfl rfl rfl rfl rfl (fun hc => PEv.move (.tmp rfl)) ?_
   refine LW.g rfl rfl rfl rfl rfl rfl rfl (fun hc => PEv.lss (by first | exact .tmp rfl | exact .cond rfl (by first | assumption | simp_all)) (.const _)) ?_
   refine LW.p (PEv.pick_and (.tmp rfl) (fun hp => (by first | exact .const _ | exact .tmp rfl | exact .cond rfl (by first | assumption | simp_all)))) rfl rfl rfl ?_
   refine LW.nil (KW.then ?_)
   refine CW.cond (.tmp rfl) (fun h14 => ?_) (fun h14 => ?_)
   ·first | replace h14 := of_decide_eq_true h14 | replace h14 := of_decide_eq_false h14 | skip
    refine CW.skip (KW.then (CW.seq (CW.block (CW.seq ?_))))
    have hE := hE0.up hS.upd
    have hkl : k < xs.length ∧ k < 30 := by simp at h14; omega
    refine CW.region (LW.p (PEv.move (.tmp rfl)) rfl rfl rfl (LW.p (PEv.move (.tmp rfl)) rfl rfl rfl ?_))
    obtain ⟨y, hy⟩ := getElem?_of_lt (xs := xs) (i := k) (by omega)
    obtain ⟨By, oy, ay, hcy⟩ := hE _ y hy
    refine LW.p (PEv.indexAddr' Tryz.underlying25 Tryz.sizeOf67 (.tmp rfl) (.tmp rfl) (by omega) ay) rfl rfl rfl ?_
    refine LW.p (PEv.loadA Tryz.isAgg67 Tryz.sizeOf67 rfl (.tmp rfl) (hcy)) rfl rfl rfl ?_
    refine LW.r (REv.allocA Tryz.zeroValue67) rfl rfl rfl rfl ?_
    rintro _ w2 ⟨B5, rfl, MB5⟩
    refine LW.s (SEv.storeA Tryz.sizeOf67 rfl (.tmp rfl) (.tmp rfl) (I6.one _) MB5.blk rfl) rfl rfl rfl ?_
    intro w3 LB5
    have NB5 := MB5.set LB5
    clear LB5 MB5
    have eB5 := NB5.at_
    have zB5 := NB5.size
    replace hcy := hcy.up NB5.up
    replace hS := hS.addB NB5
    change Wx.Sep _ _ _ [_, _] at hS
    refine LW.nil (KW.then (CW.seq ?_))
    refine CW.free 26 [.eq (.pointer (some ⟨B5, 0, none⟩)), .eq (vi (y.a)), .eq (vi (wI (y.a.tdiv 4))), .eq (vi (pickI (wI (y.a.tdiv 4)) 3)), .eq (vi (wI (1 + pickI (wI (y.a.tdiv 4)) 3))), .eq (.pointer (some ⟨B5, 1, none⟩)), .eq (vi (y.b)), .eq (vi (pickI y.b 10)), .eq (.pointer (some ⟨B5, 1, none⟩)), .eq (vi (y.b)), .eq (vi (wI (y.b.tdiv 10))), .eq (vi (pickI (wI (y.b.tdiv 10)) 6)), .eq (.bool (decide (pickI (wI (y.b.tdiv 10)) 6 = 0))), .eq (.pointer (some ⟨B5, 2, none⟩)), .eq (vi (y.c)), .eq (vi (pickI y.c 12)), .eq (vi (wI (1 + pickI y.c 12))), .eq (.pointer (some ⟨B5, 3, none⟩)), .eq (vi (y.d)), .eq (vi (pickI y.d 6)), .eq (vi (wI (1 + pickI y.d 6))), .eq (.pointer (some ⟨B5, 4, none⟩)), .eq (vi (y.e)), .eq (vi (pickI y.e 50)), .eq (.agg (someB y).cells), .pred fun v W => ∃ B, v = .pointer (some ⟨B, 0, none⟩) ∧ w3.drew.heap.size ≤ B ∧ Blk W B zeroF.cells 46] [6, 45] (by kernel_rfl) rfl (by kernel_rfl) (by kernel_rfl) (by kernel_rfl) (by kernel_rfl) (by kernel_rfl) (by kernel_rfl) (by kernel_rfl) ⟨PhU.eq _, PhU.eq _, PhU.eq _, PhU.eq _, PhU.eq _, PhU.eq _, PhU.eq _, PhU.eq _, PhU.eq _, PhU.eq _, PhU.eq _, PhU.eq _, PhU.eq _, PhU.eq _, PhU.eq _, PhU.eq _, PhU.eq _, PhU.eq _, PhU.eq _, PhU.eq _, PhU.eq _, PhU.eq _, PhU.eq _, PhU.eq _, PhU.eq _, PhU.pred fun _ _ _ h u => let ⟨B, e, hz, hb⟩ := h; ⟨B, e, hz, hb.up u⟩, trivial⟩ ?_ ?_
    ·intro W hU0
     have hU := (Up.drew w3).trans hU0
     have zU0 := hU0.size
     refine allL.cons ⟨rfl, TU.p (PEv.indexArr (j := 0) Tryz.underlying67 Tryz.sizeOf3 (.tmp rfl) (.const _) (by decide)) rfl⟩ ?_
     refine allL.cons ⟨rfl, TU.p (PEv.load Tryz.isAgg3 (.tmp rfl) (((hS.blk 1 rfl).up hU).celln rfl)) rfl⟩ ?_
     refine allL.cons ⟨rfl, TU.p (PEv.quo (.tmp rfl) (.const _) (by decide)) rfl⟩ ?_
     refine allL.cons ⟨rfl, TU.c (enter_call0 (.cons (.tmp rfl) (.cons (.const _) .nil)) (Tryz.en37)) (pickR_any _ _ _ (by decide)) (by rintro _ W1 ⟨rfl, u⟩; exact ⟨u, rfl⟩)⟩ ?_
     refine allL.cons ⟨rfl, TU.p (PEv.add_w (.const _) (.tmp rfl)) rfl⟩ ?_
     refine allL.cons ⟨rfl, TU.p (PEv.indexArr (j := 1) Tryz.underlying67 Tryz.sizeOf3 (.tmp rfl) (.const _) (by decide)) rfl⟩ ?_
     refine allL.cons ⟨rfl, TU.p (PEv.load Tryz.isAgg3 (.tmp rfl) (((hS.blk 1 rfl).up hU).celln rfl)) rfl⟩ ?_
     refine allL.cons ⟨rfl, TU.c (enter_call0 (.cons (.tmp rfl) (.cons (.const _) .nil)) (Tryz.en37)) (pickR_any _ _ _ (by decide)) (by rintro _ W1 ⟨rfl, u⟩; exact ⟨u, rfl⟩)⟩ ?_
     refine allL.cons ⟨rfl, TU.p (PEv.indexArr (j := 1) Tryz.underlying67 Tryz.sizeOf3 (.tmp rfl) (.const _) (by decide)) rfl⟩ ?_
     refine allL.cons ⟨rfl, TU.p (PEv.load Tryz.isAgg3 (.tmp rfl) (((hS.blk 1 rfl).up hU).celln rfl)) rfl⟩ ?_
     refine allL.cons ⟨rfl, TU.p (PEv.quo (.tmp rfl) (.const _) (by decide)) rfl⟩ ?_
     refine allL.cons ⟨rfl, TU.c (enter_call0 (.cons (.tmp rfl) (.cons (.const _) .nil)) (Tryz.en37)) (pickR_any _ _ _ (by decide)) (by rintro _ W1 ⟨rfl, u⟩; exact ⟨u, rfl⟩)⟩ ?_
     refine allL.cons ⟨rfl, TU.p (PEv.eql (.tmp rfl) (.const _)) rfl⟩ ?_
     refine allL.cons ⟨rfl, TU.p (PEv.indexArr (j := 2) Tryz.underlying67 Tryz.sizeOf3 (.tmp rfl) (.const _) (by decide)) rfl⟩ ?_
     refine allL.cons ⟨rfl, TU.p (PEv.load Tryz.isAgg3 (.tmp rfl) (((hS.blk 1 rfl).up hU).celln rfl)) rfl⟩ ?_
     refine allL.cons ⟨rfl, TU.c (enter_call0 (.cons (.tmp rfl) (.cons (.const _) .nil)) (Tryz.en37)) (pickR_any _ _ _ (by decide)) (by rintro _ W1 ⟨rfl, u⟩; exact ⟨u, rfl⟩)⟩ ?_
     refine allL.cons ⟨rfl, TU.p (PEv.add_w (.const _) (.tmp rfl)) rfl⟩ ?_
     refine allL.cons ⟨rfl, TU.p (PEv.indexArr (j := 3) Tryz.underlying67 Tryz.sizeOf3 (.tmp rfl) (.const _) (by decide)) rfl⟩ ?_
     refine allL.cons ⟨rfl, TU.p (PEv.load Tryz.isAgg3 (.tmp rfl) (((hS.blk 1 rfl).up hU).celln rfl)) rfl⟩ ?_
     refine allL.cons ⟨rfl, TU.c (enter_call0 (.cons (.tmp rfl) (.cons (.const _) .nil)) (Tryz.en37)) (pickR_any _ _ _ (by decide)) (by rintro _ W1 ⟨rfl, u⟩; exact ⟨u, rfl⟩)⟩ ?_
     refine allL.cons ⟨rfl, TU.p (PEv.add_w (.const _) (.tmp rfl)) rfl⟩ ?_
     refine allL.cons ⟨rfl, TU.p (PEv.indexArr (j := 4) Tryz.underlying67 Tryz.sizeOf3 (.tmp rfl) (.const _) (by decide)) rfl⟩ ?_
     refine allL.cons ⟨rfl, TU.p (PEv.load Tryz.isAgg3 (.tmp rfl) (((hS.blk 1 rfl).up hU).celln rfl)) rfl⟩ ?_
     refine allL.cons ⟨rfl, TU.c (enter_call0 (.cons (.tmp rfl) (.cons (.const _) .nil)) (Tryz.en37)) (pickR_any _ _ _ (by decide)) (by rintro _ W1 ⟨rfl, u⟩; exact ⟨u, rfl⟩)⟩ ?_
     refine allL.cons ⟨rfl, TU.p (PEv.build (cs := (someB y).cells) Tryz.underlying46 Tryz.zeroValue46 Tryz.places46 (.cons (.tmp rfl) (.cons (.tmp rfl) (.cons (.tmp rfl) (.cons (.tmp rfl) (.cons (.tmp rfl) (.cons (.tmp rfl) .nil)))))) rfl) rfl⟩ ?_
     refine allL.cons ⟨rfl, TU.r (REv.allocA Tryz.zeroValue46) (fun v W' h => let ⟨B, e, N⟩ := h; ⟨N.up, B, e, by rw [N.at_]; exact zU0, N.blk⟩)⟩ ?_
     exact allL.nil
    ·intro w4 g hU0 hg
     have hU := (Up.drew w3).trans hU0
     have zw4 := hU.size
     obtain ⟨B6, e6, z6, hB6⟩ : ∃ B, g 6 = .pointer (some ⟨B, 0, none⟩) ∧ w3.drew.heap.size ≤ B ∧ Blk w4 B zeroF.cells 46 := hg 25 _ 6 (by decide) rfl rfl
     have e45 : g 45 = .agg (someB y).cells := hg 24 _ 45 (by decide) rfl rfl
     change LW _ _ _ _ _ _ _ _ ((6, .eq (g 6)) :: (45, .eq (g 45)) :: _) _
     rw [e6, e45]
     clear hg e6 e45
     replace hS := (hS.up (Up.drew _)).add hU0 (A' := aBlk B6 zeroF.cells 46) hB6 (fun i (e : i = B6) => by omega)
     change Wx.Sep no w0 _ [_, _, _] at hS
     refine LW.s (SEv.storeA Tryz.sizeOf46 rfl (.tmp rfl) (.tmp rfl) (Fact.one _) (hS.blk 2 rfl) rfl) rfl rfl rfl ?_
     intro w5 Nw5
     have zw5 := Nw5.size
     replace hS := hS.putB 2 rfl (show Set_ _ w5 _ ((someB y).cells) _ from Nw5)
     change Wx.Sep _ _ _ [_, _, _] at hS
     refine LW.nil (KW.then (CW.seq (CW.seq (CW.region ?_))))
     refine LW.p (PEv.indexArr (j := 0) Tryz.underlying67 Tryz.sizeOf3 (.tmp rfl) (.const _) (by decide)) rfl rfl rfl ?_
     refine LW.p (PEv.load Tryz.isAgg3 (.tmp rfl) ((hS.blk 1 rfl).celln rfl)) rfl rfl rfl ?_
     refine LW.c (enter_call0 (.cons (.tmp rfl) (.cons (.const _) .nil)) (Tryz.en37)) rfl rfl rfl rfl (pickR_any _ _ _ (by decide)) ?_
     rintro _ w6 ⟨rfl, uw6⟩
     have zw6 := uw6.size
     replace hS := hS.up uw6
     refine LW.nil (KW.then (CW.block (CW.seq (CW.seq (CW.region ?_)))))
     refine LW.p (PEv.eql (.tmp rfl) (.const _)) rfl rfl rfl ?_
     refine LW.p (PEv.assign (.tmp rfl)) rfl rfl rfl (LW.nil (KW.then ?_))
     refine CW.cond (.tmp rfl) (fun h62 => ?_) (fun h62 => ?_)
     ·first | replace h62 := of_decide_eq_true h62 | replace h62 := of_decide_eq_false h62 | skip
      refine CW.skip (KW.then ?_)
      refine CW.cond (.tmp rfl) (fun h62 => ?_) (fun h62 => ?_)
      ·first | replace h62 := of_decide_eq_true h62 | replace h62 := of_decide_eq_false h62 | skip
       refine CW.seq (CW.region ?_)
       refine LW.p (PEv.fieldAddr (off := 0) Tryz.underlying46 rfl rfl Tryz.sizeOf3 rfl (.tmp rfl)) rfl rfl rfl ?_
       refine LW.s (SEv.store Tryz.sizeOf3 (.tmp rfl) (.const _) rfl (hS.blk 2 rfl) (Nat.le_of_ble_eq_true rfl)) rfl rfl rfl ?_
       intro w7 Nw7
       have zw7 := Nw7.size
       replace hS := hS.putB 2 rfl (show Set_ _ w7 _ (({ someB y with Kind := 1 } : Fact).cells) _ from Nw7)
       change Wx.Sep _ _ _ [_, _, _] at hS
       refine LW.nil (KW.then (CW.seq (CW.region ?_)))
       refine LW.p (PEv.indexArr (j := 5) Tryz.underlying67 Tryz.sizeOf3 (.tmp rfl) (.const _) (by decide)) rfl rfl rfl ?_
       refine LW.p (PEv.load Tryz.isAgg3 (.tmp rfl) ((hS.blk 1 rfl).celln rfl)) rfl rfl rfl ?_
       refine LW.c (enter_call0 (.cons (.tmp rfl) (.cons (.const _) .nil)) (Tryz.en37)) rfl rfl rfl rfl (pickR_any _ _ _ (by decide)) ?_
       rintro _ w8 ⟨rfl, uw8⟩
       have zw8 := uw8.size
       replace hS := hS.up uw8
       refine LW.p (PEv.fieldAddr (off := 11) Tryz.underlying46 rfl rfl Tryz.sizeOf3 rfl (.tmp rfl)) rfl rfl rfl ?_
       refine LW.s (SEv.store Tryz.sizeOf3 (.tmp rfl) (.tmp rfl) rfl (hS.blk 2 rfl) (Nat.le_of_ble_eq_true rfl)) rfl rfl rfl ?_
       intro w9 Nw9
       have zw9 := Nw9.size
       replace hS := hS.putB 2 rfl (show Set_ _ w9 _ (({ someB y with Kind := 1, Tool := pickI y.f 3 } : Fact).cells) _ from Nw9)
       change Wx.Sep _ _ _ [_, _, _] at hS
       refine LW.nil (KW.then (CW.seq (CW.region ?_)))
       refine LW.p (PEv.indexArr (j := 5) Tryz.underlying67 Tryz.sizeOf3 (.tmp rfl) (.const _) (by decide)) rfl rfl rfl ?_
       refine LW.p (PEv.load Tryz.isAgg3 (.tmp rfl) ((hS.blk 1 rfl).celln rfl)) rfl rfl rfl ?_
       refine LW.p (PEv.quo (.tmp rfl) (.const _) (by decide)) rfl rfl rfl ?_
       refine LW.c (enter_call0 (.cons (.tmp rfl) (.cons (.const _) .nil)) (Tryz.en37)) rfl rfl rfl rfl (pickR_any _ _ _ (by decide)) ?_
       rintro _ w10 ⟨rfl, uw10⟩
       have zw10 := uw10.size
       replace hS := hS.up uw10
       refine LW.p (PEv.fieldAddr (off := 13) Tryz.underlying46 rfl rfl Tryz.sizeOf3 rfl (.tmp rfl)) rfl rfl rfl ?_
       refine LW.s (SEv.store Tryz.sizeOf3 (.tmp rfl) (.tmp rfl) rfl (hS.blk 2 rfl) (Nat.le_of_ble_eq_true rfl)) rfl rfl rfl ?_
       intro w11 Nw11
       have zw11 := Nw11.size
       replace hS := hS.putB 2 rfl (show Set_ _ w11 _ (({ someB y with Kind := 1, Tool := pickI y.f 3, Step := pickI (wI (y.f.tdiv 3)) 4 } : Fact).cells) _ from Nw11)
       change Wx.Sep _ _ _ [_, _, _] at hS
       refine LW.nil (KW.then (CW.seq (CW.region ?_)))
       refine LW.p (PEv.fieldAddr (off := 14) Tryz.underlying46 rfl rfl Tryz.sizeOf3 rfl (.tmp rfl)) rfl rfl rfl ?_
       refine LW.s (SEv.store Tryz.sizeOf3 (.tmp rfl) (.const _) rfl (hS.blk 2 rfl) (Nat.le_of_ble_eq_true rfl)) rfl rfl rfl ?_
       intro w12 Nw12
       have zw12 := Nw12.size
       replace hS := hS.putB 2 rfl (show Set_ _ w12 _ (({ someB y with Kind := 1, Tool := pickI y.f 3, Step := pickI (wI (y.f.tdiv 3)) 4, Recipe := 1 } : Fact).cells) _ from Nw12)
       change Wx.Sep _ _ _ [_, _, _] at hS
       refine LW.nil (KW.then (CW.seq (CW.region ?_)))
       refine LW.p (PEv.fieldAddr (off := 15) Tryz.underlying46 rfl rfl Tryz.sizeOf3 rfl (.tmp rfl)) rfl rfl rfl ?_
       refine LW.s (SEv.store Tryz.sizeOf3 (.tmp rfl) (.const _) rfl (hS.blk 2 rfl) (Nat.le_of_ble_eq_true rfl)) rfl rfl rfl ?_
       intro w13 Nw13
       have zw13 := Nw13.size
       replace hS := hS.putB 2 rfl (show Set_ _ w13 _ (({ someB y with Kind := 1, Tool := pickI y.f 3, Step := pickI (wI (y.f.tdiv 3)) 4, Recipe := 1, Revision := 1 } : Fact).cells) _ from Nw13)
       change Wx.Sep _ _ _ [_, _, _] at hS
       refine LW.nil (KW.then (CW.region ?_))
       refine LW.p (PEv.fieldAddr (off := 5) Tryz.underlying46 rfl rfl Tryz.sizeOf3 rfl (.tmp rfl)) rfl rfl rfl ?_
       refine LW.p (PEv.load Tryz.isAgg3 (.tmp rfl) ((hS.blk 2 rfl).celln rfl)) rfl rfl rfl ?_
       refine LW.p (PEv.add_w (.tmp rfl) (.const _)) rfl rfl rfl ?_
       refine LW.p (PEv.fieldAddr (off := 6) Tryz.underlying46 rfl rfl Tryz.sizeOf3 rfl (.tmp rfl)) rfl rfl rfl ?_
       refine LW.s (SEv.store Tryz.sizeOf3 (.tmp rfl) (.tmp rfl) rfl (hS.blk 2 rfl) (Nat.le_of_ble_eq_true rfl)) rfl rfl rfl ?_
       intro w14 Nw14
       have zw14 := Nw14.size
       replace hS := hS.putB 2 rfl (show Set_ _ w14 _ (({ someB y with Kind := 1, Tool := pickI y.f 3, Step := pickI (wI (y.f.tdiv 3)) 4, Recipe := 1, Revision := 1, Until := wI ((someB y).Time + 5) } : Fact).cells) _ from Nw14)
       change Wx.Sep _ _ _ [_, _, _] at hS
       refine LW.nil (KW.inBlock (KW.then ?_))
       first | rw [← someF_p (by omega)] at hS | rw [← someF_s (by omega)] at hS | rw [← someF_l (by omega) (by omega) (by omega)] at hS
       have hsl := someL_len (xs.take k)
       refine CW.region (LW.p (PEv.move (.tmp rfl)) rfl rfl rfl ?_)
       refine LW.p (PEv.loadA Tryz.isAgg46 Tryz.sizeOf46 rfl (.tmp rfl) ((hS.blk 2 rfl).agg)) rfl rfl rfl ?_
       refine LW.r (REv.buildSlice (xs := [someF y]) (enc := Fact.cells) (mk := fun f : Fact => .agg f.cells) Tryz.underlying22 Tryz.sizeOf46 Tryz.zeroValue46 rfl (by decide) (fun _ => rfl) (fun _ => rfl) (.cons (.tmp rfl) .nil) rfl) rfl rfl rfl rfl ?_
       rintro _ w15 ⟨B95, cB95, rfl, NB95, yB95, xB95⟩
       have eB95 := NB95.at_
       have zB95 := NB95.size
       replace hS := hS.up NB95.up
       have hE95 := xB95
       refine LW.r (REv.appendF (enc := Fact.cells) (bytes := 160) (i := Tryz.t46) Tryz.underlying22 (by kernel_rfl) rfl rfl rfl rfl (by decide) (fun _ => rfl) Fact.one (.tmp rfl) (.tmp rfl) (hS.own 0 rfl) (Sl.of_els hE95) (by have := hsl; simp [maxLen]; omega) (by have := hsl; simp; omega)) rfl rfl rfl rfl ?_
       intro v96 w16 Gw16
       have zw16 := Gw16.fr.size
       replace hS := hS.stp 0 rfl Gw16
       change Wx.Sep _ _ _ [_, _, _] at hS
       refine LW.p (PEv.assign (.tmp rfl)) rfl rfl rfl (LW.nil (KW.inBlock (KW.then (CW.region (LW.p (PEv.move (.tmp rfl)) rfl rfl rfl ?_)))))
       refine LW.p (PEv.inc (.tmp rfl) (by omega)) rfl rfl rfl ?_
       refine LW.p (PEv.assign (.tmp rfl)) rfl rfl rfl (LW.nil (KW.round ?_))
       exact ⟨(k + 1, v96), ⟨⟨by show k + 1 ≤ _; omega, by show k + 1 ≤ _; omega⟩, by rw [someL_step hy hkl.2]; exact hS.take 1⟩, ⟨rfl, rfl, rfl, rfl, trivial⟩, by show xs.length - (k + 1) < xs.length - k; omega⟩
      ·first | replace h62 := of_decide_eq_true h62 | replace h62 := of_decide_eq_false h62 | skip
       refine CW.seq (CW.region ?_)
       refine LW.p (PEv.eql (.tmp rfl) (.const _)) rfl rfl rfl ?_
       refine LW.p (PEv.assign (.tmp rfl)) rfl rfl rfl (LW.nil (KW.then ?_))
       refine CW.cond (.tmp rfl) (fun h81 => ?_) (fun h81 => ?_)
       ·first | replace h81 := of_decide_eq_true h81 | replace h81 := of_decide_eq_false h81 | skip
        refine CW.seq (CW.region ?_)
        refine LW.p (PEv.fieldAddr (off := 0) Tryz.underlying46 rfl rfl Tryz.sizeOf3 rfl (.tmp rfl)) rfl rfl rfl ?_
        refine LW.s (SEv.store Tryz.sizeOf3 (.tmp rfl) (.const _) rfl (hS.blk 2 rfl) (Nat.le_of_ble_eq_true rfl)) rfl rfl rfl ?_
        intro w17 Nw17
        have zw17 := Nw17.size
        replace hS := hS.putB 2 rfl (show Set_ _ w17 _ (({ someB y with Kind := 3 } : Fact).cells) _ from Nw17)
        change Wx.Sep _ _ _ [_, _, _] at hS
        refine LW.nil (KW.then ?_)
        refine CW.draws_then 8 (by kernel_rfl) (by kernel_rfl) (by kernel_rfl) (by kernel_rfl) (by kernel_rfl) rfl rfl ?_
        refine HW.p (PEv.fieldAddr (off := 7) Tryz.underlying46 rfl rfl Tryz.sizeOf3 rfl (.tmp rfl)) rfl rfl ?_
        refine HW.p (PEv.load Tryz.isAgg3 (.tmp rfl) ((hS.blk 2 rfl).celln rfl)) rfl rfl ?_
        refine HW.p (PEv.indexArr (j := 5) Tryz.underlying67 Tryz.sizeOf3 (.tmp rfl) (.const _) (by decide)) rfl rfl ?_
        refine HW.p (PEv.load Tryz.isAgg3 (.tmp rfl) ((hS.blk 1 rfl).celln rfl)) rfl rfl ?_
        refine HW.c (fun a w _ ha => enter_call0 (.cons (.tmp rfl) (.cons (.const _) .nil)) (Tryz.en37) a ha) rfl rfl (fun w hu => pickR_any _ _ w (by decide)) ?_
        refine HW.p (PEv.add_w (.tmp rfl) (.tmp rfl)) rfl rfl ?_
        refine HW.p (PEv.rem (.tmp rfl) (.const _) (by decide)) rfl rfl ?_
        refine HW.p (PEv.add_w (.const _) (.tmp rfl)) rfl rfl ?_
        refine HW.nil ?_
        intro w18 uw18
        have zw18 := uw18.size
        replace hS := hS.up uw18
        refine LW.p (PEv.fieldAddr (off := 8) Tryz.underlying46 rfl rfl Tryz.sizeOf3 rfl (.tmp rfl)) rfl rfl rfl ?_
        refine LW.s (SEv.store Tryz.sizeOf3 (.tmp rfl) (.tmp rfl) rfl (hS.blk 2 rfl) (Nat.le_of_ble_eq_true rfl)) rfl rfl rfl ?_
        intro w19 Nw19
        have zw19 := Nw19.size
        replace hS := hS.putB 2 rfl (show Set_ _ w19 _ (({ someB y with Kind := 3, Other := wI (1 + (wI ((someB y).Wafer + pickI y.f 5)).tmod 6) } : Fact).cells) _ from Nw19)
        change Wx.Sep _ _ _ [_, _, _] at hS
        refine LW.nil (KW.inBlock (KW.then ?_))
        first | rw [← someF_p (by omega)] at hS | rw [← someF_s (by omega)] at hS | rw [← someF_l (by omega) (by omega) (by omega)] at hS
        have hsl := someL_len (xs.take k)
        refine CW.region (LW.p (PEv.move (.tmp rfl)) rfl rfl rfl ?_)
        refine LW.p (PEv.loadA Tryz.isAgg46 Tryz.sizeOf46 rfl (.tmp rfl) ((hS.blk 2 rfl).agg)) rfl rfl rfl ?_
        refine LW.r (REv.buildSlice (xs := [someF y]) (enc := Fact.cells) (mk := fun f : Fact => .agg f.cells) Tryz.underlying22 Tryz.sizeOf46 Tryz.zeroValue46 rfl (by decide) (fun _ => rfl) (fun _ => rfl) (.cons (.tmp rfl) .nil) rfl) rfl rfl rfl rfl ?_
        rintro _ w20 ⟨B95, cB95, rfl, NB95, yB95, xB95⟩
        have eB95 := NB95.at_
        have zB95 := NB95.size
        replace hS := hS.up NB95.up
        have hE95 := xB95
        refine LW.r (REv.appendF (enc := Fact.cells) (bytes := 160) (i := Tryz.t46) Tryz.underlying22 (by kernel_rfl) rfl rfl rfl rfl (by decide) (fun _ => rfl) Fact.one (.tmp rfl) (.tmp rfl) (hS.own 0 rfl) (Sl.of_els hE95) (by have := hsl; simp [maxLen]; omega) (by have := hsl; simp; omega)) rfl rfl rfl rfl ?_
        intro v96 w21 Gw21
        have zw21 := Gw21.fr.size
        replace hS := hS.stp 0 rfl Gw21
        change Wx.Sep _ _ _ [_, _, _] at hS
        refine LW.p (PEv.assign (.tmp rfl)) rfl rfl rfl (LW.nil (KW.inBlock (KW.then (CW.region (LW.p (PEv.move (.tmp rfl)) rfl rfl rfl ?_)))))
        refine LW.p (PEv.inc (.tmp rfl) (by omega)) rfl rfl rfl ?_
        refine LW.p (PEv.assign (.tmp rfl)) rfl rfl rfl (LW.nil (KW.round ?_))
        exact ⟨(k + 1, v96), ⟨⟨by show k + 1 ≤ _; omega, by show k + 1 ≤ _; omega⟩, by rw [someL_step hy hkl.2]; exact hS.take 1⟩, ⟨rfl, rfl, rfl, rfl, trivial⟩, by show xs.length - (k + 1) < xs.length - k; omega⟩
       ·first | replace h81 := of_decide_eq_true h81 | replace h81 := of_decide_eq_false h81 | skip
        refine CW.seq (CW.region ?_)
        refine LW.p (PEv.fieldAddr (off := 0) Tryz.underlying46 rfl rfl Tryz.sizeOf3 rfl (.tmp rfl)) rfl rfl rfl ?_
        refine LW.s (SEv.store Tryz.sizeOf3 (.tmp rfl) (.const _) rfl (hS.blk 2 rfl) (Nat.le_of_ble_eq_true rfl)) rfl rfl rfl ?_
        intro w22 Nw22
        have zw22 := Nw22.size
        replace hS := hS.putB 2 rfl (show Set_ _ w22 _ (({ someB y with Kind := 4 } : Fact).cells) _ from Nw22)
        change Wx.Sep _ _ _ [_, _, _] at hS
        refine LW.nil (KW.then (CW.seq (CW.region ?_)))
        refine LW.p (PEv.fieldAddr (off := 1) Tryz.underlying46 rfl rfl Tryz.sizeOf3 rfl (.tmp rfl)) rfl rfl rfl ?_
        refine LW.s (SEv.store Tryz.sizeOf3 (.tmp rfl) (.const _) rfl (hS.blk 2 rfl) (Nat.le_of_ble_eq_true rfl)) rfl rfl rfl ?_
        intro w23 Nw23
        have zw23 := Nw23.size
        replace hS := hS.putB 2 rfl (show Set_ _ w23 _ (({ someB y with Kind := 4, ID := 0 } : Fact).cells) _ from Nw23)
        change Wx.Sep _ _ _ [_, _, _] at hS
        refine LW.nil (KW.then (CW.seq (CW.region ?_)))
        refine LW.p (PEv.indexArr (j := 5) Tryz.underlying67 Tryz.sizeOf3 (.tmp rfl) (.const _) (by decide)) rfl rfl rfl ?_
        refine LW.p (PEv.load Tryz.isAgg3 (.tmp rfl) ((hS.blk 1 rfl).celln rfl)) rfl rfl rfl ?_
        refine LW.c (enter_call0 (.cons (.tmp rfl) (.cons (.const _) .nil)) (Tryz.en37)) rfl rfl rfl rfl (pickR_any _ _ _ (by decide)) ?_
        rintro _ w24 ⟨rfl, uw24⟩
        have zw24 := uw24.size
        replace hS := hS.up uw24
        refine LW.p (PEv.add_w (.const _) (.tmp rfl)) rfl rfl rfl ?_
        refine LW.p (PEv.fieldAddr (off := 9) Tryz.underlying46 rfl rfl Tryz.sizeOf3 rfl (.tmp rfl)) rfl rfl rfl ?_
        refine LW.s (SEv.store Tryz.sizeOf3 (.tmp rfl) (.tmp rfl) rfl (hS.blk 2 rfl) (Nat.le_of_ble_eq_true rfl)) rfl rfl rfl ?_
        intro w25 Nw25
        have zw25 := Nw25.size
        replace hS := hS.putB 2 rfl (show Set_ _ w25 _ (({ someB y with Kind := 4, ID := 0, Lot := wI (1 + pickI y.f 3) } : Fact).cells) _ from Nw25)
        change Wx.Sep _ _ _ [_, _, _] at hS
        refine LW.nil (KW.then (CW.region ?_))
        refine LW.p (PEv.indexArr (j := 5) Tryz.underlying67 Tryz.sizeOf3 (.tmp rfl) (.const _) (by decide)) rfl rfl rfl ?_
        refine LW.p (PEv.load Tryz.isAgg3 (.tmp rfl) ((hS.blk 1 rfl).celln rfl)) rfl rfl rfl ?_
        refine LW.p (PEv.quo (.tmp rfl) (.const _) (by decide)) rfl rfl rfl ?_
        refine LW.c (enter_call0 (.cons (.tmp rfl) (.cons (.const _) .nil)) (Tryz.en37)) rfl rfl rfl rfl (pickR_any _ _ _ (by decide)) ?_
        rintro _ w26 ⟨rfl, uw26⟩
        have zw26 := uw26.size
        replace hS := hS.up uw26
        refine LW.p (PEv.add_w (.const _) (.tmp rfl)) rfl rfl rfl ?_
        refine LW.p (PEv.fieldAddr (off := 10) Tryz.underlying46 rfl rfl Tryz.sizeOf3 rfl (.tmp rfl)) rfl rfl rfl ?_
        refine LW.s (SEv.store Tryz.sizeOf3 (.tmp rfl) (.tmp rfl) rfl (hS.blk 2 rfl) (Nat.le_of_ble_eq_true rfl)) rfl rfl rfl ?_
        intro w27 Nw27
        have zw27 := Nw27.size
        replace hS := hS.putB 2 rfl (show Set_ _ w27 _ (({ someB y with Kind := 4, ID := 0, Lot := wI (1 + pickI y.f 3), Product := wI (1 + pickI (wI (y.f.tdiv 3)) 2) } : Fact).cells) _ from Nw27)
        change Wx.Sep _ _ _ [_, _, _] at hS
        refine LW.nil (KW.inBlock (KW.then ?_))
        first | rw [← someF_p (by omega)] at hS | rw [← someF_s (by omega)] at hS | rw [← someF_l (by omega) (by omega) (by omega)] at hS
        have hsl := someL_len (xs.take k)
        refine CW.region (LW.p (PEv.move (.tmp rfl)) rfl rfl rfl ?_)
        refine LW.p (PEv.loadA Tryz.isAgg46 Tryz.sizeOf46 rfl (.tmp rfl) ((hS.blk 2 rfl).agg)) rfl rfl rfl ?_
        refine LW.r (REv.buildSlice (xs := [someF y]) (enc := Fact.cells) (mk := fun f : Fact => .agg f.cells) Tryz.underlying22 Tryz.sizeOf46 Tryz.zeroValue46 rfl (by decide) (fun _ => rfl) (fun _ => rfl) (.cons (.tmp rfl) .nil) rfl) rfl rfl rfl rfl ?_
        rintro _ w28 ⟨B95, cB95, rfl, NB95, yB95, xB95⟩
        have eB95 := NB95.at_
        have zB95 := NB95.size
        replace hS := hS.up NB95.up
        have hE95 := xB95
        refine LW.r (REv.appendF (enc := Fact.cells) (bytes := 160) (i := Tryz.t46) Tryz.underlying22 (by kernel_rfl) rfl rfl rfl rfl (by decide) (fun _ => rfl) Fact.one (.tmp rfl) (.tmp rfl) (hS.own 0 rfl) (Sl.of_els hE95) (by have := hsl; simp [maxLen]; omega) (by have := hsl; simp; omega)) rfl rfl rfl rfl ?_
        intro v96 w29 Gw29
        have zw29 := Gw29.fr.size
        replace hS := hS.stp 0 rfl Gw29
        change Wx.Sep _ _ _ [_, _, _] at hS
        refine LW.p (PEv.assign (.tmp rfl)) rfl rfl rfl (LW.nil (KW.inBlock (KW.then (CW.region (LW.p (PEv.move (.tmp rfl)) rfl rfl rfl ?_)))))
        refine LW.p (PEv.inc (.tmp rfl) (by omega)) rfl rfl rfl ?_
        refine LW.p (PEv.assign (.tmp rfl)) rfl rfl rfl (LW.nil (KW.round ?_))
        exact ⟨(k + 1, v96), ⟨⟨by show k + 1 ≤ _; omega, by show k + 1 ≤ _; omega⟩, by rw [someL_step hy hkl.2]; exact hS.take 1⟩, ⟨rfl, rfl, rfl, rfl, trivial⟩, by show xs.length - (k + 1) < xs.length - k; omega⟩
     ·first | replace h62 := of_decide_eq_true h62 | replace h62 := of_decide_eq_false h62 | skip
      refine CW.region ?_
      refine LW.p (PEv.eql (.tmp rfl) (.const _)) rfl rfl rfl ?_
      refine LW.p (PEv.assign (.tmp rfl)) rfl rfl rfl (LW.nil (KW.then ?_))
      refine CW.cond (.tmp rfl) (fun h62 => ?_) (fun h62 => ?_)
      ·first | replace h62 := of_decide_eq_true h62 | replace h62 := of_decide_eq_false h62 | skip
       refine CW.seq (CW.region ?_)
       refine LW.p (PEv.fieldAddr (off := 0) Tryz.underlying46 rfl rfl Tryz.sizeOf3 rfl (.tmp rfl)) rfl rfl rfl ?_
       refine LW.s (SEv.store Tryz.sizeOf3 (.tmp rfl) (.const _) rfl (hS.blk 2 rfl) (Nat.le_of_ble_eq_true rfl)) rfl rfl rfl ?_
       intro w30 Nw30
       have zw30 := Nw30.size
       replace hS := hS.putB 2 rfl (show Set_ _ w30 _ (({ someB y with Kind := 1 } : Fact).cells) _ from Nw30)
       change Wx.Sep _ _ _ [_, _, _] at hS
       refine LW.nil (KW.then (CW.seq (CW.region ?_)))
       refine LW.p (PEv.indexArr (j := 5) Tryz.underlying67 Tryz.sizeOf3 (.tmp rfl) (.const _) (by decide)) rfl rfl rfl ?_
       refine LW.p (PEv.load Tryz.isAgg3 (.tmp rfl) ((hS.blk 1 rfl).celln rfl)) rfl rfl rfl ?_
       refine LW.c (enter_call0 (.cons (.tmp rfl) (.cons (.const _) .nil)) (Tryz.en37)) rfl rfl rfl rfl (pickR_any _ _ _ (by decide)) ?_
       rintro _ w31 ⟨rfl, uw31⟩
       have zw31 := uw31.size
       replace hS := hS.up uw31
       refine LW.p (PEv.fieldAddr (off := 11) Tryz.underlying46 rfl rfl Tryz.sizeOf3 rfl (.tmp rfl)) rfl rfl rfl ?_
       refine LW.s (SEv.store Tryz.sizeOf3 (.tmp rfl) (.tmp rfl) rfl (hS.blk 2 rfl) (Nat.le_of_ble_eq_true rfl)) rfl rfl rfl ?_
       intro w32 Nw32
       have zw32 := Nw32.size
       replace hS := hS.putB 2 rfl (show Set_ _ w32 _ (({ someB y with Kind := 1, Tool := pickI y.f 3 } : Fact).cells) _ from Nw32)
       change Wx.Sep _ _ _ [_, _, _] at hS
       refine LW.nil (KW.then (CW.seq (CW.region ?_)))
       refine LW.p (PEv.indexArr (j := 5) Tryz.underlying67 Tryz.sizeOf3 (.tmp rfl) (.const _) (by decide)) rfl rfl rfl ?_
       refine LW.p (PEv.load Tryz.isAgg3 (.tmp rfl) ((hS.blk 1 rfl).celln rfl)) rfl rfl rfl ?_
       refine LW.p (PEv.quo (.tmp rfl) (.const _) (by decide)) rfl rfl rfl ?_
       refine LW.c (enter_call0 (.cons (.tmp rfl) (.cons (.const _) .nil)) (Tryz.en37)) rfl rfl rfl rfl (pickR_any _ _ _ (by decide)) ?_
       rintro _ w33 ⟨rfl, uw33⟩
       have zw33 := uw33.size
       replace hS := hS.up uw33
       refine LW.p (PEv.fieldAddr (off := 13) Tryz.underlying46 rfl rfl Tryz.sizeOf3 rfl (.tmp rfl)) rfl rfl rfl ?_
       refine LW.s (SEv.store Tryz.sizeOf3 (.tmp rfl) (.tmp rfl) rfl (hS.blk 2 rfl) (Nat.le_of_ble_eq_true rfl)) rfl rfl rfl ?_
       intro w34 Nw34
       have zw34 := Nw34.size
       replace hS := hS.putB 2 rfl (show Set_ _ w34 _ (({ someB y with Kind := 1, Tool := pickI y.f 3, Step := pickI (wI (y.f.tdiv 3)) 4 } : Fact).cells) _ from Nw34)
       change Wx.Sep _ _ _ [_, _, _] at hS
       refine LW.nil (KW.then (CW.seq (CW.region ?_)))
       refine LW.p (PEv.fieldAddr (off := 14) Tryz.underlying46 rfl rfl Tryz.sizeOf3 rfl (.tmp rfl)) rfl rfl rfl ?_
       refine LW.s (SEv.store Tryz.sizeOf3 (.tmp rfl) (.const _) rfl (hS.blk 2 rfl) (Nat.le_of_ble_eq_true rfl)) rfl rfl rfl ?_
       intro w35 Nw35
       have zw35 := Nw35.size
       replace hS := hS.putB 2 rfl (show Set_ _ w35 _ (({ someB y with Kind := 1, Tool := pickI y.f 3, Step := pickI (wI (y.f.tdiv 3)) 4, Recipe := 1 } : Fact).cells) _ from Nw35)
       change Wx.Sep _ _ _ [_, _, _] at hS
       refine LW.nil (KW.then (CW.seq (CW.region ?_)))
       refine LW.p (PEv.fieldAddr (off := 15) Tryz.underlying46 rfl rfl Tryz.sizeOf3 rfl (.tmp rfl)) rfl rfl rfl ?_
       refine LW.s (SEv.store Tryz.sizeOf3 (.tmp rfl) (.const _) rfl (hS.blk 2 rfl) (Nat.le_of_ble_eq_true rfl)) rfl rfl rfl ?_
       intro w36 Nw36
       have zw36 := Nw36.size
       replace hS := hS.putB 2 rfl (show Set_ _ w36 _ (({ someB y with Kind := 1, Tool := pickI y.f 3, Step := pickI (wI (y.f.tdiv 3)) 4, Recipe := 1, Revision := 1 } : Fact).cells) _ from Nw36)
       change Wx.Sep _ _ _ [_, _, _] at hS
       refine LW.nil (KW.then (CW.region ?_))
       refine LW.p (PEv.fieldAddr (off := 5) Tryz.underlying46 rfl rfl Tryz.sizeOf3 rfl (.tmp rfl)) rfl rfl rfl ?_
       refine LW.p (PEv.load Tryz.isAgg3 (.tmp rfl) ((hS.blk 2 rfl).celln rfl)) rfl rfl rfl ?_
       refine LW.p (PEv.add_w (.tmp rfl) (.const _)) rfl rfl rfl ?_
       refine LW.p (PEv.fieldAddr (off := 6) Tryz.underlying46 rfl rfl Tryz.sizeOf3 rfl (.tmp rfl)) rfl rfl rfl ?_
       refine LW.s (SEv.store Tryz.sizeOf3 (.tmp rfl) (.tmp rfl) rfl (hS.blk 2 rfl) (Nat.le_of_ble_eq_true rfl)) rfl rfl rfl ?_
       intro w37 Nw37
       have zw37 := Nw37.size
       replace hS := hS.putB 2 rfl (show Set_ _ w37 _ (({ someB y with Kind := 1, Tool := pickI y.f 3, Step := pickI (wI (y.f.tdiv 3)) 4, Recipe := 1, Revision := 1, Until := wI ((someB y).Time + 5) } : Fact).cells) _ from Nw37)
       change Wx.Sep _ _ _ [_, _, _] at hS
       refine LW.nil (KW.inBlock (KW.then ?_))
       first | rw [← someF_p (by omega)] at hS | rw [← someF_s (by omega)] at hS | rw [← someF_l (by omega) (by omega) (by omega)] at hS
       have hsl := someL_len (xs.take k)
       refine CW.region (LW.p (PEv.move (.tmp rfl)) rfl rfl rfl ?_)
       refine LW.p (PEv.loadA Tryz.isAgg46 Tryz.sizeOf46 rfl (.tmp rfl) ((hS.blk 2 rfl).agg)) rfl rfl rfl ?_
       refine LW.r (REv.buildSlice (xs := [someF y]) (enc := Fact.cells) (mk := fun f : Fact => .agg f.cells) Tryz.underlying22 Tryz.sizeOf46 Tryz.zeroValue46 rfl (by decide) (fun _ => rfl) (fun _ => rfl) (.cons (.tmp rfl) .nil) rfl) rfl rfl rfl rfl ?_
       rintro _ w38 ⟨B95, cB95, rfl, NB95, yB95, xB95⟩
       have eB95 := NB95.at_
       have zB95 := NB95.size
       replace hS := hS.up NB95.up
       have hE95 := xB95
       refine LW.r (REv.appendF (enc := Fact.cells) (bytes := 160) (i := Tryz.t46) Tryz.underlying22 (by kernel_rfl) rfl rfl rfl rfl (by decide) (fun _ => rfl) Fact.one (.tmp rfl) (.tmp rfl) (hS.own 0 rfl) (Sl.of_els hE95) (by have := hsl; simp [maxLen]; omega) (by have := hsl; simp; omega)) rfl rfl rfl rfl ?_
       intro v96 w39 Gw39
       have zw39 := Gw39.fr.size
       replace hS := hS.stp 0 rfl Gw39
       change Wx.Sep _ _ _ [_, _, _] at hS
       refine LW.p (PEv.assign (.tmp rfl)) rfl rfl rfl (LW.nil (KW.inBlock (KW.then (CW.region (LW.p (PEv.move (.tmp rfl)) rfl rfl rfl ?_)))))
       refine LW.p (PEv.inc (.tmp rfl) (by omega)) rfl rfl rfl ?_
       refine LW.p (PEv.assign (.tmp rfl)) rfl rfl rfl (LW.nil (KW.round ?_))
       exact ⟨(k + 1, v96), ⟨⟨by show k + 1 ≤ _; omega, by show k + 1 ≤ _; omega⟩, by rw [someL_step hy hkl.2]; exact hS.take 1⟩, ⟨rfl, rfl, rfl, rfl, trivial⟩, by show xs.length - (k + 1) < xs.length - k; omega⟩
      ·first | replace h62 := of_decide_eq_true h62 | replace h62 := of_decide_eq_false h62 | skip
       refine CW.seq (CW.region ?_)
       refine LW.p (PEv.eql (.tmp rfl) (.const _)) rfl rfl rfl ?_
       refine LW.p (PEv.assign (.tmp rfl)) rfl rfl rfl (LW.nil (KW.then ?_))
       refine CW.cond (.tmp rfl) (fun h81 => ?_) (fun h81 => ?_)
       ·first | replace h81 := of_decide_eq_true h81 | replace h81 := of_decide_eq_false h81 | skip
        refine CW.seq (CW.region ?_)
        refine LW.p (PEv.fieldAddr (off := 0) Tryz.underlying46 rfl rfl Tryz.sizeOf3 rfl (.tmp rfl)) rfl rfl rfl ?_
        refine LW.s (SEv.store Tryz.sizeOf3 (.tmp rfl) (.const _) rfl (hS.blk 2 rfl) (Nat.le_of_ble_eq_true rfl)) rfl rfl rfl ?_
        intro w40 Nw40
        have zw40 := Nw40.size
        replace hS := hS.putB 2 rfl (show Set_ _ w40 _ (({ someB y with Kind := 3 } : Fact).cells) _ from Nw40)
        change Wx.Sep _ _ _ [_, _, _] at hS
        refine LW.nil (KW.then ?_)
        refine CW.draws_then 8 (by kernel_rfl) (by kernel_rfl) (by kernel_rfl) (by kernel_rfl) (by kernel_rfl) rfl rfl ?_
        refine HW.p (PEv.fieldAddr (off := 7) Tryz.underlying46 rfl rfl Tryz.sizeOf3 rfl (.tmp rfl)) rfl rfl ?_
        refine HW.p (PEv.load Tryz.isAgg3 (.tmp rfl) ((hS.blk 2 rfl).celln rfl)) rfl rfl ?_
        refine HW.p (PEv.indexArr (j := 5) Tryz.underlying67 Tryz.sizeOf3 (.tmp rfl) (.const _) (by decide)) rfl rfl ?_
        refine HW.p (PEv.load Tryz.isAgg3 (.tmp rfl) ((hS.blk 1 rfl).celln rfl)) rfl rfl ?_
        refine HW.c (fun a w _ ha => enter_call0 (.cons (.tmp rfl) (.cons (.const _) .nil)) (Tryz.en37) a ha) rfl rfl (fun w hu => pickR_any _ _ w (by decide)) ?_
        refine HW.p (PEv.add_w (.tmp rfl) (.tmp rfl)) rfl rfl ?_
        refine HW.p (PEv.rem (.tmp rfl) (.const _) (by decide)) rfl rfl ?_
        refine HW.p (PEv.add_w (.const _) (.tmp rfl)) rfl rfl ?_
        refine HW.nil ?_
        intro w41 uw41
        have zw41 := uw41.size
        replace hS := hS.up uw41
        refine LW.p (PEv.fieldAddr (off := 8) Tryz.underlying46 rfl rfl Tryz.sizeOf3 rfl (.tmp rfl)) rfl rfl rfl ?_
        refine LW.s (SEv.store Tryz.sizeOf3 (.tmp rfl) (.tmp rfl) rfl (hS.blk 2 rfl) (Nat.le_of_ble_eq_true rfl)) rfl rfl rfl ?_
        intro w42 Nw42
        have zw42 := Nw42.size
        replace hS := hS.putB 2 rfl (show Set_ _ w42 _ (({ someB y with Kind := 3, Other := wI (1 + (wI ((someB y).Wafer + pickI y.f 5)).tmod 6) } : Fact).cells) _ from Nw42)
        change Wx.Sep _ _ _ [_, _, _] at hS
        refine LW.nil (KW.inBlock (KW.then ?_))
        first | rw [← someF_p (by omega)] at hS | rw [← someF_s (by omega)] at hS | rw [← someF_l (by omega) (by omega) (by omega)] at hS
        have hsl := someL_len (xs.take k)
        refine CW.region (LW.p (PEv.move (.tmp rfl)) rfl rfl rfl ?_)
        refine LW.p (PEv.loadA Tryz.isAgg46 Tryz.sizeOf46 rfl (.tmp rfl) ((hS.blk 2 rfl).agg)) rfl rfl rfl ?_
        refine LW.r (REv.buildSlice (xs := [someF y]) (enc := Fact.cells) (mk := fun f : Fact => .agg f.cells) Tryz.underlying22 Tryz.sizeOf46 Tryz.zeroValue46 rfl (by decide) (fun _ => rfl) (fun _ => rfl) (.cons (.tmp rfl) .nil) rfl) rfl rfl rfl rfl ?_
        rintro _ w43 ⟨B95, cB95, rfl, NB95, yB95, xB95⟩
        have eB95 := NB95.at_
        have zB95 := NB95.size
        replace hS := hS.up NB95.up
        have hE95 := xB95
        refine LW.r (REv.appendF (enc := Fact.cells) (bytes := 160) (i := Tryz.t46) Tryz.underlying22 (by kernel_rfl) rfl rfl rfl rfl (by decide) (fun _ => rfl) Fact.one (.tmp rfl) (.tmp rfl) (hS.own 0 rfl) (Sl.of_els hE95) (by have := hsl; simp [maxLen]; omega) (by have := hsl; simp; omega)) rfl rfl rfl rfl ?_
        intro v96 w44 Gw44
        have zw44 := Gw44.fr.size
        replace hS := hS.stp 0 rfl Gw44
        change Wx.Sep _ _ _ [_, _, _] at hS
        refine LW.p (PEv.assign (.tmp rfl)) rfl rfl rfl (LW.nil (KW.inBlock (KW.then (CW.region (LW.p (PEv.move (.tmp rfl)) rfl rfl rfl ?_)))))
        refine LW.p (PEv.inc (.tmp rfl) (by omega)) rfl rfl rfl ?_
        refine LW.p (PEv.assign (.tmp rfl)) rfl rfl rfl (LW.nil (KW.round ?_))
        exact ⟨(k + 1, v96), ⟨⟨by show k + 1 ≤ _; omega, by show k + 1 ≤ _; omega⟩, by rw [someL_step hy hkl.2]; exact hS.take 1⟩, ⟨rfl, rfl, rfl, rfl, trivial⟩, by show xs.length - (k + 1) < xs.length - k; omega⟩
       ·first | replace h81 := of_decide_eq_true h81 | replace h81 := of_decide_eq_false h81 | skip
        refine CW.seq (CW.region ?_)
        refine LW.p (PEv.fieldAddr (off := 0) Tryz.underlying46 rfl rfl Tryz.sizeOf3 rfl (.tmp rfl)) rfl rfl rfl ?_
        refine LW.s (SEv.store Tryz.sizeOf3 (.tmp rfl) (.const _) rfl (hS.blk 2 rfl) (Nat.le_of_ble_eq_true rfl)) rfl rfl rfl ?_
        intro w45 Nw45
        have zw45 := Nw45.size
        replace hS := hS.putB 2 rfl (show Set_ _ w45 _ (({ someB y with Kind := 4 } : Fact).cells) _ from Nw45)
        change Wx.Sep _ _ _ [_, _, _] at hS
        refine LW.nil (KW.then (CW.seq (CW.region ?_)))
        refine LW.p (PEv.fieldAddr (off := 1) Tryz.underlying46 rfl rfl Tryz.sizeOf3 rfl (.tmp rfl)) rfl rfl rfl ?_
        refine LW.s (SEv.store Tryz.sizeOf3 (.tmp rfl) (.const _) rfl (hS.blk 2 rfl) (Nat.le_of_ble_eq_true rfl)) rfl rfl rfl ?_
        intro w46 Nw46
        have zw46 := Nw46.size
        replace hS := hS.putB 2 rfl (show Set_ _ w46 _ (({ someB y with Kind := 4, ID := 0 } : Fact).cells) _ from Nw46)
        change Wx.Sep _ _ _ [_, _, _] at hS
        refine LW.nil (KW.then (CW.seq (CW.region ?_)))
        refine LW.p (PEv.indexArr (j := 5) Tryz.underlying67 Tryz.sizeOf3 (.tmp rfl) (.const _) (by decide)) rfl rfl rfl ?_
        refine LW.p (PEv.load Tryz.isAgg3 (.tmp rfl) ((hS.blk 1 rfl).celln rfl)) rfl rfl rfl ?_
        refine LW.c (enter_call0 (.cons (.tmp rfl) (.cons (.const _) .nil)) (Tryz.en37)) rfl rfl rfl rfl (pickR_any _ _ _ (by decide)) ?_
        rintro _ w47 ⟨rfl, uw47⟩
        have zw47 := uw47.size
        replace hS := hS.up uw47
        refine LW.p (PEv.add_w (.const _) (.tmp rfl)) rfl rfl rfl ?_
        refine LW.p (PEv.fieldAddr (off := 9) Tryz.underlying46 rfl rfl Tryz.sizeOf3 rfl (.tmp rfl)) rfl rfl rfl ?_
        refine LW.s (SEv.store Tryz.sizeOf3 (.tmp rfl) (.tmp rfl) rfl (hS.blk 2 rfl) (Nat.le_of_ble_eq_true rfl)) rfl rfl rfl ?_
        intro w48 Nw48
        have zw48 := Nw48.size
        replace hS := hS.putB 2 rfl (show Set_ _ w48 _ (({ someB y with Kind := 4, ID := 0, Lot := wI (1 + pickI y.f 3) } : Fact).cells) _ from Nw48)
        change Wx.Sep _ _ _ [_, _, _] at hS
        refine LW.nil (KW.then (CW.region ?_))
        refine LW.p (PEv.indexArr (j := 5) Tryz.underlying67 Tryz.sizeOf3 (.tmp rfl) (.const _) (by decide)) rfl rfl rfl ?_
        refine LW.p (PEv.load Tryz.isAgg3 (.tmp rfl) ((hS.blk 1 rfl).celln rfl)) rfl rfl rfl ?_
        refine LW.p (PEv.quo (.tmp rfl) (.const _) (by decide)) rfl rfl rfl ?_
        refine LW.c (enter_call0 (.cons (.tmp rfl) (.cons (.const _) .nil)) (Tryz.en37)) rfl rfl rfl rfl (pickR_any _ _ _ (by decide)) ?_
        rintro _ w49 ⟨rfl, uw49⟩
        have zw49 := uw49.size
        replace hS := hS.up uw49
        refine LW.p (PEv.add_w (.const _) (.tmp rfl)) rfl rfl rfl ?_
        refine LW.p (PEv.fieldAddr (off := 10) Tryz.underlying46 rfl rfl Tryz.sizeOf3 rfl (.tmp rfl)) rfl rfl rfl ?_
        refine LW.s (SEv.store Tryz.sizeOf3 (.tmp rfl) (.tmp rfl) rfl (hS.blk 2 rfl) (Nat.le_of_ble_eq_true rfl)) rfl rfl rfl ?_
        intro w50 Nw50
        have zw50 := Nw50.size
        replace hS := hS.putB 2 rfl (show Set_ _ w50 _ (({ someB y with Kind := 4, ID := 0, Lot := wI (1 + pickI y.f 3), Product := wI (1 + pickI (wI (y.f.tdiv 3)) 2) } : Fact).cells) _ from Nw50)
        change Wx.Sep _ _ _ [_, _, _] at hS
        refine LW.nil (KW.inBlock (KW.then ?_))
        first | rw [← someF_p (by omega)] at hS | rw [← someF_s (by omega)] at hS | rw [← someF_l (by omega) (by omega) (by omega)] at hS
        have hsl := someL_len (xs.take k)
        refine CW.region (LW.p (PEv.move (.tmp rfl)) rfl rfl rfl ?_)
        refine LW.p (PEv.loadA Tryz.isAgg46 Tryz.sizeOf46 rfl (.tmp rfl) ((hS.blk 2 rfl).agg)) rfl rfl rfl ?_
        refine LW.r (REv.buildSlice (xs := [someF y]) (enc := Fact.cells) (mk := fun f : Fact => .agg f.cells) Tryz.underlying22 Tryz.sizeOf46 Tryz.zeroValue46 rfl (by decide) (fun _ => rfl) (fun _ => rfl) (.cons (.tmp rfl) .nil) rfl) rfl rfl rfl rfl ?_
        rintro _ w51 ⟨B95, cB95, rfl, NB95, yB95, xB95⟩
        have eB95 := NB95.at_
        have zB95 := NB95.size
        replace hS := hS.up NB95.up
        have hE95 := xB95
        refine LW.r (REv.appendF (enc := Fact.cells) (bytes := 160) (i := Tryz.t46) Tryz.underlying22 (by kernel_rfl) rfl rfl rfl rfl (by decide) (fun _ => rfl) Fact.one (.tmp rfl) (.tmp rfl) (hS.own 0 rfl) (Sl.of_els hE95) (by have := hsl; simp [maxLen]; omega) (by have := hsl; simp; omega)) rfl rfl rfl rfl ?_
        intro v96 w52 Gw52
        have zw52 := Gw52.fr.size
        replace hS := hS.stp 0 rfl Gw52
        change Wx.Sep _ _ _ [_, _, _] at hS
        refine LW.p (PEv.assign (.tmp rfl)) rfl rfl rfl (LW.nil (KW.inBlock (KW.then (CW.region (LW.p (PEv.move (.tmp rfl)) rfl rfl rfl ?_)))))
        refine LW.p (PEv.inc (.tmp rfl) (by omega)) rfl rfl rfl ?_
        refine LW.p (PEv.assign (.tmp rfl)) rfl rfl rfl (LW.nil (KW.round ?_))
        exact ⟨(k + 1, v96), ⟨⟨by show k + 1 ≤ _; omega, by show k + 1 ≤ _; omega⟩, by rw [someL_step hy hkl.2]; exact hS.take 1⟩, ⟨rfl, rfl, rfl, rfl, trivial⟩, by show xs.length - (k + 1) < xs.length - k; omega⟩
   ·first | replace h14 := of_decide_eq_true h14 | replace h14 := of_decide_eq_false h14 | skip
    refine CW.exit (KW.then_exit (KW.then_exit (KW.block_hit (KW.then (CW.seq (CW.region (LW.p (PEv.move (.tmp rfl)) rfl rfl rfl (LW.p (PEv.assign (.tmp rfl)) rfl rfl rfl (LW.nil (KW.then (CW.ret ?_)))))))))))
    refine KW.ret1 rfl rfl ⟨_, rfl, ?_⟩
    rw [someL_end (by simp at h14; omega)] at hS
    exact ⟨OwnS.ofSep hS, hS.upd⟩
end Go.Proofs.YthfjagphcekcbaaGreat
namespace Go.Wx
def exF (k : Nat) (p : Int × Int) : Fact := { zeroF with Kind := 1, Version := 1, ID := ((1 + k : Nat) : Int), Wafer := p.1, Recipe := 1, Revision := 1, Time := p.2, Until := p.2 }
def ePr (p : Int × Int) : Array Go.Value := #[vi p.1, vi p.2]
def exR : List (Int × Int) := [(5, 10), (5, 30), (6, 40)]
def exP : List Fact := [exF 0 (5, 10), exF 1 (5, 30), exF 2 (6, 40)]
def exS : Fact := { zeroF with Kind := 3, Version := 1, ID := 1, Wafer := 5, Other := 6, Time := 20 }
def exL1 : Fact := { zeroF with Kind := 4, Version := 1, Wafer := 5, Lot := 7, Product := 1 }
def exL2 : Fact := { zeroF with Kind := 4, Version := 1, Wafer := 5, Lot := 8, Product := 1, Time := 25 }
def exB : Base := ⟨exP, [], [exS], [exL1, exL2], [], [], [], [], [], [], []⟩
theorem Els.gr {α : Type} {w w' : World} {B base k : Nat} {enc : α → Array Go.Value} {xs : List α} (h : Els w (some ⟨B, 0, none⟩) k enc xs) (g : Grew base w w') (hB : B < base) : Els w' (some ⟨B, 0, none⟩) k enc xs := fun i x hx => by
  obtain ⟨B', o, e, hc⟩ := h i x hx
  cases e
  refine ⟨B, 0, rfl, fun j v hv => ?_⟩
  have h1 := hc j v hv
  have hlt := block_lt_of_cell h1
  unfold World.cell? at h1 ⊢
  rw [g.block B hlt hB]
  exact h1
theorem exP_step {k : Nat} {p : Int × Int} (h : exR[k]? = some p) : exP.take (k + 1) = exP.take k ++ [exF k p] := by
  have hk : k < 3 := (List.getElem?_eq_some_iff.1 h).1
  rcases (by omega : k = 0 ∨ k = 1 ∨ k = 2) with rfl | rfl | rfl <;> (cases h; rfl)
end Go.Wx
namespace Go.Proofs.YthfjagphcekcbaaGreat
open Go.Wx Go.RowKit
set_option maxHeartbeats 4000000 in
theorem example_any (w : World) : Ret Tryz.prog 32 #[] w fun r w' => ∃ bc, r = .agg bc ∧ BaseC w' bc exB ∧ Up w w' := by
  have hW := Up.refl w
  obtain ⟨w0, rfl⟩ : ∃ w0, w0 = w := ⟨_, rfl⟩
  refine Calls_start (n := 37) (m := 9) Tryz.func32 rfl rfl rfl ?_
  refine CW.seq (CW.region ?_)
  refine LW.r (REv.allocA Tryz.zeroValue24) rfl rfl rfl rfl ?_
  rintro _ w1 ⟨B0, rfl, NB0⟩
  have eB0 := NB0.at_
  have zB0 := NB0.size
  replace hW := hW.up NB0.up
  have hB0 := NB0.blk
  refine LW.nil (KW.then (CW.seq (CW.region ?_)))
  refine LW.r (REv.allocA Tryz.zeroValue24) rfl rfl rfl rfl ?_
  rintro _ w2 ⟨B1, rfl, NB1⟩
  have eB1 := NB1.at_
  have zB1 := NB1.size
  replace hW := hW.up NB1.up
  replace hB0 := hB0.up NB1.up
  have hB1 := NB1.blk
  refine LW.nil (KW.then (CW.seq (CW.seq (CW.region ?_))))
  refine LW.p (PEv.buildArr (cs := (ePr (5, 10))) Tryz.underlying85 Tryz.zeroValue85 Tryz.sizeOf3 (.cons (.const _) (.cons (.const _) .nil)) rfl) rfl rfl rfl ?_
  refine LW.p (PEv.buildArr (cs := (ePr (5, 30))) Tryz.underlying85 Tryz.zeroValue85 Tryz.sizeOf3 (.cons (.const _) (.cons (.const _) .nil)) rfl) rfl rfl rfl ?_
  refine LW.p (PEv.buildArr (cs := (ePr (6, 40))) Tryz.underlying85 Tryz.zeroValue85 Tryz.sizeOf3 (.cons (.const _) (.cons (.const _) .nil)) rfl) rfl rfl rfl ?_
  refine LW.r (REv.buildSlice (xs := exR) (enc := ePr) (mk := fun p => .agg (ePr p)) Tryz.underlying86 Tryz.sizeOf85 Tryz.zeroValue85 rfl (by decide) (fun _ => rfl) (fun _ => rfl) (.cons (.tmp rfl) (.cons (.tmp rfl) (.cons (.tmp rfl) .nil))) rfl) rfl rfl rfl rfl ?_
  rintro _ w3 ⟨B7, cB7, rfl, NB7, yB7, xB7⟩
  have eB7 := NB7.at_
  have zB7 := NB7.size
  replace hW := hW.up NB7.up
  replace hB0 := hB0.up NB7.up
  replace hB1 := hB1.up NB7.up
  have hB7 := NB7.blk
  have hE7 := xB7
  refine LW.p (PEv.lenS Tryz.underlying86 (.tmp rfl)) rfl rfl rfl ?_
  refine LW.p (PEv.move (.const _)) rfl rfl rfl ?_
  refine LW.nil (KW.then (CW.block ?_))
  refine CW.loopB (σ := Nat × Go.Value) (fun s w => (s.1 ≤ exR.length) ∧ (Blk w B0 #[.slice none 0 0, .slice none 0 0, .slice none 0 0, .slice none 0 0, .slice none 0 0, .slice none 0 0, .slice none 0 0, .slice none 0 0, .slice none 0 0, .slice none 0 0, .slice none 0 0] 24) ∧ (Blk w B1 #[s.2, .slice none 0 0, .slice none 0 0, .slice none 0 0, .slice none 0 0, .slice none 0 0, .slice none 0 0, .slice none 0 0, .slice none 0 0, .slice none 0 0, .slice none 0 0] 24) ∧ (Els w (some ⟨B7, 0, none⟩) 2 ePr exR) ∧ (OwnS w (B7 + 1) 46 19 Fact.cells s.2 (exP.take s.1)) ∧ (Sz (B7 + 1) w) ∧ (Up w0 w)) (fun s => [(9, .eq (vi (s.1 : Int)))]) ([(0, .eq _), (1, .eq _), (7, .eq _), (8, .eq _)]) (fun s => exR.length - s.1) (0, .slice none 0 0) ?_ ⟨rfl, rfl, rfl, rfl, rfl, trivial⟩ ?_
  ·exact ⟨Nat.zero_le _, hB0, hB1, hE7, OwnS.nil _ _ _ _ _, (show B7 + 1 ≤ _ by omega), hW⟩
  ·rintro ⟨k, v⟩ w4 ⟨hk, hB0, hB1, hE7, hO, hZ7, hW⟩
   dsimp only at hk hB1 hO
   change CW _ _ _ _ _ _ _ ([(9, .eq (vi (k : Int)))] ++ _) _
   refine CW.seq ?_
   skip
   refine CW.region ?_
   refine LW.p (PEv.lss (.tmp rfl) (.tmp rfl)) rfl rfl rfl ?_
   refine LW.nil (KW.then (CW.seq ?_))
   refine CW.cond (.tmp rfl) (fun h10 => ?_) (fun h10 => ?_)
   ·first | replace h10 := of_decide_eq_true h10 | replace h10 := of_decide_eq_false h10 | skip
    refine CW.skip (KW.then (CW.seq (CW.block (CW.seq ?_))))
    have hk3 : k < 3 := by have : exR.length = 3 := rfl; omega
    have z7 : B7 + 1 ≤ _ := hZ7
    refine CW.region (LW.p (PEv.move (.tmp rfl)) rfl rfl rfl ?_)
    obtain ⟨x, hx⟩ := getElem?_of_lt (xs := exR) (i := k) (by omega)
    obtain ⟨Bx, ox, ax, hcx⟩ := hE7 _ x hx
    refine LW.p (PEv.indexAddr' Tryz.underlying86 Tryz.sizeOf85 (.tmp rfl) (.tmp rfl) (by omega) ax) rfl rfl rfl ?_
    refine LW.p (PEv.loadA Tryz.isAgg85 Tryz.sizeOf85 rfl (.tmp rfl) (hcx)) rfl rfl rfl ?_
    refine LW.r (REv.allocA Tryz.zeroValue85) rfl rfl rfl rfl ?_
    rintro _ w5 ⟨B3, rfl, MB3⟩
    refine LW.p (PEv.assign (.tmp rfl)) rfl rfl rfl ?_
    refine LW.s (SEv.storeA Tryz.sizeOf85 rfl (.tmp rfl) (.tmp rfl) (by simp [ePr, Value.oneCell']) MB3.blk rfl) rfl rfl rfl ?_
    intro w6 LB3
    have NB3 := MB3.set LB3
    clear LB3 MB3
    have eB3 := NB3.at_
    have zB3 := NB3.size
    replace hB0 := hB0.up NB3.up
    replace hB1 := hB1.up NB3.up
    replace hE7 := hE7.up NB3.up
    replace hO := hO.up NB3.up
    replace hZ7 := hZ7.up NB3.up
    replace hW := hW.up NB3.up
    replace hcx := hcx.up NB3.up
    have hB3 := NB3.blk
    refine LW.nil (KW.then (CW.region ?_))
    refine LW.p (PEv.fieldAddr (off := 0) Tryz.underlying24 rfl rfl Tryz.sizeOf22 rfl (.tmp rfl)) rfl rfl rfl ?_
    refine LW.p (PEv.load Tryz.isAgg22 (.tmp rfl) (hB1.celln rfl)) rfl rfl rfl ?_
    refine LW.p (PEv.move (.tmp rfl)) rfl rfl rfl ?_
    refine LW.p (PEv.addN (i := 1) (.const _) (.tmp rfl) (by omega)) rfl rfl rfl ?_
    refine LW.p (PEv.indexArr (j := 0) Tryz.underlying85 Tryz.sizeOf3 (.tmp rfl) (.const _) (by decide)) rfl rfl rfl ?_
    refine LW.p (PEv.load Tryz.isAgg3 (.tmp rfl) (hB3.celln rfl)) rfl rfl rfl ?_
    refine LW.p (PEv.indexArr (j := 1) Tryz.underlying85 Tryz.sizeOf3 (.tmp rfl) (.const _) (by decide)) rfl rfl rfl ?_
    refine LW.p (PEv.load Tryz.isAgg3 (.tmp rfl) (hB3.celln rfl)) rfl rfl rfl ?_
    refine LW.p (PEv.indexArr (j := 1) Tryz.underlying85 Tryz.sizeOf3 (.tmp rfl) (.const _) (by decide)) rfl rfl rfl ?_
    refine LW.p (PEv.load Tryz.isAgg3 (.tmp rfl) (hB3.celln rfl)) rfl rfl rfl ?_
    refine LW.p (PEv.build (cs := (exF k x).cells) Tryz.underlying46 Tryz.zeroValue46 Tryz.places46 (.cons (.const _) (.cons (.const _) (.cons (.tmp rfl) (.cons (.tmp rfl) (.cons (.const _) (.cons (.const _) (.cons (.tmp rfl) (.cons (.tmp rfl) .nil)))))))) rfl) rfl rfl rfl ?_
    refine LW.r (REv.buildSlice (xs := [exF k x]) (enc := Fact.cells) (mk := fun f : Fact => .agg f.cells) Tryz.underlying22 Tryz.sizeOf46 Tryz.zeroValue46 rfl (by decide) (fun _ => rfl) (fun _ => rfl) (.cons (.tmp rfl) .nil) rfl) rfl rfl rfl rfl ?_
    rintro _ w7 ⟨B25, cB25, rfl, NB25, yB25, xB25⟩
    have eB25 := NB25.at_
    have zB25 := NB25.size
    replace hB0 := hB0.up NB25.up
    replace hB1 := hB1.up NB25.up
    replace hE7 := hE7.up NB25.up
    replace hO := hO.up NB25.up
    replace hZ7 := hZ7.up NB25.up
    replace hW := hW.up NB25.up
    replace hcx := hcx.up NB25.up
    replace hB3 := hB3.up NB25.up
    have hB25 := NB25.blk
    have hE25 := xB25
    refine LW.r (REv.append (enc := Fact.cells) (base := B7 + 1) (bytes := 160) (i := Tryz.t46) Tryz.underlying22 (by kernel_rfl) rfl rfl rfl rfl (by decide) (fun _ => rfl) Fact.one (.tmp rfl) (.tmp rfl) hO (Sl.of_els hE25) (by simp) (by simp [maxLen]; omega) (by simp; omega) (by omega)) rfl rfl rfl rfl ?_
    rintro v26 w8 ⟨Ow8, Gw8⟩
    have zw8 := Gw8.size
    replace hB0 := hB0.gr Gw8 (by omega)
    replace hB1 := hB1.gr Gw8 (by omega)
    replace hE7 := hE7.gr Gw8 (by omega)
    replace hZ7 := hZ7.gr Gw8 rfl
    replace hW := hW.gr Gw8 (by omega)
    replace hO := Ow8
    refine LW.p (PEv.fieldAddr (off := 0) Tryz.underlying24 rfl rfl Tryz.sizeOf22 rfl (.tmp rfl)) rfl rfl rfl ?_
    refine LW.s (SEv.store Tryz.sizeOf22 (.tmp rfl) (.tmp rfl) hO.one hB1 (Nat.le_of_ble_eq_true rfl)) rfl rfl rfl ?_
    intro w9 Nw9
    have zw9 := Nw9.size
    replace hB0 := hB0.sto Nw9.sto (by omega)
    replace hE7 := hE7.sto Nw9.sto (by omega)
    replace hO := hO.sto Nw9.sto (by omega)
    replace hZ7 := hZ7.sto Nw9.sto (by omega)
    replace hW := hW.sto Nw9.sto (by omega)
    replace hB1 := Nw9.blk
    replace hB1 : Blk w9 B1 #[v26, .slice none 0 0, .slice none 0 0, .slice none 0 0, .slice none 0 0, .slice none 0 0, .slice none 0 0, .slice none 0 0, .slice none 0 0, .slice none 0 0, .slice none 0 0] _ := hB1
    refine LW.nil (KW.inBlock (KW.then (CW.region ?_)))
    refine LW.p (PEv.inc (.tmp rfl) (by omega)) rfl rfl rfl ?_
    refine LW.p (PEv.move (.tmp rfl)) rfl rfl rfl (LW.nil (KW.round ?_))
    exact ⟨(k + 1, v26), ⟨by show k + 1 ≤ _; omega, hB0, hB1, hE7, by rw [exP_step hx]; exact hO, hZ7, hW⟩, ⟨rfl, rfl, rfl, rfl, rfl, trivial⟩, by show exR.length - (k + 1) < exR.length - k; omega⟩
   ·first | replace h10 := of_decide_eq_true h10 | replace h10 := of_decide_eq_false h10 | skip
    refine CW.exit (KW.then_exit (KW.then_exit (KW.block_hit (KW.then (CW.seq ?_)))))
    have hk3 : k = 3 := by have : exR.length = 3 := rfl; omega
    subst hk3
    have z7 : B7 + 1 ≤ _ := hZ7
    refine CW.region ?_
    refine LW.p (PEv.build (cs := exS.cells) Tryz.underlying46 Tryz.zeroValue46 Tryz.places46 (.cons (.const _) (.cons (.const _) (.cons (.const _) (.cons (.const _) (.cons (.const _) (.cons (.const _) .nil)))))) rfl) rfl rfl rfl ?_
    refine LW.r (REv.buildSlice (xs := [exS]) (enc := Fact.cells) (mk := fun f : Fact => .agg f.cells) Tryz.underlying22 Tryz.sizeOf46 Tryz.zeroValue46 rfl (by decide) (fun _ => rfl) (fun _ => rfl) (.cons (.tmp rfl) .nil) rfl) rfl rfl rfl rfl ?_
    rintro _ w10 ⟨B30, cB30, rfl, NB30, yB30, xB30⟩
    have eB30 := NB30.at_
    have zB30 := NB30.size
    replace hB0 := hB0.up NB30.up
    replace hB1 := hB1.up NB30.up
    replace hE7 := hE7.up NB30.up
    replace hO := hO.up NB30.up
    replace hZ7 := hZ7.up NB30.up
    replace hW := hW.up NB30.up
    have hB30 := NB30.blk
    have hE30 := xB30
    refine LW.p (PEv.fieldAddr (off := 2) Tryz.underlying24 rfl rfl Tryz.sizeOf22 rfl (.tmp rfl)) rfl rfl rfl ?_
    refine LW.s (SEv.store Tryz.sizeOf22 (.tmp rfl) (.tmp rfl) rfl hB1 (Nat.le_of_ble_eq_true rfl)) rfl rfl rfl ?_
    intro w11 Nw11
    have zw11 := Nw11.size
    replace hB0 := hB0.sto Nw11.sto (by omega)
    replace hE7 := hE7.sto Nw11.sto (by omega)
    replace hO := hO.sto Nw11.sto (by omega)
    replace hZ7 := hZ7.sto Nw11.sto (by omega)
    replace hW := hW.sto Nw11.sto (by omega)
    replace hB30 := hB30.sto Nw11.sto (by omega)
    replace hE30 := hE30.sto Nw11.sto (by omega)
    replace hB1 := Nw11.blk
    replace hB1 : Blk w11 B1 #[v, .slice none 0 0, .slice (some ⟨B30, 0, none⟩) 1 1, .slice none 0 0, .slice none 0 0, .slice none 0 0, .slice none 0 0, .slice none 0 0, .slice none 0 0, .slice none 0 0, .slice none 0 0] _ := hB1
    refine LW.nil (KW.then (CW.seq (CW.region ?_)))
    refine LW.p (PEv.build (cs := exL1.cells) Tryz.underlying46 Tryz.zeroValue46 Tryz.places46 (.cons (.const _) (.cons (.const _) (.cons (.const _) (.cons (.const _) (.cons (.const _) .nil))))) rfl) rfl rfl rfl ?_
    refine LW.p (PEv.build (cs := exL2.cells) Tryz.underlying46 Tryz.zeroValue46 Tryz.places46 (.cons (.const _) (.cons (.const _) (.cons (.const _) (.cons (.const _) (.cons (.const _) (.cons (.const _) .nil)))))) rfl) rfl rfl rfl ?_
    refine LW.r (REv.buildSlice (xs := [exL1, exL2]) (enc := Fact.cells) (mk := fun f : Fact => .agg f.cells) Tryz.underlying22 Tryz.sizeOf46 Tryz.zeroValue46 rfl (by decide) (fun _ => rfl) (fun _ => rfl) (.cons (.tmp rfl) (.cons (.tmp rfl) .nil)) rfl) rfl rfl rfl rfl ?_
    rintro _ w12 ⟨B34, cB34, rfl, NB34, yB34, xB34⟩
    have eB34 := NB34.at_
    have zB34 := NB34.size
    replace hB0 := hB0.up NB34.up
    replace hB1 := hB1.up NB34.up
    replace hE7 := hE7.up NB34.up
    replace hO := hO.up NB34.up
    replace hZ7 := hZ7.up NB34.up
    replace hW := hW.up NB34.up
    replace hB30 := hB30.up NB34.up
    replace hE30 := hE30.up NB34.up
    have hB34 := NB34.blk
    have hE34 := xB34
    refine LW.p (PEv.fieldAddr (off := 3) Tryz.underlying24 rfl rfl Tryz.sizeOf22 rfl (.tmp rfl)) rfl rfl rfl ?_
    refine LW.s (SEv.store Tryz.sizeOf22 (.tmp rfl) (.tmp rfl) rfl hB1 (Nat.le_of_ble_eq_true rfl)) rfl rfl rfl ?_
    intro w13 Nw13
    have zw13 := Nw13.size
    replace hB0 := hB0.sto Nw13.sto (by omega)
    replace hE7 := hE7.sto Nw13.sto (by omega)
    replace hO := hO.sto Nw13.sto (by omega)
    replace hZ7 := hZ7.sto Nw13.sto (by omega)
    replace hW := hW.sto Nw13.sto (by omega)
    replace hB30 := hB30.sto Nw13.sto (by omega)
    replace hE30 := hE30.sto Nw13.sto (by omega)
    replace hB34 := hB34.sto Nw13.sto (by omega)
    replace hE34 := hE34.sto Nw13.sto (by omega)
    replace hB1 := Nw13.blk
    replace hB1 : Blk w13 B1 #[v, .slice none 0 0, .slice (some ⟨B30, 0, none⟩) 1 1, .slice (some ⟨B34, 0, none⟩) 2 2, .slice none 0 0, .slice none 0 0, .slice none 0 0, .slice none 0 0, .slice none 0 0, .slice none 0 0, .slice none 0 0] _ := hB1
    refine LW.nil (KW.then (CW.seq ?_))
    have hv1 := hO.one
    refine CW.region ?_
    refine LW.p (PEv.loadA Tryz.isAgg24 Tryz.sizeOf24 rfl (.tmp rfl) (hB1.agg)) rfl rfl rfl ?_
    refine LW.s (SEv.storeA Tryz.sizeOf24 rfl (.tmp rfl) (.tmp rfl) (by simp [Value.oneCell']; exact hv1) hB0 rfl) rfl rfl rfl ?_
    intro w14 Nw14
    have zw14 := Nw14.size
    replace hB1 := hB1.sto Nw14.sto (by omega)
    replace hE7 := hE7.sto Nw14.sto (by omega)
    replace hO := hO.sto Nw14.sto (by omega)
    replace hZ7 := hZ7.sto Nw14.sto (by omega)
    replace hW := hW.sto Nw14.sto (by omega)
    replace hB30 := hB30.sto Nw14.sto (by omega)
    replace hE30 := hE30.sto Nw14.sto (by omega)
    replace hB34 := hB34.sto Nw14.sto (by omega)
    replace hE34 := hE34.sto Nw14.sto (by omega)
    replace hB0 := Nw14.blk
    replace hB0 : Blk w14 B0 #[v, .slice none 0 0, .slice (some ⟨B30, 0, none⟩) 1 1, .slice (some ⟨B34, 0, none⟩) 2 2, .slice none 0 0, .slice none 0 0, .slice none 0 0, .slice none 0 0, .slice none 0 0, .slice none 0 0, .slice none 0 0] _ := hB0
    refine LW.nil (KW.then (CW.ret ?_))
    refine KW.retA rfl rfl Tryz.isAgg24 Tryz.sizeOf24 rfl (hB0.agg) ⟨_, rfl, ?_⟩
    exact ⟨_, rfl, ⟨_, _, _, _, _, _, _, _, _, _, _, rfl, hO.sl (fun _ => rfl), Sl.nil _ _ _, Sl.of_els hE30, Sl.of_els hE34, Sl.nil _ _ _, Sl.nil _ _ _, Sl.nil _ _ _, Sl.nil _ _ _, Sl.nil _ _ _, Sl.nil _ _ _, Sl.nil _ _ _⟩, hW⟩
end Go.Proofs.YthfjagphcekcbaaGreat
namespace Go.Wx
theorem ex_h5 : histL exB.Processes exB.Swaps 5 = [exF 0 (5, 10), exF 2 (6, 40)] := by kernel_rfl
theorem ex_h6 : histL exB.Processes exB.Swaps 6 = [exF 1 (5, 30)] := by kernel_rfl
theorem ex_l1 : lotOf exB.Lots 5 24 = (7, 1) := by kernel_rfl
theorem ex_l2 : lotOf exB.Lots 5 25 = (8, 1) := by kernel_rfl
theorem ex_w1 : whoL exB.Swaps 19 5 = 5 := by kernel_rfl
theorem ex_w2 : whoL exB.Swaps 20 5 = 6 := by kernel_rfl
theorem ex_w3 : whoL exB.Swaps 20 6 = 5 := by kernel_rfl
theorem ex_m1 : markL exB.Swaps 40 5 = 6 := by kernel_rfl
theorem ex_me : membersL exB.Lots 8 30 = [5] := by
  unfold membersL sortI
  rw [show memK exB.Lots 8 30 exB.Lots = [5] from by kernel_rfl]
  exact List.mergeSort_of_pairwise (by decide)
theorem ex_wa : wafersL exB.Lots exB.Processes exB.Swaps = [5, 6] := by
  unfold wafersL sortI
  rw [show (proK exB.Swaps (lotK exB.Lots) exB.Processes).filter isIDb = [5, 6] from by kernel_rfl]
  exact List.mergeSort_of_pairwise (by decide)
end Go.Wx
namespace Go.Proofs.YthfjagphcekcbaaGreat
open Go.Wx Go.RowKit
set_option maxHeartbeats 2000000 in
theorem sane_any (w : World) : Ret Tryz.prog 11 #[] w fun r w' => r = .bool true ∧ Up w w' := by
  have hW := Up.refl w
  refine Calls_start (n := 80) (m := 9) Tryz.func11 rfl rfl rfl ?_
  refine CW.seq (CW.region (LW.p (PEv.assign (.const _)) rfl rfl rfl (LW.nil (KW.then (CW.seq (CW.region ?_))))))
  refine LW.c (enter_call0 .nil (Tryz.en32)) rfl rfl rfl rfl (example_any _) ?_
  rintro _ w1 ⟨bc, rfl, hC, uw1⟩
  have zw1 := uw1.size
  replace hW := hW.up uw1
  refine LW.r (REv.allocA Tryz.zeroValue24) rfl rfl rfl rfl ?_
  rintro _ w2 ⟨B1, rfl, MB1⟩
  refine LW.s (SEv.storeA Tryz.sizeOf24 (hC.size) (.tmp rfl) (.tmp rfl) (hC.one) MB1.blk rfl) rfl rfl rfl ?_
  intro w3 LB1
  have NB1 := MB1.set LB1
  clear LB1 MB1
  have eB1 := NB1.at_
  have zB1 := NB1.size
  replace hW := hW.up NB1.up
  replace hC := hC.up NB1.up
  have hB1 := NB1.blk
  refine LW.nil (KW.then (CW.seq (CW.region ?_)))
  refine LW.p (PEv.loadA Tryz.isAgg24 Tryz.sizeOf24 (hC.size) (.tmp rfl) (hB1.agg)) rfl rfl rfl ?_
  refine LW.c (enter_call0 (.cons (.tmp rfl) (.cons (.const _) .nil)) (Tryz.en23)) rfl rfl rfl rfl (History_any bc exB 5 _ hC (by decide) (by decide)) ?_
  rintro v10 w4 ⟨hO10, uw4⟩
  have zw4 := uw4.size
  replace hW := hW.up uw4
  replace hC := hC.up uw4
  replace hB1 := hB1.up uw4
  rw [ex_h5] at hO10
  obtain ⟨ad10, cp10, rfl, hE100⟩ := hO10.sl (fun _ => rfl)
  have hE10 : Els w4 ad10 19 Fact.cells [exF 0 (5, 10), exF 2 (6, 40)] := hE100
  clear hO10 hE100
  refine LW.p (PEv.assign (.tmp rfl)) rfl rfl rfl (LW.nil (KW.then (CW.seq (CW.region ?_))))
  refine LW.p (PEv.loadA Tryz.isAgg24 Tryz.sizeOf24 (hC.size) (.tmp rfl) (hB1.agg)) rfl rfl rfl ?_
  refine LW.c (enter_call0 (.cons (.tmp rfl) (.cons (.const _) (.cons (.const _) .nil))) (Tryz.en16)) rfl rfl rfl rfl (lot_any bc exB 5 24 _ hC (by decide)) ?_
  rintro _ w5 ⟨rfl, uw5⟩
  have zw5 := uw5.size
  replace hW := hW.up uw5
  replace hC := hC.up uw5
  replace hB1 := hB1.up uw5
  replace hE10 := hE10.up uw5
  rw [ex_l1]
  refine LW.p (PEv.move (.tmp rfl)) rfl rfl rfl (LW.p (PEv.extract (.tmp rfl) rfl) rfl rfl rfl (LW.p (PEv.extract (.tmp rfl) rfl) rfl rfl rfl (LW.p (PEv.assign (.tmp rfl)) rfl rfl rfl (LW.p (PEv.assign (.tmp rfl)) rfl rfl rfl (LW.nil (KW.then (CW.seq (CW.region ?_))))))))
  refine LW.p (PEv.loadA Tryz.isAgg24 Tryz.sizeOf24 (hC.size) (.tmp rfl) (hB1.agg)) rfl rfl rfl ?_
  refine LW.c (enter_call0 (.cons (.tmp rfl) (.cons (.const _) (.cons (.const _) .nil))) (Tryz.en16)) rfl rfl rfl rfl (lot_any bc exB 5 25 _ hC (by decide)) ?_
  rintro _ w6 ⟨rfl, uw6⟩
  have zw6 := uw6.size
  replace hW := hW.up uw6
  replace hC := hC.up uw6
  replace hB1 := hB1.up uw6
  replace hE10 := hE10.up uw6
  rw [ex_l2]
  refine LW.p (PEv.move (.tmp rfl)) rfl rfl rfl (LW.p (PEv.extract (.tmp rfl) rfl) rfl rfl rfl (LW.p (PEv.extract (.tmp rfl) rfl) rfl rfl rfl (LW.p (PEv.assign (.tmp rfl)) rfl rfl rfl (LW.p (PEv.assign (.tmp rfl)) rfl rfl rfl (LW.nil (KW.then (CW.seq (CW.seq (CW.region (LW.p (PEv.move (.tmp rfl)) rfl rfl rfl ?_))))))))))
  refine LW.p (PEv.lenS Tryz.underlying22 (.tmp rfl)) rfl rfl rfl ?_
  refine LW.p (PEv.fa (PEv.neq (.tmp rfl) (.const _)) (rfl)) rfl rfl rfl ?_
  refine LW.p (PEv.move (.tmp rfl)) rfl rfl rfl ?_
  refine LW.yes rfl rfl rfl rfl rfl rfl ?_
  refine LW.p (PEv.loadA Tryz.isAgg24 Tryz.sizeOf24 (hC.size) (.tmp rfl) (hB1.agg)) rfl rfl rfl ?_
  refine LW.yes rfl rfl rfl rfl rfl rfl ?_
  refine LW.c (enter_call0 (.cons (.tmp rfl) (.cons (.const _) .nil)) (Tryz.en23)) rfl rfl rfl rfl (History_any bc exB 6 _ hC (by decide) (by decide)) ?_
  rintro v26 w7 ⟨hO26, uw7⟩
  have zw7 := uw7.size
  replace hW := hW.up uw7
  replace hC := hC.up uw7
  replace hB1 := hB1.up uw7
  replace hE10 := hE10.up uw7
  rw [ex_h6] at hO26
  obtain ⟨ad26, cp26, rfl, hE260⟩ := hO26.sl (fun _ => rfl)
  have hE26 : Els w7 ad26 19 Fact.cells [exF 1 (5, 30)] := hE260
  clear hO26 hE260
  refine LW.yes rfl rfl rfl rfl rfl rfl ?_
  refine LW.p (PEv.lenS Tryz.underlying22 (.tmp rfl)) rfl rfl rfl ?_
  refine LW.yes rfl rfl rfl rfl rfl rfl ?_
  refine LW.p (PEv.fa (PEv.neq (.tmp rfl) (.const _)) (rfl)) rfl rfl rfl ?_
  refine LW.p (PEv.pick_or (.tmp rfl) (fun hp => (by first | exact .const _ | exact .tmp rfl | exact .cond rfl (by first | assumption | simp_all)))) rfl rfl rfl ?_
  refine LW.nil (KW.then ?_)
  refine CW.cond_false (.tmp rfl) ?_
  refine CW.skip (KW.then (CW.seq (CW.region ?_)))
  refine LW.p (PEv.loadA Tryz.isAgg24 Tryz.sizeOf24 (hC.size) (.tmp rfl) (hB1.agg)) rfl rfl rfl ?_
  refine LW.c (enter_call0 (.cons (.tmp rfl) (.cons (.const _) (.cons (.const _) .nil))) (Tryz.en18)) rfl rfl rfl rfl (Who_any bc exB 5 19 _ hC (by decide)) ?_
  rintro _ w8 ⟨rfl, uw8⟩
  have zw8 := uw8.size
  replace hW := hW.up uw8
  replace hC := hC.up uw8
  replace hB1 := hB1.up uw8
  replace hE10 := hE10.up uw8
  replace hE26 := hE26.up uw8
  rw [ex_w1]
  refine LW.p (PEv.tr (PEv.eql (.tmp rfl) (.const _)) (rfl)) rfl rfl rfl ?_
  refine LW.p (PEv.move (.tmp rfl)) rfl rfl rfl ?_
  refine LW.yes rfl rfl rfl rfl rfl rfl ?_
  refine LW.p (PEv.loadA Tryz.isAgg24 Tryz.sizeOf24 (hC.size) (.tmp rfl) (hB1.agg)) rfl rfl rfl ?_
  refine LW.yes rfl rfl rfl rfl rfl rfl ?_
  refine LW.c (enter_call0 (.cons (.tmp rfl) (.cons (.const _) (.cons (.const _) .nil))) (Tryz.en18)) rfl rfl rfl rfl (Who_any bc exB 5 20 _ hC (by decide)) ?_
  rintro _ w9 ⟨rfl, uw9⟩
  have zw9 := uw9.size
  replace hW := hW.up uw9
  replace hC := hC.up uw9
  replace hB1 := hB1.up uw9
  replace hE10 := hE10.up uw9
  replace hE26 := hE26.up uw9
  rw [ex_w2]
  refine LW.yes rfl rfl rfl rfl rfl rfl ?_
  refine LW.p (PEv.tr (PEv.eql (.tmp rfl) (.const _)) (rfl)) rfl rfl rfl ?_
  refine LW.p (PEv.pick_and (.tmp rfl) (fun hp => (by first | exact .const _ | exact .tmp rfl | exact .cond rfl (by first | assumption | simp_all)))) rfl rfl rfl ?_
  refine LW.p (PEv.move (.tmp rfl)) rfl rfl rfl ?_
  refine LW.yes rfl rfl rfl rfl rfl rfl ?_
  refine LW.p (PEv.loadA Tryz.isAgg24 Tryz.sizeOf24 (hC.size) (.tmp rfl) (hB1.agg)) rfl rfl rfl ?_
  refine LW.yes rfl rfl rfl rfl rfl rfl ?_
  refine LW.c (enter_call0 (.cons (.tmp rfl) (.cons (.const _) (.cons (.const _) .nil))) (Tryz.en18)) rfl rfl rfl rfl (Who_any bc exB 6 20 _ hC (by decide)) ?_
  rintro _ w10 ⟨rfl, uw10⟩
  have zw10 := uw10.size
  replace hW := hW.up uw10
  replace hC := hC.up uw10
  replace hB1 := hB1.up uw10
  replace hE10 := hE10.up uw10
  replace hE26 := hE26.up uw10
  rw [ex_w3]
  refine LW.yes rfl rfl rfl rfl rfl rfl ?_
  refine LW.p (PEv.tr (PEv.eql (.tmp rfl) (.const _)) (rfl)) rfl rfl rfl ?_
  refine LW.p (PEv.pick_and (.tmp rfl) (fun hp => (by first | exact .const _ | exact .tmp rfl | exact .cond rfl (by first | assumption | simp_all)))) rfl rfl rfl ?_
  refine LW.p (PEv.move (.tmp rfl)) rfl rfl rfl ?_
  refine LW.yes rfl rfl rfl rfl rfl rfl ?_
  refine LW.p (PEv.loadA Tryz.isAgg24 Tryz.sizeOf24 (hC.size) (.tmp rfl) (hB1.agg)) rfl rfl rfl ?_
  refine LW.yes rfl rfl rfl rfl rfl rfl ?_
  refine LW.c (enter_call0 (.cons (.tmp rfl) (.cons (.const _) (.cons (.const _) .nil))) (Tryz.en20)) rfl rfl rfl rfl (Mark_any bc exB 5 40 _ hC (by decide)) ?_
  rintro _ w11 ⟨rfl, uw11⟩
  have zw11 := uw11.size
  replace hW := hW.up uw11
  replace hC := hC.up uw11
  replace hB1 := hB1.up uw11
  replace hE10 := hE10.up uw11
  replace hE26 := hE26.up uw11
  rw [ex_m1]
  refine LW.yes rfl rfl rfl rfl rfl rfl ?_
  refine LW.p (PEv.tr (PEv.eql (.tmp rfl) (.const _)) (rfl)) rfl rfl rfl ?_
  refine LW.p (PEv.pick_and (.tmp rfl) (fun hp => (by first | exact .const _ | exact .tmp rfl | exact .cond rfl (by first | assumption | simp_all)))) rfl rfl rfl ?_
  refine LW.p (PEv.assign (.tmp rfl)) rfl rfl rfl (LW.nil (KW.then (CW.seq ?_)))
  obtain ⟨Bx, ox, ax, hcx⟩ := hE10 1 _ rfl
  refine CW.region (LW.p (PEv.move (.tmp rfl)) rfl rfl rfl (LW.p (PEv.move (.tmp rfl)) rfl rfl rfl ?_))
  refine LW.yes rfl rfl rfl rfl rfl rfl ?_
  refine LW.p (PEv.move (.tmp rfl)) rfl rfl rfl ?_
  refine LW.yes rfl rfl rfl rfl rfl rfl ?_
  refine LW.p (PEv.indexAddr' Tryz.underlying22 Tryz.sizeOf46 (.tmp rfl) (.const _) (by decide) ax) rfl rfl rfl ?_
  refine LW.yes rfl rfl rfl rfl rfl rfl ?_
  refine LW.p (PEv.fieldAddr (off := 1) Tryz.underlying46 rfl rfl Tryz.sizeOf3 rfl (.tmp rfl)) rfl rfl rfl ?_
  refine LW.yes rfl rfl rfl rfl rfl rfl ?_
  refine LW.p (PEv.load Tryz.isAgg3 (.tmp rfl) (hcx.nth (j := 1) rfl)) rfl rfl rfl ?_
  refine LW.yes rfl rfl rfl rfl rfl rfl ?_
  refine LW.p (PEv.tr (PEv.eql (.tmp rfl) (.const _)) (rfl)) rfl rfl rfl ?_
  refine LW.p (PEv.pick_and (.tmp rfl) (fun hp => (by first | exact .const _ | exact .tmp rfl | exact .cond rfl (by first | assumption | simp_all)))) rfl rfl rfl ?_
  refine LW.p (PEv.move (.tmp rfl)) rfl rfl rfl ?_
  refine LW.yes rfl rfl rfl rfl rfl rfl ?_
  refine LW.p (PEv.move (.tmp rfl)) rfl rfl rfl ?_
  refine LW.yes rfl rfl rfl rfl rfl rfl ?_
  refine LW.p (PEv.tr (PEv.eql (.tmp rfl) (.const _)) (rfl)) rfl rfl rfl ?_
  refine LW.p (PEv.pick_and (.tmp rfl) (fun hp => (by first | exact .const _ | exact .tmp rfl | exact .cond rfl (by first | assumption | simp_all)))) rfl rfl rfl ?_
  refine LW.p (PEv.move (.tmp rfl)) rfl rfl rfl ?_
  refine LW.yes rfl rfl rfl rfl rfl rfl ?_
  refine LW.p (PEv.move (.tmp rfl)) rfl rfl rfl ?_
  refine LW.yes rfl rfl rfl rfl rfl rfl ?_
  refine LW.p (PEv.tr (PEv.eql (.tmp rfl) (.const _)) (rfl)) rfl rfl rfl ?_
  refine LW.p (PEv.pick_and (.tmp rfl) (fun hp => (by first | exact .const _ | exact .tmp rfl | exact .cond rfl (by first | assumption | simp_all)))) rfl rfl rfl ?_
  refine LW.p (PEv.move (.tmp rfl)) rfl rfl rfl ?_
  refine LW.yes rfl rfl rfl rfl rfl rfl ?_
  refine LW.p (PEv.move (.tmp rfl)) rfl rfl rfl ?_
  refine LW.yes rfl rfl rfl rfl rfl rfl ?_
  refine LW.p (PEv.tr (PEv.eql (.tmp rfl) (.const _)) (rfl)) rfl rfl rfl ?_
  refine LW.p (PEv.pick_and (.tmp rfl) (fun hp => (by first | exact .const _ | exact .tmp rfl | exact .cond rfl (by first | assumption | simp_all)))) rfl rfl rfl ?_
  refine LW.p (PEv.move (.tmp rfl)) rfl rfl rfl ?_
  refine LW.yes rfl rfl rfl rfl rfl rfl ?_
  refine LW.p (PEv.loadA Tryz.isAgg24 Tryz.sizeOf24 (hC.size) (.tmp rfl) (hB1.agg)) rfl rfl rfl ?_
  refine LW.yes rfl rfl rfl rfl rfl rfl ?_
  refine LW.c (enter_call0 (.cons (.tmp rfl) (.cons (.const _) (.cons (.const _) .nil))) (Tryz.en26)) rfl rfl rfl rfl (Members_any bc exB 8 30 _ hC (by decide)) ?_
  rintro v70 w12 ⟨hO70, uw12⟩
  have zw12 := uw12.size
  replace hW := hW.up uw12
  replace hC := hC.up uw12
  replace hB1 := hB1.up uw12
  replace hE10 := hE10.up uw12
  replace hE26 := hE26.up uw12
  replace hcx := hcx.up uw12
  rw [ex_me] at hO70
  obtain ⟨ad70, cp70, rfl, hE700⟩ := hO70.sl (fun _ => rfl)
  have hE70 : Els w12 ad70 1 eInt [5] := hE700
  clear hO70 hE700
  refine LW.yes rfl rfl rfl rfl rfl rfl ?_
  refine LW.r (REv.buildSlice (xs := ([5] : List Int)) (enc := eInt) (mk := vi) Tryz.underlying32 Tryz.sizeOf3 Tryz.zeroValue3 rfl (by decide) (fun _ => rfl) (fun _ => rfl) (.cons (.const _) .nil) rfl) rfl rfl rfl rfl ?_
  rintro _ w13 ⟨B71, cB71, rfl, NB71, yB71, xB71⟩
  have eB71 := NB71.at_
  have zB71 := NB71.size
  replace hW := hW.up NB71.up
  replace hC := hC.up NB71.up
  replace hB1 := hB1.up NB71.up
  replace hE10 := hE10.up NB71.up
  replace hE26 := hE26.up NB71.up
  replace hcx := hcx.up NB71.up
  replace hE70 := hE70.up NB71.up
  have hB71 := NB71.blk
  have hE71 := xB71
  refine LW.yes rfl rfl rfl rfl rfl rfl ?_
  refine LW.c (enter_call0 (.cons (.tmp rfl) (.cons (.tmp rfl) .nil)) (Tryz.en25)) rfl rfl rfl rfl (sameInts_any _ _ [5] [5] _ (Sl.of_els hE70) (Sl.of_els hE71) (by decide) (by decide)) ?_
  rintro _ w14 ⟨rfl, uw14⟩
  have zw14 := uw14.size
  replace hW := hW.up uw14
  replace hC := hC.up uw14
  replace hB1 := hB1.up uw14
  replace hE10 := hE10.up uw14
  replace hE26 := hE26.up uw14
  replace hcx := hcx.up uw14
  replace hE70 := hE70.up uw14
  replace hB71 := hB71.up uw14
  replace hE71 := hE71.up uw14
  rw [decide_eq_true rfl]
  refine LW.p (PEv.pick_and (.tmp rfl) (fun hp => (by first | exact .const _ | exact .tmp rfl | exact .cond rfl (by first | assumption | simp_all)))) rfl rfl rfl ?_
  refine LW.p (PEv.move (.tmp rfl)) rfl rfl rfl ?_
  refine LW.yes rfl rfl rfl rfl rfl rfl ?_
  refine LW.p (PEv.loadA Tryz.isAgg24 Tryz.sizeOf24 (hC.size) (.tmp rfl) (hB1.agg)) rfl rfl rfl ?_
  refine LW.yes rfl rfl rfl rfl rfl rfl ?_
  refine LW.c (enter_call0 (.cons (.tmp rfl) .nil) (Tryz.en28)) rfl rfl rfl rfl (Wafers_any bc exB _ hC (by decide) (by decide)) ?_
  rintro v76 w15 ⟨hO76, uw15⟩
  have zw15 := uw15.size
  replace hW := hW.up uw15
  replace hC := hC.up uw15
  replace hB1 := hB1.up uw15
  replace hE10 := hE10.up uw15
  replace hE26 := hE26.up uw15
  replace hcx := hcx.up uw15
  replace hE70 := hE70.up uw15
  replace hB71 := hB71.up uw15
  replace hE71 := hE71.up uw15
  rw [ex_wa] at hO76
  obtain ⟨ad76, cp76, rfl, hE760⟩ := hO76.sl (fun _ => rfl)
  have hE76 : Els w15 ad76 1 eInt [5, 6] := hE760
  clear hO76 hE760
  refine LW.yes rfl rfl rfl rfl rfl rfl ?_
  refine LW.r (REv.buildSlice (xs := ([5, 6] : List Int)) (enc := eInt) (mk := vi) Tryz.underlying32 Tryz.sizeOf3 Tryz.zeroValue3 rfl (by decide) (fun _ => rfl) (fun _ => rfl) (.cons (.const _) (.cons (.const _) .nil)) rfl) rfl rfl rfl rfl ?_
  rintro _ w16 ⟨B77, cB77, rfl, NB77, yB77, xB77⟩
  have eB77 := NB77.at_
  have zB77 := NB77.size
  replace hW := hW.up NB77.up
  replace hC := hC.up NB77.up
  replace hB1 := hB1.up NB77.up
  replace hE10 := hE10.up NB77.up
  replace hE26 := hE26.up NB77.up
  replace hcx := hcx.up NB77.up
  replace hE70 := hE70.up NB77.up
  replace hB71 := hB71.up NB77.up
  replace hE71 := hE71.up NB77.up
  replace hE76 := hE76.up NB77.up
  have hB77 := NB77.blk
  have hE77 := xB77
  refine LW.yes rfl rfl rfl rfl rfl rfl ?_
  refine LW.c (enter_call0 (.cons (.tmp rfl) (.cons (.tmp rfl) .nil)) (Tryz.en25)) rfl rfl rfl rfl (sameInts_any _ _ [5, 6] [5, 6] _ (Sl.of_els hE76) (Sl.of_els hE77) (by decide) (by decide)) ?_
  rintro _ w17 ⟨rfl, uw17⟩
  have zw17 := uw17.size
  replace hW := hW.up uw17
  replace hC := hC.up uw17
  replace hB1 := hB1.up uw17
  replace hE10 := hE10.up uw17
  replace hE26 := hE26.up uw17
  replace hcx := hcx.up uw17
  replace hE70 := hE70.up uw17
  replace hB71 := hB71.up uw17
  replace hE71 := hE71.up uw17
  replace hE76 := hE76.up uw17
  replace hB77 := hB77.up uw17
  replace hE77 := hE77.up uw17
  rw [decide_eq_true rfl]
  refine LW.p (PEv.pick_and (.tmp rfl) (fun hp => (by first | exact .const _ | exact .tmp rfl | exact .cond rfl (by first | assumption | simp_all)))) rfl rfl rfl ?_
  refine LW.p (PEv.assign (.tmp rfl)) rfl rfl rfl (LW.nil (KW.then (CW.ret ?_)))
  refine KW.ret1 rfl rfl ⟨_, rfl, ?_⟩
  exact ⟨rfl, hW⟩
end Go.Proofs.YthfjagphcekcbaaGreat
end
section
namespace Go.Wx
theorem histL_len (ps ss : List Fact) (w : Int) : (histL ps ss w).length ≤ ps.length := by
  unfold histL
  split
  · exact ordG_len _ _
  · exact Nat.zero_le _
end Go.Wx
namespace Go.Proofs.YthfjagphcekcbaaGreat
open Go.Wx Go.RowKit
theorem OfV_any (v : Go.Value) (l : List Fact) (d : Int) (w : World) (h : Sl w v 19 Fact.cells l) (hl : l.length ≤ 100000) : Ret Tryz.prog 13 #[v, vi d] w fun r w' => ∃ bc, r = .agg bc ∧ BaseC w' bc (ofB l d) ∧ Up w w' := by
  obtain ⟨ad, cp, rfl, hE⟩ := h
  exact Of_any ad cp l d w hE hl
theorem sameFacts_v (v1 v2 : Go.Value) (l m : List Fact) (w : World) (h1 : Sl w v1 19 Fact.cells l) (h2 : Sl w v2 19 Fact.cells m) (hl : l.length ≤ 100000) : Ret Tryz.prog 22 #[v1, v2] w fun r w' => r = .bool (eqFs l m) ∧ Up w w' := by
  obtain ⟨ad, cp, rfl, hE⟩ := h1
  obtain ⟨ad', cp', rfl, hE'⟩ := h2
  exact sameFacts_any ad ad' cp cp' l m w hE hE' hl
end Go.Proofs.YthfjagphcekcbaaGreat
end
section
namespace Go.Wx
theorem lst_mem {l : List Fact} {d : Int} {j : Nat} (hj : j < 11) {x : Fact} : x ∈ lstOf (ofB l d) j ↔ eff l d x ∧ x.Gone = false ∧ x.Kind = ((j + 1 : Nat) : Int) := by
  rw [lst_ofB l d hj]
  unfold lstAt
  rw [if_pos (List.mem_singleton.2 rfl), (sortK_sts _).same.mem, List.mem_filter, best_eff]
  simp
theorem eff_valid {l : List Fact} {d : Int} {x : Fact} (h : eff l d x) : validB x = true := keyB_valid h.2.1
theorem eff_key {l : List Fact} {d : Int} {x y : Fact} (hx : eff l d x) (hy : eff l d y) (e : keyB x = keyB y) : x = y := prev_total (eff_valid hx) (eff_valid hy) e (hy.2.2.2 x hx.1 hx.2.2.1) (hx.2.2.2 y hy.1 hy.2.2.1)
end Go.Wx
namespace Go.Proofs.YthfjagphcekcbaaGreat
open Go.Wx Go.RowKit
end Go.Proofs.YthfjagphcekcbaaGreat
end
section
namespace Go.Wx
theorem someF_wafer (y : I6) : (someF y).Wafer = wI (1 + pickI y.d 6) := by
  unfold someF
  split
  · rfl
  · split <;> rfl
theorem wI_in {n : Int} (h0 : -9223372036854775808 ≤ n) (h1 : n < 9223372036854775808) : wI n = n := wrap_i64_in h0 (by omega)
theorem someF_wr {y : I6} (h : I6Ok y) : 1 ≤ (someF y).Wafer ∧ (someF y).Wafer ≤ 6 := by
  have h1 := pick_range (c := y.d) (n := 6) h.2.2.2.1 (by decide)
  rw [someF_wafer, wI_in (by omega) (by omega)]
  omega
theorem isID_small {k : Int} (h : 1 ≤ k ∧ k ≤ 7) : isIDb k = true := by unfold isIDb; simp; omega
end Go.Wx
namespace Go.Proofs.YthfjagphcekcbaaGreat
open Go.Wx Go.RowKit
end Go.Proofs.YthfjagphcekcbaaGreat
end
section
namespace Go.Wx
theorem lst_nodup (l : List Fact) (d : Int) {j : Nat} (hj : j < 11) : (lstOf (ofB l d) j).Nodup := by
  rw [lst_ofB l d hj]
  unfold lstAt
  rw [if_pos (List.mem_singleton.2 rfl)]
  exact ((sortK_sts _).same.perm.nodup_iff).2 ((factsM_nodup l d).filter _)
theorem sorted_eq {α : Type} {key : α → K2} {A B : List α} (hA : srt key A) (hB : srt key B) (hp : A.Perm B) (hd : ∀ x ∈ A, ∀ y ∈ A, key x = key y → x = y) : A = B := by
  rw [(StS.refl hA).eq, (StS.refl hB).eq]
  exact sortK_perm hp hd
theorem lst_srt (l : List Fact) (d : Int) {j : Nat} (hj : j < 11) : srt (ordK ((j + 1 : Nat) : Int)) (lstOf (ofB l d) j) := by
  rw [lst_ofB l d hj]; unfold lstAt; rw [if_pos (List.mem_singleton.2 rfl)]; exact (sortK_sts _).ord
theorem lst_same {l m : List Fact} {d : Int} {j : Nat} (hj : j < 11) (h : ∀ x, eff l d x ∧ x.Kind = ((j + 1 : Nat) : Int) ↔ eff m d x ∧ x.Kind = ((j + 1 : Nat) : Int)) : lstOf (ofB l d) j = lstOf (ofB m d) j := by
  refine sorted_eq (lst_srt _ d hj) (lst_srt _ d hj) (perm_of_mem (lst_nodup _ d hj) (lst_nodup _ d hj) fun x => ?_) fun x hx y hy e => ?_
  · rw [lst_mem hj, lst_mem hj]
    have := h x
    exact ⟨fun ⟨a, b, c⟩ => ⟨(this.1 ⟨a, c⟩).1, b, c⟩, fun ⟨a, b, c⟩ => ⟨(this.2 ⟨a, c⟩).1, b, c⟩⟩
  · have hx := (lst_mem hj).1 hx
    have hy := (lst_mem hj).1 hy
    exact eff_key hx.1 hy.1 (key_of_ord (eff_valid hx.1) (eff_valid hy.1) hx.2.2 hy.2.2 e)
theorem lst_kind {l m : List Fact} {d : Int} {j : Nat} (hj : j < 11) (h : ∀ x, x.Kind = ((j + 1 : Nat) : Int) → (x ∈ l ↔ x ∈ m)) : lstOf (ofB l d) j = lstOf (ofB m d) j := by
  have key : ∀ {l m : List Fact}, (∀ x, x.Kind = ((j + 1 : Nat) : Int) → (x ∈ l ↔ x ∈ m)) → ∀ x, eff l d x ∧ x.Kind = ((j + 1 : Nat) : Int) → eff m d x ∧ x.Kind = ((j + 1 : Nat) : Int) := fun {l m} h x ⟨⟨h1, h2, h3, h4⟩, hk⟩ => by
    refine ⟨⟨(h x hk).1 h1, h2, h3, fun g hg hd => ?_⟩, hk⟩
    cases hp : prevB g x with
    | false => rfl
    | true =>
      have hp2 := hp
      unfold prevB at hp2
      simp only [Bool.and_eq_true] at hp2
      obtain ⟨⟨⟨v1, v2⟩, v3⟩, _⟩ := hp2
      have := h4 g ((h g ((key_kind v1 v2 (by simpa using v3)).trans hk)).2 hg) hd
      rw [this] at hp; cases hp
  exact lst_same hj fun x => ⟨key h x, key (fun x hx => (h x hx).symm) x⟩
theorem eq_one {α : Type} {l : List α} {x : α} (hn : l.Nodup) (h : ∀ y, y ∈ l ↔ y = x) : l = [x] := by
  match l, hn, h with
  | [], _, h => exact absurd ((h x).2 rfl) (by simp)
  | [y], _, h => rw [(h y).1 List.mem_cons_self]
  | y :: z :: r, hn, h =>
    have e1 := (h y).1 List.mem_cons_self
    have e2 := (h z).1 (List.mem_cons_of_mem _ List.mem_cons_self)
    rw [List.nodup_cons] at hn
    exact absurd (by rw [e1, ← e2]; exact List.mem_cons_self) hn.1
theorem one_lst {x : Fact} {d : Int} {j : Nat} (hj : j < 11) (hv : validB x = true) (hd : x.Day ≤ d) (hg : x.Gone = false) (hk : x.Kind = ((j + 1 : Nat) : Int)) : lstOf (ofB [x] d) j = [x] := by
  refine eq_one (lst_nodup _ d hj) fun y => ?_
  rw [lst_mem hj]
  constructor
  · exact fun h => List.mem_singleton.1 h.1.1
  · rintro rfl
    refine ⟨⟨List.mem_singleton.2 rfl, ?_, hd, fun g hg2 _ => ?_⟩, hg, hk⟩
    · unfold keyB; rw [if_pos hv]; exact keyB_ne hv
    · rw [List.mem_singleton.1 hg2]; exact prev_irrefl _
def kn3 (f : Fact) : Bool := !decide (f.Kind = 3)
def swD (a b t : Int) : Fact := { zeroF with Kind := 3, Version := 1, Day := 10, ID := 1, Wafer := a, Other := b, Time := t }
theorem swD_valid {a b t : Int} (ha : 1 ≤ a ∧ a ≤ 6) (hb : 1 ≤ b ∧ b ≤ 6) (ht : 0 ≤ t ∧ t < 50) (hab : a ≠ b) : validB (swD a b t) = true := by
  unfold validB
  have hf : fieldsOf (swD a b t).Kind = [num1 1, num1 7, num1 8, fWhen] := rfl
  have hr : restB (restOf (swD a b t).Kind) (swD a b t) = true := by show (!decide (a = b)) = true; simpa using hab
  have hp : preB (swD a b t) = false := rfl
  have hn : runF [num1 1, num1 7, num1 8, fWhen] (swD a b t) = some (fact0 3 1 10 false) := by
    refine (if_neg (show ¬ ((1 : Int) < 1 ∨ (1000000 : Int) < 1) by decide)).trans ?_
    refine (if_neg (show ¬ (a < 1 ∨ 1000000 < a) by omega)).trans ?_
    refine (if_neg (show ¬ (b < 1 ∨ 1000000 < b) by omega)).trans ?_
    refine (if_neg (show ¬ (t < 0 ∨ 1000000 < t) by omega)).trans ?_
    rfl
  rw [hf, hr, hp, hn]
  show (true && (!(false || !true) && Fact.eqb (fact0 3 1 10 false) (fact0 3 1 10 false))) = true
  rw [eqb_refl]; rfl
theorem filter_k {xs : List I6} {x : Fact} (h : x ∈ (someL xs).filter kn3) : x ∈ someL xs ∧ x.Kind ≠ 3 := by
  obtain ⟨h1, h2⟩ := List.mem_filter.1 h
  exact ⟨h1, by unfold kn3 at h2; simpa using h2⟩
theorem tails_b (xs : List I6) : (ofB ((someL xs).filter kn3) 10).Swaps = [] := by
  refine List.eq_nil_iff_forall_not_mem.2 fun x hx => ?_
  obtain ⟨h1, _, h3⟩ := (lst_mem (j := 2) (by decide)).1 hx
  exact (filter_k h1.1).2 h3
theorem tails_c {xs : List I6} {a b t : Int} (ha : 1 ≤ a ∧ a ≤ 6) (hb : 1 ≤ b ∧ b ≤ 6) (ht : 0 ≤ t ∧ t < 50) (hab : a ≠ b) : (ofB ((someL xs).filter kn3 ++ [swD a b t]) 10).Swaps = [swD a b t] := by
  have h1 := one_lst (d := 10) (j := 2) (by decide) (swD_valid ha hb ht hab) (Int.le_refl _) rfl rfl
  refine (lst_kind (l := (someL xs).filter kn3 ++ [swD a b t]) (m := [swD a b t]) (j := 2) (by decide) fun x hx => ?_).trans h1
  rw [List.mem_append]
  exact ⟨fun h => h.resolve_left fun h => (filter_k h).2 hx, .inr⟩
theorem tails_p (xs : List I6) (a b t : Int) : (ofB ((someL xs).filter kn3 ++ [swD a b t]) 10).Processes = (ofB ((someL xs).filter kn3) 10).Processes := by
  refine lst_kind (j := 0) (by decide) fun x hx => ?_
  rw [List.mem_append]
  exact ⟨fun h => h.resolve_right fun h => by rw [List.mem_singleton.1 h] at hx; exact absurd hx (by show ¬ (3 : Int) = 1; decide), .inl⟩
theorem ordG_cut (p : Fact → Bool) (l : List Fact) (t : Int) : ordG p l = ordG (fun f => p f && decide (f.Time < t)) l ++ ordG (fun f => p f && !decide (f.Time < t)) l := by
  unfold ordG
  symm
  refine StS.eq ⟨?_, ?_⟩
  · refine List.pairwise_append.2 ⟨(sortK_sts _).ord, (sortK_sts _).ord, fun x hx y hy => ?_⟩
    rw [(sortK_sts _).same.mem, List.mem_filter] at hx hy
    obtain ⟨_, hx⟩ := hx
    obtain ⟨_, hy⟩ := hy
    simp only [Bool.and_eq_true, decide_eq_true_eq, Bool.not_eq_true', decide_eq_false_iff_not] at hx hy
    rw [ltK_not]
    show ¬ (y.Time < x.Time ∨ (y.Time = x.Time ∧ y.ID < x.ID))
    omega
  · intro k
    rw [List.filter_append, (sortK_sts _).same k, (sortK_sts _).same k, List.filter_filter, List.filter_filter, List.filter_filter]
    by_cases hk : k.1 < t
    · have e2 : l.filter (fun a => (keyTI a == k) && (p a && !decide (a.Time < t))) = [] := by
        rw [List.filter_eq_nil_iff]
        intro x _ h
        simp only [Bool.and_eq_true, beq_iff_eq, Bool.not_eq_true', decide_eq_false_iff_not] at h
        have : x.Time = k.1 := congrArg Prod.fst h.1
        omega
      rw [e2, List.append_nil]
      refine List.filter_congr fun x _ => ?_
      by_cases e : keyTI x = k
      · have : x.Time = k.1 := congrArg Prod.fst e
        rw [decide_eq_true (show x.Time < t by omega), Bool.and_true]
      · rw [show (keyTI x == k) = false by simpa using e]; rfl
    · have e2 : l.filter (fun a => (keyTI a == k) && (p a && decide (a.Time < t))) = [] := by
        rw [List.filter_eq_nil_iff]
        intro x _ h
        simp only [Bool.and_eq_true, beq_iff_eq, decide_eq_true_eq] at h
        have : x.Time = k.1 := congrArg Prod.fst h.1
        omega
      rw [e2, List.nil_append]
      refine List.filter_congr fun x _ => ?_
      by_cases e : keyTI x = k
      · have : x.Time = k.1 := congrArg Prod.fst e
        rw [decide_eq_false (show ¬ x.Time < t by omega), Bool.not_false, Bool.and_true]
      · rw [show (keyTI x == k) = false by simpa using e]; rfl
theorem ordG_filter (p q : Fact → Bool) (l : List Fact) : (ordG p l).filter q = ordG (fun f => p f && q f) l := by
  unfold ordG
  refine StS.eq ⟨(sortK_sts _).ord.sublist List.filter_sublist, fun k => ?_⟩
  rw [List.filter_filter]
  have h1 := (sortK_sts (key := keyTI) (l.filter p)).same k
  have h2 : (sortK keyTI (l.filter p)).filter (fun a => (keyTI a == k) && q a) = ((sortK keyTI (l.filter p)).filter fun x => keyTI x == k).filter q := by rw [List.filter_filter]; exact List.filter_congr fun x _ => Bool.and_comm _ _
  rw [h2, h1, List.filter_filter, List.filter_filter, List.filter_filter]
  exact List.filter_congr fun x _ => by cases q x <;> cases p x <;> cases (keyTI x == k) <;> rfl
theorem ordG_congr {p q : Fact → Bool} {l : List Fact} (h : ∀ x ∈ l, p x = q x) : ordG p l = ordG q l := by unfold ordG; rw [List.filter_congr h]
theorem ordG_count (p : Fact → Bool) (l : List Fact) : (ordG p l).length = l.countP p := by unfold ordG; rw [(sortK_sts _).same.length, List.countP_eq_length_filter]
def tailsW (P : List Fact) (a b t : Int) : List Fact := (histL P [] a).filter (fun f => decide (f.Time < t)) ++ (histL P [] b).filter (fun f => !decide (f.Time < t))
theorem whoL_one {a b t T k : Int} (ha : 1 ≤ a ∧ a ≤ 6) (hb : 1 ≤ b ∧ b ≤ 6) (hk : 1 ≤ k ∧ k ≤ 7) : whoL [swD a b t] T k = if t ≤ T then tau (swD a b t) k else k := by
  rw [whoL_eq, if_pos (isID_small hk)]
  have e1 : isIDb a = true := isID_small (by omega)
  have e2 : isIDb b = true := isID_small (by omega)
  have e3 : swOk T (swD a b t) = decide (t ≤ T) := by show (isIDb a && isIDb b && decide (t ≤ T)) = _; rw [e1, e2]; rfl
  unfold ordG
  by_cases e : t ≤ T
  · rw [List.filter_cons_of_pos (by rw [e3]; exact decide_eq_true e), if_pos e]; rfl
  · rw [List.filter_cons_of_neg (by rw [e3, decide_eq_false e]; exact Bool.false_ne_true), if_neg e]; rfl
theorem whoL_nil {T k : Int} (hk : 1 ≤ k ∧ k ≤ 7) : whoL [] T k = k := by rw [whoL_eq, if_pos (isID_small hk)]; rfl
theorem hist_id {P S : List Fact} {w : Int} (hw : 1 ≤ w ∧ w ≤ 6) : histL P S w = ordG (fun f => decide (whoL S f.Time f.Wafer = w)) P := by unfold histL; rw [if_pos (isID_small (by omega))]
theorem tails_one {P : List Fact} (hP : ∀ f ∈ P, 1 ≤ f.Wafer ∧ f.Wafer ≤ 6) {a b t : Int} (ha : 1 ≤ a ∧ a ≤ 6) (hb : 1 ≤ b ∧ b ≤ 6) : histL P [swD a b t] a = tailsW P a b t := by
  unfold tailsW
  rw [hist_id ha, hist_id ha, hist_id hb, ordG_filter, ordG_filter, ordG_cut _ P t]
  congr 1
  · refine ordG_congr fun f hf => ?_
    have h := hP f hf
    rw [whoL_one ha hb (by omega), whoL_nil (by omega)]
    by_cases e : f.Time < t
    · rw [if_neg (by omega)]
    · rw [decide_eq_false e, Bool.and_false, Bool.and_false]
  · refine ordG_congr fun f hf => ?_
    have h := hP f hf
    rw [whoL_one ha hb (by omega), whoL_nil (by omega)]
    by_cases e : f.Time < t
    · rw [decide_eq_true e, Bool.not_true, Bool.and_false, Bool.and_false]
    · rw [if_pos (by omega)]
      congr 1
      refine decide_eq_decide.2 ?_
      show (if f.Wafer = a then b else if f.Wafer = b then a else f.Wafer) = a ↔ f.Wafer = b
      split
      · omega
      · split <;> omega
theorem tails_two {P : List Fact} (hP : ∀ f ∈ P, 1 ≤ f.Wafer ∧ f.Wafer ≤ 6) {a b t : Int} (ha : 1 ≤ a ∧ a ≤ 6) (hb : 1 ≤ b ∧ b ≤ 6) (hab : a ≠ b) : (histL P [swD a b t] b).length + (tailsW P a b t).length = (histL P [] a).length + (histL P [] b).length := by
  unfold tailsW
  rw [List.length_append, hist_id ha, hist_id hb, hist_id hb, ordG_filter, ordG_filter]
  simp only [ordG_count]
  induction P with
  | nil => rfl
  | cons f P ih =>
    have ih := ih fun g hg => hP g (List.mem_cons_of_mem _ hg)
    have h := hP f List.mem_cons_self
    simp only [List.countP_cons, whoL_one ha hb (show 1 ≤ f.Wafer ∧ f.Wafer ≤ 7 by omega), whoL_nil (show 1 ≤ f.Wafer ∧ f.Wafer ≤ 7 by omega)]
    have hc : ((if decide ((if t ≤ f.Time then tau (swD a b t) f.Wafer else f.Wafer) = b) = true then 1 else 0) + ((if (decide (f.Wafer = a) && decide (f.Time < t)) = true then 1 else 0) + (if (decide (f.Wafer = b) && !decide (f.Time < t)) = true then 1 else 0)) : Nat) = (if decide (f.Wafer = a) = true then 1 else 0) + (if decide (f.Wafer = b) = true then 1 else 0) := by
      have ht : tau (swD a b t) f.Wafer = if f.Wafer = a then b else if f.Wafer = b then a else f.Wafer := rfl
      rw [ht]
      by_cases e : f.Time < t
      · rw [if_neg (show ¬ t ≤ f.Time by omega)]
        simp only [e, decide_true, Bool.and_true, Bool.not_true, Bool.and_false, Bool.false_eq_true, if_false]
        omega
      · rw [if_pos (show t ≤ f.Time by omega)]
        simp only [e, decide_false, Bool.and_false, Bool.not_false, Bool.and_true, Bool.false_eq_true, if_false]
        by_cases e1 : f.Wafer = a
        · have e2 : ¬ f.Wafer = b := by omega
          simp [e1, hab]
        · by_cases e2 : f.Wafer = b
          · simp [e2, Ne.symm hab, hab]
          · simp [e1, e2]
    omega
theorem procs_w {xs : List I6} (hx : ∀ y ∈ xs, I6Ok y) {l : List Fact} (hl : ∀ f ∈ l, f ∈ someL xs) {d : Int} : ∀ f ∈ (ofB l d).Processes, 1 ≤ f.Wafer ∧ f.Wafer ≤ 6 := fun f h => by
  obtain ⟨h1, _, _⟩ := (lst_mem (j := 0) (by decide)).1 h
  obtain ⟨y, hy, rfl⟩ := List.mem_map.1 (show f ∈ ((xs.take 30).map someF) from hl f h1.1)
  exact someF_wr (hx y (List.mem_of_mem_take hy))
end Go.Wx
namespace Go.Proofs.YthfjagphcekcbaaGreat
open Go.Wx Go.RowKit
end Go.Proofs.YthfjagphcekcbaaGreat
end
section
namespace Go.Proofs.YthfjagphcekcbaaGreat
open Go.Wx Go.RowKit
set_option maxHeartbeats 4000000 in
theorem GenealogyTails_any (ad : Option Addr) (cp : Nat) (xs : List I6) (one two time : Int) (w : World) (hE1 : Els w ad 6 I6.cells xs) (hxs : ∀ y ∈ xs, I6Ok y) (hone : inI one) (htwo : inI two) (htime : inI time) : Ret Tryz.prog 7 #[.slice ad xs.length cp, vi one, vi two, vi time] w fun r w' => r = .bool true ∧ Up w w' := by
  obtain ⟨w0, rfl⟩ : ∃ w0, w0 = w := ⟨_, rfl⟩
  have hS := Sep.start no w0
  refine Calls_start (n := 135) (m := 9) Tryz.func7 rfl rfl rfl ?_
  refine CW.seq (CW.region (LW.p (PEv.assign (.const _)) rfl rfl rfl (LW.nil (KW.then (CW.seq (CW.region ?_))))))
  refine LW.c (enter_call0 .nil (Tryz.en11)) rfl rfl rfl rfl (sane_any _) ?_
  rintro _ w1 ⟨rfl, uw1⟩
  have zw1 := uw1.size
  replace hS := hS.up uw1
  refine LW.p (PEv.assign (.tmp rfl)) rfl rfl rfl (LW.nil (KW.then (CW.seq (CW.region (LW.p (PEv.assign (.const _)) rfl rfl rfl (LW.nil (KW.then (CW.seq ?_))))))))
  replace hS := hS.addn (OwnS.nil _ 0 46 19 Fact.cells)
  change Wx.Sep _ _ _ [_] at hS
  refine CW.region (LW.p (PEv.move (.tmp rfl)) rfl rfl rfl ?_)
  refine LW.c (enter_call0 (.cons (.tmp rfl) .nil) (Tryz.en14)) rfl rfl rfl rfl (Some_any ad cp xs _ (Els.up hE1 hS.upd)) ?_
  rintro v22 w2 ⟨hO22, uw2⟩
  have zw2 := uw2.size
  replace hS := hS.add uw2 (A' := aOwn 46 19 Fact.cells v22 (someL xs)) (hO22.mono (Nat.zero_le _)) (fun i h => hO22.base i h)
  change Wx.Sep _ _ _ [_, _] at hS
  clear hO22
  obtain ⟨ad22, cp22, rfl, _⟩ := (hS.own 1 rfl).sl (fun _ => rfl)
  have hl22 := someL_len xs
  refine LW.p (PEv.assign (.tmp rfl)) rfl rfl rfl (LW.nil (KW.then (CW.seq (CW.seq (CW.region (LW.p (PEv.assign (.const _)) rfl rfl rfl (LW.nil (KW.then (CW.block ?_)))))))))
  refine CW.loopB (σ := Nat × Go.Value) (fun s w => (s.1 ≤ (someL xs).length) ∧ (Wx.Sep no w0 w [aOwn 46 19 Fact.cells s.2 (((someL xs).take s.1).filter kn3), aOwn 46 19 Fact.cells (.slice ad22 ((someL xs)).length cp22) ((someL xs))])) (fun s => [(12, .eq (vi (s.1 : Int))), (10, .eq (s.2))]) ([(1, .eq _), (2, .eq _), (3, .eq _), (8, .eq _), (9, .eq _), (11, .eq _)]) (fun s => (someL xs).length - s.1) (0, .slice none 0 0) ?_ ⟨rfl, rfl, rfl, rfl, rfl, rfl, rfl, rfl, trivial⟩ ?_
  ·exact ⟨Nat.zero_le _, hS⟩
  ·rintro ⟨k, v⟩ w3 ⟨hk, hS⟩
   dsimp only at hk hS
   change CW _ _ _ _ _ _ _ ([(12, .eq (vi (k : Int))), (10, .eq (v))] ++ _) _
   refine CW.seq (CW.seq (CW.region (LW.p (PEv.move (.tmp rfl)) rfl rfl rfl (LW.p (PEv.move (.tmp rfl)) rfl rfl rfl ?_))))
   refine LW.p (PEv.lenS Tryz.underlying22 (.tmp rfl)) rfl rfl rfl ?_
   refine LW.p (PEv.lss (.tmp rfl) (.tmp rfl)) rfl rfl rfl ?_
   refine LW.nil (KW.then ?_)
   refine CW.cond (.tmp rfl) (fun h26 => ?_) (fun h26 => ?_)
   ·first | replace h26 := of_decide_eq_true h26 | replace h26 := of_decide_eq_false h26 | skip
    refine CW.skip (KW.then (CW.seq (CW.block (CW.seq ?_))))
    have hE := (hS.own 1 rfl).els (fun _ => rfl)
    refine CW.region (LW.p (PEv.move (.tmp rfl)) rfl rfl rfl (LW.p (PEv.move (.tmp rfl)) rfl rfl rfl ?_))
    obtain ⟨x, hx⟩ := getElem?_of_lt (xs := (someL xs)) (i := k) (by omega)
    obtain ⟨Bx, ox, ax, hcx⟩ := hE _ x hx
    refine LW.p (PEv.indexAddr' Tryz.underlying22 Tryz.sizeOf46 (.tmp rfl) (.tmp rfl) (by omega) ax) rfl rfl rfl ?_
    refine LW.p (PEv.fieldAddr (off := 0) Tryz.underlying46 rfl rfl Tryz.sizeOf3 rfl (.tmp rfl)) rfl rfl rfl ?_
    refine LW.p (PEv.load Tryz.isAgg3 (.tmp rfl) (hcx.nth (j := 0) rfl)) rfl rfl rfl ?_
    refine LW.p (PEv.neq (.tmp rfl) (.const _)) rfl rfl rfl ?_
    refine LW.nil (KW.then ?_)
    refine CW.cond (.tmp rfl) (fun h34 => ?_) (fun h34 => ?_)
    ·first | replace h34 := of_decide_eq_true h34 | replace h34 := of_decide_eq_false h34 | skip
     have hfl := filt_len kn3 (someL xs) k
     refine CW.region (LW.p (PEv.move (.tmp rfl)) rfl rfl rfl (LW.p (PEv.move (.tmp rfl)) rfl rfl rfl (LW.p (PEv.move (.tmp rfl)) rfl rfl rfl ?_)))
     refine LW.p (PEv.indexAddr' Tryz.underlying22 Tryz.sizeOf46 (.tmp rfl) (.tmp rfl) (by omega) ax) rfl rfl rfl ?_
     refine LW.p (PEv.loadA Tryz.isAgg46 Tryz.sizeOf46 rfl (.tmp rfl) (hcx)) rfl rfl rfl ?_
     refine LW.r (REv.buildSlice (xs := [x]) (enc := Fact.cells) (mk := fun f : Fact => .agg f.cells) Tryz.underlying22 Tryz.sizeOf46 Tryz.zeroValue46 rfl (by decide) (fun _ => rfl) (fun _ => rfl) (.cons (.tmp rfl) .nil) rfl) rfl rfl rfl rfl ?_
     rintro _ w4 ⟨B40, cB40, rfl, NB40, yB40, xB40⟩
     have eB40 := NB40.at_
     have zB40 := NB40.size
     replace hS := hS.up NB40.up
     replace hcx := hcx.up NB40.up
     have hE40 := xB40
     refine LW.r (REv.appendF (enc := Fact.cells) (bytes := 160) (i := Tryz.t46) Tryz.underlying22 (by kernel_rfl) rfl rfl rfl rfl (by decide) (fun _ => rfl) Fact.one (.tmp rfl) (.tmp rfl) (hS.own 0 rfl) (Sl.of_els hE40) (by have := hfl; simp [maxLen]; omega) (by have := hfl; simp; omega)) rfl rfl rfl rfl ?_
     intro v41 w5 Gw5
     have zw5 := Gw5.fr.size
     replace hS := hS.stp 0 rfl Gw5
     change Wx.Sep _ _ _ [_, _] at hS
     refine LW.p (PEv.assign (.tmp rfl)) rfl rfl rfl (LW.nil (KW.inBlock (KW.then (CW.region (LW.p (PEv.move (.tmp rfl)) rfl rfl rfl ?_)))))
     refine LW.p (PEv.inc (.tmp rfl) (by omega)) rfl rfl rfl ?_
     refine LW.p (PEv.assign (.tmp rfl)) rfl rfl rfl (LW.nil (KW.round ?_))
     first | exact ⟨(k + 1, v41), ⟨by show k + 1 ≤ _; omega, by first | (rw [fp_yes hx (show kn3 x = true from h34)]; exact hS.take 2) | (rw [fp_no hx (show kn3 x = false from h34)]; exact hS.take 2)⟩, ⟨rfl, rfl, rfl, rfl, rfl, rfl, rfl, rfl, trivial⟩, by show (someL xs).length - (k + 1) < (someL xs).length - k; omega⟩ | exact ⟨(k + 1, v), ⟨by show k + 1 ≤ _; omega, by first | (rw [fp_yes hx (show kn3 x = true from h34)]; exact hS.take 2) | (rw [fp_no hx (show kn3 x = false from h34)]; exact hS.take 2)⟩, ⟨rfl, rfl, rfl, rfl, rfl, rfl, rfl, rfl, trivial⟩, by show (someL xs).length - (k + 1) < (someL xs).length - k; omega⟩
    ·first | replace h34 := of_decide_eq_true h34 | replace h34 := of_decide_eq_false h34 | skip
     refine CW.skip (KW.inBlock (KW.then (CW.region (LW.p (PEv.move (.tmp rfl)) rfl rfl rfl ?_))))
     refine LW.p (PEv.inc (.tmp rfl) (by omega)) rfl rfl rfl ?_
     refine LW.p (PEv.assign (.tmp rfl)) rfl rfl rfl (LW.nil (KW.round ?_))
     first | exact ⟨(k + 1, v41), ⟨by show k + 1 ≤ _; omega, by first | (rw [fp_yes hx (show kn3 x = true from h34)]; exact hS.take 2) | (rw [fp_no hx (show kn3 x = false from h34)]; exact hS.take 2)⟩, ⟨rfl, rfl, rfl, rfl, rfl, rfl, rfl, rfl, trivial⟩, by show (someL xs).length - (k + 1) < (someL xs).length - k; omega⟩ | exact ⟨(k + 1, v), ⟨by show k + 1 ≤ _; omega, by first | (rw [fp_yes hx (show kn3 x = true from h34)]; exact hS.take 2) | (rw [fp_no hx (show kn3 x = false from h34)]; exact hS.take 2)⟩, ⟨rfl, rfl, rfl, rfl, rfl, rfl, rfl, rfl, trivial⟩, by show (someL xs).length - (k + 1) < (someL xs).length - k; omega⟩
   ·first | replace h26 := of_decide_eq_true h26 | replace h26 := of_decide_eq_false h26 | skip
    refine CW.exit (KW.then_exit (KW.then_exit (KW.block_hit (KW.then (CW.seq (CW.region (LW.p (PEv.move (.tmp rfl)) rfl rfl rfl ?_)))))))
    refine LW.c (enter_call0 (.cons (.tmp rfl) (.cons (.const _) .nil)) (Tryz.en15)) rfl rfl rfl rfl (pick_any _ _ _ (by decide)) ?_
    rintro _ w6 ⟨rfl, uw6⟩
    have zw6 := uw6.size
    replace hS := hS.up uw6
    have hp1 := pick_range (c := one) (n := 6) hone (by decide)
    obtain ⟨p1, ep1⟩ : ∃ p1, p1 = pickI one 6 := ⟨_, rfl⟩
    rw [← ep1] at hp1 ⊢
    refine LW.p (PEv.add_w (.const _) (.tmp rfl)) rfl rfl rfl ?_
    refine LW.p (PEv.assign (.tmp rfl)) rfl rfl rfl (LW.nil (KW.then (CW.seq ?_)))
    obtain ⟨o1, eo1⟩ : ∃ o, o = IntKind.i64.wrap (1 + p1) := ⟨_, rfl⟩
    rw [← eo1]
    have ho1 : 1 ≤ o1 ∧ o1 ≤ 6 := by rw [eo1, show IntKind.i64.wrap (1 + p1) = 1 + p1 from wI_in (by omega) (by omega)]; omega
    refine CW.region (LW.p (PEv.move (.tmp rfl)) rfl rfl rfl (LW.p (PEv.move (.tmp rfl)) rfl rfl rfl ?_))
    refine LW.c (enter_call0 (.cons (.tmp rfl) (.cons (.const _) .nil)) (Tryz.en15)) rfl rfl rfl rfl (pick_any _ _ _ (by decide)) ?_
    rintro _ w7 ⟨rfl, uw7⟩
    have zw7 := uw7.size
    replace hS := hS.up uw7
    have hp2 := pick_range (c := two) (n := 5) htwo (by decide)
    obtain ⟨p2, ep2⟩ : ∃ p2, p2 = pickI two 5 := ⟨_, rfl⟩
    rw [← ep2] at hp2 ⊢
    refine LW.p (PEv.add_w (.tmp rfl) (.tmp rfl)) rfl rfl rfl ?_
    refine LW.p (PEv.rem (.tmp rfl) (.const _) (by decide)) rfl rfl rfl ?_
    refine LW.p (PEv.add_w (.const _) (.tmp rfl)) rfl rfl rfl ?_
    refine LW.p (PEv.assign (.tmp rfl)) rfl rfl rfl (LW.nil (KW.then (CW.seq ?_)))
    obtain ⟨o2, eo2⟩ : ∃ o, o = wI (1 + (wI (o1 + p2)).tmod 6) := ⟨_, rfl⟩
    have hoo : (1 ≤ o2 ∧ o2 ≤ 6) ∧ o1 ≠ o2 := by
     rw [eo2, wI_in (n := o1 + p2) (by omega) (by omega), Int.tmod_eq_emod_of_nonneg (by omega), wI_in (by omega) (by omega)]
     omega
    obtain ⟨ho2, hne⟩ := hoo
    change CW _ _ _ _ _ _ _ ((2, .eq (vi (wI (1 + (wI (o1 + p2)).tmod 6)))) :: _) _
    rw [← eo2]
    refine CW.region (LW.p (PEv.move (.tmp rfl)) rfl rfl rfl ?_)
    refine LW.c (enter_call0 (.cons (.tmp rfl) (.cons (.const _) .nil)) (Tryz.en15)) rfl rfl rfl rfl (pick_any _ _ _ (by decide)) ?_
    rintro _ w8 ⟨rfl, uw8⟩
    have zw8 := uw8.size
    replace hS := hS.up uw8
    have htt := pick_range (c := time) (n := 50) htime (by decide)
    obtain ⟨tt, ett⟩ : ∃ tt, tt = pickI time 50 := ⟨_, rfl⟩
    rw [← ett] at htt ⊢
    refine LW.p (PEv.assign (.tmp rfl)) rfl rfl rfl (LW.nil (KW.then (CW.seq ?_)))
    have hkl : k = (someL xs).length := by omega
    rw [hkl, List.take_length] at hS
    obtain ⟨adv0, cpv0, rfl, _⟩ := (hS.own 0 rfl).sl (fun _ => rfl)
    have hfl : ((someL xs).filter kn3).length ≤ 30 := Nat.le_trans (List.length_filter_le _ _) hl22
    have hSh := ofB_short (l := ((someL xs).filter kn3)) (by omega) 10
    have hPw := procs_w hxs (l := ((someL xs).filter kn3)) (d := 10) (fun f hf => (filter_k hf).1)
    have hlt0 := (hS.own 0 rfl).lt
    refine CW.region (LW.p (PEv.move (.tmp rfl)) rfl rfl rfl ?_)
    refine LW.c (enter_call0 (.cons (.tmp rfl) (.cons (.const _) .nil)) (Tryz.en13)) rfl rfl rfl rfl (Of_own adv0 cpv0 ((someL xs).filter kn3) 10 _ ((hS.own 0 rfl).els (fun _ => rfl)) (by omega)) ?_
    rintro _ w9 ⟨bc1, rfl, hC1, hb1, uw9⟩
    have zw9 := uw9.size
    replace hS := hS.up uw9
    refine LW.r (REv.allocA Tryz.zeroValue24) rfl rfl rfl rfl ?_
    rintro _ w10 ⟨B13, rfl, MB13⟩
    refine LW.s (SEv.storeA Tryz.sizeOf24 (hC1.size) (.tmp rfl) (.tmp rfl) (hC1.one) MB13.blk rfl) rfl rfl rfl ?_
    intro w11 LB13
    have NB13 := MB13.set LB13
    clear LB13 MB13
    have eB13 := NB13.at_
    have zB13 := NB13.size
    replace hC1 := hC1.up NB13.up
    replace hS := hS.addB NB13
    change Wx.Sep _ _ _ [_, _, _] at hS
    refine LW.nil (KW.then (CW.seq (CW.region (LW.p (PEv.move (.tmp rfl)) rfl rfl rfl (LW.p (PEv.move (.tmp rfl)) rfl rfl rfl (LW.p (PEv.move (.tmp rfl)) rfl rfl rfl (LW.p (PEv.move (.tmp rfl)) rfl rfl rfl ?_)))))))
    refine LW.p (PEv.build (cs := (swD o1 o2 tt).cells) Tryz.underlying46 Tryz.zeroValue46 Tryz.places46 (.cons (.const _) (.cons (.const _) (.cons (.const _) (.cons (.const _) (.cons (.tmp rfl) (.cons (.tmp rfl) (.cons (.tmp rfl) .nil))))))) rfl) rfl rfl rfl ?_
    refine LW.r (REv.buildSlice (xs := [(swD o1 o2 tt)]) (enc := Fact.cells) (mk := fun f : Fact => .agg f.cells) Tryz.underlying22 Tryz.sizeOf46 Tryz.zeroValue46 rfl (by decide) (fun _ => rfl) (fun _ => rfl) (.cons (.tmp rfl) .nil) rfl) rfl rfl rfl rfl ?_
    rintro _ w12 ⟨B60, cB60, rfl, NB60, yB60, xB60⟩
    have eB60 := NB60.at_
    have zB60 := NB60.size
    replace hS := hS.up NB60.up
    replace hC1 := hC1.up NB60.up
    have hE60 := xB60
    refine LW.r (REv.appendF (enc := Fact.cells) (bytes := 160) (i := Tryz.t46) Tryz.underlying22 (by kernel_rfl) rfl rfl rfl rfl (by decide) (fun _ => rfl) Fact.one (.tmp rfl) (.tmp rfl) (hS.own 0 rfl) (Sl.of_els hE60) (by have := hfl; simp [maxLen]; omega) (by have := hfl; simp; omega)) rfl rfl rfl rfl ?_
    intro v61 w13 Gw13
    have zw13 := Gw13.fr.size
    replace hS := hS.stp 0 rfl Gw13
    change Wx.Sep _ _ _ [_, _, _] at hS
    replace hC1 := hC1.frB hb1 Gw13.fr hlt0
    refine LW.c (enter_call0 (.cons (.tmp rfl) (.cons (.const _) .nil)) (Tryz.en13)) rfl rfl rfl rfl (OfV_any _ (((someL xs).filter kn3) ++ [(swD o1 o2 tt)]) 10 _ ((hS.own 0 rfl).sl (fun _ => rfl)) (by rw [List.length_append, List.length_singleton]; omega)) ?_
    rintro _ w14 ⟨bc2, rfl, hC2, uw14⟩
    have zw14 := uw14.size
    replace hS := hS.up uw14
    replace hC1 := hC1.up uw14
    refine LW.r (REv.allocA Tryz.zeroValue24) rfl rfl rfl rfl ?_
    rintro _ w15 ⟨B14, rfl, MB14⟩
    refine LW.s (SEv.storeA Tryz.sizeOf24 (hC2.size) (.tmp rfl) (.tmp rfl) (hC2.one) MB14.blk rfl) rfl rfl rfl ?_
    intro w16 LB14
    have NB14 := MB14.set LB14
    clear LB14 MB14
    have eB14 := NB14.at_
    have zB14 := NB14.size
    replace hC1 := hC1.up NB14.up
    replace hC2 := hC2.up NB14.up
    replace hS := hS.addB NB14
    change Wx.Sep _ _ _ [_, _, _, _] at hS
    refine LW.nil (KW.then (CW.seq ?_))
    obtain ⟨adv, cpv, rfl, _⟩ := (hS.own 0 rfl).sl (fun _ => rfl)
    refine CW.region ?_
    refine LW.p (PEv.loadA Tryz.isAgg24 Tryz.sizeOf24 (hC1.size) (.tmp rfl) ((hS.blk 2 rfl).agg)) rfl rfl rfl ?_
    refine LW.p (PEv.move (.tmp rfl)) rfl rfl rfl ?_
    refine LW.c (enter_call0 (.cons (.tmp rfl) (.cons (.tmp rfl) .nil)) (Tryz.en23)) rfl rfl rfl rfl (History_any bc1 (ofB ((someL xs).filter kn3) 10) o1 _ (hC1) (by rw [tails_b]; decide) (Nat.le_trans (hSh 0) (by decide))) ?_
    rintro v65 w17 ⟨hO65, uw17⟩
    have zw17 := uw17.size
    replace hC1 := hC1.up uw17
    replace hC2 := hC2.up uw17
    replace hS := hS.add uw17 (A' := aOwn 46 19 Fact.cells v65 ((histL (ofB ((someL xs).filter kn3) 10).Processes [] o1))) (by have := hO65; rw [tails_b] at this; exact this.mono (Nat.zero_le _)) (fun i h => hO65.base i h)
    change Wx.Sep _ _ _ [_, _, _, _, _] at hS
    clear hO65
    obtain ⟨ad65, cp65, rfl, _⟩ := (hS.own 4 rfl).sl (fun _ => rfl)
    refine LW.p (PEv.assign (.tmp rfl)) rfl rfl rfl (LW.nil (KW.then (CW.seq (CW.region ?_))))
    refine LW.p (PEv.loadA Tryz.isAgg24 Tryz.sizeOf24 (hC1.size) (.tmp rfl) ((hS.blk 2 rfl).agg)) rfl rfl rfl ?_
    refine LW.p (PEv.move (.tmp rfl)) rfl rfl rfl ?_
    refine LW.c (enter_call0 (.cons (.tmp rfl) (.cons (.tmp rfl) .nil)) (Tryz.en23)) rfl rfl rfl rfl (History_any bc1 (ofB ((someL xs).filter kn3) 10) o2 _ (hC1) (by rw [tails_b]; decide) (Nat.le_trans (hSh 0) (by decide))) ?_
    rintro v68 w18 ⟨hO68, uw18⟩
    have zw18 := uw18.size
    replace hC1 := hC1.up uw18
    replace hC2 := hC2.up uw18
    replace hS := hS.add uw18 (A' := aOwn 46 19 Fact.cells v68 ((histL (ofB ((someL xs).filter kn3) 10).Processes [] o2))) (by have := hO68; rw [tails_b] at this; exact this.mono (Nat.zero_le _)) (fun i h => hO68.base i h)
    change Wx.Sep _ _ _ [_, _, _, _, _, _] at hS
    clear hO68
    obtain ⟨ad68, cp68, rfl, _⟩ := (hS.own 5 rfl).sl (fun _ => rfl)
    refine LW.p (PEv.assign (.tmp rfl)) rfl rfl rfl (LW.nil (KW.then (CW.seq ?_)))
    have hUz := hS.upd
    have hB14 := hS.blk 3 rfl
    have hEA0 := (hS.own 4 rfl).els (fun _ => rfl)
    have hED0 := (hS.own 5 rfl).els (fun _ => rfl)
    replace hS := Sep.start no w18
    replace hS := hS.addn (OwnS.nil _ 0 46 19 Fact.cells)
    change Wx.Sep _ _ _ [_] at hS
    have hla := histL_len (ofB ((someL xs).filter kn3) 10).Processes [] o1
    have hld := histL_len (ofB ((someL xs).filter kn3) 10).Processes [] o2
    have hlp : (ofB ((someL xs).filter kn3) 10).Processes.length ≤ 100000 := hSh 0
    have hpl := hSh 0
    refine CW.region (LW.p (PEv.assign (.const _)) rfl rfl rfl (LW.nil (KW.then (CW.seq (CW.seq (CW.region (LW.p (PEv.assign (.const _)) rfl rfl rfl (LW.nil (KW.then (CW.block ?_))))))))))
    refine CW.loopB (σ := Nat × Go.Value) (fun s w => (s.1 ≤ (histL (ofB ((someL xs).filter kn3) 10).Processes [] o1).length) ∧ (Wx.Sep no w18 w [aOwn 46 19 Fact.cells s.2 (((histL (ofB ((someL xs).filter kn3) 10).Processes [] o1).take s.1).filter fun f => decide (f.Time < tt))])) (fun s => [(18, .eq (vi (s.1 : Int))), (17, .eq (s.2))]) ([(1, .eq _), (2, .eq _), (3, .eq _), (8, .eq _), (9, .eq _), (14, .eq _), (15, .eq _), (16, .eq _)]) (fun s => (histL (ofB ((someL xs).filter kn3) 10).Processes [] o1).length - s.1) (0, .slice none 0 0) ?_ ⟨rfl, rfl, rfl, rfl, rfl, rfl, rfl, rfl, rfl, rfl, trivial⟩ ?_
    ·exact ⟨Nat.zero_le _, hS⟩
    ·rintro ⟨k, v⟩ w19 ⟨hk, hS⟩
     dsimp only at hk hS
     change CW _ _ _ _ _ _ _ ([(18, .eq (vi (k : Int))), (17, .eq (v))] ++ _) _
     refine CW.seq (CW.seq (CW.region (LW.p (PEv.move (.tmp rfl)) rfl rfl rfl (LW.p (PEv.move (.tmp rfl)) rfl rfl rfl ?_))))
     refine LW.p (PEv.lenS Tryz.underlying22 (.tmp rfl)) rfl rfl rfl ?_
     refine LW.p (PEv.lss (.tmp rfl) (.tmp rfl)) rfl rfl rfl ?_
     refine LW.nil (KW.then ?_)
     refine CW.cond (.tmp rfl) (fun h72 => ?_) (fun h72 => ?_)
     ·first | replace h72 := of_decide_eq_true h72 | replace h72 := of_decide_eq_false h72 | skip
      refine CW.skip (KW.then (CW.seq (CW.block (CW.seq ?_))))
      have hEA := Els.up hEA0 hS.upd
      refine CW.region (LW.p (PEv.move (.tmp rfl)) rfl rfl rfl (LW.p (PEv.move (.tmp rfl)) rfl rfl rfl ?_))
      obtain ⟨z, hz⟩ := getElem?_of_lt (xs := (histL (ofB ((someL xs).filter kn3) 10).Processes [] o1)) (i := k) (by omega)
      obtain ⟨Bz, oz, az, hcz⟩ := hEA _ z hz
      refine LW.p (PEv.indexAddr' Tryz.underlying22 Tryz.sizeOf46 (.tmp rfl) (.tmp rfl) (by omega) az) rfl rfl rfl ?_
      refine LW.p (PEv.fieldAddr (off := 5) Tryz.underlying46 rfl rfl Tryz.sizeOf3 rfl (.tmp rfl)) rfl rfl rfl ?_
      refine LW.p (PEv.load Tryz.isAgg3 (.tmp rfl) (hcz.nth (j := 5) rfl)) rfl rfl rfl ?_
      refine LW.p (PEv.move (.tmp rfl)) rfl rfl rfl ?_
      refine LW.p (PEv.lss (.tmp rfl) (.tmp rfl)) rfl rfl rfl ?_
      refine LW.nil (KW.then ?_)
      refine CW.cond (.tmp rfl) (fun h81 => ?_) (fun h81 => ?_)
      ·first | replace h81 := of_decide_eq_true h81 | replace h81 := of_decide_eq_false h81 | skip
       have hfl := filt_len (fun f : Fact => decide (f.Time < tt)) (histL (ofB ((someL xs).filter kn3) 10).Processes [] o1) k
       refine CW.region (LW.p (PEv.move (.tmp rfl)) rfl rfl rfl (LW.p (PEv.move (.tmp rfl)) rfl rfl rfl (LW.p (PEv.move (.tmp rfl)) rfl rfl rfl ?_)))
       refine LW.p (PEv.indexAddr' Tryz.underlying22 Tryz.sizeOf46 (.tmp rfl) (.tmp rfl) (by omega) az) rfl rfl rfl ?_
       refine LW.p (PEv.loadA Tryz.isAgg46 Tryz.sizeOf46 rfl (.tmp rfl) (hcz)) rfl rfl rfl ?_
       refine LW.r (REv.buildSlice (xs := [z]) (enc := Fact.cells) (mk := fun f : Fact => .agg f.cells) Tryz.underlying22 Tryz.sizeOf46 Tryz.zeroValue46 rfl (by decide) (fun _ => rfl) (fun _ => rfl) (.cons (.tmp rfl) .nil) rfl) rfl rfl rfl rfl ?_
       rintro _ w20 ⟨B87, cB87, rfl, NB87, yB87, xB87⟩
       have eB87 := NB87.at_
       have zB87 := NB87.size
       replace hS := hS.up NB87.up
       replace hcz := hcz.up NB87.up
       have hE87 := xB87
       refine LW.r (REv.appendF (enc := Fact.cells) (bytes := 160) (i := Tryz.t46) Tryz.underlying22 (by kernel_rfl) rfl rfl rfl rfl (by decide) (fun _ => rfl) Fact.one (.tmp rfl) (.tmp rfl) (hS.own 0 rfl) (Sl.of_els hE87) (by have := hfl; simp [maxLen]; omega) (by have := hfl; simp; omega)) rfl rfl rfl rfl ?_
       intro v88 w21 Gw21
       have zw21 := Gw21.fr.size
       replace hS := hS.stp 0 rfl Gw21
       change Wx.Sep _ _ _ [_] at hS
       refine LW.p (PEv.assign (.tmp rfl)) rfl rfl rfl (LW.nil (KW.inBlock (KW.then (CW.region (LW.p (PEv.move (.tmp rfl)) rfl rfl rfl ?_)))))
       refine LW.p (PEv.inc (.tmp rfl) (by omega)) rfl rfl rfl ?_
       refine LW.p (PEv.assign (.tmp rfl)) rfl rfl rfl (LW.nil (KW.round ?_))
       first | exact ⟨(k + 1, v88), ⟨by show k + 1 ≤ _; omega, by first | (rw [fp_yes hz (decide_eq_true h81)]; exact hS.take 1) | (rw [fp_no hz (decide_eq_false h81)]; exact hS.take 1)⟩, ⟨rfl, rfl, rfl, rfl, rfl, rfl, rfl, rfl, rfl, rfl, trivial⟩, by show (histL (ofB ((someL xs).filter kn3) 10).Processes [] o1).length - (k + 1) < (histL (ofB ((someL xs).filter kn3) 10).Processes [] o1).length - k; omega⟩ | exact ⟨(k + 1, v), ⟨by show k + 1 ≤ _; omega, by first | (rw [fp_yes hz (decide_eq_true h81)]; exact hS.take 1) | (rw [fp_no hz (decide_eq_false h81)]; exact hS.take 1)⟩, ⟨rfl, rfl, rfl, rfl, rfl, rfl, rfl, rfl, rfl, rfl, trivial⟩, by show (histL (ofB ((someL xs).filter kn3) 10).Processes [] o1).length - (k + 1) < (histL (ofB ((someL xs).filter kn3) 10).Processes [] o1).length - k; omega⟩
      ·first | replace h81 := of_decide_eq_true h81 | replace h81 := of_decide_eq_false h81 | skip
       refine CW.skip (KW.inBlock (KW.then (CW.region (LW.p (PEv.move (.tmp rfl)) rfl rfl rfl ?_))))
       refine LW.p (PEv.inc (.tmp rfl) (by omega)) rfl rfl rfl ?_
       refine LW.p (PEv.assign (.tmp rfl)) rfl rfl rfl (LW.nil (KW.round ?_))
       first | exact ⟨(k + 1, v88), ⟨by show k + 1 ≤ _; omega, by first | (rw [fp_yes hz (decide_eq_true h81)]; exact hS.take 1) | (rw [fp_no hz (decide_eq_false h81)]; exact hS.take 1)⟩, ⟨rfl, rfl, rfl, rfl, rfl, rfl, rfl, rfl, rfl, rfl, trivial⟩, by show (histL (ofB ((someL xs).filter kn3) 10).Processes [] o1).length - (k + 1) < (histL (ofB ((someL xs).filter kn3) 10).Processes [] o1).length - k; omega⟩ | exact ⟨(k + 1, v), ⟨by show k + 1 ≤ _; omega, by first | (rw [fp_yes hz (decide_eq_true h81)]; exact hS.take 1) | (rw [fp_no hz (decide_eq_false h81)]; exact hS.take 1)⟩, ⟨rfl, rfl, rfl, rfl, rfl, rfl, rfl, rfl, rfl, rfl, trivial⟩, by show (histL (ofB ((someL xs).filter kn3) 10).Processes [] o1).length - (k + 1) < (histL (ofB ((someL xs).filter kn3) 10).Processes [] o1).length - k; omega⟩
     ·first | replace h72 := of_decide_eq_true h72 | replace h72 := of_decide_eq_false h72 | skip
      refine CW.exit (KW.then_exit (KW.then_exit (KW.block_hit (KW.then (CW.seq (CW.seq ?_))))))
      have hkl : k = (histL (ofB ((someL xs).filter kn3) 10).Processes [] o1).length := by omega
      rw [hkl, List.take_length] at hS
      have hfa : ((histL (ofB ((someL xs).filter kn3) 10).Processes [] o1).filter fun f => decide (f.Time < tt)).length ≤ (histL (ofB ((someL xs).filter kn3) 10).Processes [] o1).length := List.length_filter_le _ _
      refine CW.region (LW.p (PEv.assign (.const _)) rfl rfl rfl (LW.nil (KW.then (CW.block ?_))))
      refine CW.loopB (σ := Nat × Go.Value) (fun s w => (s.1 ≤ (histL (ofB ((someL xs).filter kn3) 10).Processes [] o2).length) ∧ (Wx.Sep no w18 w [aOwn 46 19 Fact.cells s.2 (((histL (ofB ((someL xs).filter kn3) 10).Processes [] o1).filter fun f => decide (f.Time < tt)) ++ ((histL (ofB ((someL xs).filter kn3) 10).Processes [] o2).take s.1).filter fun f => !decide (f.Time < tt))])) (fun s => [(19, .eq (vi (s.1 : Int))), (17, .eq (s.2))]) ([(1, .eq _), (2, .eq _), (3, .eq _), (8, .eq _), (9, .eq _), (14, .eq _), (15, .eq _), (16, .eq _)]) (fun s => (histL (ofB ((someL xs).filter kn3) 10).Processes [] o2).length - s.1) (0, v) ?_ ⟨rfl, rfl, rfl, rfl, rfl, rfl, rfl, rfl, rfl, rfl, trivial⟩ ?_
      ·exact ⟨Nat.zero_le _, by rw [List.take_zero, List.filter_nil, List.append_nil]; exact hS⟩
      ·rintro ⟨k, v⟩ w22 ⟨hk, hS⟩
       dsimp only at hk hS
       change CW _ _ _ _ _ _ _ ([(19, .eq (vi (k : Int))), (17, .eq (v))] ++ _) _
       refine CW.seq (CW.seq (CW.region (LW.p (PEv.move (.tmp rfl)) rfl rfl rfl (LW.p (PEv.move (.tmp rfl)) rfl rfl rfl ?_))))
       refine LW.p (PEv.lenS Tryz.underlying22 (.tmp rfl)) rfl rfl rfl ?_
       refine LW.p (PEv.lss (.tmp rfl) (.tmp rfl)) rfl rfl rfl ?_
       refine LW.nil (KW.then ?_)
       refine CW.cond (.tmp rfl) (fun h92 => ?_) (fun h92 => ?_)
       ·first | replace h92 := of_decide_eq_true h92 | replace h92 := of_decide_eq_false h92 | skip
        refine CW.skip (KW.then (CW.seq (CW.block (CW.seq ?_))))
        have hED := Els.up hED0 hS.upd
        refine CW.region (LW.p (PEv.move (.tmp rfl)) rfl rfl rfl (LW.p (PEv.move (.tmp rfl)) rfl rfl rfl ?_))
        obtain ⟨y, hy⟩ := getElem?_of_lt (xs := (histL (ofB ((someL xs).filter kn3) 10).Processes [] o2)) (i := k) (by omega)
        obtain ⟨By, oy, ay, hcy⟩ := hED _ y hy
        refine LW.p (PEv.indexAddr' Tryz.underlying22 Tryz.sizeOf46 (.tmp rfl) (.tmp rfl) (by omega) ay) rfl rfl rfl ?_
        refine LW.p (PEv.fieldAddr (off := 5) Tryz.underlying46 rfl rfl Tryz.sizeOf3 rfl (.tmp rfl)) rfl rfl rfl ?_
        refine LW.p (PEv.load Tryz.isAgg3 (.tmp rfl) (hcy.nth (j := 5) rfl)) rfl rfl rfl ?_
        refine LW.p (PEv.move (.tmp rfl)) rfl rfl rfl ?_
        refine LW.p (PEv.geq (.tmp rfl) (.tmp rfl)) rfl rfl rfl ?_
        refine LW.nil (KW.then ?_)
        refine CW.cond (.tmp rfl) (fun h101 => ?_) (fun h101 => ?_)
        ·first | replace h101 := of_decide_eq_true h101 | replace h101 := of_decide_eq_false h101 | skip
         have hfl2 := filt_len (fun f : Fact => !decide (f.Time < tt)) (histL (ofB ((someL xs).filter kn3) 10).Processes [] o2) k
         have hfl : (((histL (ofB ((someL xs).filter kn3) 10).Processes [] o1).filter fun f => decide (f.Time < tt)) ++ ((histL (ofB ((someL xs).filter kn3) 10).Processes [] o2).take k).filter fun f => !decide (f.Time < tt)).length ≤ 200000 := by rw [List.length_append]; omega
         refine CW.region (LW.p (PEv.move (.tmp rfl)) rfl rfl rfl (LW.p (PEv.move (.tmp rfl)) rfl rfl rfl (LW.p (PEv.move (.tmp rfl)) rfl rfl rfl ?_)))
         refine LW.p (PEv.indexAddr' Tryz.underlying22 Tryz.sizeOf46 (.tmp rfl) (.tmp rfl) (by omega) ay) rfl rfl rfl ?_
         refine LW.p (PEv.loadA Tryz.isAgg46 Tryz.sizeOf46 rfl (.tmp rfl) (hcy)) rfl rfl rfl ?_
         refine LW.r (REv.buildSlice (xs := [y]) (enc := Fact.cells) (mk := fun f : Fact => .agg f.cells) Tryz.underlying22 Tryz.sizeOf46 Tryz.zeroValue46 rfl (by decide) (fun _ => rfl) (fun _ => rfl) (.cons (.tmp rfl) .nil) rfl) rfl rfl rfl rfl ?_
         rintro _ w23 ⟨B107, cB107, rfl, NB107, yB107, xB107⟩
         have eB107 := NB107.at_
         have zB107 := NB107.size
         replace hS := hS.up NB107.up
         replace hcy := hcy.up NB107.up
         have hE107 := xB107
         refine LW.r (REv.appendF (enc := Fact.cells) (bytes := 160) (i := Tryz.t46) Tryz.underlying22 (by kernel_rfl) rfl rfl rfl rfl (by decide) (fun _ => rfl) Fact.one (.tmp rfl) (.tmp rfl) (hS.own 0 rfl) (Sl.of_els hE107) (by have := hfl; simp [maxLen]; omega) (by have := hfl; simp; omega)) rfl rfl rfl rfl ?_
         intro v108 w24 Gw24
         have zw24 := Gw24.fr.size
         replace hS := hS.stp 0 rfl Gw24
         change Wx.Sep _ _ _ [_] at hS
         refine LW.p (PEv.assign (.tmp rfl)) rfl rfl rfl (LW.nil (KW.inBlock (KW.then (CW.region (LW.p (PEv.move (.tmp rfl)) rfl rfl rfl ?_)))))
         refine LW.p (PEv.inc (.tmp rfl) (by omega)) rfl rfl rfl ?_
         refine LW.p (PEv.assign (.tmp rfl)) rfl rfl rfl (LW.nil (KW.round ?_))
         first | exact ⟨(k + 1, v108), ⟨by show k + 1 ≤ _; omega, by first | (rw [fp_yes hy (by rw [decide_eq_false (by omega)]; rfl), ← List.append_assoc]; exact hS.take 1) | (rw [fp_no hy (by rw [decide_eq_true (by omega)]; rfl)]; exact hS.take 1)⟩, ⟨rfl, rfl, rfl, rfl, rfl, rfl, rfl, rfl, rfl, rfl, trivial⟩, by show (histL (ofB ((someL xs).filter kn3) 10).Processes [] o2).length - (k + 1) < (histL (ofB ((someL xs).filter kn3) 10).Processes [] o2).length - k; omega⟩ | exact ⟨(k + 1, v), ⟨by show k + 1 ≤ _; omega, by first | (rw [fp_yes hy (by rw [decide_eq_false (by omega)]; rfl), ← List.append_assoc]; exact hS.take 1) | (rw [fp_no hy (by rw [decide_eq_true (by omega)]; rfl)]; exact hS.take 1)⟩, ⟨rfl, rfl, rfl, rfl, rfl, rfl, rfl, rfl, rfl, rfl, trivial⟩, by show (histL (ofB ((someL xs).filter kn3) 10).Processes [] o2).length - (k + 1) < (histL (ofB ((someL xs).filter kn3) 10).Processes [] o2).length - k; omega⟩
        ·first | replace h101 := of_decide_eq_true h101 | replace h101 := of_decide_eq_false h101 | skip
         refine CW.skip (KW.inBlock (KW.then (CW.region (LW.p (PEv.move (.tmp rfl)) rfl rfl rfl ?_))))
         refine LW.p (PEv.inc (.tmp rfl) (by omega)) rfl rfl rfl ?_
         refine LW.p (PEv.assign (.tmp rfl)) rfl rfl rfl (LW.nil (KW.round ?_))
         first | exact ⟨(k + 1, v108), ⟨by show k + 1 ≤ _; omega, by first | (rw [fp_yes hy (by rw [decide_eq_false (by omega)]; rfl), ← List.append_assoc]; exact hS.take 1) | (rw [fp_no hy (by rw [decide_eq_true (by omega)]; rfl)]; exact hS.take 1)⟩, ⟨rfl, rfl, rfl, rfl, rfl, rfl, rfl, rfl, rfl, rfl, trivial⟩, by show (histL (ofB ((someL xs).filter kn3) 10).Processes [] o2).length - (k + 1) < (histL (ofB ((someL xs).filter kn3) 10).Processes [] o2).length - k; omega⟩ | exact ⟨(k + 1, v), ⟨by show k + 1 ≤ _; omega, by first | (rw [fp_yes hy (by rw [decide_eq_false (by omega)]; rfl), ← List.append_assoc]; exact hS.take 1) | (rw [fp_no hy (by rw [decide_eq_true (by omega)]; rfl)]; exact hS.take 1)⟩, ⟨rfl, rfl, rfl, rfl, rfl, rfl, rfl, rfl, rfl, rfl, trivial⟩, by show (histL (ofB ((someL xs).filter kn3) 10).Processes [] o2).length - (k + 1) < (histL (ofB ((someL xs).filter kn3) 10).Processes [] o2).length - k; omega⟩
       ·first | replace h92 := of_decide_eq_true h92 | replace h92 := of_decide_eq_false h92 | skip
        refine CW.exit (KW.then_exit (KW.then_exit (KW.block_hit (KW.then (CW.seq (CW.seq ?_))))))
        have hkl : k = (histL (ofB ((someL xs).filter kn3) 10).Processes [] o2).length := by omega
        rw [hkl, List.take_length] at hS
        have hfd : ((histL (ofB ((someL xs).filter kn3) 10).Processes [] o2).filter fun f => !decide (f.Time < tt)).length ≤ (histL (ofB ((someL xs).filter kn3) 10).Processes [] o2).length := List.length_filter_le _ _
        obtain ⟨adw, cpw, rfl, _⟩ := (hS.own 0 rfl).sl (fun _ => rfl)
        have h2 := tails_two hPw ho1 ho2 hne (t := tt)
        have hlw : (tailsW (ofB ((someL xs).filter kn3) 10).Processes o1 o2 tt).length = (((histL (ofB ((someL xs).filter kn3) 10).Processes [] o1).filter fun f => decide (f.Time < tt)) ++ ((histL (ofB ((someL xs).filter kn3) 10).Processes [] o2).filter fun f => !decide (f.Time < tt))).length := rfl
        rw [hlw] at h2
        refine CW.region (LW.p (PEv.move (.tmp rfl)) rfl rfl rfl (LW.p (PEv.move (.tmp rfl)) rfl rfl rfl ?_))
        refine LW.p (PEv.fa (PEv.eql (.tmp rfl) (.tmp rfl)) (decide_eq_false hne)) rfl rfl rfl ?_
        refine LW.nil (KW.then ?_)
        refine CW.cond_false (.tmp rfl) ?_
        refine CW.skip (KW.then (CW.seq (CW.region (LW.p (PEv.move (.tmp rfl)) rfl rfl rfl (LW.p (PEv.move (.tmp rfl)) rfl rfl rfl ?_)))))
        refine LW.yes rfl rfl rfl rfl rfl rfl ?_
        refine LW.p (PEv.loadA Tryz.isAgg24 Tryz.sizeOf24 (hC2.size) (.tmp rfl) ((hB14.up hS.upd).agg)) rfl rfl rfl ?_
        refine LW.yes rfl rfl rfl rfl rfl rfl ?_
        refine LW.p (PEv.move (.tmp rfl)) rfl rfl rfl ?_
        refine LW.yes rfl rfl rfl rfl rfl rfl ?_
        refine LW.c (enter_call0 (.cons (.tmp rfl) (.cons (.tmp rfl) .nil)) (Tryz.en23)) rfl rfl rfl rfl (History_any bc2 (ofB (((someL xs).filter kn3) ++ [(swD o1 o2 tt)]) 10) o1 _ (hC2.up hS.upd) (by rw [tails_c ho1 ho2 (by omega) hne]; exact Nat.le_of_ble_eq_true rfl) (by rw [tails_p]; exact Nat.le_trans (hSh 0) (by decide))) ?_
        rintro v116 w25 ⟨hO116, uw25⟩
        have zw25 := uw25.size
        replace hS := hS.up uw25
        rw [tails_c ho1 ho2 (by omega) hne, tails_p] at hO116
        have hSl116 := hO116.sl (fun _ => rfl)
        refine LW.yes rfl rfl rfl rfl rfl rfl ?_
        refine LW.p (PEv.move (.tmp rfl)) rfl rfl rfl ?_
        refine LW.yes rfl rfl rfl rfl rfl rfl ?_
        refine LW.c (enter_call0 (.cons (.tmp rfl) (.cons (.tmp rfl) .nil)) (Tryz.en22)) rfl rfl rfl rfl (sameFacts_v v116 _ (histL (ofB ((someL xs).filter kn3) 10).Processes [(swD o1 o2 tt)] o1) (((histL (ofB ((someL xs).filter kn3) 10).Processes [] o1).filter fun f => decide (f.Time < tt)) ++ ((histL (ofB ((someL xs).filter kn3) 10).Processes [] o2).filter fun f => !decide (f.Time < tt))) _ hSl116 ((hS.own 0 rfl).sl (fun _ => rfl)) (Nat.le_trans (histL_len _ _ _) (hSh 0))) ?_
        rintro _ w26 ⟨rfl, uw26⟩
        have zw26 := uw26.size
        replace hS := hS.up uw26
        replace hSl116 := hSl116.up uw26
        rw [tails_one hPw ho1 ho2, show eqFs (tailsW (ofB ((someL xs).filter kn3) 10).Processes o1 o2 tt) (((histL (ofB ((someL xs).filter kn3) 10).Processes [] o1).filter fun f => decide (f.Time < tt)) ++ ((histL (ofB ((someL xs).filter kn3) 10).Processes [] o2).filter fun f => !decide (f.Time < tt))) = true from eqFs_refl _]
        refine LW.p (PEv.pick_and (.tmp rfl) (fun hp => (by first | exact .const _ | exact .tmp rfl | exact .cond rfl (by first | assumption | simp_all)))) rfl rfl rfl ?_
        refine LW.p (PEv.move (.tmp rfl)) rfl rfl rfl ?_
        refine LW.yes rfl rfl rfl rfl rfl rfl ?_
        refine LW.p (PEv.loadA Tryz.isAgg24 Tryz.sizeOf24 (hC2.size) (.tmp rfl) ((hB14.up hS.upd).agg)) rfl rfl rfl ?_
        refine LW.yes rfl rfl rfl rfl rfl rfl ?_
        refine LW.p (PEv.move (.tmp rfl)) rfl rfl rfl ?_
        refine LW.yes rfl rfl rfl rfl rfl rfl ?_
        refine LW.c (enter_call0 (.cons (.tmp rfl) (.cons (.tmp rfl) .nil)) (Tryz.en23)) rfl rfl rfl rfl (History_any bc2 (ofB (((someL xs).filter kn3) ++ [(swD o1 o2 tt)]) 10) o2 _ (hC2.up hS.upd) (by rw [tails_c ho1 ho2 (by omega) hne]; exact Nat.le_of_ble_eq_true rfl) (by rw [tails_p]; exact Nat.le_trans (hSh 0) (by decide))) ?_
        rintro v123 w27 ⟨hO123, uw27⟩
        have zw27 := uw27.size
        replace hS := hS.up uw27
        replace hSl116 := hSl116.up uw27
        rw [tails_c ho1 ho2 (by omega) hne, tails_p] at hO123
        have hSl123 := hO123.sl (fun _ => rfl)
        obtain ⟨ad123, cp123, rfl, _⟩ := hSl123
        refine LW.yes rfl rfl rfl rfl rfl rfl ?_
        refine LW.p (PEv.lenS Tryz.underlying22 (.tmp rfl)) rfl rfl rfl ?_
        refine LW.yes rfl rfl rfl rfl rfl rfl ?_
        refine LW.p (PEv.move (.tmp rfl)) rfl rfl rfl ?_
        refine LW.yes rfl rfl rfl rfl rfl rfl ?_
        refine LW.p (PEv.lenS Tryz.underlying22 (.tmp rfl)) rfl rfl rfl ?_
        refine LW.yes rfl rfl rfl rfl rfl rfl ?_
        refine LW.p (PEv.move (.tmp rfl)) rfl rfl rfl ?_
        refine LW.yes rfl rfl rfl rfl rfl rfl ?_
        refine LW.p (PEv.lenS Tryz.underlying22 (.tmp rfl)) rfl rfl rfl ?_
        refine LW.yes rfl rfl rfl rfl rfl rfl ?_
        refine LW.p (PEv.add (.tmp rfl) (.tmp rfl) (by omega) (by omega)) rfl rfl rfl ?_
        refine LW.yes rfl rfl rfl rfl rfl rfl ?_
        refine LW.p (PEv.move (.tmp rfl)) rfl rfl rfl ?_
        refine LW.yes rfl rfl rfl rfl rfl rfl ?_
        refine LW.p (PEv.lenS Tryz.underlying22 (.tmp rfl)) rfl rfl rfl ?_
        refine LW.yes rfl rfl rfl rfl rfl rfl ?_
        refine LW.p (PEv.sub (.tmp rfl) (.tmp rfl) (by omega) (by omega)) rfl rfl rfl ?_
        refine LW.yes rfl rfl rfl rfl rfl rfl ?_
        refine LW.p (PEv.tr (PEv.eql (.tmp rfl) (.tmp rfl)) (decide_eq_true (by omega))) rfl rfl rfl ?_
        refine LW.p (PEv.pick_and (.tmp rfl) (fun hp => (by first | exact .const _ | exact .tmp rfl | exact .cond rfl (by first | assumption | simp_all)))) rfl rfl rfl ?_
        refine LW.p (PEv.assign (.tmp rfl)) rfl rfl rfl (LW.nil (KW.then (CW.ret ?_)))
        refine KW.ret1 rfl rfl ⟨_, rfl, ?_⟩
        exact ⟨rfl, hUz.trans hS.upd⟩
end Go.Proofs.YthfjagphcekcbaaGreat
end
