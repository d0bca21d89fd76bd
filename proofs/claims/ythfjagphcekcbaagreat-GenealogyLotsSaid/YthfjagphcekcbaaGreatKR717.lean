import Derived.Test.YthfjagphcekcbaaGreatKR716
section
namespace Go.Wx
def wI (n : Int) : Int := IntKind.i64.wrap n
def someB (y : I6) : Fact := { zeroF with Version := wI (1 + pickI (wI (y.a.tdiv 4)) 3), Day := pickI y.b 10, Gone := decide (pickI (wI (y.b.tdiv 10)) 6 = 0), ID := wI (1 + pickI y.c 12), Wafer := wI (1 + pickI y.d 6), Time := pickI y.e 50 }
def someF (y : I6) : Fact := if pickI y.a 4 = 0 ∨ pickI y.a 4 = 1 then { someB y with Kind := 1, Tool := pickI y.f 3, Step := pickI (wI (y.f.tdiv 3)) 4, Recipe := 1, Revision := 1, Until := wI ((someB y).Time + 5) } else if pickI y.a 4 = 2 then { someB y with Kind := 3, Other := wI (1 + (wI ((someB y).Wafer + pickI y.f 5)).tmod 6) } else { someB y with Kind := 4, ID := 0, Lot := wI (1 + pickI y.f 3), Product := wI (1 + pickI (wI (y.f.tdiv 3)) 2) }
def someL (xs : List I6) : List Fact := (xs.take 30).map someF
theorem someF_p {y : I6} (h : pickI y.a 4 = 0 ∨ pickI y.a 4 = 1) : someF y = { someB y with Kind := 1, Tool := pickI y.f 3, Step := pickI (wI (y.f.tdiv 3)) 4, Recipe := 1, Revision := 1, Until := wI ((someB y).Time + 5) } := if_pos h
theorem someF_s {y : I6} (h : pickI y.a 4 = 2) : someF y = { someB y with Kind := 3, Other := wI (1 + (wI ((someB y).Wafer + pickI y.f 5)).tmod 6) } := by unfold someF; rw [if_neg (by omega), if_pos h]
theorem someF_l {y : I6} (h0 : ¬ pickI y.a 4 = 0) (h1 : ¬ pickI y.a 4 = 1) (h2 : ¬ pickI y.a 4 = 2) : someF y = { someB y with Kind := 4, ID := 0, Lot := wI (1 + pickI y.f 3), Product := wI (1 + pickI (wI (y.f.tdiv 3)) 2) } := by unfold someF; rw [if_neg (by omega), if_neg h2]
theorem someL_len (xs : List I6) : (someL xs).length ≤ 30 := by unfold someL; rw [List.length_map, List.length_take]; omega
theorem someL_step {xs : List I6} {k : Nat} {y : I6} (hy : xs[k]? = some y) (hk : k < 30) : someL (xs.take (k + 1)) = someL (xs.take k) ++ [someF y] := by
  have hl := (List.getElem?_eq_some_iff.1 hy).1
  unfold someL
  rw [List.take_take, List.take_take, Nat.min_eq_right (by omega), Nat.min_eq_right (by omega), take_succ_of hy, List.map_append]; rfl
theorem someL_end {xs : List I6} {k : Nat} (h : ¬ (k < xs.length ∧ k < 30)) : someL (xs.take k) = someL xs := by
  unfold someL
  rw [List.take_take]
  congr 1
  by_cases h1 : k < 30
  · rw [Nat.min_eq_right (by omega), List.take_of_length_le (by omega), List.take_of_length_le (by omega)]
  · rw [Nat.min_eq_left (by omega)]
end Go.Wx
namespace Go.Proofs.YthfjagphcekcbaaGreat
open Go.Wx Go.RowKit
set_option maxHeartbeats 2000000 in
theorem Some_any (ad : Option Addr) (cp : Nat) (xs : List I6) (w : World) (hE0 : Els w ad 6 I6.cells xs) : Ret Tryz.prog 14 #[.slice ad xs.length cp] w fun r w' => OwnS w' w.heap.size 46 19 Fact.cells r (someL xs) ∧ Up w w' := by
  obtain ⟨w0, rfl⟩ : ∃ w0, w0 = w := ⟨_, rfl⟩
  have hS := Sep.start no w0
  refine Calls_start (n := 98) (m := 9) Tryz.func14 rfl rfl rfl ?_
  refine CW.seq (CW.region (LW.p (PEv.assign (.const _)) rfl rfl rfl (LW.nil (KW.then (CW.seq (CW.region (LW.p (PEv.assign (.const _)) rfl rfl rfl (LW.nil (KW.then (CW.seq (CW.seq ?_)))))))))))
  replace hS := hS.add (Up.refl _) (A' := aOwn 46 19 Fact.cells (.slice none 0 0) ([] : List Fact)) (OwnS.nil _ _ _ _ _) (fun i h => by cases h)
  change Wx.Sep _ _ _ [_] at hS
  refine CW.region (LW.p (PEv.assign (.const _)) rfl rfl rfl (LW.nil (KW.then (CW.block ?_))))
  refine CW.loopB (σ := Nat × Go.Value) (fun s w => (s.1 ≤ xs.length ∧ s.1 ≤ 30) ∧ (Wx.Sep no w0 w [aOwn 46 19 Fact.cells s.2 (someL (xs.take s.1))])) (fun s => [(4, .eq (vi (s.1 : Int))), (3, .eq (s.2))]) ([(0, .eq _), (2, .eq _)]) (fun s => xs.length - s.1) (0, .slice none 0 0) ?_ ⟨rfl, rfl, rfl, rfl, trivial⟩ ?_
  ·exact ⟨⟨Nat.zero_le _, Nat.zero_le _⟩, hS⟩
  ·rintro ⟨k, v⟩ w1 ⟨hk, hS⟩
   dsimp only at hk hS
   change CW _ _ _ _ _ _ _ ([(4, .eq (vi (k : Int))), (3, .eq (v))] ++ _) _
   refine CW.seq (CW.seq ?_)
   skip
   refine CW.region (LW.p (PEv.move (.tmp rfl)) rfl rfl rfl (LW.p (PEv.move (.tmp rfl)) rfl rfl rfl ?_))
   refine LW.p (PEv.lenS Tryz.underlying25 (.tmp rfl)) rfl rfl rfl ?_
   refine LW.p (PEv.lss (.tmp rfl) (.tmp rfl)) rfl rfl rfl ?_
   refine LW.p (PEv.move (.tmp rfl)) rfl rfl rfl ?_
   refine LW.g rfl rfl rfl rfl rfl rfl rfl (fun hc => PEv.move (.tmp rfl)) ?_
   refine LW.g rfl rfl rfl rfl rfl rfl rfl (fun hc => PEv.lss (by first | exact .tmp rfl | exact .cond rfl (by first | assumption | simp_all)) (.const _)) ?_
   refine LW.p (PEv.pick_and (.tmp rfl) (fun hp => (by first | exact .const _ | exact .tmp rfl | exact .cond rfl (by first | assumption | simp_all)))) rfl rfl rfl ?_
   refine LW.nil (KW.then ?_)
   refine CW.cond (.tmp rfl) (fun h14 => ?_) (fun h14 => ?_)
   ·first | replace h14 := of_decide_eq_true h14 | replace h14 := of_decide_eq_false h14 | skip
    refine CW.skip (KW.then (CW.seq (CW.block (CW.seq ?_))))
    have hE := hE0.up hS.upd
    have hkl : k < xs.length ∧ k < 30 := by simp at h14; omega
    refine CW.region (LW.p (PEv.move (.tmp rfl)) rfl rfl rfl (LW.p (PEv.move (.tmp rfl)) rfl rfl rfl ?_))
    obtain ⟨y, hy⟩ := getElem?_of_lt (xs := xs) (i := k) (by omega)
    obtain ⟨By, oy, ay, hcy⟩ := hE _ y hy
    refine LW.p (PEv.indexAddr' Tryz.underlying25 Tryz.sizeOf67 (.tmp rfl) (.tmp rfl) (by omega) ay) rfl rfl rfl ?_
    refine LW.p (PEv.loadA Tryz.isAgg67 Tryz.sizeOf67 rfl (.tmp rfl) (hcy)) rfl rfl rfl ?_
    refine LW.r (REv.allocA Tryz.zeroValue67) rfl rfl rfl rfl ?_
    rintro _ w2 ⟨B5, rfl, MB5⟩
    refine LW.s (SEv.storeA Tryz.sizeOf67 rfl (.tmp rfl) (.tmp rfl) (I6.one _) MB5.blk rfl) rfl rfl rfl ?_
    intro w3 LB5
    have NB5 := MB5.set LB5
    clear LB5 MB5
    have eB5 := NB5.at_
    have zB5 := NB5.size
    replace hcy := hcy.up NB5.up
    replace hS := hS.addB NB5
    change Wx.Sep _ _ _ [_, _] at hS
    refine LW.nil (KW.then (CW.seq ?_))
    refine CW.free 26 [.eq (.pointer (some ⟨B5, 0, none⟩)), .eq (vi (y.a)), .eq (vi (wI (y.a.tdiv 4))), .eq (vi (pickI (wI (y.a.tdiv 4)) 3)), .eq (vi (wI (1 + pickI (wI (y.a.tdiv 4)) 3))), .eq (.pointer (some ⟨B5, 1, none⟩)), .eq (vi (y.b)), .eq (vi (pickI y.b 10)), .eq (.pointer (some ⟨B5, 1, none⟩)), .eq (vi (y.b)), .eq (vi (wI (y.b.tdiv 10))), .eq (vi (pickI (wI (y.b.tdiv 10)) 6)), .eq (.bool (decide (pickI (wI (y.b.tdiv 10)) 6 = 0))), .eq (.pointer (some ⟨B5, 2, none⟩)), .eq (vi (y.c)), .eq (vi (pickI y.c 12)), .eq (vi (wI (1 + pickI y.c 12))), .eq (.pointer (some ⟨B5, 3, none⟩)), .eq (vi (y.d)), .eq (vi (pickI y.d 6)), .eq (vi (wI (1 + pickI y.d 6))), .eq (.pointer (some ⟨B5, 4, none⟩)), .eq (vi (y.e)), .eq (vi (pickI y.e 50)), .eq (.agg (someB y).cells), .pred fun v W => ∃ B, v = .pointer (some ⟨B, 0, none⟩) ∧ w3.drew.heap.size ≤ B ∧ Blk W B zeroF.cells 46] [6, 45] (by kernel_rfl) rfl (by kernel_rfl) (by kernel_rfl) (by kernel_rfl) (by kernel_rfl) (by kernel_rfl) (by kernel_rfl) (by kernel_rfl) ⟨PhU.eq _, PhU.eq _, PhU.eq _, PhU.eq _, PhU.eq _, PhU.eq _, PhU.eq _, PhU.eq _, PhU.eq _, PhU.eq _, PhU.eq _, PhU.eq _, PhU.eq _, PhU.eq _, PhU.eq _, PhU.eq _, PhU.eq _, PhU.eq _, PhU.eq _, PhU.eq _, PhU.eq _, PhU.eq _, PhU.eq _, PhU.eq _, PhU.eq _, PhU.pred fun _ _ _ h u => let ⟨B, e, hz, hb⟩ := h; ⟨B, e, hz, hb.up u⟩, trivial⟩ ?_ ?_
    ·intro W hU0
     have hU := (Up.drew w3).trans hU0
     have zU0 := hU0.size
     refine allL.cons ⟨rfl, TU.p (PEv.indexArr (j := 0) Tryz.underlying67 Tryz.sizeOf3 (.tmp rfl) (.const _) (by decide)) rfl⟩ ?_
     refine allL.cons ⟨rfl, TU.p (PEv.load Tryz.isAgg3 (.tmp rfl) (((hS.blk 1 rfl).up hU).celln rfl)) rfl⟩ ?_
     refine allL.cons ⟨rfl, TU.p (PEv.quo (.tmp rfl) (.const _) (by decide)) rfl⟩ ?_
     refine allL.cons ⟨rfl, TU.c (enter_call0 (.cons (.tmp rfl) (.cons (.const _) .nil)) (Tryz.en37)) (pickR_any _ _ _ (by decide)) (by rintro _ W1 ⟨rfl, u⟩; exact ⟨u, rfl⟩)⟩ ?_
     refine allL.cons ⟨rfl, TU.p (PEv.add_w (.const _) (.tmp rfl)) rfl⟩ ?_
     refine allL.cons ⟨rfl, TU.p (PEv.indexArr (j := 1) Tryz.underlying67 Tryz.sizeOf3 (.tmp rfl) (.const _) (by decide)) rfl⟩ ?_
     refine allL.cons ⟨rfl, TU.p (PEv.load Tryz.isAgg3 (.tmp rfl) (((hS.blk 1 rfl).up hU).celln rfl)) rfl⟩ ?_
     refine allL.cons ⟨rfl, TU.c (enter_call0 (.cons (.tmp rfl) (.cons (.const _) .nil)) (Tryz.en37)) (pickR_any _ _ _ (by decide)) (by rintro _ W1 ⟨rfl, u⟩; exact ⟨u, rfl⟩)⟩ ?_
     refine allL.cons ⟨rfl, TU.p (PEv.indexArr (j := 1) Tryz.underlying67 Tryz.sizeOf3 (.tmp rfl) (.const _) (by decide)) rfl⟩ ?_
     refine allL.cons ⟨rfl, TU.p (PEv.load Tryz.isAgg3 (.tmp rfl) (((hS.blk 1 rfl).up hU).celln rfl)) rfl⟩ ?_
     refine allL.cons ⟨rfl, TU.p (PEv.quo (.tmp rfl) (.const _) (by decide)) rfl⟩ ?_
     refine allL.cons ⟨rfl, TU.c (enter_call0 (.cons (.tmp rfl) (.cons (.const _) .nil)) (Tryz.en37)) (pickR_any _ _ _ (by decide)) (by rintro _ W1 ⟨rfl, u⟩; exact ⟨u, rfl⟩)⟩ ?_
     refine allL.cons ⟨rfl, TU.p (PEv.eql (.tmp rfl) (.const _)) rfl⟩ ?_
     refine allL.cons ⟨rfl, TU.p (PEv.indexArr (j := 2) Tryz.underlying67 Tryz.sizeOf3 (.tmp rfl) (.const _) (by decide)) rfl⟩ ?_
     refine allL.cons ⟨rfl, TU.p (PEv.load Tryz.isAgg3 (.tmp rfl) (((hS.blk 1 rfl).up hU).celln rfl)) rfl⟩ ?_
     refine allL.cons ⟨rfl, TU.c (enter_call0 (.cons (.tmp rfl) (.cons (.const _) .nil)) (Tryz.en37)) (pickR_any _ _ _ (by decide)) (by rintro _ W1 ⟨rfl, u⟩; exact ⟨u, rfl⟩)⟩ ?_
     refine allL.cons ⟨rfl, TU.p (PEv.add_w (.const _) (.tmp rfl)) rfl⟩ ?_
     refine allL.cons ⟨rfl, TU.p (PEv.indexArr (j := 3) Tryz.underlying67 Tryz.sizeOf3 (.tmp rfl) (.const _) (by decide)) rfl⟩ ?_
     refine allL.cons ⟨rfl, TU.p (PEv.load Tryz.isAgg3 (.tmp rfl) (((hS.blk 1 rfl).up hU).celln rfl)) rfl⟩ ?_
     refine allL.cons ⟨rfl, TU.c (enter_call0 (.cons (.tmp rfl) (.cons (.const _) .nil)) (Tryz.en37)) (pickR_any _ _ _ (by decide)) (by rintro _ W1 ⟨rfl, u⟩; exact ⟨u, rfl⟩)⟩ ?_
     refine allL.cons ⟨rfl, TU.p (PEv.add_w (.const _) (.tmp rfl)) rfl⟩ ?_
     refine allL.cons ⟨rfl, TU.p (PEv.indexArr (j := 4) Tryz.underlying67 Tryz.sizeOf3 (.tmp rfl) (.const _) (by decide)) rfl⟩ ?_
     refine allL.cons ⟨rfl, TU.p (PEv.load Tryz.isAgg3 (.tmp rfl) (((hS.blk 1 rfl).up hU).celln rfl)) rfl⟩ ?_
     refine allL.cons ⟨rfl, TU.c (enter_call0 (.cons (.tmp rfl) (.cons (.const _) .nil)) (Tryz.en37)) (pickR_any _ _ _ (by decide)) (by rintro _ W1 ⟨rfl, u⟩; exact ⟨u, rfl⟩)⟩ ?_
     refine allL.cons ⟨rfl, TU.p (PEv.build (cs := (someB y).cells) Tryz.underlying46 Tryz.zeroValue46 Tryz.places46 (.cons (.tmp rfl) (.cons (.tmp rfl) (.cons (.tmp rfl) (.cons (.tmp rfl) (.cons (.tmp rfl) (.cons (.tmp rfl) .nil)))))) rfl) rfl⟩ ?_
     refine allL.cons ⟨rfl, TU.r (REv.allocA Tryz.zeroValue46) (fun v W' h => let ⟨B, e, N⟩ := h; ⟨N.up, B, e, by rw [N.at_]; exact zU0, N.blk⟩)⟩ ?_
     exact allL.nil
    ·intro w4 g hU0 hg
     have hU := (Up.drew w3).trans hU0
     have zw4 := hU.size
     obtain ⟨B6, e6, z6, hB6⟩ : ∃ B, g 6 = .pointer (some ⟨B, 0, none⟩) ∧ w3.drew.heap.size ≤ B ∧ Blk w4 B zeroF.cells 46 := hg 25 _ 6 (by decide) rfl rfl
     have e45 : g 45 = .agg (someB y).cells := hg 24 _ 45 (by decide) rfl rfl
     change LW _ _ _ _ _ _ _ _ ((6, .eq (g 6)) :: (45, .eq (g 45)) :: _) _
     rw [e6, e45]
     clear hg e6 e45
     replace hS := (hS.up (Up.drew _)).add hU0 (A' := aBlk B6 zeroF.cells 46) hB6 (fun i (e : i = B6) => by omega)
     change Wx.Sep no w0 _ [_, _, _] at hS
     refine LW.s (SEv.storeA Tryz.sizeOf46 rfl (.tmp rfl) (.tmp rfl) (Fact.one _) (hS.blk 2 rfl) rfl) rfl rfl rfl ?_
     intro w5 Nw5
     have zw5 := Nw5.size
     replace hS := hS.putB 2 rfl (show Set_ _ w5 _ ((someB y).cells) _ from Nw5)
     change Wx.Sep _ _ _ [_, _, _] at hS
     refine LW.nil (KW.then (CW.seq (CW.seq (CW.region ?_))))
     refine LW.p (PEv.indexArr (j := 0) Tryz.underlying67 Tryz.sizeOf3 (.tmp rfl) (.const _) (by decide)) rfl rfl rfl ?_
     refine LW.p (PEv.load Tryz.isAgg3 (.tmp rfl) ((hS.blk 1 rfl).celln rfl)) rfl rfl rfl ?_
     refine LW.c (enter_call0 (.cons (.tmp rfl) (.cons (.const _) .nil)) (Tryz.en37)) rfl rfl rfl rfl (pickR_any _ _ _ (by decide)) ?_
     rintro _ w6 ⟨rfl, uw6⟩
     have zw6 := uw6.size
     replace hS := hS.up uw6
     refine LW.nil (KW.then (CW.block (CW.seq (CW.seq (CW.region ?_)))))
     refine LW.p (PEv.eql (.tmp rfl) (.const _)) rfl rfl rfl ?_
     refine LW.p (PEv.assign (.tmp rfl)) rfl rfl rfl (LW.nil (KW.then ?_))
     refine CW.cond (.tmp rfl) (fun h62 => ?_) (fun h62 => ?_)
     ·first | replace h62 := of_decide_eq_true h62 | replace h62 := of_decide_eq_false h62 | skip
      refine CW.skip (KW.then ?_)
      refine CW.cond (.tmp rfl) (fun h62 => ?_) (fun h62 => ?_)
      ·first | replace h62 := of_decide_eq_true h62 | replace h62 := of_decide_eq_false h62 | skip
       refine CW.seq (CW.region ?_)
       refine LW.p (PEv.fieldAddr (off := 0) Tryz.underlying46 rfl rfl Tryz.sizeOf3 rfl (.tmp rfl)) rfl rfl rfl ?_
       refine LW.s (SEv.store Tryz.sizeOf3 (.tmp rfl) (.const _) rfl (hS.blk 2 rfl) (Nat.le_of_ble_eq_true rfl)) rfl rfl rfl ?_
       intro w7 Nw7
       have zw7 := Nw7.size
       replace hS := hS.putB 2 rfl (show Set_ _ w7 _ (({ someB y with Kind := 1 } : Fact).cells) _ from Nw7)
       change Wx.Sep _ _ _ [_, _, _] at hS
       refine LW.nil (KW.then (CW.seq (CW.region ?_)))
       refine LW.p (PEv.indexArr (j := 5) Tryz.underlying67 Tryz.sizeOf3 (.tmp rfl) (.const _) (by decide)) rfl rfl rfl ?_
       refine LW.p (PEv.load Tryz.isAgg3 (.tmp rfl) ((hS.blk 1 rfl).celln rfl)) rfl rfl rfl ?_
       refine LW.c (enter_call0 (.cons (.tmp rfl) (.cons (.const _) .nil)) (Tryz.en37)) rfl rfl rfl rfl (pickR_any _ _ _ (by decide)) ?_
       rintro _ w8 ⟨rfl, uw8⟩
       have zw8 := uw8.size
       replace hS := hS.up uw8
       refine LW.p (PEv.fieldAddr (off := 11) Tryz.underlying46 rfl rfl Tryz.sizeOf3 rfl (.tmp rfl)) rfl rfl rfl ?_
       refine LW.s (SEv.store Tryz.sizeOf3 (.tmp rfl) (.tmp rfl) rfl (hS.blk 2 rfl) (Nat.le_of_ble_eq_true rfl)) rfl rfl rfl ?_
       intro w9 Nw9
       have zw9 := Nw9.size
       replace hS := hS.putB 2 rfl (show Set_ _ w9 _ (({ someB y with Kind := 1, Tool := pickI y.f 3 } : Fact).cells) _ from Nw9)
       change Wx.Sep _ _ _ [_, _, _] at hS
       refine LW.nil (KW.then (CW.seq (CW.region ?_)))
       refine LW.p (PEv.indexArr (j := 5) Tryz.underlying67 Tryz.sizeOf3 (.tmp rfl) (.const _) (by decide)) rfl rfl rfl ?_
       refine LW.p (PEv.load Tryz.isAgg3 (.tmp rfl) ((hS.blk 1 rfl).celln rfl)) rfl rfl rfl ?_
       refine LW.p (PEv.quo (.tmp rfl) (.const _) (by decide)) rfl rfl rfl ?_
       refine LW.c (enter_call0 (.cons (.tmp rfl) (.cons (.const _) .nil)) (Tryz.en37)) rfl rfl rfl rfl (pickR_any _ _ _ (by decide)) ?_
       rintro _ w10 ⟨rfl, uw10⟩
       have zw10 := uw10.size
       replace hS := hS.up uw10
       refine LW.p (PEv.fieldAddr (off := 13) Tryz.underlying46 rfl rfl Tryz.sizeOf3 rfl (.tmp rfl)) rfl rfl rfl ?_
       refine LW.s (SEv.store Tryz.sizeOf3 (.tmp rfl) (.tmp rfl) rfl (hS.blk 2 rfl) (Nat.le_of_ble_eq_true rfl)) rfl rfl rfl ?_
       intro w11 Nw11
       have zw11 := Nw11.size
       replace hS := hS.putB 2 rfl (show Set_ _ w11 _ (({ someB y with Kind := 1, Tool := pickI y.f 3, Step := pickI (wI (y.f.tdiv 3)) 4 } : Fact).cells) _ from Nw11)
       change Wx.Sep _ _ _ [_, _, _] at hS
       refine LW.nil (KW.then (CW.seq (CW.region ?_)))
       refine LW.p (PEv.fieldAddr (off := 14) Tryz.underlying46 rfl rfl Tryz.sizeOf3 rfl (.tmp rfl)) rfl rfl rfl ?_
       refine LW.s (SEv.store Tryz.sizeOf3 (.tmp rfl) (.const _) rfl (hS.blk 2 rfl) (Nat.le_of_ble_eq_true rfl)) rfl rfl rfl ?_
       intro w12 Nw12
       have zw12 := Nw12.size
       replace hS := hS.putB 2 rfl (show Set_ _ w12 _ (({ someB y with Kind := 1, Tool := pickI y.f 3, Step := pickI (wI (y.f.tdiv 3)) 4, Recipe := 1 } : Fact).cells) _ from Nw12)
       change Wx.Sep _ _ _ [_, _, _] at hS
       refine LW.nil (KW.then (CW.seq (CW.region ?_)))
       refine LW.p (PEv.fieldAddr (off := 15) Tryz.underlying46 rfl rfl Tryz.sizeOf3 rfl (.tmp rfl)) rfl rfl rfl ?_
       refine LW.s (SEv.store Tryz.sizeOf3 (.tmp rfl) (.const _) rfl (hS.blk 2 rfl) (Nat.le_of_ble_eq_true rfl)) rfl rfl rfl ?_
       intro w13 Nw13
       have zw13 := Nw13.size
       replace hS := hS.putB 2 rfl (show Set_ _ w13 _ (({ someB y with Kind := 1, Tool := pickI y.f 3, Step := pickI (wI (y.f.tdiv 3)) 4, Recipe := 1, Revision := 1 } : Fact).cells) _ from Nw13)
       change Wx.Sep _ _ _ [_, _, _] at hS
       refine LW.nil (KW.then (CW.region ?_))
       refine LW.p (PEv.fieldAddr (off := 5) Tryz.underlying46 rfl rfl Tryz.sizeOf3 rfl (.tmp rfl)) rfl rfl rfl ?_
       refine LW.p (PEv.load Tryz.isAgg3 (.tmp rfl) ((hS.blk 2 rfl).celln rfl)) rfl rfl rfl ?_
       refine LW.p (PEv.add_w (.tmp rfl) (.const _)) rfl rfl rfl ?_
       refine LW.p (PEv.fieldAddr (off := 6) Tryz.underlying46 rfl rfl Tryz.sizeOf3 rfl (.tmp rfl)) rfl rfl rfl ?_
       refine LW.s (SEv.store Tryz.sizeOf3 (.tmp rfl) (.tmp rfl) rfl (hS.blk 2 rfl) (Nat.le_of_ble_eq_true rfl)) rfl rfl rfl ?_
       intro w14 Nw14
       have zw14 := Nw14.size
       replace hS := hS.putB 2 rfl (show Set_ _ w14 _ (({ someB y with Kind := 1, Tool := pickI y.f 3, Step := pickI (wI (y.f.tdiv 3)) 4, Recipe := 1, Revision := 1, Until := wI ((someB y).Time + 5) } : Fact).cells) _ from Nw14)
       change Wx.Sep _ _ _ [_, _, _] at hS
       refine LW.nil (KW.inBlock (KW.then ?_))
       first | rw [← someF_p (by omega)] at hS | rw [← someF_s (by omega)] at hS | rw [← someF_l (by omega) (by omega) (by omega)] at hS
       have hsl := someL_len (xs.take k)
       refine CW.region (LW.p (PEv.move (.tmp rfl)) rfl rfl rfl ?_)
       refine LW.p (PEv.loadA Tryz.isAgg46 Tryz.sizeOf46 rfl (.tmp rfl) ((hS.blk 2 rfl).agg)) rfl rfl rfl ?_
       refine LW.r (REv.buildSlice (xs := [someF y]) (enc := Fact.cells) (mk := fun f : Fact => .agg f.cells) Tryz.underlying22 Tryz.sizeOf46 Tryz.zeroValue46 rfl (by decide) (fun _ => rfl) (fun _ => rfl) (.cons (.tmp rfl) .nil) rfl) rfl rfl rfl rfl ?_
       rintro _ w15 ⟨B95, cB95, rfl, NB95, yB95, xB95⟩
       have eB95 := NB95.at_
       have zB95 := NB95.size
       replace hS := hS.up NB95.up
       have hE95 := xB95
       refine LW.r (REv.appendF (enc := Fact.cells) (bytes := 160) (i := Tryz.t46) Tryz.underlying22 (by kernel_rfl) rfl rfl rfl rfl (by decide) (fun _ => rfl) Fact.one (.tmp rfl) (.tmp rfl) (hS.own 0 rfl) (Sl.of_els hE95) (by have := hsl; simp [maxLen]; omega) (by have := hsl; simp; omega)) rfl rfl rfl rfl ?_
       intro v96 w16 Gw16
       have zw16 := Gw16.fr.size
       replace hS := hS.stp 0 rfl Gw16
       change Wx.Sep _ _ _ [_, _, _] at hS
       refine LW.p (PEv.assign (.tmp rfl)) rfl rfl rfl (LW.nil (KW.inBlock (KW.then (CW.region (LW.p (PEv.move (.tmp rfl)) rfl rfl rfl ?_)))))
       refine LW.p (PEv.inc (.tmp rfl) (by omega)) rfl rfl rfl ?_
       refine LW.p (PEv.assign (.tmp rfl)) rfl rfl rfl (LW.nil (KW.round ?_))
       exact ⟨(k + 1, v96), ⟨⟨by show k + 1 ≤ _; omega, by show k + 1 ≤ _; omega⟩, by rw [someL_step hy hkl.2]; exact hS.take 1⟩, ⟨rfl, rfl, rfl, rfl, trivial⟩, by show xs.length - (k + 1) < xs.length - k; omega⟩
      ·first | replace h62 := of_decide_eq_true h62 | replace h62 := of_decide_eq_false h62 | skip
       refine CW.seq (CW.region ?_)
       refine LW.p (PEv.eql (.tmp rfl) (.const _)) rfl rfl rfl ?_
       refine LW.p (PEv.assign (.tmp rfl)) rfl rfl rfl (LW.nil (KW.then ?_))
       refine CW.cond (.tmp rfl) (fun h81 => ?_) (fun h81 => ?_)
       ·first | replace h81 := of_decide_eq_true h81 | replace h81 := of_decide_eq_false h81 | skip
        refine CW.seq (CW.region ?_)
        refine LW.p (PEv.fieldAddr (off := 0) Tryz.underlying46 rfl rfl Tryz.sizeOf3 rfl (.tmp rfl)) rfl rfl rfl ?_
        refine LW.s (SEv.store Tryz.sizeOf3 (.tmp rfl) (.const _) rfl (hS.blk 2 rfl) (Nat.le_of_ble_eq_true rfl)) rfl rfl rfl ?_
        intro w17 Nw17
        have zw17 := Nw17.size
        replace hS := hS.putB 2 rfl (show Set_ _ w17 _ (({ someB y with Kind := 3 } : Fact).cells) _ from Nw17)
        change Wx.Sep _ _ _ [_, _, _] at hS
        refine LW.nil (KW.then ?_)
        refine CW.draws_then 8 (by kernel_rfl) (by kernel_rfl) (by kernel_rfl) (by kernel_rfl) (by kernel_rfl) rfl rfl ?_
        refine HW.p (PEv.fieldAddr (off := 7) Tryz.underlying46 rfl rfl Tryz.sizeOf3 rfl (.tmp rfl)) rfl rfl ?_
        refine HW.p (PEv.load Tryz.isAgg3 (.tmp rfl) ((hS.blk 2 rfl).celln rfl)) rfl rfl ?_
        refine HW.p (PEv.indexArr (j := 5) Tryz.underlying67 Tryz.sizeOf3 (.tmp rfl) (.const _) (by decide)) rfl rfl ?_
        refine HW.p (PEv.load Tryz.isAgg3 (.tmp rfl) ((hS.blk 1 rfl).celln rfl)) rfl rfl ?_
        refine HW.c (fun a w _ ha => enter_call0 (.cons (.tmp rfl) (.cons (.const _) .nil)) (Tryz.en37) a ha) rfl rfl (fun w hu => pickR_any _ _ w (by decide)) ?_
        refine HW.p (PEv.add_w (.tmp rfl) (.tmp rfl)) rfl rfl ?_
        refine HW.p (PEv.rem (.tmp rfl) (.const _) (by decide)) rfl rfl ?_
        refine HW.p (PEv.add_w (.const _) (.tmp rfl)) rfl rfl ?_
        refine HW.nil ?_
        intro w18 uw18
        have zw18 := uw18.size
        replace hS := hS.up uw18
        refine LW.p (PEv.fieldAddr (off := 8) Tryz.underlying46 rfl rfl Tryz.sizeOf3 rfl (.tmp rfl)) rfl rfl rfl ?_
        refine LW.s (SEv.store Tryz.sizeOf3 (.tmp rfl) (.tmp rfl) rfl (hS.blk 2 rfl) (Nat.le_of_ble_eq_true rfl)) rfl rfl rfl ?_
        intro w19 Nw19
        have zw19 := Nw19.size
        replace hS := hS.putB 2 rfl (show Set_ _ w19 _ (({ someB y with Kind := 3, Other := wI (1 + (wI ((someB y).Wafer + pickI y.f 5)).tmod 6) } : Fact).cells) _ from Nw19)
        change Wx.Sep _ _ _ [_, _, _] at hS
        refine LW.nil (KW.inBlock (KW.then ?_))
        first | rw [← someF_p (by omega)] at hS | rw [← someF_s (by omega)] at hS | rw [← someF_l (by omega) (by omega) (by omega)] at hS
        have hsl := someL_len (xs.take k)
        refine CW.region (LW.p (PEv.move (.tmp rfl)) rfl rfl rfl ?_)
        refine LW.p (PEv.loadA Tryz.isAgg46 Tryz.sizeOf46 rfl (.tmp rfl) ((hS.blk 2 rfl).agg)) rfl rfl rfl ?_
        refine LW.r (REv.buildSlice (xs := [someF y]) (enc := Fact.cells) (mk := fun f : Fact => .agg f.cells) Tryz.underlying22 Tryz.sizeOf46 Tryz.zeroValue46 rfl (by decide) (fun _ => rfl) (fun _ => rfl) (.cons (.tmp rfl) .nil) rfl) rfl rfl rfl rfl ?_
        rintro _ w20 ⟨B95, cB95, rfl, NB95, yB95, xB95⟩
        have eB95 := NB95.at_
        have zB95 := NB95.size
        replace hS := hS.up NB95.up
        have hE95 := xB95
        refine LW.r (REv.appendF (enc := Fact.cells) (bytes := 160) (i := Tryz.t46) Tryz.underlying22 (by kernel_rfl) rfl rfl rfl rfl (by decide) (fun _ => rfl) Fact.one (.tmp rfl) (.tmp rfl) (hS.own 0 rfl) (Sl.of_els hE95) (by have := hsl; simp [maxLen]; omega) (by have := hsl; simp; omega)) rfl rfl rfl rfl ?_
        intro v96 w21 Gw21
        have zw21 := Gw21.fr.size
        replace hS := hS.stp 0 rfl Gw21
        change Wx.Sep _ _ _ [_, _, _] at hS
        refine LW.p (PEv.assign (.tmp rfl)) rfl rfl rfl (LW.nil (KW.inBlock (KW.then (CW.region (LW.p (PEv.move (.tmp rfl)) rfl rfl rfl ?_)))))
        refine LW.p (PEv.inc (.tmp rfl) (by omega)) rfl rfl rfl ?_
        refine LW.p (PEv.assign (.tmp rfl)) rfl rfl rfl (LW.nil (KW.round ?_))
        exact ⟨(k + 1, v96), ⟨⟨by show k + 1 ≤ _; omega, by show k + 1 ≤ _; omega⟩, by rw [someL_step hy hkl.2]; exact hS.take 1⟩, ⟨rfl, rfl, rfl, rfl, trivial⟩, by show xs.length - (k + 1) < xs.length - k; omega⟩
       ·first | replace h81 := of_decide_eq_true h81 | replace h81 := of_decide_eq_false h81 | skip
        refine CW.seq (CW.region ?_)
        refine LW.p (PEv.fieldAddr (off := 0) Tryz.underlying46 rfl rfl Tryz.sizeOf3 rfl (.tmp rfl)) rfl rfl rfl ?_
        refine LW.s (SEv.store Tryz.sizeOf3 (.tmp rfl) (.const _) rfl (hS.blk 2 rfl) (Nat.le_of_ble_eq_true rfl)) rfl rfl rfl ?_
        intro w22 Nw22
        have zw22 := Nw22.size
        replace hS := hS.putB 2 rfl (show Set_ _ w22 _ (({ someB y with Kind := 4 } : Fact).cells) _ from Nw22)
        change Wx.Sep _ _ _ [_, _, _] at hS
        refine LW.nil (KW.then (CW.seq (CW.region ?_)))
        refine LW.p (PEv.fieldAddr (off := 1) Tryz.underlying46 rfl rfl Tryz.sizeOf3 rfl (.tmp rfl)) rfl rfl rfl ?_
        refine LW.s (SEv.store Tryz.sizeOf3 (.tmp rfl) (.const _) rfl (hS.blk 2 rfl) (Nat.le_of_ble_eq_true rfl)) rfl rfl rfl ?_
        intro w23 Nw23
        have zw23 := Nw23.size
        replace hS := hS.putB 2 rfl (show Set_ _ w23 _ (({ someB y with Kind := 4, ID := 0 } : Fact).cells) _ from Nw23)
        change Wx.Sep _ _ _ [_, _, _] at hS
        refine LW.nil (KW.then (CW.seq (CW.region ?_)))
        refine LW.p (PEv.indexArr (j := 5) Tryz.underlying67 Tryz.sizeOf3 (.tmp rfl) (.const _) (by decide)) rfl rfl rfl ?_
        refine LW.p (PEv.load Tryz.isAgg3 (.tmp rfl) ((hS.blk 1 rfl).celln rfl)) rfl rfl rfl ?_
        refine LW.c (enter_call0 (.cons (.tmp rfl) (.cons (.const _) .nil)) (Tryz.en37)) rfl rfl rfl rfl (pickR_any _ _ _ (by decide)) ?_
        rintro _ w24 ⟨rfl, uw24⟩
        have zw24 := uw24.size
        replace hS := hS.up uw24
        refine LW.p (PEv.add_w (.const _) (.tmp rfl)) rfl rfl rfl ?_
        refine LW.p (PEv.fieldAddr (off := 9) Tryz.underlying46 rfl rfl Tryz.sizeOf3 rfl (.tmp rfl)) rfl rfl rfl ?_
        refine LW.s (SEv.store Tryz.sizeOf3 (.tmp rfl) (.tmp rfl) rfl (hS.blk 2 rfl) (Nat.le_of_ble_eq_true rfl)) rfl rfl rfl ?_
        intro w25 Nw25
        have zw25 := Nw25.size
        replace hS := hS.putB 2 rfl (show Set_ _ w25 _ (({ someB y with Kind := 4, ID := 0, Lot := wI (1 + pickI y.f 3) } : Fact).cells) _ from Nw25)
        change Wx.Sep _ _ _ [_, _, _] at hS
        refine LW.nil (KW.then (CW.region ?_))
        refine LW.p (PEv.indexArr (j := 5) Tryz.underlying67 Tryz.sizeOf3 (.tmp rfl) (.const _) (by decide)) rfl rfl rfl ?_
        refine LW.p (PEv.load Tryz.isAgg3 (.tmp rfl) ((hS.blk 1 rfl).celln rfl)) rfl rfl rfl ?_
        refine LW.p (PEv.quo (.tmp rfl) (.const _) (by decide)) rfl rfl rfl ?_
        refine LW.c (enter_call0 (.cons (.tmp rfl) (.cons (.const _) .nil)) (Tryz.en37)) rfl rfl rfl rfl (pickR_any _ _ _ (by decide)) ?_
        rintro _ w26 ⟨rfl, uw26⟩
        have zw26 := uw26.size
        replace hS := hS.up uw26
        refine LW.p (PEv.add_w (.const _) (.tmp rfl)) rfl rfl rfl ?_
        refine LW.p (PEv.fieldAddr (off := 10) Tryz.underlying46 rfl rfl Tryz.sizeOf3 rfl (.tmp rfl)) rfl rfl rfl ?_
        refine LW.s (SEv.store Tryz.sizeOf3 (.tmp rfl) (.tmp rfl) rfl (hS.blk 2 rfl) (Nat.le_of_ble_eq_true rfl)) rfl rfl rfl ?_
        intro w27 Nw27
        have zw27 := Nw27.size
        replace hS := hS.putB 2 rfl (show Set_ _ w27 _ (({ someB y with Kind := 4, ID := 0, Lot := wI (1 + pickI y.f 3), Product := wI (1 + pickI (wI (y.f.tdiv 3)) 2) } : Fact).cells) _ from Nw27)
        change Wx.Sep _ _ _ [_, _, _] at hS
        refine LW.nil (KW.inBlock (KW.then ?_))
        first | rw [← someF_p (by omega)] at hS | rw [← someF_s (by omega)] at hS | rw [← someF_l (by omega) (by omega) (by omega)] at hS
        have hsl := someL_len (xs.take k)
        refine CW.region (LW.p (PEv.move (.tmp rfl)) rfl rfl rfl ?_)
        refine LW.p (PEv.loadA Tryz.isAgg46 Tryz.sizeOf46 rfl (.tmp rfl) ((hS.blk 2 rfl).agg)) rfl rfl rfl ?_
        refine LW.r (REv.buildSlice (xs := [someF y]) (enc := Fact.cells) (mk := fun f : Fact => .agg f.cells) Tryz.underlying22 Tryz.sizeOf46 Tryz.zeroValue46 rfl (by decide) (fun _ => rfl) (fun _ => rfl) (.cons (.tmp rfl) .nil) rfl) rfl rfl rfl rfl ?_
        rintro _ w28 ⟨B95, cB95, rfl, NB95, yB95, xB95⟩
        have eB95 := NB95.at_
        have zB95 := NB95.size
        replace hS := hS.up NB95.up
        have hE95 := xB95
        refine LW.r (REv.appendF (enc := Fact.cells) (bytes := 160) (i := Tryz.t46) Tryz.underlying22 (by kernel_rfl) rfl rfl rfl rfl (by decide) (fun _ => rfl) Fact.one (.tmp rfl) (.tmp rfl) (hS.own 0 rfl) (Sl.of_els hE95) (by have := hsl; simp [maxLen]; omega) (by have := hsl; simp; omega)) rfl rfl rfl rfl ?_
        intro v96 w29 Gw29
        have zw29 := Gw29.fr.size
        replace hS := hS.stp 0 rfl Gw29
        change Wx.Sep _ _ _ [_, _, _] at hS
        refine LW.p (PEv.assign (.tmp rfl)) rfl rfl rfl (LW.nil (KW.inBlock (KW.then (CW.region (LW.p (PEv.move (.tmp rfl)) rfl rfl rfl ?_)))))
        refine LW.p (PEv.inc (.tmp rfl) (by omega)) rfl rfl rfl ?_
        refine LW.p (PEv.assign (.tmp rfl)) rfl rfl rfl (LW.nil (KW.round ?_))
        exact ⟨(k + 1, v96), ⟨⟨by show k + 1 ≤ _; omega, by show k + 1 ≤ _; omega⟩, by rw [someL_step hy hkl.2]; exact hS.take 1⟩, ⟨rfl, rfl, rfl, rfl, trivial⟩, by show xs.length - (k + 1) < xs.length - k; omega⟩
     ·first | replace h62 := of_decide_eq_true h62 | replace h62 := of_decide_eq_false h62 | skip
      refine CW.region ?_
      refine LW.p (PEv.eql (.tmp rfl) (.const _)) rfl rfl rfl ?_
      refine LW.p (PEv.assign (.tmp rfl)) rfl rfl rfl (LW.nil (KW.then ?_))
      refine CW.cond (.tmp rfl) (fun h62 => ?_) (fun h62 => ?_)
      ·first | replace h62 := of_decide_eq_true h62 | replace h62 := of_decide_eq_false h62 | skip
       refine CW.seq (CW.region ?_)
       refine LW.p (PEv.fieldAddr (off := 0) Tryz.underlying46 rfl rfl Tryz.sizeOf3 rfl (.tmp rfl)) rfl rfl rfl ?_
       refine LW.s (SEv.store Tryz.sizeOf3 (.tmp rfl) (.const _) rfl (hS.blk 2 rfl) (Nat.le_of_ble_eq_true rfl)) rfl rfl rfl ?_
       intro w30 Nw30
       have zw30 := Nw30.size
       replace hS := hS.putB 2 rfl (show Set_ _ w30 _ (({ someB y with Kind := 1 } : Fact).cells) _ from Nw30)
       change Wx.Sep _ _ _ [_, _, _] at hS
       refine LW.nil (KW.then (CW.seq (CW.region ?_)))
       refine LW.p (PEv.indexArr (j := 5) Tryz.underlying67 Tryz.sizeOf3 (.tmp rfl) (.const _) (by decide)) rfl rfl rfl ?_
       refine LW.p (PEv.load Tryz.isAgg3 (.tmp rfl) ((hS.blk 1 rfl).celln rfl)) rfl rfl rfl ?_
       refine LW.c (enter_call0 (.cons (.tmp rfl) (.cons (.const _) .nil)) (Tryz.en37)) rfl rfl rfl rfl (pickR_any _ _ _ (by decide)) ?_
       rintro _ w31 ⟨rfl, uw31⟩
       have zw31 := uw31.size
       replace hS := hS.up uw31
       refine LW.p (PEv.fieldAddr (off := 11) Tryz.underlying46 rfl rfl Tryz.sizeOf3 rfl (.tmp rfl)) rfl rfl rfl ?_
       refine LW.s (SEv.store Tryz.sizeOf3 (.tmp rfl) (.tmp rfl) rfl (hS.blk 2 rfl) (Nat.le_of_ble_eq_true rfl)) rfl rfl rfl ?_
       intro w32 Nw32
       have zw32 := Nw32.size
       replace hS := hS.putB 2 rfl (show Set_ _ w32 _ (({ someB y with Kind := 1, Tool := pickI y.f 3 } : Fact).cells) _ from Nw32)
       change Wx.Sep _ _ _ [_, _, _] at hS
       refine LW.nil (KW.then (CW.seq (CW.region ?_)))
       refine LW.p (PEv.indexArr (j := 5) Tryz.underlying67 Tryz.sizeOf3 (.tmp rfl) (.const _) (by decide)) rfl rfl rfl ?_
       refine LW.p (PEv.load Tryz.isAgg3 (.tmp rfl) ((hS.blk 1 rfl).celln rfl)) rfl rfl rfl ?_
       refine LW.p (PEv.quo (.tmp rfl) (.const _) (by decide)) rfl rfl rfl ?_
       refine LW.c (enter_call0 (.cons (.tmp rfl) (.cons (.const _) .nil)) (Tryz.en37)) rfl rfl rfl rfl (pickR_any _ _ _ (by decide)) ?_
       rintro _ w33 ⟨rfl, uw33⟩
       have zw33 := uw33.size
       replace hS := hS.up uw33
       refine LW.p (PEv.fieldAddr (off := 13) Tryz.underlying46 rfl rfl Tryz.sizeOf3 rfl (.tmp rfl)) rfl rfl rfl ?_
       refine LW.s (SEv.store Tryz.sizeOf3 (.tmp rfl) (.tmp rfl) rfl (hS.blk 2 rfl) (Nat.le_of_ble_eq_true rfl)) rfl rfl rfl ?_
       intro w34 Nw34
       have zw34 := Nw34.size
       replace hS := hS.putB 2 rfl (show Set_ _ w34 _ (({ someB y with Kind := 1, Tool := pickI y.f 3, Step := pickI (wI (y.f.tdiv 3)) 4 } : Fact).cells) _ from Nw34)
       change Wx.Sep _ _ _ [_, _, _] at hS
       refine LW.nil (KW.then (CW.seq (CW.region ?_)))
       refine LW.p (PEv.fieldAddr (off := 14) Tryz.underlying46 rfl rfl Tryz.sizeOf3 rfl (.tmp rfl)) rfl rfl rfl ?_
       refine LW.s (SEv.store Tryz.sizeOf3 (.tmp rfl) (.const _) rfl (hS.blk 2 rfl) (Nat.le_of_ble_eq_true rfl)) rfl rfl rfl ?_
       intro w35 Nw35
       have zw35 := Nw35.size
       replace hS := hS.putB 2 rfl (show Set_ _ w35 _ (({ someB y with Kind := 1, Tool := pickI y.f 3, Step := pickI (wI (y.f.tdiv 3)) 4, Recipe := 1 } : Fact).cells) _ from Nw35)
       change Wx.Sep _ _ _ [_, _, _] at hS
       refine LW.nil (KW.then (CW.seq (CW.region ?_)))
       refine LW.p (PEv.fieldAddr (off := 15) Tryz.underlying46 rfl rfl Tryz.sizeOf3 rfl (.tmp rfl)) rfl rfl rfl ?_
       refine LW.s (SEv.store Tryz.sizeOf3 (.tmp rfl) (.const _) rfl (hS.blk 2 rfl) (Nat.le_of_ble_eq_true rfl)) rfl rfl rfl ?_
       intro w36 Nw36
       have zw36 := Nw36.size
       replace hS := hS.putB 2 rfl (show Set_ _ w36 _ (({ someB y with Kind := 1, Tool := pickI y.f 3, Step := pickI (wI (y.f.tdiv 3)) 4, Recipe := 1, Revision := 1 } : Fact).cells) _ from Nw36)
       change Wx.Sep _ _ _ [_, _, _] at hS
       refine LW.nil (KW.then (CW.region ?_))
       refine LW.p (PEv.fieldAddr (off := 5) Tryz.underlying46 rfl rfl Tryz.sizeOf3 rfl (.tmp rfl)) rfl rfl rfl ?_
       refine LW.p (PEv.load Tryz.isAgg3 (.tmp rfl) ((hS.blk 2 rfl).celln rfl)) rfl rfl rfl ?_
       refine LW.p (PEv.add_w (.tmp rfl) (.const _)) rfl rfl rfl ?_
       refine LW.p (PEv.fieldAddr (off := 6) Tryz.underlying46 rfl rfl Tryz.sizeOf3 rfl (.tmp rfl)) rfl rfl rfl ?_
       refine LW.s (SEv.store Tryz.sizeOf3 (.tmp rfl) (.tmp rfl) rfl (hS.blk 2 rfl) (Nat.le_of_ble_eq_true rfl)) rfl rfl rfl ?_
       intro w37 Nw37
       have zw37 := Nw37.size
       replace hS := hS.putB 2 rfl (show Set_ _ w37 _ (({ someB y with Kind := 1, Tool := pickI y.f 3, Step := pickI (wI (y.f.tdiv 3)) 4, Recipe := 1, Revision := 1, Until := wI ((someB y).Time + 5) } : Fact).cells) _ from Nw37)
       change Wx.Sep _ _ _ [_, _, _] at hS
       refine LW.nil (KW.inBlock (KW.then ?_))
       first | rw [← someF_p (by omega)] at hS | rw [← someF_s (by omega)] at hS | rw [← someF_l (by omega) (by omega) (by omega)] at hS
       have hsl := someL_len (xs.take k)
       refine CW.region (LW.p (PEv.move (.tmp rfl)) rfl rfl rfl ?_)
       refine LW.p (PEv.loadA Tryz.isAgg46 Tryz.sizeOf46 rfl (.tmp rfl) ((hS.blk 2 rfl).agg)) rfl rfl rfl ?_
       refine LW.r (REv.buildSlice (xs := [someF y]) (enc := Fact.cells) (mk := fun f : Fact => .agg f.cells) Tryz.underlying22 Tryz.sizeOf46 Tryz.zeroValue46 rfl (by decide) (fun _ => rfl) (fun _ => rfl) (.cons (.tmp rfl) .nil) rfl) rfl rfl rfl rfl ?_
       rintro _ w38 ⟨B95, cB95, rfl, NB95, yB95, xB95⟩
       have eB95 := NB95.at_
       have zB95 := NB95.size
       replace hS := hS.up NB95.up
       have hE95 := xB95
       refine LW.r (REv.appendF (enc := Fact.cells) (bytes := 160) (i := Tryz.t46) Tryz.underlying22 (by kernel_rfl) rfl rfl rfl rfl (by decide) (fun _ => rfl) Fact.one (.tmp rfl) (.tmp rfl) (hS.own 0 rfl) (Sl.of_els hE95) (by have := hsl; simp [maxLen]; omega) (by have := hsl; simp; omega)) rfl rfl rfl rfl ?_
       intro v96 w39 Gw39
       have zw39 := Gw39.fr.size
       replace hS := hS.stp 0 rfl Gw39
       change Wx.Sep _ _ _ [_, _, _] at hS
       refine LW.p (PEv.assign (.tmp rfl)) rfl rfl rfl (LW.nil (KW.inBlock (KW.then (CW.region (LW.p (PEv.move (.tmp rfl)) rfl rfl rfl ?_)))))
       refine LW.p (PEv.inc (.tmp rfl) (by omega)) rfl rfl rfl ?_
       refine LW.p (PEv.assign (.tmp rfl)) rfl rfl rfl (LW.nil (KW.round ?_))
       exact ⟨(k + 1, v96), ⟨⟨by show k + 1 ≤ _; omega, by show k + 1 ≤ _; omega⟩, by rw [someL_step hy hkl.2]; exact hS.take 1⟩, ⟨rfl, rfl, rfl, rfl, trivial⟩, by show xs.length - (k + 1) < xs.length - k; omega⟩
      ·first | replace h62 := of_decide_eq_true h62 | replace h62 := of_decide_eq_false h62 | skip
       refine CW.seq (CW.region ?_)
       refine LW.p (PEv.eql (.tmp rfl) (.const _)) rfl rfl rfl ?_
       refine LW.p (PEv.assign (.tmp rfl)) rfl rfl rfl (LW.nil (KW.then ?_))
       refine CW.cond (.tmp rfl) (fun h81 => ?_) (fun h81 => ?_)
       ·first | replace h81 := of_decide_eq_true h81 | replace h81 := of_decide_eq_false h81 | skip
        refine CW.seq (CW.region ?_)
        refine LW.p (PEv.fieldAddr (off := 0) Tryz.underlying46 rfl rfl Tryz.sizeOf3 rfl (.tmp rfl)) rfl rfl rfl ?_
        refine LW.s (SEv.store Tryz.sizeOf3 (.tmp rfl) (.const _) rfl (hS.blk 2 rfl) (Nat.le_of_ble_eq_true rfl)) rfl rfl rfl ?_
        intro w40 Nw40
        have zw40 := Nw40.size
        replace hS := hS.putB 2 rfl (show Set_ _ w40 _ (({ someB y with Kind := 3 } : Fact).cells) _ from Nw40)
        change Wx.Sep _ _ _ [_, _, _] at hS
        refine LW.nil (KW.then ?_)
        refine CW.draws_then 8 (by kernel_rfl) (by kernel_rfl) (by kernel_rfl) (by kernel_rfl) (by kernel_rfl) rfl rfl ?_
        refine HW.p (PEv.fieldAddr (off := 7) Tryz.underlying46 rfl rfl Tryz.sizeOf3 rfl (.tmp rfl)) rfl rfl ?_
        refine HW.p (PEv.load Tryz.isAgg3 (.tmp rfl) ((hS.blk 2 rfl).celln rfl)) rfl rfl ?_
        refine HW.p (PEv.indexArr (j := 5) Tryz.underlying67 Tryz.sizeOf3 (.tmp rfl) (.const _) (by decide)) rfl rfl ?_
        refine HW.p (PEv.load Tryz.isAgg3 (.tmp rfl) ((hS.blk 1 rfl).celln rfl)) rfl rfl ?_
        refine HW.c (fun a w _ ha => enter_call0 (.cons (.tmp rfl) (.cons (.const _) .nil)) (Tryz.en37) a ha) rfl rfl (fun w hu => pickR_any _ _ w (by decide)) ?_
        refine HW.p (PEv.add_w (.tmp rfl) (.tmp rfl)) rfl rfl ?_
        refine HW.p (PEv.rem (.tmp rfl) (.const _) (by decide)) rfl rfl ?_
        refine HW.p (PEv.add_w (.const _) (.tmp rfl)) rfl rfl ?_
        refine HW.nil ?_
        intro w41 uw41
        have zw41 := uw41.size
        replace hS := hS.up uw41
        refine LW.p (PEv.fieldAddr (off := 8) Tryz.underlying46 rfl rfl Tryz.sizeOf3 rfl (.tmp rfl)) rfl rfl rfl ?_
        refine LW.s (SEv.store Tryz.sizeOf3 (.tmp rfl) (.tmp rfl) rfl (hS.blk 2 rfl) (Nat.le_of_ble_eq_true rfl)) rfl rfl rfl ?_
        intro w42 Nw42
        have zw42 := Nw42.size
        replace hS := hS.putB 2 rfl (show Set_ _ w42 _ (({ someB y with Kind := 3, Other := wI (1 + (wI ((someB y).Wafer + pickI y.f 5)).tmod 6) } : Fact).cells) _ from Nw42)
        change Wx.Sep _ _ _ [_, _, _] at hS
        refine LW.nil (KW.inBlock (KW.then ?_))
        first | rw [← someF_p (by omega)] at hS | rw [← someF_s (by omega)] at hS | rw [← someF_l (by omega) (by omega) (by omega)] at hS
        have hsl := someL_len (xs.take k)
        refine CW.region (LW.p (PEv.move (.tmp rfl)) rfl rfl rfl ?_)
        refine LW.p (PEv.loadA Tryz.isAgg46 Tryz.sizeOf46 rfl (.tmp rfl) ((hS.blk 2 rfl).agg)) rfl rfl rfl ?_
        refine LW.r (REv.buildSlice (xs := [someF y]) (enc := Fact.cells) (mk := fun f : Fact => .agg f.cells) Tryz.underlying22 Tryz.sizeOf46 Tryz.zeroValue46 rfl (by decide) (fun _ => rfl) (fun _ => rfl) (.cons (.tmp rfl) .nil) rfl) rfl rfl rfl rfl ?_
        rintro _ w43 ⟨B95, cB95, rfl, NB95, yB95, xB95⟩
        have eB95 := NB95.at_
        have zB95 := NB95.size
        replace hS := hS.up NB95.up
        have hE95 := xB95
        refine LW.r (REv.appendF (enc := Fact.cells) (bytes := 160) (i := Tryz.t46) Tryz.underlying22 (by kernel_rfl) rfl rfl rfl rfl (by decide) (fun _ => rfl) Fact.one (.tmp rfl) (.tmp rfl) (hS.own 0 rfl) (Sl.of_els hE95) (by have := hsl; simp [maxLen]; omega) (by have := hsl; simp; omega)) rfl rfl rfl rfl ?_
        intro v96 w44 Gw44
        have zw44 := Gw44.fr.size
        replace hS := hS.stp 0 rfl Gw44
        change Wx.Sep _ _ _ [_, _, _] at hS
        refine LW.p (PEv.assign (.tmp rfl)) rfl rfl rfl (LW.nil (KW.inBlock (KW.then (CW.region (LW.p (PEv.move (.tmp rfl)) rfl rfl rfl ?_)))))
        refine LW.p (PEv.inc (.tmp rfl) (by omega)) rfl rfl rfl ?_
        refine LW.p (PEv.assign (.tmp rfl)) rfl rfl rfl (LW.nil (KW.round ?_))
        exact ⟨(k + 1, v96), ⟨⟨by show k + 1 ≤ _; omega, by show k + 1 ≤ _; omega⟩, by rw [someL_step hy hkl.2]; exact hS.take 1⟩, ⟨rfl, rfl, rfl, rfl, trivial⟩, by show xs.length - (k + 1) < xs.length - k; omega⟩
       ·first | replace h81 := of_decide_eq_true h81 | replace h81 := of_decide_eq_false h81 | skip
        refine CW.seq (CW.region ?_)
        refine LW.p (PEv.fieldAddr (off := 0) Tryz.underlying46 rfl rfl Tryz.sizeOf3 rfl (.tmp rfl)) rfl rfl rfl ?_
        refine LW.s (SEv.store Tryz.sizeOf3 (.tmp rfl) (.const _) rfl (hS.blk 2 rfl) (Nat.le_of_ble_eq_true rfl)) rfl rfl rfl ?_
        intro w45 Nw45
        have zw45 := Nw45.size
        replace hS := hS.putB 2 rfl (show Set_ _ w45 _ (({ someB y with Kind := 4 } : Fact).cells) _ from Nw45)
        change Wx.Sep _ _ _ [_, _, _] at hS
        refine LW.nil (KW.then (CW.seq (CW.region ?_)))
        refine LW.p (PEv.fieldAddr (off := 1) Tryz.underlying46 rfl rfl Tryz.sizeOf3 rfl (.tmp rfl)) rfl rfl rfl ?_
        refine LW.s (SEv.store Tryz.sizeOf3 (.tmp rfl) (.const _) rfl (hS.blk 2 rfl) (Nat.le_of_ble_eq_true rfl)) rfl rfl rfl ?_
        intro w46 Nw46
        have zw46 := Nw46.size
        replace hS := hS.putB 2 rfl (show Set_ _ w46 _ (({ someB y with Kind := 4, ID := 0 } : Fact).cells) _ from Nw46)
        change Wx.Sep _ _ _ [_, _, _] at hS
        refine LW.nil (KW.then (CW.seq (CW.region ?_)))
        refine LW.p (PEv.indexArr (j := 5) Tryz.underlying67 Tryz.sizeOf3 (.tmp rfl) (.const _) (by decide)) rfl rfl rfl ?_
        refine LW.p (PEv.load Tryz.isAgg3 (.tmp rfl) ((hS.blk 1 rfl).celln rfl)) rfl rfl rfl ?_
        refine LW.c (enter_call0 (.cons (.tmp rfl) (.cons (.const _) .nil)) (Tryz.en37)) rfl rfl rfl rfl (pickR_any _ _ _ (by decide)) ?_
        rintro _ w47 ⟨rfl, uw47⟩
        have zw47 := uw47.size
        replace hS := hS.up uw47
        refine LW.p (PEv.add_w (.const _) (.tmp rfl)) rfl rfl rfl ?_
        refine LW.p (PEv.fieldAddr (off := 9) Tryz.underlying46 rfl rfl Tryz.sizeOf3 rfl (.tmp rfl)) rfl rfl rfl ?_
        refine LW.s (SEv.store Tryz.sizeOf3 (.tmp rfl) (.tmp rfl) rfl (hS.blk 2 rfl) (Nat.le_of_ble_eq_true rfl)) rfl rfl rfl ?_
        intro w48 Nw48
        have zw48 := Nw48.size
        replace hS := hS.putB 2 rfl (show Set_ _ w48 _ (({ someB y with Kind := 4, ID := 0, Lot := wI (1 + pickI y.f 3) } : Fact).cells) _ from Nw48)
        change Wx.Sep _ _ _ [_, _, _] at hS
        refine LW.nil (KW.then (CW.region ?_))
        refine LW.p (PEv.indexArr (j := 5) Tryz.underlying67 Tryz.sizeOf3 (.tmp rfl) (.const _) (by decide)) rfl rfl rfl ?_
        refine LW.p (PEv.load Tryz.isAgg3 (.tmp rfl) ((hS.blk 1 rfl).celln rfl)) rfl rfl rfl ?_
        refine LW.p (PEv.quo (.tmp rfl) (.const _) (by decide)) rfl rfl rfl ?_
        refine LW.c (enter_call0 (.cons (.tmp rfl) (.cons (.const _) .nil)) (Tryz.en37)) rfl rfl rfl rfl (pickR_any _ _ _ (by decide)) ?_
        rintro _ w49 ⟨rfl, uw49⟩
        have zw49 := uw49.size
        replace hS := hS.up uw49
        refine LW.p (PEv.add_w (.const _) (.tmp rfl)) rfl rfl rfl ?_
        refine LW.p (PEv.fieldAddr (off := 10) Tryz.underlying46 rfl rfl Tryz.sizeOf3 rfl (.tmp rfl)) rfl rfl rfl ?_
        refine LW.s (SEv.store Tryz.sizeOf3 (.tmp rfl) (.tmp rfl) rfl (hS.blk 2 rfl) (Nat.le_of_ble_eq_true rfl)) rfl rfl rfl ?_
        intro w50 Nw50
        have zw50 := Nw50.size
        replace hS := hS.putB 2 rfl (show Set_ _ w50 _ (({ someB y with Kind := 4, ID := 0, Lot := wI (1 + pickI y.f 3), Product := wI (1 + pickI (wI (y.f.tdiv 3)) 2) } : Fact).cells) _ from Nw50)
        change Wx.Sep _ _ _ [_, _, _] at hS
        refine LW.nil (KW.inBlock (KW.then ?_))
        first | rw [← someF_p (by omega)] at hS | rw [← someF_s (by omega)] at hS | rw [← someF_l (by omega) (by omega) (by omega)] at hS
        have hsl := someL_len (xs.take k)
        refine CW.region (LW.p (PEv.move (.tmp rfl)) rfl rfl rfl ?_)
        refine LW.p (PEv.loadA Tryz.isAgg46 Tryz.sizeOf46 rfl (.tmp rfl) ((hS.blk 2 rfl).agg)) rfl rfl rfl ?_
        refine LW.r (REv.buildSlice (xs := [someF y]) (enc := Fact.cells) (mk := fun f : Fact => .agg f.cells) Tryz.underlying22 Tryz.sizeOf46 Tryz.zeroValue46 rfl (by decide) (fun _ => rfl) (fun _ => rfl) (.cons (.tmp rfl) .nil) rfl) rfl rfl rfl rfl ?_
        rintro _ w51 ⟨B95, cB95, rfl, NB95, yB95, xB95⟩
        have eB95 := NB95.at_
        have zB95 := NB95.size
        replace hS := hS.up NB95.up
        have hE95 := xB95
        refine LW.r (REv.appendF (enc := Fact.cells) (bytes := 160) (i := Tryz.t46) Tryz.underlying22 (by kernel_rfl) rfl rfl rfl rfl (by decide) (fun _ => rfl) Fact.one (.tmp rfl) (.tmp rfl) (hS.own 0 rfl) (Sl.of_els hE95) (by have := hsl; simp [maxLen]; omega) (by have := hsl; simp; omega)) rfl rfl rfl rfl ?_
        intro v96 w52 Gw52
        have zw52 := Gw52.fr.size
        replace hS := hS.stp 0 rfl Gw52
        change Wx.Sep _ _ _ [_, _, _] at hS
        refine LW.p (PEv.assign (.tmp rfl)) rfl rfl rfl (LW.nil (KW.inBlock (KW.then (CW.region (LW.p (PEv.move (.tmp rfl)) rfl rfl rfl ?_)))))
        refine LW.p (PEv.inc (.tmp rfl) (by omega)) rfl rfl rfl ?_
        refine LW.p (PEv.assign (.tmp rfl)) rfl rfl rfl (LW.nil (KW.round ?_))
        exact ⟨(k + 1, v96), ⟨⟨by show k + 1 ≤ _; omega, by show k + 1 ≤ _; omega⟩, by rw [someL_step hy hkl.2]; exact hS.take 1⟩, ⟨rfl, rfl, rfl, rfl, trivial⟩, by show xs.length - (k + 1) < xs.length - k; omega⟩
   ·first | replace h14 := of_decide_eq_true h14 | replace h14 := of_decide_eq_false h14 | skip
    refine CW.exit (KW.then_exit (KW.then_exit (KW.block_hit (KW.then (CW.seq (CW.region (LW.p (PEv.move (.tmp rfl)) rfl rfl rfl (LW.p (PEv.assign (.tmp rfl)) rfl rfl rfl (LW.nil (KW.then (CW.ret ?_)))))))))))
    refine KW.ret1 rfl rfl ⟨_, rfl, ?_⟩
    rw [someL_end (by simp at h14; omega)] at hS
    exact ⟨OwnS.ofSep hS, hS.upd⟩
end Go.Proofs.YthfjagphcekcbaaGreat
namespace Go.Wx
def exF (k : Nat) (p : Int × Int) : Fact := { zeroF with Kind := 1, Version := 1, ID := ((1 + k : Nat) : Int), Wafer := p.1, Recipe := 1, Revision := 1, Time := p.2, Until := p.2 }
def ePr (p : Int × Int) : Array Go.Value := #[vi p.1, vi p.2]
def exR : List (Int × Int) := [(5, 10), (5, 30), (6, 40)]
def exP : List Fact := [exF 0 (5, 10), exF 1 (5, 30), exF 2 (6, 40)]
def exS : Fact := { zeroF with Kind := 3, Version := 1, ID := 1, Wafer := 5, Other := 6, Time := 20 }
def exL1 : Fact := { zeroF with Kind := 4, Version := 1, Wafer := 5, Lot := 7, Product := 1 }
def exL2 : Fact := { zeroF with Kind := 4, Version := 1, Wafer := 5, Lot := 8, Product := 1, Time := 25 }
def exB : Base := ⟨exP, [], [exS], [exL1, exL2], [], [], [], [], [], [], []⟩
theorem Els.gr {α : Type} {w w' : World} {B base k : Nat} {enc : α → Array Go.Value} {xs : List α} (h : Els w (some ⟨B, 0, none⟩) k enc xs) (g : Grew base w w') (hB : B < base) : Els w' (some ⟨B, 0, none⟩) k enc xs := fun i x hx => by
  obtain ⟨B', o, e, hc⟩ := h i x hx
  cases e
  refine ⟨B, 0, rfl, fun j v hv => ?_⟩
  have h1 := hc j v hv
  have hlt := block_lt_of_cell h1
  unfold World.cell? at h1 ⊢
  rw [g.block B hlt hB]
  exact h1
theorem exP_step {k : Nat} {p : Int × Int} (h : exR[k]? = some p) : exP.take (k + 1) = exP.take k ++ [exF k p] := by
  have hk : k < 3 := (List.getElem?_eq_some_iff.1 h).1
  rcases (by omega : k = 0 ∨ k = 1 ∨ k = 2) with rfl | rfl | rfl <;> (cases h; rfl)
end Go.Wx
namespace Go.Proofs.YthfjagphcekcbaaGreat
open Go.Wx Go.RowKit
set_option maxHeartbeats 4000000 in
theorem example_any (w : World) : Ret Tryz.prog 32 #[] w fun r w' => ∃ bc, r = .agg bc ∧ BaseC w' bc exB ∧ Up w w' := by
  have hW := Up.refl w
  obtain ⟨w0, rfl⟩ : ∃ w0, w0 = w := ⟨_, rfl⟩
  refine Calls_start (n := 37) (m := 9) Tryz.func32 rfl rfl rfl ?_
  refine CW.seq (CW.region ?_)
  refine LW.r (REv.allocA Tryz.zeroValue24) rfl rfl rfl rfl ?_
  rintro _ w1 ⟨B0, rfl, NB0⟩
  have eB0 := NB0.at_
  have zB0 := NB0.size
  replace hW := hW.up NB0.up
  have hB0 := NB0.blk
  refine LW.nil (KW.then (CW.seq (CW.region ?_)))
  refine LW.r (REv.allocA Tryz.zeroValue24) rfl rfl rfl rfl ?_
  rintro _ w2 ⟨B1, rfl, NB1⟩
  have eB1 := NB1.at_
  have zB1 := NB1.size
  replace hW := hW.up NB1.up
  replace hB0 := hB0.up NB1.up
  have hB1 := NB1.blk
  refine LW.nil (KW.then (CW.seq (CW.seq (CW.region ?_))))
  refine LW.p (PEv.buildArr (cs := (ePr (5, 10))) Tryz.underlying85 Tryz.zeroValue85 Tryz.sizeOf3 (.cons (.const _) (.cons (.const _) .nil)) rfl) rfl rfl rfl ?_
  refine LW.p (PEv.buildArr (cs := (ePr (5, 30))) Tryz.underlying85 Tryz.zeroValue85 Tryz.sizeOf3 (.cons (.const _) (.cons (.const _) .nil)) rfl) rfl rfl rfl ?_
  refine LW.p (PEv.buildArr (cs := (ePr (6, 40))) Tryz.underlying85 Tryz.zeroValue85 Tryz.sizeOf3 (.cons (.const _) (.cons (.const _) .nil)) rfl) rfl rfl rfl ?_
  refine LW.r (REv.buildSlice (xs := exR) (enc := ePr) (mk := fun p => .agg (ePr p)) Tryz.underlying86 Tryz.sizeOf85 Tryz.zeroValue85 rfl (by decide) (fun _ => rfl) (fun _ => rfl) (.cons (.tmp rfl) (.cons (.tmp rfl) (.cons (.tmp rfl) .nil))) rfl) rfl rfl rfl rfl ?_
  rintro _ w3 ⟨B7, cB7, rfl, NB7, yB7, xB7⟩
  have eB7 := NB7.at_
  have zB7 := NB7.size
  replace hW := hW.up NB7.up
  replace hB0 := hB0.up NB7.up
  replace hB1 := hB1.up NB7.up
  have hB7 := NB7.blk
  have hE7 := xB7
  refine LW.p (PEv.lenS Tryz.underlying86 (.tmp rfl)) rfl rfl rfl ?_
  refine LW.p (PEv.move (.const _)) rfl rfl rfl ?_
  refine LW.nil (KW.then (CW.block ?_))
  refine CW.loopB (σ := Nat × Go.Value) (fun s w => (s.1 ≤ exR.length) ∧ (Blk w B0 #[.slice none 0 0, .slice none 0 0, .slice none 0 0, .slice none 0 0, .slice none 0 0, .slice none 0 0, .slice none 0 0, .slice none 0 0, .slice none 0 0, .slice none 0 0, .slice none 0 0] 24) ∧ (Blk w B1 #[s.2, .slice none 0 0, .slice none 0 0, .slice none 0 0, .slice none 0 0, .slice none 0 0, .slice none 0 0, .slice none 0 0, .slice none 0 0, .slice none 0 0, .slice none 0 0] 24) ∧ (Els w (some ⟨B7, 0, none⟩) 2 ePr exR) ∧ (OwnS w (B7 + 1) 46 19 Fact.cells s.2 (exP.take s.1)) ∧ (Sz (B7 + 1) w) ∧ (Up w0 w)) (fun s => [(9, .eq (vi (s.1 : Int)))]) ([(0, .eq _), (1, .eq _), (7, .eq _), (8, .eq _)]) (fun s => exR.length - s.1) (0, .slice none 0 0) ?_ ⟨rfl, rfl, rfl, rfl, rfl, trivial⟩ ?_
  ·exact ⟨Nat.zero_le _, hB0, hB1, hE7, OwnS.nil _ _ _ _ _, (show B7 + 1 ≤ _ by omega), hW⟩
  ·rintro ⟨k, v⟩ w4 ⟨hk, hB0, hB1, hE7, hO, hZ7, hW⟩
   dsimp only at hk hB1 hO
   change CW _ _ _ _ _ _ _ ([(9, .eq (vi (k : Int)))] ++ _) _
   refine CW.seq ?_
   skip
   refine CW.region ?_
   refine LW.p (PEv.lss (.tmp rfl) (.tmp rfl)) rfl rfl rfl ?_
   refine LW.nil (KW.then (CW.seq ?_))
   refine CW.cond (.tmp rfl) (fun h10 => ?_) (fun h10 => ?_)
   ·first | replace h10 := of_decide_eq_true h10 | replace h10 := of_decide_eq_false h10 | skip
    refine CW.skip (KW.then (CW.seq (CW.block (CW.seq ?_))))
    have hk3 : k < 3 := by have : exR.length = 3 := rfl; omega
    have z7 : B7 + 1 ≤ _ := hZ7
    refine CW.region (LW.p (PEv.move (.tmp rfl)) rfl rfl rfl ?_)
    obtain ⟨x, hx⟩ := getElem?_of_lt (xs := exR) (i := k) (by omega)
    obtain ⟨Bx, ox, ax, hcx⟩ := hE7 _ x hx
    refine LW.p (PEv.indexAddr' Tryz.underlying86 Tryz.sizeOf85 (.tmp rfl) (.tmp rfl) (by omega) ax) rfl rfl rfl ?_
    refine LW.p (PEv.loadA Tryz.isAgg85 Tryz.sizeOf85 rfl (.tmp rfl) (hcx)) rfl rfl rfl ?_
    refine LW.r (REv.allocA Tryz.zeroValue85) rfl rfl rfl rfl ?_
    rintro _ w5 ⟨B3, rfl, MB3⟩
    refine LW.p (PEv.assign (.tmp rfl)) rfl rfl rfl ?_
    refine LW.s (SEv.storeA Tryz.sizeOf85 rfl (.tmp rfl) (.tmp rfl) (by simp [ePr, Value.oneCell']) MB3.blk rfl) rfl rfl rfl ?_
    intro w6 LB3
    have NB3 := MB3.set LB3
    clear LB3 MB3
    have eB3 := NB3.at_
    have zB3 := NB3.size
    replace hB0 := hB0.up NB3.up
    replace hB1 := hB1.up NB3.up
    replace hE7 := hE7.up NB3.up
    replace hO := hO.up NB3.up
    replace hZ7 := hZ7.up NB3.up
    replace hW := hW.up NB3.up
    replace hcx := hcx.up NB3.up
    have hB3 := NB3.blk
    refine LW.nil (KW.then (CW.region ?_))
    refine LW.p (PEv.fieldAddr (off := 0) Tryz.underlying24 rfl rfl Tryz.sizeOf22 rfl (.tmp rfl)) rfl rfl rfl ?_
    refine LW.p (PEv.load Tryz.isAgg22 (.tmp rfl) (hB1.celln rfl)) rfl rfl rfl ?_
    refine LW.p (PEv.move (.tmp rfl)) rfl rfl rfl ?_
    refine LW.p (PEv.addN (i := 1) (.const _) (.tmp rfl) (by omega)) rfl rfl rfl ?_
    refine LW.p (PEv.indexArr (j := 0) Tryz.underlying85 Tryz.sizeOf3 (.tmp rfl) (.const _) (by decide)) rfl rfl rfl ?_
    refine LW.p (PEv.load Tryz.isAgg3 (.tmp rfl) (hB3.celln rfl)) rfl rfl rfl ?_
    refine LW.p (PEv.indexArr (j := 1) Tryz.underlying85 Tryz.sizeOf3 (.tmp rfl) (.const _) (by decide)) rfl rfl rfl ?_
    refine LW.p (PEv.load Tryz.isAgg3 (.tmp rfl) (hB3.celln rfl)) rfl rfl rfl ?_
    refine LW.p (PEv.indexArr (j := 1) Tryz.underlying85 Tryz.sizeOf3 (.tmp rfl) (.const _) (by decide)) rfl rfl rfl ?_
    refine LW.p (PEv.load Tryz.isAgg3 (.tmp rfl) (hB3.celln rfl)) rfl rfl rfl ?_
    refine LW.p (PEv.build (cs := (exF k x).cells) Tryz.underlying46 Tryz.zeroValue46 Tryz.places46 (.cons (.const _) (.cons (.const _) (.cons (.tmp rfl) (.cons (.tmp rfl) (.cons (.const _) (.cons (.const _) (.cons (.tmp rfl) (.cons (.tmp rfl) .nil)))))))) rfl) rfl rfl rfl ?_
    refine LW.r (REv.buildSlice (xs := [exF k x]) (enc := Fact.cells) (mk := fun f : Fact => .agg f.cells) Tryz.underlying22 Tryz.sizeOf46 Tryz.zeroValue46 rfl (by decide) (fun _ => rfl) (fun _ => rfl) (.cons (.tmp rfl) .nil) rfl) rfl rfl rfl rfl ?_
    rintro _ w7 ⟨B25, cB25, rfl, NB25, yB25, xB25⟩
    have eB25 := NB25.at_
    have zB25 := NB25.size
    replace hB0 := hB0.up NB25.up
    replace hB1 := hB1.up NB25.up
    replace hE7 := hE7.up NB25.up
    replace hO := hO.up NB25.up
    replace hZ7 := hZ7.up NB25.up
    replace hW := hW.up NB25.up
    replace hcx := hcx.up NB25.up
    replace hB3 := hB3.up NB25.up
    have hB25 := NB25.blk
    have hE25 := xB25
    refine LW.r (REv.append (enc := Fact.cells) (base := B7 + 1) (bytes := 160) (i := Tryz.t46) Tryz.underlying22 (by kernel_rfl) rfl rfl rfl rfl (by decide) (fun _ => rfl) Fact.one (.tmp rfl) (.tmp rfl) hO (Sl.of_els hE25) (by simp) (by simp [maxLen]; omega) (by simp; omega) (by omega)) rfl rfl rfl rfl ?_
    rintro v26 w8 ⟨Ow8, Gw8⟩
    have zw8 := Gw8.size
    replace hB0 := hB0.gr Gw8 (by omega)
    replace hB1 := hB1.gr Gw8 (by omega)
    replace hE7 := hE7.gr Gw8 (by omega)
    replace hZ7 := hZ7.gr Gw8 rfl
    replace hW := hW.gr Gw8 (by omega)
    replace hO := Ow8
    refine LW.p (PEv.fieldAddr (off := 0) Tryz.underlying24 rfl rfl Tryz.sizeOf22 rfl (.tmp rfl)) rfl rfl rfl ?_
    refine LW.s (SEv.store Tryz.sizeOf22 (.tmp rfl) (.tmp rfl) hO.one hB1 (Nat.le_of_ble_eq_true rfl)) rfl rfl rfl ?_
    intro w9 Nw9
    have zw9 := Nw9.size
    replace hB0 := hB0.sto Nw9.sto (by omega)
    replace hE7 := hE7.sto Nw9.sto (by omega)
    replace hO := hO.sto Nw9.sto (by omega)
    replace hZ7 := hZ7.sto Nw9.sto (by omega)
    replace hW := hW.sto Nw9.sto (by omega)
    replace hB1 := Nw9.blk
    replace hB1 : Blk w9 B1 #[v26, .slice none 0 0, .slice none 0 0, .slice none 0 0, .slice none 0 0, .slice none 0 0, .slice none 0 0, .slice none 0 0, .slice none 0 0, .slice none 0 0, .slice none 0 0] _ := hB1
    refine LW.nil (KW.inBlock (KW.then (CW.region ?_)))
    refine LW.p (PEv.inc (.tmp rfl) (by omega)) rfl rfl rfl ?_
    refine LW.p (PEv.move (.tmp rfl)) rfl rfl rfl (LW.nil (KW.round ?_))
    exact ⟨(k + 1, v26), ⟨by show k + 1 ≤ _; omega, hB0, hB1, hE7, by rw [exP_step hx]; exact hO, hZ7, hW⟩, ⟨rfl, rfl, rfl, rfl, rfl, trivial⟩, by show exR.length - (k + 1) < exR.length - k; omega⟩
   ·first | replace h10 := of_decide_eq_true h10 | replace h10 := of_decide_eq_false h10 | skip
    refine CW.exit (KW.then_exit (KW.then_exit (KW.block_hit (KW.then (CW.seq ?_)))))
    have hk3 : k = 3 := by have : exR.length = 3 := rfl; omega
    subst hk3
    have z7 : B7 + 1 ≤ _ := hZ7
    refine CW.region ?_
    refine LW.p (PEv.build (cs := exS.cells) Tryz.underlying46 Tryz.zeroValue46 Tryz.places46 (.cons (.const _) (.cons (.const _) (.cons (.const _) (.cons (.const _) (.cons (.const _) (.cons (.const _) .nil)))))) rfl) rfl rfl rfl ?_
    refine LW.r (REv.buildSlice (xs := [exS]) (enc := Fact.cells) (mk := fun f : Fact => .agg f.cells) Tryz.underlying22 Tryz.sizeOf46 Tryz.zeroValue46 rfl (by decide) (fun _ => rfl) (fun _ => rfl) (.cons (.tmp rfl) .nil) rfl) rfl rfl rfl rfl ?_
    rintro _ w10 ⟨B30, cB30, rfl, NB30, yB30, xB30⟩
    have eB30 := NB30.at_
    have zB30 := NB30.size
    replace hB0 := hB0.up NB30.up
    replace hB1 := hB1.up NB30.up
    replace hE7 := hE7.up NB30.up
    replace hO := hO.up NB30.up
    replace hZ7 := hZ7.up NB30.up
    replace hW := hW.up NB30.up
    have hB30 := NB30.blk
    have hE30 := xB30
    refine LW.p (PEv.fieldAddr (off := 2) Tryz.underlying24 rfl rfl Tryz.sizeOf22 rfl (.tmp rfl)) rfl rfl rfl ?_
    refine LW.s (SEv.store Tryz.sizeOf22 (.tmp rfl) (.tmp rfl) rfl hB1 (Nat.le_of_ble_eq_true rfl)) rfl rfl rfl ?_
    intro w11 Nw11
    have zw11 := Nw11.size
    replace hB0 := hB0.sto Nw11.sto (by omega)
    replace hE7 := hE7.sto Nw11.sto (by omega)
    replace hO := hO.sto Nw11.sto (by omega)
    replace hZ7 := hZ7.sto Nw11.sto (by omega)
    replace hW := hW.sto Nw11.sto (by omega)
    replace hB30 := hB30.sto Nw11.sto (by omega)
    replace hE30 := hE30.sto Nw11.sto (by omega)
    replace hB1 := Nw11.blk
    replace hB1 : Blk w11 B1 #[v, .slice none 0 0, .slice (some ⟨B30, 0, none⟩) 1 1, .slice none 0 0, .slice none 0 0, .slice none 0 0, .slice none 0 0, .slice none 0 0, .slice none 0 0, .slice none 0 0, .slice none 0 0] _ := hB1
    refine LW.nil (KW.then (CW.seq (CW.region ?_)))
    refine LW.p (PEv.build (cs := exL1.cells) Tryz.underlying46 Tryz.zeroValue46 Tryz.places46 (.cons (.const _) (.cons (.const _) (.cons (.const _) (.cons (.const _) (.cons (.const _) .nil))))) rfl) rfl rfl rfl ?_
    refine LW.p (PEv.build (cs := exL2.cells) Tryz.underlying46 Tryz.zeroValue46 Tryz.places46 (.cons (.const _) (.cons (.const _) (.cons (.const _) (.cons (.const _) (.cons (.const _) (.cons (.const _) .nil)))))) rfl) rfl rfl rfl ?_
    refine LW.r (REv.buildSlice (xs := [exL1, exL2]) (enc := Fact.cells) (mk := fun f : Fact => .agg f.cells) Tryz.underlying22 Tryz.sizeOf46 Tryz.zeroValue46 rfl (by decide) (fun _ => rfl) (fun _ => rfl) (.cons (.tmp rfl) (.cons (.tmp rfl) .nil)) rfl) rfl rfl rfl rfl ?_
    rintro _ w12 ⟨B34, cB34, rfl, NB34, yB34, xB34⟩
    have eB34 := NB34.at_
    have zB34 := NB34.size
    replace hB0 := hB0.up NB34.up
    replace hB1 := hB1.up NB34.up
    replace hE7 := hE7.up NB34.up
    replace hO := hO.up NB34.up
    replace hZ7 := hZ7.up NB34.up
    replace hW := hW.up NB34.up
    replace hB30 := hB30.up NB34.up
    replace hE30 := hE30.up NB34.up
    have hB34 := NB34.blk
    have hE34 := xB34
    refine LW.p (PEv.fieldAddr (off := 3) Tryz.underlying24 rfl rfl Tryz.sizeOf22 rfl (.tmp rfl)) rfl rfl rfl ?_
    refine LW.s (SEv.store Tryz.sizeOf22 (.tmp rfl) (.tmp rfl) rfl hB1 (Nat.le_of_ble_eq_true rfl)) rfl rfl rfl ?_
    intro w13 Nw13
    have zw13 := Nw13.size
    replace hB0 := hB0.sto Nw13.sto (by omega)
    replace hE7 := hE7.sto Nw13.sto (by omega)
    replace hO := hO.sto Nw13.sto (by omega)
    replace hZ7 := hZ7.sto Nw13.sto (by omega)
    replace hW := hW.sto Nw13.sto (by omega)
    replace hB30 := hB30.sto Nw13.sto (by omega)
    replace hE30 := hE30.sto Nw13.sto (by omega)
    replace hB34 := hB34.sto Nw13.sto (by omega)
    replace hE34 := hE34.sto Nw13.sto (by omega)
    replace hB1 := Nw13.blk
    replace hB1 : Blk w13 B1 #[v, .slice none 0 0, .slice (some ⟨B30, 0, none⟩) 1 1, .slice (some ⟨B34, 0, none⟩) 2 2, .slice none 0 0, .slice none 0 0, .slice none 0 0, .slice none 0 0, .slice none 0 0, .slice none 0 0, .slice none 0 0] _ := hB1
    refine LW.nil (KW.then (CW.seq ?_))
    have hv1 := hO.one
    refine CW.region ?_
    refine LW.p (PEv.loadA Tryz.isAgg24 Tryz.sizeOf24 rfl (.tmp rfl) (hB1.agg)) rfl rfl rfl ?_
    refine LW.s (SEv.storeA Tryz.sizeOf24 rfl (.tmp rfl) (.tmp rfl) (by simp [Value.oneCell']; exact hv1) hB0 rfl) rfl rfl rfl ?_
    intro w14 Nw14
    have zw14 := Nw14.size
    replace hB1 := hB1.sto Nw14.sto (by omega)
    replace hE7 := hE7.sto Nw14.sto (by omega)
    replace hO := hO.sto Nw14.sto (by omega)
    replace hZ7 := hZ7.sto Nw14.sto (by omega)
    replace hW := hW.sto Nw14.sto (by omega)
    replace hB30 := hB30.sto Nw14.sto (by omega)
    replace hE30 := hE30.sto Nw14.sto (by omega)
    replace hB34 := hB34.sto Nw14.sto (by omega)
    replace hE34 := hE34.sto Nw14.sto (by omega)
    replace hB0 := Nw14.blk
    replace hB0 : Blk w14 B0 #[v, .slice none 0 0, .slice (some ⟨B30, 0, none⟩) 1 1, .slice (some ⟨B34, 0, none⟩) 2 2, .slice none 0 0, .slice none 0 0, .slice none 0 0, .slice none 0 0, .slice none 0 0, .slice none 0 0, .slice none 0 0] _ := hB0
    refine LW.nil (KW.then (CW.ret ?_))
    refine KW.retA rfl rfl Tryz.isAgg24 Tryz.sizeOf24 rfl (hB0.agg) ⟨_, rfl, ?_⟩
    exact ⟨_, rfl, ⟨_, _, _, _, _, _, _, _, _, _, _, rfl, hO.sl (fun _ => rfl), Sl.nil _ _ _, Sl.of_els hE30, Sl.of_els hE34, Sl.nil _ _ _, Sl.nil _ _ _, Sl.nil _ _ _, Sl.nil _ _ _, Sl.nil _ _ _, Sl.nil _ _ _, Sl.nil _ _ _⟩, hW⟩
end Go.Proofs.YthfjagphcekcbaaGreat
namespace Go.Wx
theorem ex_h5 : histL exB.Processes exB.Swaps 5 = [exF 0 (5, 10), exF 2 (6, 40)] := by kernel_rfl
theorem ex_h6 : histL exB.Processes exB.Swaps 6 = [exF 1 (5, 30)] := by kernel_rfl
theorem ex_l1 : lotOf exB.Lots 5 24 = (7, 1) := by kernel_rfl
theorem ex_l2 : lotOf exB.Lots 5 25 = (8, 1) := by kernel_rfl
theorem ex_w1 : whoL exB.Swaps 19 5 = 5 := by kernel_rfl
theorem ex_w2 : whoL exB.Swaps 20 5 = 6 := by kernel_rfl
theorem ex_w3 : whoL exB.Swaps 20 6 = 5 := by kernel_rfl
theorem ex_m1 : markL exB.Swaps 40 5 = 6 := by kernel_rfl
theorem ex_me : membersL exB.Lots 8 30 = [5] := by
  unfold membersL sortI
  rw [show memK exB.Lots 8 30 exB.Lots = [5] from by kernel_rfl]
  exact List.mergeSort_of_pairwise (by decide)
theorem ex_wa : wafersL exB.Lots exB.Processes exB.Swaps = [5, 6] := by
  unfold wafersL sortI
  rw [show (proK exB.Swaps (lotK exB.Lots) exB.Processes).filter isIDb = [5, 6] from by kernel_rfl]
  exact List.mergeSort_of_pairwise (by decide)
end Go.Wx
namespace Go.Proofs.YthfjagphcekcbaaGreat
open Go.Wx Go.RowKit
set_option maxHeartbeats 2000000 in
theorem sane_any (w : World) : Ret Tryz.prog 11 #[] w fun r w' => r = .bool true ∧ Up w w' := by
  have hW := Up.refl w
  refine Calls_start (n := 80) (m := 9) Tryz.func11 rfl rfl rfl ?_
  refine CW.seq (CW.region (LW.p (PEv.assign (.const _)) rfl rfl rfl (LW.nil (KW.then (CW.seq (CW.region ?_))))))
  refine LW.c (enter_call0 .nil (Tryz.en32)) rfl rfl rfl rfl (example_any _) ?_
  rintro _ w1 ⟨bc, rfl, hC, uw1⟩
  have zw1 := uw1.size
  replace hW := hW.up uw1
  refine LW.r (REv.allocA Tryz.zeroValue24) rfl rfl rfl rfl ?_
  rintro _ w2 ⟨B1, rfl, MB1⟩
  refine LW.s (SEv.storeA Tryz.sizeOf24 (hC.size) (.tmp rfl) (.tmp rfl) (hC.one) MB1.blk rfl) rfl rfl rfl ?_
  intro w3 LB1
  have NB1 := MB1.set LB1
  clear LB1 MB1
  have eB1 := NB1.at_
  have zB1 := NB1.size
  replace hW := hW.up NB1.up
  replace hC := hC.up NB1.up
  have hB1 := NB1.blk
  refine LW.nil (KW.then (CW.seq (CW.region ?_)))
  refine LW.p (PEv.loadA Tryz.isAgg24 Tryz.sizeOf24 (hC.size) (.tmp rfl) (hB1.agg)) rfl rfl rfl ?_
  refine LW.c (enter_call0 (.cons (.tmp rfl) (.cons (.const _) .nil)) (Tryz.en23)) rfl rfl rfl rfl (History_any bc exB 5 _ hC (by decide) (by decide)) ?_
  rintro v10 w4 ⟨hO10, uw4⟩
  have zw4 := uw4.size
  replace hW := hW.up uw4
  replace hC := hC.up uw4
  replace hB1 := hB1.up uw4
  rw [ex_h5] at hO10
  obtain ⟨ad10, cp10, rfl, hE100⟩ := hO10.sl (fun _ => rfl)
  have hE10 : Els w4 ad10 19 Fact.cells [exF 0 (5, 10), exF 2 (6, 40)] := hE100
  clear hO10 hE100
  refine LW.p (PEv.assign (.tmp rfl)) rfl rfl rfl (LW.nil (KW.then (CW.seq (CW.region ?_))))
  refine LW.p (PEv.loadA Tryz.isAgg24 Tryz.sizeOf24 (hC.size) (.tmp rfl) (hB1.agg)) rfl rfl rfl ?_
  refine LW.c (enter_call0 (.cons (.tmp rfl) (.cons (.const _) (.cons (.const _) .nil))) (Tryz.en16)) rfl rfl rfl rfl (lot_any bc exB 5 24 _ hC (by decide)) ?_
  rintro _ w5 ⟨rfl, uw5⟩
  have zw5 := uw5.size
  replace hW := hW.up uw5
  replace hC := hC.up uw5
  replace hB1 := hB1.up uw5
  replace hE10 := hE10.up uw5
  rw [ex_l1]
  refine LW.p (PEv.move (.tmp rfl)) rfl rfl rfl (LW.p (PEv.extract (.tmp rfl) rfl) rfl rfl rfl (LW.p (PEv.extract (.tmp rfl) rfl) rfl rfl rfl (LW.p (PEv.assign (.tmp rfl)) rfl rfl rfl (LW.p (PEv.assign (.tmp rfl)) rfl rfl rfl (LW.nil (KW.then (CW.seq (CW.region ?_))))))))
  refine LW.p (PEv.loadA Tryz.isAgg24 Tryz.sizeOf24 (hC.size) (.tmp rfl) (hB1.agg)) rfl rfl rfl ?_
  refine LW.c (enter_call0 (.cons (.tmp rfl) (.cons (.const _) (.cons (.const _) .nil))) (Tryz.en16)) rfl rfl rfl rfl (lot_any bc exB 5 25 _ hC (by decide)) ?_
  rintro _ w6 ⟨rfl, uw6⟩
  have zw6 := uw6.size
  replace hW := hW.up uw6
  replace hC := hC.up uw6
  replace hB1 := hB1.up uw6
  replace hE10 := hE10.up uw6
  rw [ex_l2]
  refine LW.p (PEv.move (.tmp rfl)) rfl rfl rfl (LW.p (PEv.extract (.tmp rfl) rfl) rfl rfl rfl (LW.p (PEv.extract (.tmp rfl) rfl) rfl rfl rfl (LW.p (PEv.assign (.tmp rfl)) rfl rfl rfl (LW.p (PEv.assign (.tmp rfl)) rfl rfl rfl (LW.nil (KW.then (CW.seq (CW.seq (CW.region (LW.p (PEv.move (.tmp rfl)) rfl rfl rfl ?_))))))))))
  refine LW.p (PEv.lenS Tryz.underlying22 (.tmp rfl)) rfl rfl rfl ?_
  refine LW.p (PEv.fa (PEv.neq (.tmp rfl) (.const _)) (rfl)) rfl rfl rfl ?_
  refine LW.p (PEv.move (.tmp rfl)) rfl rfl rfl ?_
  refine LW.yes rfl rfl rfl rfl rfl rfl ?_
  refine LW.p (PEv.loadA Tryz.isAgg24 Tryz.sizeOf24 (hC.size) (.tmp rfl) (hB1.agg)) rfl rfl rfl ?_
  refine LW.yes rfl rfl rfl rfl rfl rfl ?_
  refine LW.c (enter_call0 (.cons (.tmp rfl) (.cons (.const _) .nil)) (Tryz.en23)) rfl rfl rfl rfl (History_any bc exB 6 _ hC (by decide) (by decide)) ?_
  rintro v26 w7 ⟨hO26, uw7⟩
  have zw7 := uw7.size
  replace hW := hW.up uw7
  replace hC := hC.up uw7
  replace hB1 := hB1.up uw7
  replace hE10 := hE10.up uw7
  rw [ex_h6] at hO26
  obtain ⟨ad26, cp26, rfl, hE260⟩ := hO26.sl (fun _ => rfl)
  have hE26 : Els w7 ad26 19 Fact.cells [exF 1 (5, 30)] := hE260
  clear hO26 hE260
  refine LW.yes rfl rfl rfl rfl rfl rfl ?_
  refine LW.p (PEv.lenS Tryz.underlying22 (.tmp rfl)) rfl rfl rfl ?_
  refine LW.yes rfl rfl rfl rfl rfl rfl ?_
  refine LW.p (PEv.fa (PEv.neq (.tmp rfl) (.const _)) (rfl)) rfl rfl rfl ?_
  refine LW.p (PEv.pick_or (.tmp rfl) (fun hp => (by first | exact .const _ | exact .tmp rfl | exact .cond rfl (by first | assumption | simp_all)))) rfl rfl rfl ?_
  refine LW.nil (KW.then ?_)
  refine CW.cond_false (.tmp rfl) ?_
  refine CW.skip (KW.then (CW.seq (CW.region ?_)))
  refine LW.p (PEv.loadA Tryz.isAgg24 Tryz.sizeOf24 (hC.size) (.tmp rfl) (hB1.agg)) rfl rfl rfl ?_
  refine LW.c (enter_call0 (.cons (.tmp rfl) (.cons (.const _) (.cons (.const _) .nil))) (Tryz.en18)) rfl rfl rfl rfl (Who_any bc exB 5 19 _ hC (by decide)) ?_
  rintro _ w8 ⟨rfl, uw8⟩
  have zw8 := uw8.size
  replace hW := hW.up uw8
  replace hC := hC.up uw8
  replace hB1 := hB1.up uw8
  replace hE10 := hE10.up uw8
  replace hE26 := hE26.up uw8
  rw [ex_w1]
  refine LW.p (PEv.tr (PEv.eql (.tmp rfl) (.const _)) (rfl)) rfl rfl rfl ?_
  refine LW.p (PEv.move (.tmp rfl)) rfl rfl rfl ?_
  refine LW.yes rfl rfl rfl rfl rfl rfl ?_
  refine LW.p (PEv.loadA Tryz.isAgg24 Tryz.sizeOf24 (hC.size) (.tmp rfl) (hB1.agg)) rfl rfl rfl ?_
  refine LW.yes rfl rfl rfl rfl rfl rfl ?_
  refine LW.c (enter_call0 (.cons (.tmp rfl) (.cons (.const _) (.cons (.const _) .nil))) (Tryz.en18)) rfl rfl rfl rfl (Who_any bc exB 5 20 _ hC (by decide)) ?_
  rintro _ w9 ⟨rfl, uw9⟩
  have zw9 := uw9.size
  replace hW := hW.up uw9
  replace hC := hC.up uw9
  replace hB1 := hB1.up uw9
  replace hE10 := hE10.up uw9
  replace hE26 := hE26.up uw9
  rw [ex_w2]
  refine LW.yes rfl rfl rfl rfl rfl rfl ?_
  refine LW.p (PEv.tr (PEv.eql (.tmp rfl) (.const _)) (rfl)) rfl rfl rfl ?_
  refine LW.p (PEv.pick_and (.tmp rfl) (fun hp => (by first | exact .const _ | exact .tmp rfl | exact .cond rfl (by first | assumption | simp_all)))) rfl rfl rfl ?_
  refine LW.p (PEv.move (.tmp rfl)) rfl rfl rfl ?_
  refine LW.yes rfl rfl rfl rfl rfl rfl ?_
  refine LW.p (PEv.loadA Tryz.isAgg24 Tryz.sizeOf24 (hC.size) (.tmp rfl) (hB1.agg)) rfl rfl rfl ?_
  refine LW.yes rfl rfl rfl rfl rfl rfl ?_
  refine LW.c (enter_call0 (.cons (.tmp rfl) (.cons (.const _) (.cons (.const _) .nil))) (Tryz.en18)) rfl rfl rfl rfl (Who_any bc exB 6 20 _ hC (by decide)) ?_
  rintro _ w10 ⟨rfl, uw10⟩
  have zw10 := uw10.size
  replace hW := hW.up uw10
  replace hC := hC.up uw10
  replace hB1 := hB1.up uw10
  replace hE10 := hE10.up uw10
  replace hE26 := hE26.up uw10
  rw [ex_w3]
  refine LW.yes rfl rfl rfl rfl rfl rfl ?_
  refine LW.p (PEv.tr (PEv.eql (.tmp rfl) (.const _)) (rfl)) rfl rfl rfl ?_
  refine LW.p (PEv.pick_and (.tmp rfl) (fun hp => (by first | exact .const _ | exact .tmp rfl | exact .cond rfl (by first | assumption | simp_all)))) rfl rfl rfl ?_
  refine LW.p (PEv.move (.tmp rfl)) rfl rfl rfl ?_
  refine LW.yes rfl rfl rfl rfl rfl rfl ?_
  refine LW.p (PEv.loadA Tryz.isAgg24 Tryz.sizeOf24 (hC.size) (.tmp rfl) (hB1.agg)) rfl rfl rfl ?_
  refine LW.yes rfl rfl rfl rfl rfl rfl ?_
  refine LW.c (enter_call0 (.cons (.tmp rfl) (.cons (.const _) (.cons (.const _) .nil))) (Tryz.en20)) rfl rfl rfl rfl (Mark_any bc exB 5 40 _ hC (by decide)) ?_
  rintro _ w11 ⟨rfl, uw11⟩
  have zw11 := uw11.size
  replace hW := hW.up uw11
  replace hC := hC.up uw11
  replace hB1 := hB1.up uw11
  replace hE10 := hE10.up uw11
  replace hE26 := hE26.up uw11
  rw [ex_m1]
  refine LW.yes rfl rfl rfl rfl rfl rfl ?_
  refine LW.p (PEv.tr (PEv.eql (.tmp rfl) (.const _)) (rfl)) rfl rfl rfl ?_
  refine LW.p (PEv.pick_and (.tmp rfl) (fun hp => (by first | exact .const _ | exact .tmp rfl | exact .cond rfl (by first | assumption | simp_all)))) rfl rfl rfl ?_
  refine LW.p (PEv.assign (.tmp rfl)) rfl rfl rfl (LW.nil (KW.then (CW.seq ?_)))
  obtain ⟨Bx, ox, ax, hcx⟩ := hE10 1 _ rfl
  refine CW.region (LW.p (PEv.move (.tmp rfl)) rfl rfl rfl (LW.p (PEv.move (.tmp rfl)) rfl rfl rfl ?_))
  refine LW.yes rfl rfl rfl rfl rfl rfl ?_
  refine LW.p (PEv.move (.tmp rfl)) rfl rfl rfl ?_
  refine LW.yes rfl rfl rfl rfl rfl rfl ?_
  refine LW.p (PEv.indexAddr' Tryz.underlying22 Tryz.sizeOf46 (.tmp rfl) (.const _) (by decide) ax) rfl rfl rfl ?_
  refine LW.yes rfl rfl rfl rfl rfl rfl ?_
  refine LW.p (PEv.fieldAddr (off := 1) Tryz.underlying46 rfl rfl Tryz.sizeOf3 rfl (.tmp rfl)) rfl rfl rfl ?_
  refine LW.yes rfl rfl rfl rfl rfl rfl ?_
  refine LW.p (PEv.load Tryz.isAgg3 (.tmp rfl) (hcx.nth (j := 1) rfl)) rfl rfl rfl ?_
  refine LW.yes rfl rfl rfl rfl rfl rfl ?_
  refine LW.p (PEv.tr (PEv.eql (.tmp rfl) (.const _)) (rfl)) rfl rfl rfl ?_
  refine LW.p (PEv.pick_and (.tmp rfl) (fun hp => (by first | exact .const _ | exact .tmp rfl | exact .cond rfl (by first | assumption | simp_all)))) rfl rfl rfl ?_
  refine LW.p (PEv.move (.tmp rfl)) rfl rfl rfl ?_
  refine LW.yes rfl rfl rfl rfl rfl rfl ?_
  refine LW.p (PEv.move (.tmp rfl)) rfl rfl rfl ?_
  refine LW.yes rfl rfl rfl rfl rfl rfl ?_
  refine LW.p (PEv.tr (PEv.eql (.tmp rfl) (.const _)) (rfl)) rfl rfl rfl ?_
  refine LW.p (PEv.pick_and (.tmp rfl) (fun hp => (by first | exact .const _ | exact .tmp rfl | exact .cond rfl (by first | assumption | simp_all)))) rfl rfl rfl ?_
  refine LW.p (PEv.move (.tmp rfl)) rfl rfl rfl ?_
  refine LW.yes rfl rfl rfl rfl rfl rfl ?_
  refine LW.p (PEv.move (.tmp rfl)) rfl rfl rfl ?_
  refine LW.yes rfl rfl rfl rfl rfl rfl ?_
  refine LW.p (PEv.tr (PEv.eql (.tmp rfl) (.const _)) (rfl)) rfl rfl rfl ?_
  refine LW.p (PEv.pick_and (.tmp rfl) (fun hp => (by first | exact .const _ | exact .tmp rfl | exact .cond rfl (by first | assumption | simp_all)))) rfl rfl rfl ?_
  refine LW.p (PEv.move (.tmp rfl)) rfl rfl rfl ?_
  refine LW.yes rfl rfl rfl rfl rfl rfl ?_
  refine LW.p (PEv.move (.tmp rfl)) rfl rfl rfl ?_
  refine LW.yes rfl rfl rfl rfl rfl rfl ?_
  refine LW.p (PEv.tr (PEv.eql (.tmp rfl) (.const _)) (rfl)) rfl rfl rfl ?_
  refine LW.p (PEv.pick_and (.tmp rfl) (fun hp => (by first | exact .const _ | exact .tmp rfl | exact .cond rfl (by first | assumption | simp_all)))) rfl rfl rfl ?_
  refine LW.p (PEv.move (.tmp rfl)) rfl rfl rfl ?_
  refine LW.yes rfl rfl rfl rfl rfl rfl ?_
  refine LW.p (PEv.loadA Tryz.isAgg24 Tryz.sizeOf24 (hC.size) (.tmp rfl) (hB1.agg)) rfl rfl rfl ?_
  refine LW.yes rfl rfl rfl rfl rfl rfl ?_
  refine LW.c (enter_call0 (.cons (.tmp rfl) (.cons (.const _) (.cons (.const _) .nil))) (Tryz.en26)) rfl rfl rfl rfl (Members_any bc exB 8 30 _ hC (by decide)) ?_
  rintro v70 w12 ⟨hO70, uw12⟩
  have zw12 := uw12.size
  replace hW := hW.up uw12
  replace hC := hC.up uw12
  replace hB1 := hB1.up uw12
  replace hE10 := hE10.up uw12
  replace hE26 := hE26.up uw12
  replace hcx := hcx.up uw12
  rw [ex_me] at hO70
  obtain ⟨ad70, cp70, rfl, hE700⟩ := hO70.sl (fun _ => rfl)
  have hE70 : Els w12 ad70 1 eInt [5] := hE700
  clear hO70 hE700
  refine LW.yes rfl rfl rfl rfl rfl rfl ?_
  refine LW.r (REv.buildSlice (xs := ([5] : List Int)) (enc := eInt) (mk := vi) Tryz.underlying32 Tryz.sizeOf3 Tryz.zeroValue3 rfl (by decide) (fun _ => rfl) (fun _ => rfl) (.cons (.const _) .nil) rfl) rfl rfl rfl rfl ?_
  rintro _ w13 ⟨B71, cB71, rfl, NB71, yB71, xB71⟩
  have eB71 := NB71.at_
  have zB71 := NB71.size
  replace hW := hW.up NB71.up
  replace hC := hC.up NB71.up
  replace hB1 := hB1.up NB71.up
  replace hE10 := hE10.up NB71.up
  replace hE26 := hE26.up NB71.up
  replace hcx := hcx.up NB71.up
  replace hE70 := hE70.up NB71.up
  have hB71 := NB71.blk
  have hE71 := xB71
  refine LW.yes rfl rfl rfl rfl rfl rfl ?_
  refine LW.c (enter_call0 (.cons (.tmp rfl) (.cons (.tmp rfl) .nil)) (Tryz.en25)) rfl rfl rfl rfl (sameInts_any _ _ [5] [5] _ (Sl.of_els hE70) (Sl.of_els hE71) (by decide) (by decide)) ?_
  rintro _ w14 ⟨rfl, uw14⟩
  have zw14 := uw14.size
  replace hW := hW.up uw14
  replace hC := hC.up uw14
  replace hB1 := hB1.up uw14
  replace hE10 := hE10.up uw14
  replace hE26 := hE26.up uw14
  replace hcx := hcx.up uw14
  replace hE70 := hE70.up uw14
  replace hB71 := hB71.up uw14
  replace hE71 := hE71.up uw14
  rw [decide_eq_true rfl]
  refine LW.p (PEv.pick_and (.tmp rfl) (fun hp => (by first | exact .const _ | exact .tmp rfl | exact .cond rfl (by first | assumption | simp_all)))) rfl rfl rfl ?_
  refine LW.p (PEv.move (.tmp rfl)) rfl rfl rfl ?_
  refine LW.yes rfl rfl rfl rfl rfl rfl ?_
  refine LW.p (PEv.loadA Tryz.isAgg24 Tryz.sizeOf24 (hC.size) (.tmp rfl) (hB1.agg)) rfl rfl rfl ?_
  refine LW.yes rfl rfl rfl rfl rfl rfl ?_
  refine LW.c (enter_call0 (.cons (.tmp rfl) .nil) (Tryz.en28)) rfl rfl rfl rfl (Wafers_any bc exB _ hC (by decide) (by decide)) ?_
  rintro v76 w15 ⟨hO76, uw15⟩
  have zw15 := uw15.size
  replace hW := hW.up uw15
  replace hC := hC.up uw15
  replace hB1 := hB1.up uw15
  replace hE10 := hE10.up uw15
  replace hE26 := hE26.up uw15
  replace hcx := hcx.up uw15
  replace hE70 := hE70.up uw15
  replace hB71 := hB71.up uw15
  replace hE71 := hE71.up uw15
  rw [ex_wa] at hO76
  obtain ⟨ad76, cp76, rfl, hE760⟩ := hO76.sl (fun _ => rfl)
  have hE76 : Els w15 ad76 1 eInt [5, 6] := hE760
  clear hO76 hE760
  refine LW.yes rfl rfl rfl rfl rfl rfl ?_
  refine LW.r (REv.buildSlice (xs := ([5, 6] : List Int)) (enc := eInt) (mk := vi) Tryz.underlying32 Tryz.sizeOf3 Tryz.zeroValue3 rfl (by decide) (fun _ => rfl) (fun _ => rfl) (.cons (.const _) (.cons (.const _) .nil)) rfl) rfl rfl rfl rfl ?_
  rintro _ w16 ⟨B77, cB77, rfl, NB77, yB77, xB77⟩
  have eB77 := NB77.at_
  have zB77 := NB77.size
  replace hW := hW.up NB77.up
  replace hC := hC.up NB77.up
  replace hB1 := hB1.up NB77.up
  replace hE10 := hE10.up NB77.up
  replace hE26 := hE26.up NB77.up
  replace hcx := hcx.up NB77.up
  replace hE70 := hE70.up NB77.up
  replace hB71 := hB71.up NB77.up
  replace hE71 := hE71.up NB77.up
  replace hE76 := hE76.up NB77.up
  have hB77 := NB77.blk
  have hE77 := xB77
  refine LW.yes rfl rfl rfl rfl rfl rfl ?_
  refine LW.c (enter_call0 (.cons (.tmp rfl) (.cons (.tmp rfl) .nil)) (Tryz.en25)) rfl rfl rfl rfl (sameInts_any _ _ [5, 6] [5, 6] _ (Sl.of_els hE76) (Sl.of_els hE77) (by decide) (by decide)) ?_
  rintro _ w17 ⟨rfl, uw17⟩
  have zw17 := uw17.size
  replace hW := hW.up uw17
  replace hC := hC.up uw17
  replace hB1 := hB1.up uw17
  replace hE10 := hE10.up uw17
  replace hE26 := hE26.up uw17
  replace hcx := hcx.up uw17
  replace hE70 := hE70.up uw17
  replace hB71 := hB71.up uw17
  replace hE71 := hE71.up uw17
  replace hE76 := hE76.up uw17
  replace hB77 := hB77.up uw17
  replace hE77 := hE77.up uw17
  rw [decide_eq_true rfl]
  refine LW.p (PEv.pick_and (.tmp rfl) (fun hp => (by first | exact .const _ | exact .tmp rfl | exact .cond rfl (by first | assumption | simp_all)))) rfl rfl rfl ?_
  refine LW.p (PEv.assign (.tmp rfl)) rfl rfl rfl (LW.nil (KW.then (CW.ret ?_)))
  refine KW.ret1 rfl rfl ⟨_, rfl, ?_⟩
  exact ⟨rfl, hW⟩
end Go.Proofs.YthfjagphcekcbaaGreat
end
section
namespace Go.Wx
open Go.RowKit
section
variable {P : Program} {n : Nat} {ds : List Deferred} {l : Env} {w : World} {d : Option Tmp} {ty : TypeId} {ps : String} {af : Array Edge} {g : Option (Nat × Bool)}
theorem PEv.max2 {x y : Operand} {ts : Array TypeId} {i j : Int} (hx : Val l x (.int .i64 i)) (hy : Val l y (.int .i64 j)) :
    PEv P n ds l w ⟨d, .call { callee := .builtin .max, args := #[x, y], argTypes := ts }, ty, ps, af, g⟩ (.int .i64 (if i < j then j else i)) := fun a w' ha _ => by
  rw [BigFrame.execOp_builtin, BigFrame.builtin_max]
  refine run_v ?_
  have e : (#[x, y] : Array Operand).map a.eval = #[.int .i64 i, .int .i64 j] := by simp [ha.ev hx, ha.ev hy]
  rw [e]
  exact run_max_int2 w' _ _ _ _ _ _
end
end Go.Wx
end
section
namespace Go.Wx
theorem sortI_len (ks : List Int) : (sortI ks).length = ks.length := List.length_mergeSort _
theorem memK_len2 (lots : List Fact) (lot t : Int) : (membersL lots lot t).length ≤ lots.length := by unfold membersL; rw [sortI_len]; exact memK_len _ _ _ _
end Go.Wx
namespace Go.Proofs.YthfjagphcekcbaaGreat
open Go.Wx Go.RowKit
end Go.Proofs.YthfjagphcekcbaaGreat
end
section
namespace Go.Wx
abbrev zb : Array Go.Value := #[.slice none 0 0, .slice none 0 0, .slice none 0 0, .slice none 0 0, .slice none 0 0, .slice none 0 0, .slice none 0 0, .slice none 0 0, .slice none 0 0, .slice none 0 0, .slice none 0 0]
theorem zb_no (i : Nat) (n : Int) : zb[i]? ≠ some (vi n) := by
  match i with
  | 0 | 1 | 2 | 3 | 4 | 5 | 6 | 7 | 8 | 9 | 10 => intro h; cases h
  | k + 11 => intro h; rw [Array.getElem?_eq_none (by simp)] at h; cases h
theorem Els.stoF {w w' : World} {B : Nat} {cs : Array Go.Value} {T : TypeId} {ad : Option Addr} {xs : List Fact} (h : Els w ad 19 Fact.cells xs) (hb : Blk w B cs T) (hc : ∀ (i : Nat) (n : Int), cs[i]? ≠ some (vi n)) (u : Sto B w w') : Els w' ad 19 Fact.cells xs := fun i x hx => by
  obtain ⟨B', o, h1, h2⟩ := h i x hx
  refine ⟨B', o, h1, h2.sto u (fun e => ?_)⟩
  subst e
  have h3 := h2 0 (vi x.Kind) rfl
  have h4 : w.cell? ⟨B', o + i * 19 + 0, none⟩ = cs[o + i * 19 + 0]? := by unfold World.cell?; rw [hb]; rfl
  rw [h4] at h3
  exact hc _ _ h3
theorem Sl.stoF {w w' : World} {B : Nat} {cs : Array Go.Value} {T : TypeId} {v : Go.Value} {xs : List Fact} (h : Sl w v 19 Fact.cells xs) (hb : Blk w B cs T) (hc : ∀ (i : Nat) (n : Int), cs[i]? ≠ some (vi n)) (u : Sto B w w') : Sl w' v 19 Fact.cells xs := let ⟨ad, c, e, hE⟩ := h; ⟨ad, c, e, Els.stoF hE hb hc u⟩
theorem BaseC.stoF {w w' : World} {B : Nat} {cs : Array Go.Value} {T : TypeId} {bc : Array Go.Value} {b : Base} (h : BaseC w bc b) (hb : Blk w B cs T) (hc : ∀ (i : Nat) (n : Int), cs[i]? ≠ some (vi n)) (u : Sto B w w') : BaseC w' bc b := by
  obtain ⟨v0, v1, v2, v3, v4, v5, v6, v7, v8, v9, v10, e, h0, h1, h2, h3, h4, h5, h6, h7, h8, h9, h10⟩ := h
  exact ⟨v0, v1, v2, v3, v4, v5, v6, v7, v8, v9, v10, e, h0.stoF hb hc u, h1.stoF hb hc u, h2.stoF hb hc u, h3.stoF hb hc u, h4.stoF hb hc u, h5.stoF hb hc u, h6.stoF hb hc u, h7.stoF hb hc u, h8.stoF hb hc u, h9.stoF hb hc u, h10.stoF hb hc u⟩
theorem lst_mem {l : List Fact} {d : Int} {j : Nat} (hj : j < 11) {x : Fact} : x ∈ lstOf (ofB l d) j ↔ eff l d x ∧ x.Gone = false ∧ x.Kind = ((j + 1 : Nat) : Int) := by
  rw [lst_ofB l d hj]
  unfold lstAt
  rw [if_pos (List.mem_singleton.2 rfl), (sortK_sts _).same.mem, List.mem_filter, best_eff]
  simp
theorem eff_valid {l : List Fact} {d : Int} {x : Fact} (h : eff l d x) : validB x = true := keyB_valid h.2.1
theorem eff_key {l : List Fact} {d : Int} {x y : Fact} (hx : eff l d x) (hy : eff l d y) (e : keyB x = keyB y) : x = y := prev_total (eff_valid hx) (eff_valid hy) e (hy.2.2.2 x hx.1 hx.2.2.1) (hx.2.2.2 y hy.1 hy.2.2.1)
end Go.Wx
namespace Go.Proofs.YthfjagphcekcbaaGreat
open Go.Wx Go.RowKit
theorem known_any (ad : Option Addr) (cp : Nat) (xs : List I6) (day : Int) (w : World) (hE1 : Els w ad 6 I6.cells xs) : Ret Tryz.prog 30 #[.slice ad xs.length cp, vi day] w fun r w' => (∃ bc, r = .agg bc ∧ BaseC w' bc (ofB (someL xs) (pickI day 11))) ∧ Up w w' := by
  obtain ⟨w0, rfl⟩ : ∃ w0, w0 = w := ⟨_, rfl⟩
  have hS := Sep.start no w0
  refine Calls_start (n := 10) (m := 9) Tryz.func30 rfl rfl rfl ?_
  refine CW.seq (CW.region ?_)
  refine LW.r (REv.allocA Tryz.zeroValue24) rfl rfl rfl rfl ?_
  rintro _ w1 ⟨B4, rfl, NB4⟩
  have eB4 := NB4.at_
  have zB4 := NB4.size
  replace hS := hS.addB NB4
  change Wx.Sep _ _ _ [_] at hS
  refine LW.nil (KW.then (CW.seq (CW.region (LW.p (PEv.move (.tmp rfl)) rfl rfl rfl ?_))))
  refine LW.c (enter_call0 (.cons (.tmp rfl) .nil) (Tryz.en14)) rfl rfl rfl rfl (Some_any ad cp xs _ (Els.up hE1 hS.upd)) ?_
  rintro v6 w2 ⟨hO6, uw2⟩
  have zw2 := uw2.size
  replace hS := hS.add uw2 (A' := aOwn 46 19 Fact.cells v6 (someL xs)) (hO6.mono (Nat.zero_le _)) (fun i h => hO6.base i h)
  change Wx.Sep _ _ _ [_, _] at hS
  clear hO6
  obtain ⟨ad6, cp6, rfl, _⟩ := (hS.own 1 rfl).sl (fun _ => rfl)
  have hl6 := someL_len xs
  refine LW.p (PEv.move (.tmp rfl)) rfl rfl rfl ?_
  refine LW.c (enter_call0 (.cons (.tmp rfl) (.cons (.const _) .nil)) (Tryz.en15)) rfl rfl rfl rfl (pick_any _ _ _ (by decide)) ?_
  rintro _ w3 ⟨rfl, uw3⟩
  have zw3 := uw3.size
  replace hS := hS.up uw3
  refine LW.c (enter_call0 (.cons (.tmp rfl) (.cons (.tmp rfl) .nil)) (Tryz.en13)) rfl rfl rfl rfl (Of_any ad6 cp6 (someL xs) _ _ ((hS.own 1 rfl).els (fun _ => rfl)) (by omega)) ?_
  rintro _ w4 ⟨bc, rfl, hC, uw4⟩
  have zw4 := uw4.size
  replace hS := hS.up uw4
  have hBz := hS.blk 0 rfl
  refine LW.s (SEv.storeA Tryz.sizeOf24 hC.size (.tmp rfl) (.tmp rfl) hC.one (hS.blk 0 rfl) rfl) rfl rfl rfl ?_
  intro w5 Nw5
  have zw5 := Nw5.size
  replace hS := hS.putB 0 rfl Nw5
  change Wx.Sep _ _ _ [_, _] at hS
  replace hC := hC.stoF hBz zb_no Nw5.sto
  refine LW.nil (KW.then (CW.ret ?_))
  refine KW.retA rfl rfl Tryz.isAgg24 Tryz.sizeOf24 hC.size ((hS.blk 0 rfl).agg) ⟨_, rfl, ?_⟩
  exact ⟨⟨bc, rfl, hC⟩, hS.upd⟩
end Go.Proofs.YthfjagphcekcbaaGreat
end
section
namespace Go.Wx
theorem someF_wafer (y : I6) : (someF y).Wafer = wI (1 + pickI y.d 6) := by
  unfold someF
  split
  · rfl
  · split <;> rfl
theorem wI_in {n : Int} (h0 : -9223372036854775808 ≤ n) (h1 : n < 9223372036854775808) : wI n = n := wrap_i64_in h0 (by omega)
theorem someF_wr {y : I6} (h : I6Ok y) : 1 ≤ (someF y).Wafer ∧ (someF y).Wafer ≤ 6 := by
  have h1 := pick_range (c := y.d) (n := 6) h.2.2.2.1 (by decide)
  rw [someF_wafer, wI_in (by omega) (by omega)]
  omega
theorem isID_small {k : Int} (h : 1 ≤ k ∧ k ≤ 7) : isIDb k = true := by unfold isIDb; simp; omega
end Go.Wx
namespace Go.Proofs.YthfjagphcekcbaaGreat
open Go.Wx Go.RowKit
end Go.Proofs.YthfjagphcekcbaaGreat
end
section
namespace Go.Wx
theorem addI_nodup {ks : List Int} {k : Int} (h : ks.Nodup) : (addI ks k).Nodup := by
  unfold addI
  split
  · exact h
  · rename_i e
    exact List.nodup_append.2 ⟨h, by simp, fun a ha c hc => by rw [List.mem_singleton] at hc; subst hc; exact fun e2 => e (e2 ▸ ha)⟩
theorem sortI_mem {ks : List Int} {k : Int} : k ∈ sortI ks ↔ k ∈ ks := (List.mergeSort_perm ks _).mem_iff
theorem sortI_lt {ks : List Int} (h : ks.Nodup) : (sortI ks).Pairwise (· < ·) := by
  have h1 : (sortI ks).Pairwise fun x y => decide (x ≤ y) = true := List.pairwise_mergeSort (fun a b c h1 h2 => by simp at h1 h2 ⊢; omega) (fun a b => by simp; omega) ks
  have h2 : (sortI ks).Pairwise (· ≠ ·) := ((List.mergeSort_perm ks _).nodup_iff).2 h
  exact (h1.and h2).imp fun {a b} h => by have := of_decide_eq_true h.1; have := h.2; omega
theorem lt_at {l : List Int} (h : l.Pairwise (· < ·)) {i j : Nat} {a b : Int} (hij : i < j) (ha : l[i]? = some a) (hb : l[j]? = some b) : a < b := by
  obtain ⟨l1, e1⟩ := List.getElem?_eq_some_iff.1 ha
  obtain ⟨l2, e2⟩ := List.getElem?_eq_some_iff.1 hb
  have := List.pairwise_iff_getElem.1 h i j l1 l2 hij
  rw [e1, e2] at this
  exact this
theorem not_take {l : List Int} (h : l.Pairwise (· < ·)) {i : Nat} {b : Int} (hb : l[i]? = some b) : b ∉ l.take i := fun hm => by
  obtain ⟨j, hj⟩ := List.mem_iff_getElem?.1 hm
  rw [List.getElem?_take] at hj
  split at hj
  · have := lt_at h (by assumption) hj hb
    omega
  · cases hj
theorem prev_cond {i : Nat} {a : Prop} [Decidable a] (h : 0 < i → ¬ a) : (decide ((0 : Int) < (i : Int)) && decide a) = false := by
  by_cases hk : 0 < i
  · rw [decide_eq_false (h hk), Bool.and_false]
  · rw [decide_eq_false (show ¬ (0 : Int) < (i : Int) by omega)]; rfl
theorem someF_ti {y : I6} (h : I6Ok y) : (0 ≤ (someF y).Time ∧ (someF y).Time < 50) ∧ (someF y).ID ≤ 12 := by
  have h1 := pick_range (c := y.e) (n := 50) h.2.2.2.2.1 (by decide)
  have h2 := pick_range (c := y.c) (n := 12) h.2.2.1 (by decide)
  have e : (someF y).Time = pickI y.e 50 := by
    unfold someF
    split
    · rfl
    · split <;> rfl
  have e2 : (someF y).ID = wI (1 + pickI y.c 12) ∨ (someF y).ID = 0 := by
    unfold someF
    split
    · exact .inl rfl
    · split
      · exact .inl rfl
      · exact .inr rfl
  rw [e]
  rw [wI_in (by omega) (by omega)] at e2
  omega
def intA (p : Nat → Int) : Array Go.Value := #[vi (p 0), vi (p 1), vi (p 2), vi (p 3), vi (p 4), vi (p 5), vi (p 6)]
theorem intA_at (p : Nat → Int) {i : Nat} (h : i < 7) : nth (intA p).toList (0 + i * 1) = some (vi (p i)) := by
  match i, h with
  | 0, _ | 1, _ | 2, _ | 3, _ | 4, _ | 5, _ | 6, _ => rfl
theorem intA_lt (p : Nat → Int) {i : Nat} (h : i < 7) : 0 + i * 1 < (intA p).size := by show 0 + i * 1 < 7; omega
theorem intA_set (p : Nat → Int) {i : Nat} (h : i < 7) (v : Int) : (intA p).setIfInBounds (0 + i * 1) (vi v) = intA (fun k => if k = i then v else p k) := by
  match i, h with
  | 0, _ | 1, _ | 2, _ | 3, _ | 4, _ | 5, _ | 6, _ => simp [intA]
theorem intA_congr {p q : Nat → Int} (h : ∀ i, i < 7 → p i = q i) : intA p = intA q := by unfold intA; rw [h 0 (by decide), h 1 (by decide), h 2 (by decide), h 3 (by decide), h 4 (by decide), h 5 (by decide), h 6 (by decide)]
def lotR (f : Fact) : Prop := (1 ≤ f.Wafer ∧ f.Wafer ≤ 6) ∧ (1 ≤ f.Lot ∧ f.Lot ≤ 3) ∧ 0 ≤ f.Time
theorem lots_r {xs : List I6} (hx : ∀ y ∈ xs, I6Ok y) {d : Int} {f : Fact} (h : f ∈ (ofB (someL xs) d).Lots) : lotR f := by
  obtain ⟨h1, _, h3⟩ := (lst_mem (j := 3) (by decide)).1 h
  obtain ⟨y, hy, rfl⟩ := List.mem_map.1 (show f ∈ ((xs.take 30).map someF) from h1.1)
  have hok := hx y (List.mem_of_mem_take hy)
  have hp := pick_range (c := y.f) (n := 3) hok.2.2.2.2.2 (by decide)
  refine ⟨someF_wr hok, ?_, (someF_ti hok).1.1⟩
  have e : (someF y).Lot = wI (1 + pickI y.f 3) := by
    unfold someF at h3 ⊢
    split
    · rename_i e; rw [if_pos e] at h3; exact absurd h3 (by show ¬ (1 : Int) = 4; decide)
    · rename_i e
      rw [if_neg e] at h3
      split
      · rename_i e2; rw [if_pos e2] at h3; exact absurd h3 (by show ¬ (3 : Int) = 4; decide)
      · rfl
  rw [e, wI_in (by omega) (by omega)]
  omega
theorem lots_key {l : List Fact} {d : Int} {x y : Fact} (hx : x ∈ (ofB l d).Lots) (hy : y ∈ (ofB l d).Lots) (e1 : x.Wafer = y.Wafer) (e2 : x.Time = y.Time) : x = y := by
  have hx := (lst_mem (j := 3) (by decide)).1 hx
  have hy := (lst_mem (j := 3) (by decide)).1 hy
  exact eff_key hx.1 hy.1 (key_of_ord (k := 4) (eff_valid hx.1) (eff_valid hy.1) hx.2.2 hy.2.2 (by show (x.Wafer, x.Time) = (y.Wafer, y.Time); rw [e1, e2]))
def latS (w t : Int) (a : Int) (f : Fact) : Int := if f.Wafer = w ∧ f.Time ≤ t ∧ a < f.Time then f.Time else a
def latL (l : List Fact) (w t : Int) : Int := l.foldl (latS w t) (-1)
theorem latL_snoc {l : List Fact} {w t : Int} {k : Nat} {x : Fact} (h : l[k]? = some x) : latL (l.take (k + 1)) w t = latS w t (latL (l.take k) w t) x := by unfold latL; rw [take_succ_of h, List.foldl_append]; rfl
theorem lot_inv {w t : Int} (hw : 1 ≤ w ∧ w ≤ 6) : ∀ {l : List Fact} (b : Option Fact) (a : Int), (∀ f ∈ l, 0 ≤ f.Time) → (match b with | none => a = -1 | some g => a = g.Time ∧ g.Wafer = w ∧ 0 ≤ g.Time) →
    match l.foldl (lotStep w t) b with | none => b = none ∧ l.foldl (latS w t) a = -1 | some g => l.foldl (latS w t) a = g.Time ∧ g.Wafer = w ∧ 0 ≤ g.Time ∧ (b = some g ∨ g ∈ l)
  | [], b, a, _, hb => by
    cases b with
    | none => exact ⟨rfl, hb⟩
    | some g => exact ⟨hb.1, hb.2.1, hb.2.2, .inl rfl⟩
  | f :: l, b, a, hl, hb => by
    have hf := hl f List.mem_cons_self
    have hi : isIDb w = true := isID_small (by omega)
    rw [List.foldl_cons, List.foldl_cons]
    by_cases hc : f.Wafer = w ∧ f.Time ≤ t ∧ a < f.Time
    · have e1 : latS w t a f = f.Time := if_pos hc
      have e2 : lotStep w t b f = some f := by
        unfold lotStep lotTakes
        rw [hi, decide_eq_true hc.1, decide_eq_true hc.2.1]
        cases b with
        | none => rfl
        | some g => rw [if_pos]; show decide (g.Time < f.Time) = true; exact decide_eq_true (by rw [← hb.1]; exact hc.2.2)
      rw [e1, e2]
      have ih := lot_inv hw (t := t) (l := l) (some f) f.Time (fun g hg => hl g (List.mem_cons_of_mem _ hg)) ⟨rfl, hc.1, hf⟩
      cases hq : l.foldl (lotStep w t) (some f) with
      | none => rw [hq] at ih; exact absurd ih.1 (by simp)
      | some g =>
        rw [hq] at ih
        refine ⟨ih.1, ih.2.1, ih.2.2.1, .inr ?_⟩
        rcases ih.2.2.2 with e | e
        · cases e; exact List.mem_cons_self
        · exact List.mem_cons_of_mem _ e
    · have e1 : latS w t a f = a := if_neg hc
      have e2 : lotStep w t b f = b := by
        unfold lotStep
        rw [if_neg]
        unfold lotTakes
        intro h
        simp only [Bool.and_eq_true, decide_eq_true_eq] at h
        apply hc
        refine ⟨h.1.1.2, h.1.2, ?_⟩
        cases b with
        | none => rw [hb]; omega
        | some g => have h2 := h.2; rw [hb.1]; simpa using h2
      rw [e1, e2]
      have ih := lot_inv hw (t := t) (l := l) b a (fun g hg => hl g (List.mem_cons_of_mem _ hg)) hb
      cases hq : l.foldl (lotStep w t) b with
      | none => rw [hq] at ih; exact ih
      | some g =>
        rw [hq] at ih
        exact ⟨ih.1, ih.2.1, ih.2.2.1, ih.2.2.2.imp id fun e => List.mem_cons_of_mem _ e⟩
theorem lot_cases {l : List Fact} (hl : ∀ f ∈ l, lotR f) {w t : Int} (hw : 1 ≤ w ∧ w ≤ 6) : (lotOf l w t = (0, 0) ∧ latL l w t = -1) ∨ ∃ g ∈ l, g.Wafer = w ∧ latL l w t = g.Time ∧ lotOf l w t = (g.Lot, g.Product) := by
  have h := lot_inv hw (t := t) (l := l) none (-1) (fun f hf => (hl f hf).2.2) rfl
  unfold lotOf lotBest latL
  cases hq : l.foldl (lotStep w t) none with
  | none => rw [hq] at h; exact .inl ⟨rfl, h.2⟩
  | some g =>
    rw [hq] at h
    refine .inr ⟨g, ?_, h.2.1, h.1, rfl⟩
    rcases h.2.2.2 with e | e
    · cases e
    · exact e
theorem lot_rng {l : List Fact} (hl : ∀ f ∈ l, lotR f) {w t : Int} (hw : 1 ≤ w ∧ w ≤ 6) : 0 ≤ (lotOf l w t).1 ∧ (lotOf l w t).1 ≤ 3 := by
  rcases lot_cases hl (t := t) hw with h | ⟨g, hg, _, _, h⟩
  · rw [h.1]; exact ⟨Int.le_refl _, by show (0 : Int) ≤ 3; decide⟩
  · rw [h]; have := (hl g hg).2.1; show 0 ≤ g.Lot ∧ g.Lot ≤ 3; omega
theorem foldAddP {α : Type} (p : α → Bool) (g : α → Int) : ∀ (l : List α) (ks : List Int), (ks.Nodup → (l.foldl (fun ks x => if p x = true then addI ks (g x) else ks) ks).Nodup) ∧ ∀ k, k ∈ l.foldl (fun ks x => if p x = true then addI ks (g x) else ks) ks ↔ k ∈ ks ∨ ∃ x ∈ l, p x = true ∧ g x = k
  | [], ks => ⟨fun h => h, fun k => by simp⟩
  | x :: l, ks => by
    rw [List.foldl_cons]
    by_cases hp : p x = true
    · rw [if_pos hp]
      have ih := foldAddP p g l (addI ks (g x))
      refine ⟨fun h => ih.1 (addI_nodup h), fun k => ?_⟩
      rw [ih.2 k, addI_mem]
      constructor
      · rintro ((h | h) | ⟨y, hy, e⟩)
        · exact .inl h
        · exact .inr ⟨x, List.mem_cons_self, hp, h.symm⟩
        · exact .inr ⟨y, List.mem_cons_of_mem _ hy, e⟩
      · rintro (h | ⟨y, hy, e1, e⟩)
        · exact .inl (.inl h)
        · rcases List.mem_cons.1 hy with rfl | hy
          · exact .inl (.inr e.symm)
          · exact .inr ⟨y, hy, e1, e⟩
    · rw [if_neg hp]
      have ih := foldAddP p g l ks
      refine ⟨ih.1, fun k => ?_⟩
      rw [ih.2 k]
      constructor
      · rintro (h | ⟨y, hy, e⟩)
        · exact .inl h
        · exact .inr ⟨y, List.mem_cons_of_mem _ hy, e⟩
      · rintro (h | ⟨y, hy, e1, e⟩)
        · exact .inl h
        · rcases List.mem_cons.1 hy with rfl | hy
          · exact absurd e1 hp
          · exact .inr ⟨y, hy, e1, e⟩
theorem membersL_lt (lots : List Fact) (lot t : Int) : (membersL lots lot t).Pairwise (· < ·) := by
  unfold membersL memK
  exact sortI_lt ((foldAddP (memP lots lot t) (fun f => f.Wafer) lots []).1 List.nodup_nil)
theorem membersL_mem {lots : List Fact} {lot t k : Int} : k ∈ membersL lots lot t ↔ isIDb lot = true ∧ (lotOf lots k t).1 = lot ∧ ∃ f ∈ lots, f.Wafer = k := by
  unfold membersL memK
  rw [sortI_mem, (foldAddP (memP lots lot t) (fun f => f.Wafer) lots []).2]
  constructor
  · rintro (h | ⟨f, hf, h1, rfl⟩)
    · cases h
    · unfold memP at h1
      rw [Bool.and_eq_true] at h1
      exact ⟨h1.2, of_decide_eq_true h1.1, f, hf, rfl⟩
  · rintro ⟨h1, h2, f, hf, rfl⟩
    exact .inr ⟨f, hf, by unfold memP; rw [h1, decide_eq_true h2]; rfl, rfl⟩
theorem members_0 (lots : List Fact) (t : Int) : membersL lots 0 t = [] := List.eq_nil_iff_forall_not_mem.2 fun k hk => by have := (membersL_mem.1 hk).1; cases this
def inF (lots : List Fact) (t : Int) (L : Nat) (M : List Int) (w : Nat) : Int := if 1 ≤ w ∧ 1 ≤ (lotOf lots w t).1 ∧ (lotOf lots w t).1 < L then (lotOf lots w t).1 else if (w : Int) ∈ M then L else 0
theorem inF_0 (lots : List Fact) (t : Int) (w : Nat) : inF lots t 1 [] w = 0 := by
  unfold inF
  rw [if_neg (by omega)]; simp
theorem inF_new {lots : List Fact} {t : Int} {L i w : Nat} (hw : (membersL lots L t)[i]? = some (w : Int)) : inF lots t L ((membersL lots L t).take i) w = 0 := by
  have h1 := (membersL_mem.1 (List.mem_of_getElem? hw)).2.1
  unfold inF
  rw [if_neg (by omega), if_neg (not_take (membersL_lt _ _ _) hw)]
theorem inF_set {lots : List Fact} {t : Int} {L i w : Nat} (hw : (membersL lots L t)[i]? = some (w : Int)) : intA (fun k => if k = w then (L : Int) else inF lots t L ((membersL lots L t).take i) k) = intA (inF lots t L ((membersL lots L t).take (i + 1))) := by
  refine intA_congr fun k _ => ?_
  have h1 := (membersL_mem.1 (List.mem_of_getElem? hw)).2.1
  have h2 : (k : Int) ∈ (membersL lots L t).take (i + 1) ↔ (k : Int) ∈ (membersL lots L t).take i ∨ k = w := by rw [take_succ_of hw, List.mem_append, List.mem_singleton]; exact or_congr Iff.rfl (by omega)
  unfold inF
  simp only [h2]
  by_cases e : k = w
  · subst e
    rw [if_pos rfl, if_neg (by omega), if_pos (.inr rfl)]
  · rw [if_neg e]
    simp [e]
theorem inF_next {lots : List Fact} (hl : ∀ f ∈ lots, lotR f) {t : Int} {L : Nat} (hL : 1 ≤ L ∧ L ≤ 4) : intA (inF lots t L (membersL lots L t)) = intA (inF lots t (L + 1) []) := by
  refine intA_congr fun k hk => ?_
  have hi : isIDb (L : Int) = true := isID_small (by omega)
  unfold inF
  by_cases h1 : 1 ≤ k ∧ 1 ≤ (lotOf lots k t).1 ∧ (lotOf lots k t).1 < L
  · rw [if_pos h1, if_pos (by omega)]
  · rw [if_neg h1]
    by_cases h2 : (k : Int) ∈ membersL lots L t
    · have h3 := membersL_mem.1 h2
      obtain ⟨f, hf, e⟩ := h3.2.2
      have := (hl f hf).1
      rw [if_pos h2, if_pos (by omega), h3.2.1]
    · rw [if_neg h2, if_neg ?_, if_neg (by simp)]
      rintro ⟨h4, h5, h6⟩
      apply h2
      rcases lot_cases hl (t := t) (w := (k : Int)) (by omega) with h | ⟨g, hg, hgw, _, h⟩
      · rw [h.1] at h5; exact absurd h5 (by show ¬ (1 : Int) ≤ 0; decide)
      · exact membersL_mem.2 ⟨hi, by omega, g, hg, hgw⟩
theorem inF_end {lots : List Fact} (hl : ∀ f ∈ lots, lotR f) {t : Int} {w : Nat} (hw : 1 ≤ w ∧ w ≤ 6) : inF lots t 5 [] w = (lotOf lots w t).1 := by
  have h := lot_rng hl (t := t) (w := (w : Int)) (by omega)
  unfold inF
  by_cases e : 1 ≤ (lotOf lots w t).1
  · rw [if_pos ⟨hw.1, e, by omega⟩]
  · rw [if_neg (by omega), if_neg (by simp)]; omega
theorem mem_rng {lots : List Fact} (hl : ∀ f ∈ lots, lotR f) {lot t k : Int} (h : k ∈ membersL lots lot t) : 1 ≤ k ∧ k ≤ 6 := by
  obtain ⟨f, hf, e⟩ := (membersL_mem.1 h).2.2
  have := (hl f hf).1
  omega
theorem lot_best {l : List Fact} {d w t : Int} (hl : ∀ f ∈ (ofB l d).Lots, lotR f) (hw : 1 ≤ w ∧ w ≤ 6) {x : Fact} (hx : x ∈ (ofB l d).Lots) (hxw : x.Wafer = w) : ((decide (x.Time = x.Time) && (!decide ((lotOf (ofB l d).Lots w t).1 = x.Lot) || !decide ((lotOf (ofB l d).Lots w t).2 = x.Product))) && decide (latL (ofB l d).Lots w t = x.Time)) = false := by
  by_cases e : latL (ofB l d).Lots w t = x.Time
  · rcases lot_cases hl (t := t) hw with h | ⟨g, hg, hgw, h1, h2⟩
    · have := (hl x hx).2.2
      omega
    · have : g = x := lots_key hg hx (by omega) (by omega)
      rw [h2, this]; simp
  · rw [decide_eq_false e, Bool.and_false]
theorem lot_none {l : List Fact} (hl : ∀ f ∈ l, lotR f) {w t : Int} (hw : 1 ≤ w ∧ w ≤ 6) : decide (latL l w t < 0) = decide ((lotOf l w t).1 = 0) ∧ ((lotOf l w t).1 = 0 → (lotOf l w t).2 = 0) := by
  rcases lot_cases hl (t := t) hw with h | ⟨g, hg, _, h1, h2⟩
  · rw [h.1, h.2]; exact ⟨rfl, fun _ => rfl⟩
  · rw [h1, h2]
    have h4 := (hl g hg).2
    refine ⟨decide_eq_decide.2 (by show g.Time < 0 ↔ g.Lot = 0; omega), fun h => ?_⟩
    have h3 : g.Lot = 0 := h
    omega
theorem lots_cond {a b c d : Bool} {e : Prop} [Decidable e] (h1 : a = false) (h2 : b = c) (h3 : d = true → e) : ((a || (b != c)) || (d && !decide e)) = false := by
  rw [h1, h2]
  cases d with
  | false => simp
  | true => simp [h3 rfl]
theorem of33 {a b : Prop} [Decidable a] [Decidable b] (h : (decide a && decide b) = true) : a ∧ b := by simpa using h
theorem of33n {a b : Prop} [Decidable a] [Decidable b] (h : (decide a && decide b) = false) : ¬ (a ∧ b) := fun ⟨h1, h2⟩ => by rw [decide_eq_true h1, decide_eq_true h2] at h; cases h
theorem of120 {a b c : Prop} [Decidable a] [Decidable b] [Decidable c] (h : ((decide a && decide b) && decide c) = true) : a ∧ b ∧ c := by simpa [and_assoc] using h
theorem of120n {a b c : Prop} [Decidable a] [Decidable b] [Decidable c] (h : ((decide a && decide b) && decide c) = false) : ¬ (a ∧ b ∧ c) := fun ⟨h1, h2, h3⟩ => by rw [decide_eq_true h1, decide_eq_true h2, decide_eq_true h3] at h; cases h
end Go.Wx
namespace Go.Proofs.YthfjagphcekcbaaGreat
open Go.Wx Go.RowKit
theorem latest_any (bc : Array Go.Value) (b : Base) (wafer time : Int) (w : World) (hC : BaseC w bc b) (hl : b.Lots.length ≤ 1000000000) : Ret Tryz.prog 31 #[.agg bc, vi wafer, vi time] w fun r w' => r = vi (latL b.Lots wafer time) ∧ Up w w' := by
  have hW := Up.refl w
  obtain ⟨w0, rfl⟩ : ∃ w0, w0 = w := ⟨_, rfl⟩
  refine Calls_start (n := 43) (m := 9) Tryz.func31 rfl rfl rfl ?_
  refine CW.seq (CW.region ?_)
  refine LW.r (REv.boxA (.tmp rfl)) rfl rfl rfl rfl ?_
  rintro _ w1 ⟨B3, rfl, NB3⟩
  have eB3 := NB3.at_
  have zB3 := NB3.size
  replace hC := hC.up NB3.up
  replace hW := hW.up NB3.up
  have hB3 := NB3.blk
  refine LW.p (PEv.assign (.const _)) rfl rfl rfl (LW.nil (KW.then (CW.seq (CW.region (LW.p (PEv.assign (.const _)) rfl rfl rfl (LW.nil (KW.then (CW.seq (CW.seq (CW.region (LW.p (PEv.assign (.const _)) rfl rfl rfl (LW.nil (KW.then ?_)))))))))))))
  refine CW.block ?_
  refine CW.loopB (σ := Nat × Int) (fun s w => (s.1 ≤ b.Lots.length) ∧ (s.2 = latL (b.Lots.take s.1) wafer time) ∧ (Up w0 w) ∧ (Blk w B3 bc 24) ∧ (BaseC w bc b)) (fun s => [(8, .eq (vi (s.1 : Int))), (7, .eq (vi s.2))]) ([(1, .eq _), (2, .eq _), (3, .eq _), (6, .eq _)]) (fun s => b.Lots.length - s.1) (0, -1) ?_ ⟨rfl, rfl, rfl, rfl, rfl, rfl, trivial⟩ ?_
  ·exact ⟨Nat.zero_le _, rfl, hW, hB3, hC⟩
  ·rintro ⟨k, a⟩ w2 ⟨hk, ha, hW, hB3, hC⟩
   dsimp only at hk ha
   change CW _ _ _ _ _ _ _ ([(8, .eq (vi (k : Int))), (7, .eq (vi a))] ++ _) _
   refine CW.seq (CW.seq ?_)
   obtain ⟨v3, h3, ad, cp, rfl, hE⟩ := hC.at3
   refine CW.region (LW.p (PEv.move (.tmp rfl)) rfl rfl rfl ?_)
   refine LW.p (PEv.fieldAddr (off := 3) Tryz.underlying24 rfl rfl Tryz.sizeOf22 rfl (.tmp rfl)) rfl rfl rfl ?_
   refine LW.p (PEv.load Tryz.isAgg22 (.tmp rfl) (hB3.cell h3)) rfl rfl rfl ?_
   refine LW.p (PEv.lenS Tryz.underlying22 (.tmp rfl)) rfl rfl rfl ?_
   refine LW.p (PEv.lss (.tmp rfl) (.tmp rfl)) rfl rfl rfl ?_
   refine LW.nil (KW.then ?_)
   refine CW.cond (.tmp rfl) (fun h13 => ?_) (fun h13 => ?_)
   ·first | replace h13 := of_decide_eq_true h13 | replace h13 := of_decide_eq_false h13 | skip
    refine CW.skip (KW.then (CW.seq (CW.block (CW.seq ?_))))
    obtain ⟨x, hx⟩ := getElem?_of_lt (xs := b.Lots) (i := k) (by omega)
    obtain ⟨Bx, ox, ax, hcx⟩ := hE k x hx
    refine CW.region ?_
    refine LW.p (PEv.fieldAddr (off := 3) Tryz.underlying24 rfl rfl Tryz.sizeOf22 rfl (.tmp rfl)) rfl rfl rfl ?_
    refine LW.p (PEv.load Tryz.isAgg22 (.tmp rfl) (hB3.cell h3)) rfl rfl rfl ?_
    refine LW.p (PEv.move (.tmp rfl)) rfl rfl rfl ?_
    refine LW.p (PEv.indexAddr' Tryz.underlying22 Tryz.sizeOf46 (.tmp rfl) (.tmp rfl) (by omega) ax) rfl rfl rfl ?_
    refine LW.p (PEv.fieldAddr (off := 7) Tryz.underlying46 rfl rfl Tryz.sizeOf3 rfl (.tmp rfl)) rfl rfl rfl ?_
    refine LW.p (PEv.load Tryz.isAgg3 (.tmp rfl) (hcx.nth (j := 7) rfl)) rfl rfl rfl ?_
    refine LW.p (PEv.move (.tmp rfl)) rfl rfl rfl ?_
    refine LW.p (PEv.eql (.tmp rfl) (.tmp rfl)) rfl rfl rfl ?_
    refine LW.p (PEv.move (.tmp rfl)) rfl rfl rfl ?_
    refine LW.g rfl rfl rfl rfl rfl rfl rfl (fun hc => PEv.fieldAddr (off := 3) Tryz.underlying24 rfl rfl Tryz.sizeOf22 rfl (.tmp rfl)) ?_
    refine LW.g rfl rfl rfl rfl rfl rfl rfl (fun hc => PEv.load Tryz.isAgg22 (by first | exact .tmp rfl | exact .cond rfl (by first | assumption | simp_all)) (hB3.cell h3)) ?_
    refine LW.g rfl rfl rfl rfl rfl rfl rfl (fun hc => PEv.move (.tmp rfl)) ?_
    refine LW.g rfl rfl rfl rfl rfl rfl rfl (fun hc => PEv.indexAddr' Tryz.underlying22 Tryz.sizeOf46 (by first | exact .tmp rfl | exact .cond rfl (by first | assumption | simp_all)) (by first | exact .tmp rfl | exact .cond rfl (by first | assumption | simp_all)) (by omega) ax) ?_
    refine LW.g rfl rfl rfl rfl rfl rfl rfl (fun hc => PEv.fieldAddr (off := 5) Tryz.underlying46 rfl rfl Tryz.sizeOf3 rfl (by first | exact .tmp rfl | exact .cond rfl (by first | assumption | simp_all))) ?_
    refine LW.g rfl rfl rfl rfl rfl rfl rfl (fun hc => PEv.load Tryz.isAgg3 (by first | exact .tmp rfl | exact .cond rfl (by first | assumption | simp_all)) (hcx.nth (j := 5) rfl)) ?_
    refine LW.g rfl rfl rfl rfl rfl rfl rfl (fun hc => PEv.move (.tmp rfl)) ?_
    refine LW.g rfl rfl rfl rfl rfl rfl rfl (fun hc => PEv.leq (by first | exact .tmp rfl | exact .cond rfl (by first | assumption | simp_all)) (by first | exact .tmp rfl | exact .cond rfl (by first | assumption | simp_all))) ?_
    refine LW.p (PEv.pick_and (.tmp rfl) (fun hp => (by first | exact .const _ | exact .tmp rfl | exact .cond rfl (by first | assumption | (rw [hp]; rfl) | (rw [hc, hp]; rfl) | simp_all)))) rfl rfl rfl ?_
    refine LW.nil (KW.then ?_)
    refine CW.cond (.tmp rfl) (fun h33 => ?_) (fun h33 => ?_)
    ·first | replace h33 := of_decide_eq_true h33 | replace h33 := of_decide_eq_false h33 | skip
     refine CW.region (LW.p (PEv.move (.tmp rfl)) rfl rfl rfl ?_)
     refine LW.p (PEv.fieldAddr (off := 3) Tryz.underlying24 rfl rfl Tryz.sizeOf22 rfl (.tmp rfl)) rfl rfl rfl ?_
     refine LW.p (PEv.load Tryz.isAgg22 (.tmp rfl) (hB3.cell h3)) rfl rfl rfl ?_
     refine LW.p (PEv.move (.tmp rfl)) rfl rfl rfl ?_
     refine LW.p (PEv.indexAddr' Tryz.underlying22 Tryz.sizeOf46 (.tmp rfl) (.tmp rfl) (by omega) ax) rfl rfl rfl ?_
     refine LW.p (PEv.fieldAddr (off := 5) Tryz.underlying46 rfl rfl Tryz.sizeOf3 rfl (.tmp rfl)) rfl rfl rfl ?_
     refine LW.p (PEv.load Tryz.isAgg3 (.tmp rfl) (hcx.nth (j := 5) rfl)) rfl rfl rfl ?_
     refine LW.p (PEv.max2 (.tmp rfl) (.tmp rfl)) rfl rfl rfl ?_
     refine LW.p (PEv.assign (.tmp rfl)) rfl rfl rfl (LW.nil (KW.inBlock (KW.then (CW.region (LW.p (PEv.move (.tmp rfl)) rfl rfl rfl ?_)))))
     refine LW.p (PEv.inc (.tmp rfl) (by omega)) rfl rfl rfl ?_
     refine LW.p (PEv.assign (.tmp rfl)) rfl rfl rfl (LW.nil (KW.round ?_))
     first | exact ⟨(k + 1, if a < x.Time then x.Time else a), ⟨by show k + 1 ≤ _; omega, by rw [latL_snoc hx, ← ha]; unfold latS; by_cases e : a < x.Time; (rw [if_pos e, if_pos ⟨(of33 h33).1, (of33 h33).2, e⟩]); (rw [if_neg e, if_neg (fun h => e h.2.2)]), hW, hB3, hC⟩, ⟨rfl, rfl, rfl, rfl, rfl, rfl, trivial⟩, by show b.Lots.length - (k + 1) < b.Lots.length - k; omega⟩ | exact ⟨(k + 1, a), ⟨by show k + 1 ≤ _; omega, by rw [latL_snoc hx, ← ha]; unfold latS; rw [if_neg (fun h => by have := of33n h33; exact this ⟨h.1, h.2.1⟩)], hW, hB3, hC⟩, ⟨rfl, rfl, rfl, rfl, rfl, rfl, trivial⟩, by show b.Lots.length - (k + 1) < b.Lots.length - k; omega⟩
    ·first | replace h33 := of_decide_eq_true h33 | replace h33 := of_decide_eq_false h33 | skip
     refine CW.skip (KW.inBlock (KW.then (CW.region (LW.p (PEv.move (.tmp rfl)) rfl rfl rfl ?_))))
     refine LW.p (PEv.inc (.tmp rfl) (by omega)) rfl rfl rfl ?_
     refine LW.p (PEv.assign (.tmp rfl)) rfl rfl rfl (LW.nil (KW.round ?_))
     first | exact ⟨(k + 1, if a < x.Time then x.Time else a), ⟨by show k + 1 ≤ _; omega, by rw [latL_snoc hx, ← ha]; unfold latS; by_cases e : a < x.Time; (rw [if_pos e, if_pos ⟨(of33 h33).1, (of33 h33).2, e⟩]); (rw [if_neg e, if_neg (fun h => e h.2.2)]), hW, hB3, hC⟩, ⟨rfl, rfl, rfl, rfl, rfl, rfl, trivial⟩, by show b.Lots.length - (k + 1) < b.Lots.length - k; omega⟩ | exact ⟨(k + 1, a), ⟨by show k + 1 ≤ _; omega, by rw [latL_snoc hx, ← ha]; unfold latS; rw [if_neg (fun h => by have := of33n h33; exact this ⟨h.1, h.2.1⟩)], hW, hB3, hC⟩, ⟨rfl, rfl, rfl, rfl, rfl, rfl, trivial⟩, by show b.Lots.length - (k + 1) < b.Lots.length - k; omega⟩
   ·first | replace h13 := of_decide_eq_true h13 | replace h13 := of_decide_eq_false h13 | skip
    refine CW.exit (KW.then_exit (KW.then_exit (KW.block_hit (KW.then (CW.seq (CW.region (LW.p (PEv.move (.tmp rfl)) rfl rfl rfl (LW.p (PEv.assign (.tmp rfl)) rfl rfl rfl (LW.nil (KW.then (CW.ret ?_)))))))))))
    refine KW.ret1 rfl rfl ⟨_, rfl, ?_⟩
    have hkl : k = b.Lots.length := by omega
    rw [hkl, List.take_length] at ha
    exact ⟨by rw [ha], hW⟩
set_option maxHeartbeats 4000000 in
theorem GenealogyLots_any (ad : Option Addr) (cp : Nat) (xs : List I6) (day time : Int) (w : World) (hE1 : Els w ad 6 I6.cells xs) (hxs : ∀ y ∈ xs, I6Ok y) : Ret Tryz.prog 9 #[.slice ad xs.length cp, vi day, vi time] w fun r w' => r = .bool true ∧ Up w w' := by
  obtain ⟨w0, rfl⟩ : ∃ w0, w0 = w := ⟨_, rfl⟩
  have hS := Sep.start no w0
  refine Calls_start (n := 176) (m := 9) Tryz.func9 rfl rfl rfl ?_
  refine CW.seq (CW.region (LW.p (PEv.assign (.const _)) rfl rfl rfl (LW.nil (KW.then (CW.seq (CW.region ?_))))))
  refine LW.c (enter_call0 .nil (Tryz.en11)) rfl rfl rfl rfl (sane_any _) ?_
  rintro _ w1 ⟨rfl, uw1⟩
  have zw1 := uw1.size
  replace hS := hS.up uw1
  refine LW.p (PEv.assign (.tmp rfl)) rfl rfl rfl (LW.nil (KW.then (CW.seq (CW.region (LW.p (PEv.move (.tmp rfl)) rfl rfl rfl (LW.p (PEv.move (.tmp rfl)) rfl rfl rfl ?_))))))
  refine LW.c (enter_call0 (.cons (.tmp rfl) (.cons (.tmp rfl) .nil)) (Tryz.en30)) rfl rfl rfl rfl (known_any ad cp xs day _ (Els.up hE1 hS.upd)) ?_
  rintro _ w2 ⟨⟨bc, rfl, hC⟩, uw2⟩
  have zw2 := uw2.size
  replace hS := hS.up uw2
  refine LW.r (REv.allocA Tryz.zeroValue24) rfl rfl rfl rfl ?_
  rintro _ w3 ⟨B8, rfl, MB8⟩
  refine LW.s (SEv.storeA Tryz.sizeOf24 (hC.size) (.tmp rfl) (.tmp rfl) (hC.one) MB8.blk rfl) rfl rfl rfl ?_
  intro w4 LB8
  have NB8 := MB8.set LB8
  clear LB8 MB8
  have eB8 := NB8.at_
  have zB8 := NB8.size
  replace hC := hC.up NB8.up
  replace hS := hS.addB NB8
  change Wx.Sep _ _ _ [_] at hS
  refine LW.nil (KW.then (CW.seq (CW.region (LW.p (PEv.move (.tmp rfl)) rfl rfl rfl ?_))))
  refine LW.c (enter_call0 (.cons (.tmp rfl) (.cons (.const _) .nil)) (Tryz.en15)) rfl rfl rfl rfl (pick_any _ _ _ (by decide)) ?_
  rintro _ w5 ⟨rfl, uw5⟩
  have zw5 := uw5.size
  replace hS := hS.up uw5
  replace hC := hC.up uw5
  refine LW.p (PEv.assign (.tmp rfl)) rfl rfl rfl (LW.nil (KW.then (CW.seq ?_)))
  have hSh := ofB_short (l := someL xs) (by have := someL_len xs; omega) (pickI day 11)
  have hll : (ofB (someL xs) (pickI day 11)).Lots.length ≤ 100000 := hSh 3
  obtain ⟨v3, h3, ad3, cp3, rfl, hE3⟩ := hC.at3
  have hUz := hS.upd
  have hB8 := hS.blk 0 rfl
  replace hS := Sep.start no w5
  obtain ⟨tm, etm⟩ : ∃ tm, tm = pickI time 60 := ⟨_, rfl⟩
  rw [← etm]
  have hlr : ∀ f ∈ (ofB (someL xs) (pickI day 11)).Lots, lotR f := fun f hf => lots_r hxs hf
  refine CW.region ?_
  refine LW.r (REv.allocA Tryz.zeroValue51) rfl rfl rfl rfl ?_
  rintro _ w6 ⟨B9, rfl, NB9⟩
  have eB9 := NB9.at_
  have zB9 := NB9.size
  replace hS := hS.addB NB9
  change Wx.Sep _ _ _ [_] at hS
  refine LW.nil (KW.then (CW.seq (CW.seq ?_)))
  change Wx.Sep _ _ _ [aBlk B9 (intA fun _ => 0) 51] at hS
  rw [show intA (fun _ => 0) = intA (inF (ofB (someL xs) (pickI day 11)).Lots tm 1 []) from intA_congr fun i _ => (inF_0 _ _ _).symm] at hS
  refine CW.region (LW.p (PEv.assign (.const _)) rfl rfl rfl (LW.nil (KW.then (CW.block ?_))))
  refine CW.loopB (σ := Nat) (fun s w => (1 ≤ s) ∧ (s ≤ 5) ∧ (Wx.Sep no w5 w [aBlk B9 (intA (inF (ofB (someL xs) (pickI day 11)).Lots tm s [])) 51])) (fun s => [(10, .eq (vi (s : Int)))]) ([(2, .eq _), (7, .eq _), (8, .eq _), (9, .eq _)]) (fun s => 5 - s) 1 ?_ ⟨rfl, rfl, rfl, rfl, rfl, trivial⟩ ?_
  ·exact ⟨Nat.le_refl _, by decide, hS⟩
  ·rintro L w7 ⟨hL1, hL4, hS⟩
   refine CW.seq (CW.seq (CW.region (LW.p (PEv.move (.tmp rfl)) rfl rfl rfl ?_)))
   refine LW.p (PEv.leq (.tmp rfl) (.const _)) rfl rfl rfl ?_
   refine LW.nil (KW.then ?_)
   refine CW.cond (.tmp rfl) (fun h26 => ?_) (fun h26 => ?_)
   ·first | replace h26 := of_decide_eq_true h26 | replace h26 := of_decide_eq_false h26 | skip
    refine CW.skip (KW.then (CW.seq (CW.block (CW.seq (CW.region ?_)))))
    refine LW.p (PEv.loadA Tryz.isAgg24 Tryz.sizeOf24 (hC.size) (.tmp rfl) ((hB8.up hS.upd).agg)) rfl rfl rfl ?_
    refine LW.p (PEv.move (.tmp rfl)) rfl rfl rfl (LW.p (PEv.move (.tmp rfl)) rfl rfl rfl ?_)
    refine LW.c (enter_call0 (.cons (.tmp rfl) (.cons (.tmp rfl) (.cons (.tmp rfl) .nil))) (Tryz.en26)) rfl rfl rfl rfl (Members_any bc (ofB (someL xs) (pickI day 11)) (L : Int) tm _ (hC.up hS.upd) (Nat.le_trans (hSh 3) (by decide))) ?_
    rintro v32 w8 ⟨hO32, uw8⟩
    have zw8 := uw8.size
    replace hS := hS.add uw8 (A' := aOwn 3 1 eInt v32 (membersL (ofB (someL xs) (pickI day 11)).Lots (L : Int) tm)) (hO32.mono (Nat.zero_le _)) (fun i h => hO32.base i h)
    change Wx.Sep _ _ _ [_, _] at hS
    clear hO32
    obtain ⟨ad32, cp32, rfl, _⟩ := (hS.own 1 rfl).sl (fun _ => rfl)
    refine LW.p (PEv.assign (.tmp rfl)) rfl rfl rfl (LW.nil (KW.then (CW.seq ?_)))
    have hml := memK_len2 (ofB (someL xs) (pickI day 11)).Lots (L : Int) tm
    refine CW.region (LW.p (PEv.assign (.const _)) rfl rfl rfl (LW.nil (KW.then (CW.block ?_))))
    refine CW.loopB (σ := Nat) (fun s w => (s ≤ (membersL (ofB (someL xs) (pickI day 11)).Lots (L : Int) tm).length) ∧ (Wx.Sep no w5 w [aBlk B9 (intA (inF (ofB (someL xs) (pickI day 11)).Lots tm L ((membersL (ofB (someL xs) (pickI day 11)).Lots (L : Int) tm).take s))) 51, aOwn 3 1 eInt (.slice ad32 (membersL (ofB (someL xs) (pickI day 11)).Lots (L : Int) tm).length cp32) (membersL (ofB (someL xs) (pickI day 11)).Lots (L : Int) tm)])) (fun s => [(12, .eq (vi (s : Int)))]) ([(2, .eq _), (7, .eq _), (8, .eq _), (9, .eq _), (10, .eq _), (11, .eq _)]) (fun s => (membersL (ofB (someL xs) (pickI day 11)).Lots (L : Int) tm).length - s) 0 ?_ ⟨rfl, rfl, rfl, rfl, rfl, rfl, rfl, trivial⟩ ?_
    ·exact ⟨Nat.zero_le _, hS⟩
    ·rintro i w9 ⟨hi, hS⟩
     refine CW.seq (CW.seq (CW.region (LW.p (PEv.move (.tmp rfl)) rfl rfl rfl (LW.p (PEv.move (.tmp rfl)) rfl rfl rfl ?_))))
     refine LW.p (PEv.lenS Tryz.underlying32 (.tmp rfl)) rfl rfl rfl ?_
     refine LW.p (PEv.lss (.tmp rfl) (.tmp rfl)) rfl rfl rfl ?_
     refine LW.nil (KW.then ?_)
     refine CW.cond (.tmp rfl) (fun h36 => ?_) (fun h36 => ?_)
     ·first | replace h36 := of_decide_eq_true h36 | replace h36 := of_decide_eq_false h36 | skip
      refine CW.skip (KW.then (CW.seq (CW.block (CW.seq (CW.seq ?_)))))
      obtain ⟨wx, hx⟩ := getElem?_of_lt (xs := (membersL (ofB (someL xs) (pickI day 11)).Lots (L : Int) tm)) (i := i) (by omega)
      obtain ⟨p, hp⟩ := getElem?_of_lt (xs := (membersL (ofB (someL xs) (pickI day 11)).Lots (L : Int) tm)) (i := i - 1) (by omega)
      have hEL := (hS.own 1 rfl).els (fun _ => rfl)
      have hwx := mem_rng hlr (List.mem_of_getElem? hx)
      obtain ⟨wf, rfl⟩ : ∃ n : Nat, wx = (n : Int) := ⟨wx.toNat, by omega⟩
      obtain ⟨Bx, ox, ax, hcx⟩ := hEL i _ hx
      obtain ⟨Bp, op, ap, hcp⟩ := hEL (i - 1) p hp
      have hw7 : wf < 7 := by omega
      have hpx : 0 < i → ¬ (wf : Int) ≤ p := fun h => by have := lt_at (membersL_lt (ofB (someL xs) (pickI day 11)).Lots L tm) (by omega) hp hx; omega
      refine CW.draws (by kernel_rfl) (by kernel_rfl) rfl rfl ?_
      refine HW.p (PEv.move (.tmp rfl)) rfl rfl ?_
      refine HW.p (PEv.move (.tmp rfl)) rfl rfl ?_
      refine HW.p (PEv.indexAddr' Tryz.underlying32 Tryz.sizeOf3 (.tmp rfl) (.tmp rfl) (by omega) ax) rfl rfl ?_
      refine HW.p (PEv.load Tryz.isAgg3 (.tmp rfl) (hcx.nth (j := 0) rfl)) rfl rfl ?_
      refine HW.p (PEv.fa (PEv.lss (.tmp rfl) (.const _)) (decide_eq_false (by omega))) rfl rfl ?_
      refine HW.p (PEv.move (.tmp rfl)) rfl rfl ?_
      refine HW.yp rfl rfl rfl rfl rfl (PEv.move (.tmp rfl)) rfl ?_
      refine HW.yp rfl rfl rfl rfl rfl (PEv.move (.tmp rfl)) rfl ?_
      refine HW.yp rfl rfl rfl rfl rfl (PEv.indexAddr' Tryz.underlying32 Tryz.sizeOf3 (.tmp rfl) (.tmp rfl) (by omega) ax) rfl ?_
      refine HW.yp rfl rfl rfl rfl rfl (PEv.load Tryz.isAgg3 (.tmp rfl) (hcx.nth (j := 0) rfl)) rfl ?_
      refine HW.yp rfl rfl rfl rfl rfl (PEv.fa (PEv.gtr (.tmp rfl) (.const _)) (decide_eq_false (by omega))) rfl ?_
      refine HW.p (PEv.pick_or (.tmp rfl) (fun hp => (by first | exact .const _ | exact .tmp rfl | exact .cond rfl (by first | assumption | (rw [hp]; rfl) | (rw [hc, hp]; rfl) | simp_all)))) rfl rfl ?_
      refine HW.p (PEv.move (.tmp rfl)) rfl rfl ?_
      refine HW.yp rfl rfl rfl rfl rfl (PEv.move (.tmp rfl)) rfl ?_
      refine HW.yp rfl rfl rfl rfl rfl (PEv.gtr (.tmp rfl) (.const _)) rfl ?_
      refine HW.yp rfl rfl rfl rfl rfl (PEv.move (.tmp rfl)) rfl ?_
      refine HW.g rfl rfl rfl rfl rfl rfl (fun hc => PEv.move (.tmp rfl)) ?_
      refine HW.g rfl rfl rfl rfl rfl rfl (fun hc => PEv.move (.tmp rfl)) ?_
      refine HW.g rfl rfl rfl rfl rfl rfl (fun hc => PEv.indexAddr' Tryz.underlying32 Tryz.sizeOf3 (by first | exact .tmp rfl | exact .cond rfl (by first | assumption | simp_all)) (by first | exact .tmp rfl | exact .cond rfl (by first | assumption | simp_all)) (by omega) ax) ?_
      refine HW.g rfl rfl rfl rfl rfl rfl (fun hc => PEv.load Tryz.isAgg3 (by first | exact .tmp rfl | exact .cond rfl (by first | assumption | simp_all)) (hcx.nth (j := 0) rfl)) ?_
      refine HW.g rfl rfl rfl rfl rfl rfl (fun hc => PEv.move (.tmp rfl)) ?_
      refine HW.g rfl rfl rfl rfl rfl rfl (fun hc => PEv.move (.tmp rfl)) ?_
      refine HW.g rfl rfl rfl rfl rfl rfl (fun hc => PEv.val (v' := vi ((i - 1 : Nat) : Int)) (PEv.sub (by first | exact .tmp rfl | exact .cond rfl (by first | assumption | simp_all)) (.const _) (by omega) (by omega)) (by have h0 : 0 < i := (by simp at hc; omega); congr 1; omega)) ?_
      refine HW.g rfl rfl rfl rfl rfl rfl (fun hc => PEv.indexAddr' Tryz.underlying32 Tryz.sizeOf3 (by first | exact .tmp rfl | exact .cond rfl (by first | assumption | simp_all)) (by first | exact .tmp rfl | exact .cond rfl (by first | assumption | simp_all)) (by omega) ap) ?_
      refine HW.g rfl rfl rfl rfl rfl rfl (fun hc => PEv.load Tryz.isAgg3 (by first | exact .tmp rfl | exact .cond rfl (by first | assumption | simp_all)) (hcp.nth (j := 0) rfl)) ?_
      refine HW.g rfl rfl rfl rfl rfl rfl (fun hc => PEv.leq (by first | exact .tmp rfl | exact .cond rfl (by first | assumption | simp_all)) (by first | exact .tmp rfl | exact .cond rfl (by first | assumption | simp_all))) ?_
      refine HW.yp rfl rfl rfl rfl rfl (PEv.fa (PEv.pick_and (.tmp rfl) (fun hp => (by first | exact .const _ | exact .tmp rfl | exact .cond rfl (by first | assumption | (rw [hp]; rfl) | (rw [hc, hp]; rfl) | simp_all)))) (prev_cond hpx)) rfl ?_
      refine HW.p (PEv.pick_or (.tmp rfl) (fun hp => (by first | exact .const _ | exact .tmp rfl | exact .cond rfl (by first | assumption | (rw [hp]; rfl) | (rw [hc, hp]; rfl) | simp_all)))) rfl rfl ?_
      refine HW.p (PEv.move (.tmp rfl)) rfl rfl ?_
      refine HW.yp rfl rfl rfl rfl rfl (PEv.move (.tmp rfl)) rfl ?_
      refine HW.yp rfl rfl rfl rfl rfl (PEv.move (.tmp rfl)) rfl ?_
      refine HW.yp rfl rfl rfl rfl rfl (PEv.indexAddr' Tryz.underlying32 Tryz.sizeOf3 (.tmp rfl) (.tmp rfl) (by omega) ax) rfl ?_
      refine HW.yp rfl rfl rfl rfl rfl (PEv.load Tryz.isAgg3 (.tmp rfl) (hcx.nth (j := 0) rfl)) rfl ?_
      refine HW.yp rfl rfl rfl rfl rfl (PEv.indexArr (j := wf) Tryz.underlying51 Tryz.sizeOf3 (.tmp rfl) (.tmp rfl) (by omega)) rfl ?_
      refine HW.yp rfl rfl rfl rfl rfl (PEv.load Tryz.isAgg3 (.tmp rfl) ((hS.blk 0 rfl).celln (intA_at _ hw7))) rfl ?_
      refine HW.yp rfl rfl rfl rfl rfl (PEv.fa (PEv.neq (.tmp rfl) (.const _)) (by rw [inF_new hx]; rfl)) rfl ?_
      refine HW.p (PEv.pick_or (.tmp rfl) (fun hp => (by first | exact .const _ | exact .tmp rfl | exact .cond rfl (by first | assumption | (rw [hp]; rfl) | (rw [hc, hp]; rfl) | simp_all)))) rfl rfl ?_
      refine HW.nil ?_
      intro w10 uw10
      have zw10 := uw10.size
      replace hS := hS.up uw10
      refine KW.then ?_
      refine CW.cond_false (.tmp rfl) ?_
      refine CW.skip (KW.then ?_)
      obtain ⟨Bx, ox, ax, hcx⟩ := ((hS.own 1 rfl).els (fun _ => rfl)) i _ hx
      refine CW.region (LW.p (PEv.move (.tmp rfl)) rfl rfl rfl (LW.p (PEv.move (.tmp rfl)) rfl rfl rfl ?_))
      refine LW.p (PEv.indexAddr' Tryz.underlying32 Tryz.sizeOf3 (.tmp rfl) (.tmp rfl) (by omega) ax) rfl rfl rfl ?_
      refine LW.p (PEv.load Tryz.isAgg3 (.tmp rfl) (hcx.nth (j := 0) rfl)) rfl rfl rfl ?_
      refine LW.p (PEv.move (.tmp rfl)) rfl rfl rfl ?_
      refine LW.p (PEv.indexArr (j := wf) Tryz.underlying51 Tryz.sizeOf3 (.tmp rfl) (.tmp rfl) (by omega)) rfl rfl rfl ?_
      refine LW.s (SEv.store Tryz.sizeOf3 (.tmp rfl) (.tmp rfl) rfl (hS.blk 0 rfl) (intA_lt _ hw7)) rfl rfl rfl ?_
      intro w11 Nw11
      have zw11 := Nw11.size
      replace hS := hS.putB 0 rfl (by rw [intA_set _ hw7, inF_set hx] at Nw11; exact Nw11)
      change Wx.Sep _ _ _ [_, _] at hS
      refine LW.nil (KW.inBlock (KW.then (CW.region (LW.p (PEv.move (.tmp rfl)) rfl rfl rfl ?_))))
      refine LW.p (PEv.inc (.tmp rfl) (by omega)) rfl rfl rfl ?_
      refine LW.p (PEv.assign (.tmp rfl)) rfl rfl rfl (LW.nil (KW.round ?_))
      exact ⟨i + 1, ⟨by omega, hS⟩, ⟨rfl, rfl, rfl, rfl, rfl, rfl, rfl, trivial⟩, by first | omega | (dsimp only; omega)⟩
     ·first | replace h36 := of_decide_eq_true h36 | replace h36 := of_decide_eq_false h36 | skip
      refine CW.exit (KW.then_exit (KW.then_exit (KW.block_hit (KW.inBlock (KW.then (CW.region (LW.p (PEv.move (.tmp rfl)) rfl rfl rfl ?_)))))))
      refine LW.p (PEv.add (.tmp rfl) (.const _) (by omega) (by omega)) rfl rfl rfl ?_
      refine LW.p (PEv.assign (.tmp rfl)) rfl rfl rfl (LW.nil (KW.round ?_))
      have hie : i = (membersL (ofB (someL xs) (pickI day 11)).Lots (L : Int) tm).length := by omega
      rw [hie, List.take_length, inF_next hlr ⟨hL1, by omega⟩] at hS
      exact ⟨L + 1, ⟨by omega, by omega, hS.take 1⟩, ⟨rfl, rfl, rfl, rfl, rfl, trivial⟩, by first | omega | (dsimp only; omega)⟩
   ·first | replace h26 := of_decide_eq_true h26 | replace h26 := of_decide_eq_false h26 | skip
    refine CW.exit (KW.then_exit (KW.then_exit (KW.block_hit (KW.then (CW.seq (CW.seq ?_))))))
    have hL5 : L = 5 := by omega
    subst hL5
    refine CW.region (LW.p (PEv.assign (.const _)) rfl rfl rfl (LW.nil (KW.then (CW.block ?_))))
    refine CW.loopB (σ := Nat) (fun s w => (1 ≤ s) ∧ (s ≤ 7) ∧ (Wx.Sep no w5 w [aBlk B9 (intA (inF (ofB (someL xs) (pickI day 11)).Lots tm 5 [])) 51])) (fun s => [(13, .eq (vi (s : Int)))]) ([(2, .eq _), (7, .eq _), (8, .eq _), (9, .eq _)]) (fun s => 7 - s) 1 ?_ ⟨rfl, rfl, rfl, rfl, rfl, trivial⟩ ?_
    ·exact ⟨Nat.le_refl _, by decide, hS⟩
    ·rintro wn w12 ⟨hw1, hw6, hS⟩
     refine CW.seq (CW.seq (CW.region (LW.p (PEv.move (.tmp rfl)) rfl rfl rfl ?_)))
     refine LW.p (PEv.leq (.tmp rfl) (.const _)) rfl rfl rfl ?_
     refine LW.nil (KW.then ?_)
     refine CW.cond (.tmp rfl) (fun h83 => ?_) (fun h83 => ?_)
     ·first | replace h83 := of_decide_eq_true h83 | replace h83 := of_decide_eq_false h83 | skip
      refine CW.skip (KW.then (CW.seq (CW.block (CW.seq ?_))))
      have hwr : 1 ≤ (wn : Int) ∧ (wn : Int) ≤ 6 := by omega
      have hwn7 : wn < 7 := by omega
      refine CW.region ?_
      refine LW.p (PEv.loadA Tryz.isAgg24 Tryz.sizeOf24 (hC.size) (.tmp rfl) ((hB8.up hS.upd).agg)) rfl rfl rfl ?_
      refine LW.p (PEv.move (.tmp rfl)) rfl rfl rfl (LW.p (PEv.move (.tmp rfl)) rfl rfl rfl ?_)
      refine LW.c (enter_call0 (.cons (.tmp rfl) (.cons (.tmp rfl) (.cons (.tmp rfl) .nil))) (Tryz.en16)) rfl rfl rfl rfl (lot_any bc (ofB (someL xs) (pickI day 11)) (wn : Int) tm _ (hC.up hS.upd) (Nat.lt_of_le_of_lt (hSh 3) (by decide))) ?_
      rintro _ w13 ⟨rfl, uw13⟩
      have zw13 := uw13.size
      replace hS := hS.up uw13
      refine LW.p (PEv.move (.tmp rfl)) rfl rfl rfl (LW.p (PEv.extract (.tmp rfl) rfl) rfl rfl rfl (LW.p (PEv.extract (.tmp rfl) rfl) rfl rfl rfl (LW.p (PEv.assign (.tmp rfl)) rfl rfl rfl (LW.p (PEv.assign (.tmp rfl)) rfl rfl rfl (LW.nil (KW.then (CW.seq (CW.region (LW.p (PEv.assign (.const _)) rfl rfl rfl (LW.nil (KW.then (CW.seq (CW.seq ?_)))))))))))))
      refine CW.region (LW.p (PEv.assign (.const _)) rfl rfl rfl (LW.nil (KW.then (CW.block ?_))))
      refine CW.loopB (σ := Nat × Int) (fun s w => (s.1 ≤ (ofB (someL xs) (pickI day 11)).Lots.length) ∧ (s.2 = latL ((ofB (someL xs) (pickI day 11)).Lots.take s.1) (wn : Int) tm) ∧ (Wx.Sep no w5 w [aBlk B9 (intA (inF (ofB (someL xs) (pickI day 11)).Lots tm 5 [])) 51])) (fun s => [(17, .eq (vi (s.1 : Int))), (16, .eq (vi s.2))]) ([(2, .eq _), (7, .eq _), (8, .eq _), (9, .eq _), (13, .eq _), (14, .eq _), (15, .eq _)]) (fun s => (ofB (someL xs) (pickI day 11)).Lots.length - s.1) (0, -1) ?_ ⟨rfl, rfl, rfl, rfl, rfl, rfl, rfl, rfl, rfl, trivial⟩ ?_
      ·exact ⟨Nat.zero_le _, rfl, hS⟩
      ·rintro ⟨j, a⟩ w14 ⟨hj, ha, hS⟩
       dsimp only at hj ha
       change CW _ _ _ _ _ _ _ ([(17, .eq (vi (j : Int))), (16, .eq (vi a))] ++ _) _
       refine CW.seq (CW.seq (CW.region (LW.p (PEv.move (.tmp rfl)) rfl rfl rfl ?_)))
       refine LW.p (PEv.fieldAddr (off := 3) Tryz.underlying24 rfl rfl Tryz.sizeOf22 rfl (.tmp rfl)) rfl rfl rfl ?_
       refine LW.p (PEv.load Tryz.isAgg22 (.tmp rfl) ((hB8.up hS.upd).cell h3)) rfl rfl rfl ?_
       refine LW.p (PEv.lenS Tryz.underlying22 (.tmp rfl)) rfl rfl rfl ?_
       refine LW.p (PEv.lss (.tmp rfl) (.tmp rfl)) rfl rfl rfl ?_
       refine LW.nil (KW.then ?_)
       refine CW.cond (.tmp rfl) (fun h97 => ?_) (fun h97 => ?_)
       ·first | replace h97 := of_decide_eq_true h97 | replace h97 := of_decide_eq_false h97 | skip
        refine CW.skip (KW.then (CW.seq (CW.block (CW.seq ?_))))
        obtain ⟨y, hy⟩ := getElem?_of_lt (xs := (ofB (someL xs) (pickI day 11)).Lots) (i := j) (by omega)
        obtain ⟨By, oy, ay, hcy⟩ := (Els.up hE3 hS.upd) j y hy
        refine CW.region ?_
        refine LW.p (PEv.fieldAddr (off := 3) Tryz.underlying24 rfl rfl Tryz.sizeOf22 rfl (.tmp rfl)) rfl rfl rfl ?_
        refine LW.p (PEv.load Tryz.isAgg22 (.tmp rfl) ((hB8.up hS.upd).cell h3)) rfl rfl rfl ?_
        refine LW.p (PEv.move (.tmp rfl)) rfl rfl rfl ?_
        refine LW.p (PEv.indexAddr' Tryz.underlying22 Tryz.sizeOf46 (.tmp rfl) (.tmp rfl) (by omega) ay) rfl rfl rfl ?_
        refine LW.p (PEv.loadA Tryz.isAgg46 Tryz.sizeOf46 rfl (.tmp rfl) (hcy)) rfl rfl rfl ?_
        refine LW.r (REv.allocA Tryz.zeroValue46) rfl rfl rfl rfl ?_
        rintro _ w15 ⟨B18, rfl, MB18⟩
        refine LW.s (SEv.storeA Tryz.sizeOf46 rfl (.tmp rfl) (.tmp rfl) (Fact.one _) MB18.blk rfl) rfl rfl rfl ?_
        intro w16 LB18
        have NB18 := MB18.set LB18
        clear LB18 MB18
        have eB18 := NB18.at_
        have zB18 := NB18.size
        replace hS := hS.addB NB18
        change Wx.Sep _ _ _ [_, _] at hS
        refine LW.nil (KW.then (CW.seq (CW.region ?_)))
        refine LW.p (PEv.fieldAddr (off := 7) Tryz.underlying46 rfl rfl Tryz.sizeOf3 rfl (.tmp rfl)) rfl rfl rfl ?_
        refine LW.p (PEv.load Tryz.isAgg3 (.tmp rfl) ((hS.blk 1 rfl).celln rfl)) rfl rfl rfl ?_
        refine LW.p (PEv.move (.tmp rfl)) rfl rfl rfl ?_
        refine LW.p (PEv.eql (.tmp rfl) (.tmp rfl)) rfl rfl rfl ?_
        refine LW.p (PEv.move (.tmp rfl)) rfl rfl rfl ?_
        refine LW.g rfl rfl rfl rfl rfl rfl rfl (fun hc => PEv.fieldAddr (off := 5) Tryz.underlying46 rfl rfl Tryz.sizeOf3 rfl (.tmp rfl)) ?_
        refine LW.g rfl rfl rfl rfl rfl rfl rfl (fun hc => PEv.load Tryz.isAgg3 (by first | exact .tmp rfl | exact .cond rfl (by first | assumption | simp_all)) ((hS.blk 1 rfl).celln rfl)) ?_
        refine LW.g rfl rfl rfl rfl rfl rfl rfl (fun hc => PEv.move (.tmp rfl)) ?_
        refine LW.g rfl rfl rfl rfl rfl rfl rfl (fun hc => PEv.leq (by first | exact .tmp rfl | exact .cond rfl (by first | assumption | simp_all)) (by first | exact .tmp rfl | exact .cond rfl (by first | assumption | simp_all))) ?_
        refine LW.p (PEv.pick_and (.tmp rfl) (fun hp => (by first | exact .const _ | exact .tmp rfl | exact .cond rfl (by first | assumption | (rw [hp]; rfl) | (rw [hc, hp]; rfl) | simp_all)))) rfl rfl rfl ?_
        refine LW.p (PEv.move (.tmp rfl)) rfl rfl rfl ?_
        refine LW.g rfl rfl rfl rfl rfl rfl rfl (fun hc => PEv.fieldAddr (off := 5) Tryz.underlying46 rfl rfl Tryz.sizeOf3 rfl (.tmp rfl)) ?_
        refine LW.g rfl rfl rfl rfl rfl rfl rfl (fun hc => PEv.load Tryz.isAgg3 (by first | exact .tmp rfl | exact .cond rfl (by first | assumption | simp_all)) ((hS.blk 1 rfl).celln rfl)) ?_
        refine LW.g rfl rfl rfl rfl rfl rfl rfl (fun hc => PEv.move (.tmp rfl)) ?_
        refine LW.g rfl rfl rfl rfl rfl rfl rfl (fun hc => PEv.gtr (by first | exact .tmp rfl | exact .cond rfl (by first | assumption | simp_all)) (by first | exact .tmp rfl | exact .cond rfl (by first | assumption | simp_all))) ?_
        refine LW.p (PEv.pick_and (.tmp rfl) (fun hp => (by first | exact .const _ | exact .tmp rfl | exact .cond rfl (by first | assumption | (rw [hp]; rfl) | (rw [hc, hp]; rfl) | simp_all)))) rfl rfl rfl ?_
        refine LW.nil (KW.then ?_)
        refine CW.cond (.tmp rfl) (fun h120 => ?_) (fun h120 => ?_)
        ·first | replace h120 := of_decide_eq_true h120 | replace h120 := of_decide_eq_false h120 | skip
         have hc120 := of120 h120
         refine CW.seq (CW.region ?_)
         refine LW.p (PEv.fieldAddr (off := 5) Tryz.underlying46 rfl rfl Tryz.sizeOf3 rfl (.tmp rfl)) rfl rfl rfl ?_
         refine LW.p (PEv.load Tryz.isAgg3 (.tmp rfl) ((hS.blk 1 rfl).celln rfl)) rfl rfl rfl ?_
         refine LW.p (PEv.assign (.tmp rfl)) rfl rfl rfl (LW.nil (KW.then (CW.seq ?_)))
         refine CW.draws (by kernel_rfl) (by kernel_rfl) rfl rfl ?_
         refine HW.p (PEv.fieldAddr (off := 5) Tryz.underlying46 rfl rfl Tryz.sizeOf3 rfl (.tmp rfl)) rfl rfl ?_
         refine HW.p (PEv.load Tryz.isAgg3 (.tmp rfl) ((hS.blk 1 rfl).celln rfl)) rfl rfl ?_
         refine HW.p (PEv.move (.tmp rfl)) rfl rfl ?_
         refine HW.p (PEv.eql (.tmp rfl) (.tmp rfl)) rfl rfl ?_
         refine HW.p (PEv.move (.tmp rfl)) rfl rfl ?_
         refine HW.g rfl rfl rfl rfl rfl rfl (fun hc => PEv.move (.tmp rfl)) ?_
         refine HW.g rfl rfl rfl rfl rfl rfl (fun hc => PEv.fieldAddr (off := 9) Tryz.underlying46 rfl rfl Tryz.sizeOf3 rfl (.tmp rfl)) ?_
         refine HW.g rfl rfl rfl rfl rfl rfl (fun hc => PEv.load Tryz.isAgg3 (by first | exact .tmp rfl | exact .cond rfl (by first | assumption | simp_all)) ((hS.blk 1 rfl).celln rfl)) ?_
         refine HW.g rfl rfl rfl rfl rfl rfl (fun hc => PEv.neq (by first | exact .tmp rfl | exact .cond rfl (by first | assumption | simp_all)) (by first | exact .tmp rfl | exact .cond rfl (by first | assumption | simp_all))) ?_
         refine HW.g rfl rfl rfl rfl rfl rfl (fun hc => PEv.move (by first | exact .tmp rfl | exact .cond rfl (by first | assumption | simp_all))) ?_
         refine HW.gg rfl rfl rfl rfl rfl rfl (fun hc => PEv.move (.tmp rfl)) ?_
         refine HW.gg rfl rfl rfl rfl rfl rfl (fun hc => PEv.fieldAddr (off := 10) Tryz.underlying46 rfl rfl Tryz.sizeOf3 rfl (.tmp rfl)) ?_
         refine HW.gg rfl rfl rfl rfl rfl rfl (fun hc => PEv.load Tryz.isAgg3 (by first | exact .tmp rfl | exact .cond rfl (by first | assumption | simp_all)) ((hS.blk 1 rfl).celln rfl)) ?_
         refine HW.gg rfl rfl rfl rfl rfl rfl (fun hc => PEv.neq (by first | exact .tmp rfl | exact .cond rfl (by first | assumption | simp_all)) (by first | exact .tmp rfl | exact .cond rfl (by first | assumption | simp_all))) ?_
         refine HW.g rfl rfl rfl rfl rfl rfl (fun hc => PEv.pick_or (by first | exact .tmp rfl | exact .cond rfl (by first | assumption | simp_all)) (fun hp => (by first | exact .const _ | exact .tmp rfl | exact .cond rfl (by first | assumption | (rw [hp]; rfl) | (rw [hc, hp]; rfl) | simp_all)))) ?_
         refine HW.p (PEv.pick_and (.tmp rfl) (fun hp => (by first | exact .const _ | exact .tmp rfl | exact .cond rfl (by first | assumption | (rw [hp]; rfl) | (rw [hc, hp]; rfl) | simp_all)))) rfl rfl ?_
         refine HW.p (PEv.move (.tmp rfl)) rfl rfl ?_
         refine HW.g rfl rfl rfl rfl rfl rfl (fun hc => PEv.loadA Tryz.isAgg24 Tryz.sizeOf24 (hC.size) (.tmp rfl) ((hB8.up hS.upd).agg)) ?_
         refine HW.g rfl rfl rfl rfl rfl rfl (fun hc => PEv.move (.tmp rfl)) ?_
         refine HW.g rfl rfl rfl rfl rfl rfl (fun hc => PEv.move (.tmp rfl)) ?_
         refine HW.gc rfl rfl rfl rfl rfl rfl (fun hc a w _ ha => enter_call0 (.cons (by first | exact .tmp rfl | exact .cond rfl (by first | assumption | simp_all)) (.cons (by first | exact .tmp rfl | exact .cond rfl (by first | assumption | simp_all)) (.cons (by first | exact .tmp rfl | exact .cond rfl (by first | assumption | simp_all)) .nil))) (Tryz.en31) a ha) (fun hc w hu => latest_any bc (ofB (someL xs) (pickI day 11)) (wn : Int) tm w (hC.up (hS.up hu).upd) (Nat.le_trans (hSh 3) (by decide))) ?_
         refine HW.g rfl rfl rfl rfl rfl rfl (fun hc => PEv.fieldAddr (off := 5) Tryz.underlying46 rfl rfl Tryz.sizeOf3 rfl (.tmp rfl)) ?_
         refine HW.g rfl rfl rfl rfl rfl rfl (fun hc => PEv.load Tryz.isAgg3 (by first | exact .tmp rfl | exact .cond rfl (by first | assumption | simp_all)) ((hS.blk 1 rfl).celln rfl)) ?_
         refine HW.g rfl rfl rfl rfl rfl rfl (fun hc => PEv.eql (by first | exact .tmp rfl | exact .cond rfl (by first | assumption | simp_all)) (by first | exact .tmp rfl | exact .cond rfl (by first | assumption | simp_all))) ?_
         refine HW.p (PEv.fa (PEv.pick_and (.tmp rfl) (fun hp => (by first | exact .const _ | exact .tmp rfl | exact .cond rfl (by first | assumption | (rw [hp]; rfl) | (rw [hc, hp]; rfl) | simp_all)))) (lot_best hlr hwr (List.mem_of_getElem? hy) hc120.1)) rfl rfl ?_
         refine HW.nil ?_
         intro w17 uw17
         have zw17 := uw17.size
         replace hS := hS.up uw17
         refine KW.then ?_
         refine CW.cond_false (.tmp rfl) ?_
         refine CW.skip (KW.inBlock (KW.then (CW.region (LW.p (PEv.move (.tmp rfl)) rfl rfl rfl ?_))))
         refine LW.p (PEv.inc (.tmp rfl) (by omega)) rfl rfl rfl ?_
         refine LW.p (PEv.assign (.tmp rfl)) rfl rfl rfl (LW.nil (KW.round ?_))
         first | exact ⟨(j + 1, y.Time), ⟨by show j + 1 ≤ _; omega, by rw [latL_snoc hy, ← ha]; unfold latS; rw [if_pos hc120], hS.take 1⟩, ⟨rfl, rfl, rfl, rfl, rfl, rfl, rfl, rfl, rfl, trivial⟩, by show (ofB (someL xs) (pickI day 11)).Lots.length - (j + 1) < (ofB (someL xs) (pickI day 11)).Lots.length - j; omega⟩ | exact ⟨(j + 1, a), ⟨by show j + 1 ≤ _; omega, by rw [latL_snoc hy, ← ha]; unfold latS; rw [if_neg hc120], hS.take 1⟩, ⟨rfl, rfl, rfl, rfl, rfl, rfl, rfl, rfl, rfl, trivial⟩, by show (ofB (someL xs) (pickI day 11)).Lots.length - (j + 1) < (ofB (someL xs) (pickI day 11)).Lots.length - j; omega⟩
        ·first | replace h120 := of_decide_eq_true h120 | replace h120 := of_decide_eq_false h120 | skip
         have hc120 := of120n h120
         refine CW.skip (KW.inBlock (KW.then (CW.region (LW.p (PEv.move (.tmp rfl)) rfl rfl rfl ?_))))
         refine LW.p (PEv.inc (.tmp rfl) (by omega)) rfl rfl rfl ?_
         refine LW.p (PEv.assign (.tmp rfl)) rfl rfl rfl (LW.nil (KW.round ?_))
         first | exact ⟨(j + 1, y.Time), ⟨by show j + 1 ≤ _; omega, by rw [latL_snoc hy, ← ha]; unfold latS; rw [if_pos hc120], hS.take 1⟩, ⟨rfl, rfl, rfl, rfl, rfl, rfl, rfl, rfl, rfl, trivial⟩, by show (ofB (someL xs) (pickI day 11)).Lots.length - (j + 1) < (ofB (someL xs) (pickI day 11)).Lots.length - j; omega⟩ | exact ⟨(j + 1, a), ⟨by show j + 1 ≤ _; omega, by rw [latL_snoc hy, ← ha]; unfold latS; rw [if_neg hc120], hS.take 1⟩, ⟨rfl, rfl, rfl, rfl, rfl, rfl, rfl, rfl, rfl, trivial⟩, by show (ofB (someL xs) (pickI day 11)).Lots.length - (j + 1) < (ofB (someL xs) (pickI day 11)).Lots.length - j; omega⟩
       ·first | replace h97 := of_decide_eq_true h97 | replace h97 := of_decide_eq_false h97 | skip
        refine CW.exit (KW.then_exit (KW.then_exit (KW.block_hit (KW.then (CW.seq ?_)))))
        have hjl : j = (ofB (someL xs) (pickI day 11)).Lots.length := by omega
        have hae : a = latL (ofB (someL xs) (pickI day 11)).Lots (wn : Int) tm := by rw [ha, hjl, List.take_length]
        refine CW.region (LW.p (PEv.move (.tmp rfl)) rfl rfl rfl (LW.p (PEv.move (.tmp rfl)) rfl rfl rfl ?_))
        refine LW.p (PEv.indexArr (j := wn) Tryz.underlying51 Tryz.sizeOf3 (.tmp rfl) (.tmp rfl) (by omega)) rfl rfl rfl ?_
        refine LW.p (PEv.load Tryz.isAgg3 (.tmp rfl) ((hS.blk 0 rfl).celln (intA_at _ hwn7))) rfl rfl rfl ?_
        refine LW.p (PEv.neq (.tmp rfl) (.tmp rfl)) rfl rfl rfl ?_
        refine LW.p (PEv.move (.tmp rfl)) rfl rfl rfl ?_
        refine LW.g rfl rfl rfl rfl rfl rfl rfl (fun hc => PEv.move (.tmp rfl)) ?_
        refine LW.g rfl rfl rfl rfl rfl rfl rfl (fun hc => PEv.lss (by first | exact .tmp rfl | exact .cond rfl (by first | assumption | simp_all)) (.const _)) ?_
        refine LW.g rfl rfl rfl rfl rfl rfl rfl (fun hc => PEv.move (.tmp rfl)) ?_
        refine LW.g rfl rfl rfl rfl rfl rfl rfl (fun hc => PEv.eql (by first | exact .tmp rfl | exact .cond rfl (by first | assumption | simp_all)) (.const _)) ?_
        refine LW.g rfl rfl rfl rfl rfl rfl rfl (fun hc => PEv.neqB Tryz.underlying4 (by first | exact .tmp rfl | exact .cond rfl (by first | assumption | simp_all)) (by first | exact .tmp rfl | exact .cond rfl (by first | assumption | simp_all))) ?_
        refine LW.p (PEv.pick_or (.tmp rfl) (fun hp => (by first | exact .const _ | exact .tmp rfl | exact .cond rfl (by first | assumption | (rw [hp]; rfl) | (rw [hc, hp]; rfl) | simp_all)))) rfl rfl rfl ?_
        refine LW.p (PEv.move (.tmp rfl)) rfl rfl rfl ?_
        refine LW.g rfl rfl rfl rfl rfl rfl rfl (fun hc => PEv.move (.tmp rfl)) ?_
        refine LW.g rfl rfl rfl rfl rfl rfl rfl (fun hc => PEv.eql (by first | exact .tmp rfl | exact .cond rfl (by first | assumption | simp_all)) (.const _)) ?_
        refine LW.g rfl rfl rfl rfl rfl rfl rfl (fun hc => PEv.move (by first | exact .tmp rfl | exact .cond rfl (by first | assumption | simp_all))) ?_
        refine LW.gg rfl rfl rfl rfl rfl rfl rfl (fun hc => PEv.move (.tmp rfl)) ?_
        refine LW.gg rfl rfl rfl rfl rfl rfl rfl (fun hc => PEv.neq (by first | exact .tmp rfl | exact .cond rfl (by first | assumption | simp_all)) (.const _)) ?_
        refine LW.g rfl rfl rfl rfl rfl rfl rfl (fun hc => PEv.pick_and (by first | exact .tmp rfl | exact .cond rfl (by first | assumption | simp_all)) (fun hp => (by first | exact .const _ | exact .tmp rfl | exact .cond rfl (by first | assumption | (rw [hp]; rfl) | (rw [hc, hp]; rfl) | simp_all)))) ?_
        refine LW.p (PEv.fa (PEv.pick_or (.tmp rfl) (fun hp => (by first | exact .const _ | exact .tmp rfl | exact .cond rfl (by first | assumption | (rw [hp]; rfl) | (rw [hc, hp]; rfl) | simp_all)))) (lots_cond (by rw [inF_end hlr (by omega)]; simp) (by rw [hae]; exact (lot_none hlr hwr).1) (fun h => (lot_none hlr hwr).2 (of_decide_eq_true h)))) rfl rfl rfl ?_
        refine LW.nil (KW.then ?_)
        refine CW.cond_false (.tmp rfl) ?_
        refine CW.skip (KW.inBlock (KW.then (CW.region (LW.p (PEv.move (.tmp rfl)) rfl rfl rfl ?_))))
        refine LW.p (PEv.inc (.tmp rfl) (by omega)) rfl rfl rfl ?_
        refine LW.p (PEv.assign (.tmp rfl)) rfl rfl rfl (LW.nil (KW.round ?_))
        exact ⟨wn + 1, ⟨by omega, by omega, hS⟩, ⟨rfl, rfl, rfl, rfl, rfl, trivial⟩, by first | omega | (dsimp only; omega)⟩
     ·first | replace h83 := of_decide_eq_true h83 | replace h83 := of_decide_eq_false h83 | skip
      refine CW.exit (KW.then_exit (KW.then_exit (KW.block_hit (KW.then (CW.seq (CW.region (LW.p (PEv.move (.tmp rfl)) rfl rfl rfl (LW.p (PEv.move (.tmp rfl)) rfl rfl rfl ?_))))))))
      refine LW.yes rfl rfl rfl rfl rfl rfl ?_
      refine LW.p (PEv.loadA Tryz.isAgg24 Tryz.sizeOf24 (hC.size) (.tmp rfl) ((hB8.up hS.upd).agg)) rfl rfl rfl ?_
      refine LW.yes rfl rfl rfl rfl rfl rfl ?_
      refine LW.p (PEv.move (.tmp rfl)) rfl rfl rfl ?_
      refine LW.yes rfl rfl rfl rfl rfl rfl ?_
      refine LW.c (enter_call0 (.cons (.tmp rfl) (.cons (.const _) (.cons (.tmp rfl) .nil))) (Tryz.en26)) rfl rfl rfl rfl (Members_any bc (ofB (someL xs) (pickI day 11)) 0 tm _ (hC.up hS.upd) (Nat.le_trans (hSh 3) (by decide))) ?_
      rintro v172 w18 ⟨hO172, uw18⟩
      have zw18 := uw18.size
      replace hS := hS.up uw18
      rw [members_0] at hO172
      obtain ⟨ad172, cp172, rfl, _⟩ := hO172.sl (fun _ => rfl)
      refine LW.yes rfl rfl rfl rfl rfl rfl ?_
      refine LW.p (PEv.lenS Tryz.underlying32 (.tmp rfl)) rfl rfl rfl ?_
      refine LW.yes rfl rfl rfl rfl rfl rfl ?_
      refine LW.p (PEv.tr (PEv.eql (.tmp rfl) (.const _)) (decide_eq_true rfl)) rfl rfl rfl ?_
      refine LW.p (PEv.pick_and (.tmp rfl) (fun hp => (by first | exact .const _ | exact .tmp rfl | exact .cond rfl (by first | assumption | (rw [hp]; rfl) | (rw [hc, hp]; rfl) | simp_all)))) rfl rfl rfl ?_
      refine LW.p (PEv.assign (.tmp rfl)) rfl rfl rfl (LW.nil (KW.then (CW.ret ?_)))
      refine KW.ret1 rfl rfl ⟨_, rfl, ?_⟩
      exact ⟨rfl, hUz.trans hS.upd⟩
end Go.Proofs.YthfjagphcekcbaaGreat
end
