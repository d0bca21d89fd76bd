import Derived.Test.YthfjagphcekcbaaGreatKR816
section
namespace Go.Wx
def wI (n : Int) : Int := IntKind.i64.wrap n
def someB (y : I6) : Fact := { zeroF with Version := wI (1 + pickI (wI (y.a.tdiv 4)) 3), Day := pickI y.b 10, Gone := decide (pickI (wI (y.b.tdiv 10)) 6 = 0), ID := wI (1 + pickI y.c 12), Wafer := wI (1 + pickI y.d 6), Time := pickI y.e 50 }
def someF (y : I6) : Fact := if pickI y.a 4 = 0 ∨ pickI y.a 4 = 1 then { someB y with Kind := 1, Tool := pickI y.f 3, Step := pickI (wI (y.f.tdiv 3)) 4, Recipe := 1, Revision := 1, Until := wI ((someB y).Time + 5) } else if pickI y.a 4 = 2 then { someB y with Kind := 3, Other := wI (1 + (wI ((someB y).Wafer + pickI y.f 5)).tmod 6) } else { someB y with Kind := 4, ID := 0, Lot := wI (1 + pickI y.f 3), Product := wI (1 + pickI (wI (y.f.tdiv 3)) 2) }
def someL (xs : List I6) : List Fact := (xs.take 30).map someF
theorem someF_p {y : I6} (h : pickI y.a 4 = 0 ∨ pickI y.a 4 = 1) : someF y = { someB y with Kind := 1, Tool := pickI y.f 3, Step := pickI (wI (y.f.tdiv 3)) 4, Recipe := 1, Revision := 1, Until := wI ((someB y).Time + 5) } := if_pos h
theorem someF_s {y : I6} (h : pickI y.a 4 = 2) : someF y = { someB y with Kind := 3, Other := wI (1 + (wI ((someB y).Wafer + pickI y.f 5)).tmod 6) } := by unfold someF; rw [if_neg (by omega), if_pos h]
theorem someF_l {y : I6} (h0 : ¬ pickI y.a 4 = 0) (h1 : ¬ pickI y.a 4 = 1) (h2 : ¬ pickI y.a 4 = 2) : someF y = { someB y with Kind := 4, ID := 0, Lot := wI (1 + pickI y.f 3), Product := wI (1 + pickI (wI (y.f.tdiv 3)) 2) } := by unfold someF; rw [if_neg (by omega), if_neg h2]
theorem someL_len (xs : List I6) : (someL xs).length ≤ 30 := by unfold someL; rw [List.length_map, List.length_take]; omega
theorem someL_step {xs : List I6} {k : Nat} {y : I6} (hy : xs[k]? = some y) (hk : k < 30) : someL (xs.take (k + 1)) = someL (xs.take k) ++ [someF y] := by
  have hl := (List.getElem?_eq_some_iff.1 hy).1
  unfold someL
  rw [List.take_take, List.take_take, Nat.min_eq_right (by omega), Nat.min_eq_right (by omega), take_succ_of hy, List.map_append]; rfl
theorem someL_end {xs : List I6} {k : Nat} (h : ¬ (k < xs.length ∧ k < 30)) : someL (xs.take k) = someL xs := by
  unfold someL
  rw [List.take_take]
  congr 1
  by_cases h1 : k < 30
  · rw [Nat.min_eq_right (by omega), List.take_of_length_le (by omega), List.take_of_length_le (by omega)]
  · rw [Nat.min_eq_left (by omega)]
end Go.Wx
namespace Go.Proofs.YthfjagphcekcbaaGreat
open Go.Wx Go.RowKit
set_option maxHeartbeats 2000000 in
theorem Some_any (ad : Option Addr) (cp : Nat) (xs : List I6) (w : World) (hE0 : Els w ad 6 I6.cells xs) : Ret Tryz.prog 14 #[.slice ad xs.length cp] w fun r w' => OwnS w' w.heap.size 46 19 Fact.cells r (someL xs) ∧ Up w w' := by
  obtain ⟨w0, rfl⟩ : ∃ w0, w0 = w := ⟨_, rfl⟩
  have hS := Sep.start no w0
  refine Calls_start (n := 98) (m := 9) Tryz.func14 rfl rfl rfl ?_
  refine CW.seq (CW.region (LW.p (PEv.assign (.const _)) rfl rfl rfl (LW.nil (KW.then (CW.seq (CW.region (LW.p (PEv.assign (.const _)) rfl rfl rfl (LW.nil (KW.then (CW.seq (CW.seq ?_)))))))))))
  replace hS := hS.add (Up.refl _) (A' := aOwn 46 19 Fact.cells (.slice none 0 0) ([] : List Fact)) (OwnS.nil _ _ _ _ _) (fun i h => by cases h)
  change Wx.Sep _ _ _ [_] at hS
  refine CW.region (LW.p (PEv.assign (.const _)) rfl rfl rfl (LW.nil (KW.then (CW.block ?_))))
  refine CW.loopB (σ := Nat × Go.Value) (fun s w => (s.1 ≤ xs.length ∧ s.1 ≤ 30) ∧ (Wx.Sep no w0 w [aOwn 46 19 Fact.cells s.2 (someL (xs.take s.1))])) (fun s => [(4, .eq (vi (s.1 : Int))), (3, .eq (s.2))]) ([(0, .eq _), (2, .eq _)]) (fun s => xs.length - s.1) (0, .slice none 0 0) ?_ ⟨rfl, rfl, rfl, rfl, trivial⟩ ?_
  ·exact ⟨⟨Nat.zero_le _, Nat.zero_le _⟩, hS⟩
  ·rintro ⟨k, v⟩ w1 ⟨hk, hS⟩
   dsimp only at hk hS
   change CW _ _ _ _ _ _ _ ([(4, .eq (vi (k : Int))), (3, .eq (v))] ++ _) _
   refine CW.seq (CW.seq ?_)
   skip
   refine CW.region (LW.p (PEv.move (.tmp rfl)) rfl rfl rfl (LW.p (PEv.move (.tmp rfl)) rfl rfl rfl ?_))
   refine LW.p (PEv.lenS Tryz.underlying25 (.tmp rfl)) rfl rfl rfl ?_
   refine LW.p (PEv.lss (.tmp rfl) (.tmp rfl)) rfl rfl rfl ?_
   refine LW.p (PEv.move (.tmp rfl)) rfl rfl rfl ?_
   refine LW.g rfl rfl rfl rfl rfl rfl rfl (fun hc => PEv.move (.tmp rfl)) ?_
   refine LW.g rfl rfl rfl rfl rfl rfl rfl (fun hc => PEv.lss (by first | exact .tmp rfl | exact .cond rfl (by first | assumption | simp_all)) (.const _)) ?_
   refine LW.p (PEv.pick_and (.tmp rfl) (fun hp => (by first | exact .const _ | exact .tmp rfl | exact .cond rfl (by first | assumption | simp_all)))) rfl rfl rfl ?_
   refine LW.nil (KW.then ?_)
   refine CW.cond (.tmp rfl) (fun h14 => ?_) (fun h14 => ?_)
   ·first | replace h14 := of_decide_eq_true h14 | replace h14 := of_decide_eq_false h14 | skip
    refine CW.skip (KW.then (CW.seq (CW.block (CW.seq ?_))))
    have hE := hE0.up hS.upd
    have hkl : k < xs.length ∧ k < 30 := by simp at h14; omega
    refine CW.region (LW.p (PEv.move (.tmp rfl)) rfl rfl rfl (LW.p (PEv.move (.tmp rfl)) rfl rfl rfl ?_))
    obtain ⟨y, hy⟩ := getElem?_of_lt (xs := xs) (i := k) (by omega)
    obtain ⟨By, oy, ay, hcy⟩ := hE _ y hy
    refine LW.p (PEv.indexAddr' Tryz.underlying25 Tryz.sizeOf67 (.tmp rfl) (.tmp rfl) (by omega) ay) rfl rfl rfl ?_
    refine LW.p (PEv.loadA Tryz.isAgg67 Tryz.sizeOf67 rfl (.tmp rfl) (hcy)) rfl rfl rfl ?_
    refine LW.r (REv.allocA Tryz.zeroValue67) rfl rfl rfl rfl ?_
    rintro _ w2 ⟨B5, rfl, MB5⟩
    refine LW.s (SEv.storeA Tryz.sizeOf67 rfl (.tmp rfl) (.tmp rfl) (I6.one _) MB5.blk rfl) rfl rfl rfl ?_
    intro w3 LB5
    have NB5 := MB5.set LB5
    clear LB5 MB5
    have eB5 := NB5.at_
    have zB5 := NB5.size
    replace hcy := hcy.up NB5.up
    replace hS := hS.addB NB5
    change Wx.Sep _ _ _ [_, _] at hS
    refine LW.nil (KW.then (CW.seq ?_))
    refine CW.free 26 [.eq (.pointer (some ⟨B5, 0, none⟩)), .eq (vi (y.a)), .eq (vi (wI (y.a.tdiv 4))), .eq (vi (pickI (wI (y.a.tdiv 4)) 3)), .eq (vi (wI (1 + pickI (wI (y.a.tdiv 4)) 3))), .eq (.pointer (some ⟨B5, 1, none⟩)), .eq (vi (y.b)), .eq (vi (pickI y.b 10)), .eq (.pointer (some ⟨B5, 1, none⟩)), .eq (vi (y.b)), .eq (vi (wI (y.b.tdiv 10))), .eq (vi (pickI (wI (y.b.tdiv 10)) 6)), .eq (.bool (decide (pickI (wI (y.b.tdiv 10)) 6 = 0))), .eq (.pointer (some ⟨B5, 2, none⟩)), .eq (vi (y.c)), .eq (vi (pickI y.c 12)), .eq (vi (wI (1 + pickI y.c 12))), .eq (.pointer (some ⟨B5, 3, none⟩)), .eq (vi (y.d)), .eq (vi (pickI y.d 6)), .eq (vi (wI (1 + pickI y.d 6))), .eq (.pointer (some ⟨B5, 4, none⟩)), .eq (vi (y.e)), .eq (vi (pickI y.e 50)), .eq (.agg (someB y).cells), .pred fun v W => ∃ B, v = .pointer (some ⟨B, 0, none⟩) ∧ w3.drew.heap.size ≤ B ∧ Blk W B zeroF.cells 46] [6, 45] (by kernel_rfl) rfl (by kernel_rfl) (by kernel_rfl) (by kernel_rfl) (by kernel_rfl) (by kernel_rfl) (by kernel_rfl) (by kernel_rfl) ⟨PhU.eq _, PhU.eq _, PhU.eq _, PhU.eq _, PhU.eq _, PhU.eq _, PhU.eq _, PhU.eq _, PhU.eq _, PhU.eq _, PhU.eq _, PhU.eq _, PhU.eq _, PhU.eq _, PhU.eq _, PhU.eq _, PhU.eq _, PhU.eq _, PhU.eq _, PhU.eq _, PhU.eq _, PhU.eq _, PhU.eq _, PhU.eq _, PhU.eq _, PhU.pred fun _ _ _ h u => let ⟨B, e, hz, hb⟩ := h; ⟨B, e, hz, hb.up u⟩, trivial⟩ ?_ ?_
    ·intro W hU0
     have hU := (Up.drew w3).trans hU0
     have zU0 := hU0.size
     refine allL.cons ⟨rfl, TU.p (PEv.indexArr (j := 0) Tryz.underlying67 Tryz.sizeOf3 (.tmp rfl) (.const _) (by decide)) rfl⟩ ?_
     refine allL.cons ⟨rfl, TU.p (PEv.load Tryz.isAgg3 (.tmp rfl) (((hS.blk 1 rfl).up hU).celln rfl)) rfl⟩ ?_
     refine allL.cons ⟨rfl, TU.p (PEv.quo (.tmp rfl) (.const _) (by decide)) rfl⟩ ?_
     refine allL.cons ⟨rfl, TU.c (enter_call0 (.cons (.tmp rfl) (.cons (.const _) .nil)) (Tryz.en37)) (pickR_any _ _ _ (by decide)) (by rintro _ W1 ⟨rfl, u⟩; exact ⟨u, rfl⟩)⟩ ?_
     refine allL.cons ⟨rfl, TU.p (PEv.add_w (.const _) (.tmp rfl)) rfl⟩ ?_
     refine allL.cons ⟨rfl, TU.p (PEv.indexArr (j := 1) Tryz.underlying67 Tryz.sizeOf3 (.tmp rfl) (.const _) (by decide)) rfl⟩ ?_
     refine allL.cons ⟨rfl, TU.p (PEv.load Tryz.isAgg3 (.tmp rfl) (((hS.blk 1 rfl).up hU).celln rfl)) rfl⟩ ?_
     refine allL.cons ⟨rfl, TU.c (enter_call0 (.cons (.tmp rfl) (.cons (.const _) .nil)) (Tryz.en37)) (pickR_any _ _ _ (by decide)) (by rintro _ W1 ⟨rfl, u⟩; exact ⟨u, rfl⟩)⟩ ?_
     refine allL.cons ⟨rfl, TU.p (PEv.indexArr (j := 1) Tryz.underlying67 Tryz.sizeOf3 (.tmp rfl) (.const _) (by decide)) rfl⟩ ?_
     refine allL.cons ⟨rfl, TU.p (PEv.load Tryz.isAgg3 (.tmp rfl) (((hS.blk 1 rfl).up hU).celln rfl)) rfl⟩ ?_
     refine allL.cons ⟨rfl, TU.p (PEv.quo (.tmp rfl) (.const _) (by decide)) rfl⟩ ?_
     refine allL.cons ⟨rfl, TU.c (enter_call0 (.cons (.tmp rfl) (.cons (.const _) .nil)) (Tryz.en37)) (pickR_any _ _ _ (by decide)) (by rintro _ W1 ⟨rfl, u⟩; exact ⟨u, rfl⟩)⟩ ?_
     refine allL.cons ⟨rfl, TU.p (PEv.eql (.tmp rfl) (.const _)) rfl⟩ ?_
     refine allL.cons ⟨rfl, TU.p (PEv.indexArr (j := 2) Tryz.underlying67 Tryz.sizeOf3 (.tmp rfl) (.const _) (by decide)) rfl⟩ ?_
     refine allL.cons ⟨rfl, TU.p (PEv.load Tryz.isAgg3 (.tmp rfl) (((hS.blk 1 rfl).up hU).celln rfl)) rfl⟩ ?_
     refine allL.cons ⟨rfl, TU.c (enter_call0 (.cons (.tmp rfl) (.cons (.const _) .nil)) (Tryz.en37)) (pickR_any _ _ _ (by decide)) (by rintro _ W1 ⟨rfl, u⟩; exact ⟨u, rfl⟩)⟩ ?_
     refine allL.cons ⟨rfl, TU.p (PEv.add_w (.const _) (.tmp rfl)) rfl⟩ ?_
     refine allL.cons ⟨rfl, TU.p (PEv.indexArr (j := 3) Tryz.underlying67 Tryz.sizeOf3 (.tmp rfl) (.const _) (by decide)) rfl⟩ ?_
     refine allL.cons ⟨rfl, TU.p (PEv.load Tryz.isAgg3 (.tmp rfl) (((hS.blk 1 rfl).up hU).celln rfl)) rfl⟩ ?_
     refine allL.cons ⟨rfl, TU.c (enter_call0 (.cons (.tmp rfl) (.cons (.const _) .nil)) (Tryz.en37)) (pickR_any _ _ _ (by decide)) (by rintro _ W1 ⟨rfl, u⟩; exact ⟨u, rfl⟩)⟩ ?_
     refine allL.cons ⟨rfl, TU.p (PEv.add_w (.const _) (.tmp rfl)) rfl⟩ ?_
     refine allL.cons ⟨rfl, TU.p (PEv.indexArr (j := 4) Tryz.underlying67 Tryz.sizeOf3 (.tmp rfl) (.const _) (by decide)) rfl⟩ ?_
     refine allL.cons ⟨rfl, TU.p (PEv.load Tryz.isAgg3 (.tmp rfl) (((hS.blk 1 rfl).up hU).celln rfl)) rfl⟩ ?_
     refine allL.cons ⟨rfl, TU.c (enter_call0 (.cons (.tmp rfl) (.cons (.const _) .nil)) (Tryz.en37)) (pickR_any _ _ _ (by decide)) (by rintro _ W1 ⟨rfl, u⟩; exact ⟨u, rfl⟩)⟩ ?_
     refine allL.cons ⟨rfl, TU.p (PEv.build (cs := (someB y).cells) Tryz.underlying46 Tryz.zeroValue46 Tryz.places46 (.cons (.tmp rfl) (.cons (.tmp rfl) (.cons (.tmp rfl) (.cons (.tmp rfl) (.cons (.tmp rfl) (.cons (.tmp rfl) .nil)))))) rfl) rfl⟩ ?_
     refine allL.cons ⟨rfl, TU.r (REv.allocA Tryz.zeroValue46) (fun v W' h => let ⟨B, e, N⟩ := h; ⟨N.up, B, e, by rw [N.at_]; exact zU0, N.blk⟩)⟩ ?_
     exact allL.nil
    ·intro w4 g hU0 hg
     have hU := (Up.drew w3).trans hU0
     have zw4 := hU.size
     obtain ⟨B6, e6, z6, hB6⟩ : ∃ B, g 6 = .pointer (some ⟨B, 0, none⟩) ∧ w3.drew.heap.size ≤ B ∧ Blk w4 B zeroF.cells 46 := hg 25 _ 6 (by decide) rfl rfl
     have e45 : g 45 = .agg (someB y).cells := hg 24 _ 45 (by decide) rfl rfl
     change LW _ _ _ _ _ _ _ _ ((6, .eq (g 6)) :: (45, .eq (g 45)) :: _) _
     rw [e6, e45]
     clear hg e6 e45
     replace hS := (hS.up (Up.drew _)).add hU0 (A' := aBlk B6 zeroF.cells 46) hB6 (fun i (e : i = B6) => by omega)
     change Wx.Sep no w0 _ [_, _, _] at hS
     refine LW.s (SEv.storeA Tryz.sizeOf46 rfl (.tmp rfl) (.tmp rfl) (Fact.one _) (hS.blk 2 rfl) rfl) rfl rfl rfl ?_
     intro w5 Nw5
     have zw5 := Nw5.size
     replace hS := hS.putB 2 rfl (show Set_ _ w5 _ ((someB y).cells) _ from Nw5)
     change Wx.Sep _ _ _ [_, _, _] at hS
     refine LW.nil (KW.then (CW.seq (CW.seq (CW.region ?_))))
     refine LW.p (PEv.indexArr (j := 0) Tryz.underlying67 Tryz.sizeOf3 (.tmp rfl) (.const _) (by decide)) rfl rfl rfl ?_
     refine LW.p (PEv.load Tryz.isAgg3 (.tmp rfl) ((hS.blk 1 rfl).celln rfl)) rfl rfl rfl ?_
     refine LW.c (enter_call0 (.cons (.tmp rfl) (.cons (.const _) .nil)) (Tryz.en37)) rfl rfl rfl rfl (pickR_any _ _ _ (by decide)) ?_
     rintro _ w6 ⟨rfl, uw6⟩
     have zw6 := uw6.size
     replace hS := hS.up uw6
     refine LW.nil (KW.then (CW.block (CW.seq (CW.seq (CW.region ?_)))))
     refine LW.p (PEv.eql (.tmp rfl) (.const _)) rfl rfl rfl ?_
     refine LW.p (PEv.assign (.tmp rfl)) rfl rfl rfl (LW.nil (KW.then ?_))
     refine CW.cond (.tmp rfl) (fun h62 => ?_) (fun h62 => ?_)
     ·first | replace h62 := of_decide_eq_true h62 | replace h62 := of_decide_eq_false h62 | skip
      refine CW.skip (KW.then ?_)
      refine CW.cond (.tmp rfl) (fun h62 => ?_) (fun h62 => ?_)
      ·first | replace h62 := of_decide_eq_true h62 | replace h62 := of_decide_eq_false h62 | skip
       refine CW.seq (CW.region ?_)
       refine LW.p (PEv.fieldAddr (off := 0) Tryz.underlying46 rfl rfl Tryz.sizeOf3 rfl (.tmp rfl)) rfl rfl rfl ?_
       refine LW.s (SEv.store Tryz.sizeOf3 (.tmp rfl) (.const _) rfl (hS.blk 2 rfl) (Nat.le_of_ble_eq_true rfl)) rfl rfl rfl ?_
       intro w7 Nw7
       have zw7 := Nw7.size
       replace hS := hS.putB 2 rfl (show Set_ _ w7 _ (({ someB y with Kind := 1 } : Fact).cells) _ from Nw7)
       change Wx.Sep _ _ _ [_, _, _] at hS
       refine LW.nil (KW.then (CW.seq (CW.region ?_)))
       refine LW.p (PEv.indexArr (j := 5) Tryz.underlying67 Tryz.sizeOf3 (.tmp rfl) (.const _) (by decide)) rfl rfl rfl ?_
       refine LW.p (PEv.load Tryz.isAgg3 (.tmp rfl) ((hS.blk 1 rfl).celln rfl)) rfl rfl rfl ?_
       refine LW.c (enter_call0 (.cons (.tmp rfl) (.cons (.const _) .nil)) (Tryz.en37)) rfl rfl rfl rfl (pickR_any _ _ _ (by decide)) ?_
       rintro _ w8 ⟨rfl, uw8⟩
       have zw8 := uw8.size
       replace hS := hS.up uw8
       refine LW.p (PEv.fieldAddr (off := 11) Tryz.underlying46 rfl rfl Tryz.sizeOf3 rfl (.tmp rfl)) rfl rfl rfl ?_
       refine LW.s (SEv.store Tryz.sizeOf3 (.tmp rfl) (.tmp rfl) rfl (hS.blk 2 rfl) (Nat.le_of_ble_eq_true rfl)) rfl rfl rfl ?_
       intro w9 Nw9
       have zw9 := Nw9.size
       replace hS := hS.putB 2 rfl (show Set_ _ w9 _ (({ someB y with Kind := 1, Tool := pickI y.f 3 } : Fact).cells) _ from Nw9)
       change Wx.Sep _ _ _ [_, _, _] at hS
       refine LW.nil (KW.then (CW.seq (CW.region ?_)))
       refine LW.p (PEv.indexArr (j := 5) Tryz.underlying67 Tryz.sizeOf3 (.tmp rfl) (.const _) (by decide)) rfl rfl rfl ?_
       refine LW.p (PEv.load Tryz.isAgg3 (.tmp rfl) ((hS.blk 1 rfl).celln rfl)) rfl rfl rfl ?_
       refine LW.p (PEv.quo (.tmp rfl) (.const _) (by decide)) rfl rfl rfl ?_
       refine LW.c (enter_call0 (.cons (.tmp rfl) (.cons (.const _) .nil)) (Tryz.en37)) rfl rfl rfl rfl (pickR_any _ _ _ (by decide)) ?_
       rintro _ w10 ⟨rfl, uw10⟩
       have zw10 := uw10.size
       replace hS := hS.up uw10
       refine LW.p (PEv.fieldAddr (off := 13) Tryz.underlying46 rfl rfl Tryz.sizeOf3 rfl (.tmp rfl)) rfl rfl rfl ?_
       refine LW.s (SEv.store Tryz.sizeOf3 (.tmp rfl) (.tmp rfl) rfl (hS.blk 2 rfl) (Nat.le_of_ble_eq_true rfl)) rfl rfl rfl ?_
       intro w11 Nw11
       have zw11 := Nw11.size
       replace hS := hS.putB 2 rfl (show Set_ _ w11 _ (({ someB y with Kind := 1, Tool := pickI y.f 3, Step := pickI (wI (y.f.tdiv 3)) 4 } : Fact).cells) _ from Nw11)
       change Wx.Sep _ _ _ [_, _, _] at hS
       refine LW.nil (KW.then (CW.seq (CW.region ?_)))
       refine LW.p (PEv.fieldAddr (off := 14) Tryz.underlying46 rfl rfl Tryz.sizeOf3 rfl (.tmp rfl)) rfl rfl rfl ?_
       refine LW.s (SEv.store Tryz.sizeOf3 (.tmp rfl) (.const _) rfl (hS.blk 2 rfl) (Nat.le_of_ble_eq_true rfl)) rfl rfl rfl ?_
       intro w12 Nw12
       have zw12 := Nw12.size
       replace hS := hS.putB 2 rfl (show Set_ _ w12 _ (({ someB y with Kind := 1, Tool := pickI y.f 3, Step := pickI (wI (y.f.tdiv 3)) 4, Recipe := 1 } : Fact).cells) _ from Nw12)
       change Wx.Sep _ _ _ [_, _, _] at hS
       refine LW.nil (KW.then (CW.seq (CW.region ?_)))
       refine LW.p (PEv.fieldAddr (off := 15) Tryz.underlying46 rfl rfl Tryz.sizeOf3 rfl (.tmp rfl)) rfl rfl rfl ?_
       refine LW.s (SEv.store Tryz.sizeOf3 (.tmp rfl) (.const _) rfl (hS.blk 2 rfl) (Nat.le_of_ble_eq_true rfl)) rfl rfl rfl ?_
       intro w13 Nw13
       have zw13 := Nw13.size
       replace hS := hS.putB 2 rfl (show Set_ _ w13 _ (({ someB y with Kind := 1, Tool := pickI y.f 3, Step := pickI (wI (y.f.tdiv 3)) 4, Recipe := 1, Revision := 1 } : Fact).cells) _ from Nw13)
       change Wx.Sep _ _ _ [_, _, _] at hS
       refine LW.nil (KW.then (CW.region ?_))
       refine LW.p (PEv.fieldAddr (off := 5) Tryz.underlying46 rfl rfl Tryz.sizeOf3 rfl (.tmp rfl)) rfl rfl rfl ?_
       refine LW.p (PEv.load Tryz.isAgg3 (.tmp rfl) ((hS.blk 2 rfl).celln rfl)) rfl rfl rfl ?_
       refine LW.p (PEv.add_w (.tmp rfl) (.const _)) rfl rfl rfl ?_
       refine LW.p (PEv.fieldAddr (off := 6) Tryz.underlying46 rfl rfl Tryz.sizeOf3 rfl (.tmp rfl)) rfl rfl rfl ?_
       refine LW.s (SEv.store Tryz.sizeOf3 (.tmp rfl) (.tmp rfl) rfl (hS.blk 2 rfl) (Nat.le_of_ble_eq_true rfl)) rfl rfl rfl ?_
       intro w14 Nw14
       have zw14 := Nw14.size
       replace hS := hS.putB 2 rfl (show Set_ _ w14 _ (({ someB y with Kind := 1, Tool := pickI y.f 3, Step := pickI (wI (y.f.tdiv 3)) 4, Recipe := 1, Revision := 1, Until := wI ((someB y).Time + 5) } : Fact).cells) _ from Nw14)
       change Wx.Sep _ _ _ [_, _, _] at hS
       refine LW.nil (KW.inBlock (KW.then ?_))
       first | rw [← someF_p (by omega)] at hS | rw [← someF_s (by omega)] at hS | rw [← someF_l (by omega) (by omega) (by omega)] at hS
       have hsl := someL_len (xs.take k)
       refine CW.region (LW.p (PEv.move (.tmp rfl)) rfl rfl rfl ?_)
       refine LW.p (PEv.loadA Tryz.isAgg46 Tryz.sizeOf46 rfl (.tmp rfl) ((hS.blk 2 rfl).agg)) rfl rfl rfl ?_
       refine LW.r (REv.buildSlice (xs := [someF y]) (enc := Fact.cells) (mk := fun f : Fact => .agg f.cells) Tryz.underlying22 Tryz.sizeOf46 Tryz.zeroValue46 rfl (by decide) (fun _ => rfl) (fun _ => rfl) (.cons (.tmp rfl) .nil) rfl) rfl rfl rfl rfl ?_
       rintro _ w15 ⟨B95, cB95, rfl, NB95, yB95, xB95⟩
       have eB95 := NB95.at_
       have zB95 := NB95.size
       replace hS := hS.up NB95.up
       have hE95 := xB95
       refine LW.r (REv.appendF (enc := Fact.cells) (bytes := 160) (i := Tryz.t46) Tryz.underlying22 (by kernel_rfl) rfl rfl rfl rfl (by decide) (fun _ => rfl) Fact.one (.tmp rfl) (.tmp rfl) (hS.own 0 rfl) (Sl.of_els hE95) (by have := hsl; simp [maxLen]; omega) (by have := hsl; simp; omega)) rfl rfl rfl rfl ?_
       intro v96 w16 Gw16
       have zw16 := Gw16.fr.size
       replace hS := hS.stp 0 rfl Gw16
       change Wx.Sep _ _ _ [_, _, _] at hS
       refine LW.p (PEv.assign (.tmp rfl)) rfl rfl rfl (LW.nil (KW.inBlock (KW.then (CW.region (LW.p (PEv.move (.tmp rfl)) rfl rfl rfl ?_)))))
       refine LW.p (PEv.inc (.tmp rfl) (by omega)) rfl rfl rfl ?_
       refine LW.p (PEv.assign (.tmp rfl)) rfl rfl rfl (LW.nil (KW.round ?_))
       exact ⟨(k + 1, v96), ⟨⟨by show k + 1 ≤ _; omega, by show k + 1 ≤ _; omega⟩, by rw [someL_step hy hkl.2]; exact hS.take 1⟩, ⟨rfl, rfl, rfl, rfl, trivial⟩, by show xs.length - (k + 1) < xs.length - k; omega⟩
      ·first | replace h62 := of_decide_eq_true h62 | replace h62 := of_decide_eq_false h62 | skip
       refine CW.seq (CW.region ?_)
       refine LW.p (PEv.eql (.tmp rfl) (.const _)) rfl rfl rfl ?_
       refine LW.p (PEv.assign (.tmp rfl)) rfl rfl rfl (LW.nil (KW.then ?_))
       refine CW.cond (.tmp rfl) (fun h81 => ?_) (fun h81 => ?_)
       ·first | replace h81 := of_decide_eq_true h81 | replace h81 := of_decide_eq_false h81 | skip
        refine CW.seq (CW.region ?_)
        refine LW.p (PEv.fieldAddr (off := 0) Tryz.underlying46 rfl rfl Tryz.sizeOf3 rfl (.tmp rfl)) rfl rfl rfl ?_
        refine LW.s (SEv.store Tryz.sizeOf3 (.tmp rfl) (.const _) rfl (hS.blk 2 rfl) (Nat.le_of_ble_eq_true rfl)) rfl rfl rfl ?_
        intro w17 Nw17
        have zw17 := Nw17.size
        replace hS := hS.putB 2 rfl (show Set_ _ w17 _ (({ someB y with Kind := 3 } : Fact).cells) _ from Nw17)
        change Wx.Sep _ _ _ [_, _, _] at hS
        refine LW.nil (KW.then ?_)
        refine CW.draws_then 8 (by kernel_rfl) (by kernel_rfl) (by kernel_rfl) (by kernel_rfl) (by kernel_rfl) rfl rfl ?_
        refine HW.p (PEv.fieldAddr (off := 7) Tryz.underlying46 rfl rfl Tryz.sizeOf3 rfl (.tmp rfl)) rfl rfl ?_
        refine HW.p (PEv.load Tryz.isAgg3 (.tmp rfl) ((hS.blk 2 rfl).celln rfl)) rfl rfl ?_
        refine HW.p (PEv.indexArr (j := 5) Tryz.underlying67 Tryz.sizeOf3 (.tmp rfl) (.const _) (by decide)) rfl rfl ?_
        refine HW.p (PEv.load Tryz.isAgg3 (.tmp rfl) ((hS.blk 1 rfl).celln rfl)) rfl rfl ?_
        refine HW.c (fun a w _ ha => enter_call0 (.cons (.tmp rfl) (.cons (.const _) .nil)) (Tryz.en37) a ha) rfl rfl (fun w hu => pickR_any _ _ w (by decide)) ?_
        refine HW.p (PEv.add_w (.tmp rfl) (.tmp rfl)) rfl rfl ?_
        refine HW.p (PEv.rem (.tmp rfl) (.const _) (by decide)) rfl rfl ?_
        refine HW.p (PEv.add_w (.const _) (.tmp rfl)) rfl rfl ?_
        refine HW.nil ?_
        intro w18 uw18
        have zw18 := uw18.size
        replace hS := hS.up uw18
        refine LW.p (PEv.fieldAddr (off := 8) Tryz.underlying46 rfl rfl Tryz.sizeOf3 rfl (.tmp rfl)) rfl rfl rfl ?_
        refine LW.s (SEv.store Tryz.sizeOf3 (.tmp rfl) (.tmp rfl) rfl (hS.blk 2 rfl) (Nat.le_of_ble_eq_true rfl)) rfl rfl rfl ?_
        intro w19 Nw19
        have zw19 := Nw19.size
        replace hS := hS.putB 2 rfl (show Set_ _ w19 _ (({ someB y with Kind := 3, Other := wI (1 + (wI ((someB y).Wafer + pickI y.f 5)).tmod 6) } : Fact).cells) _ from Nw19)
        change Wx.Sep _ _ _ [_, _, _] at hS
        refine LW.nil (KW.inBlock (KW.then ?_))
        first | rw [← someF_p (by omega)] at hS | rw [← someF_s (by omega)] at hS | rw [← someF_l (by omega) (by omega) (by omega)] at hS
        have hsl := someL_len (xs.take k)
        refine CW.region (LW.p (PEv.move (.tmp rfl)) rfl rfl rfl ?_)
        refine LW.p (PEv.loadA Tryz.isAgg46 Tryz.sizeOf46 rfl (.tmp rfl) ((hS.blk 2 rfl).agg)) rfl rfl rfl ?_
        refine LW.r (REv.buildSlice (xs := [someF y]) (enc := Fact.cells) (mk := fun f : Fact => .agg f.cells) Tryz.underlying22 Tryz.sizeOf46 Tryz.zeroValue46 rfl (by decide) (fun _ => rfl) (fun _ => rfl) (.cons (.tmp rfl) .nil) rfl) rfl rfl rfl rfl ?_
        rintro _ w20 ⟨B95, cB95, rfl, NB95, yB95, xB95⟩
        have eB95 := NB95.at_
        have zB95 := NB95.size
        replace hS := hS.up NB95.up
        have hE95 := xB95
        refine LW.r (REv.appendF (enc := Fact.cells) (bytes := 160) (i := Tryz.t46) Tryz.underlying22 (by kernel_rfl) rfl rfl rfl rfl (by decide) (fun _ => rfl) Fact.one (.tmp rfl) (.tmp rfl) (hS.own 0 rfl) (Sl.of_els hE95) (by have := hsl; simp [maxLen]; omega) (by have := hsl; simp; omega)) rfl rfl rfl rfl ?_
        intro v96 w21 Gw21
        have zw21 := Gw21.fr.size
        replace hS := hS.stp 0 rfl Gw21
        change Wx.Sep _ _ _ [_, _, _] at hS
        refine LW.p (PEv.assign (.tmp rfl)) rfl rfl rfl (LW.nil (KW.inBlock (KW.then (CW.region (LW.p (PEv.move (.tmp rfl)) rfl rfl rfl ?_)))))
        refine LW.p (PEv.inc (.tmp rfl) (by omega)) rfl rfl rfl ?_
        refine LW.p (PEv.assign (.tmp rfl)) rfl rfl rfl (LW.nil (KW.round ?_))
        exact ⟨(k + 1, v96), ⟨⟨by show k + 1 ≤ _; omega, by show k + 1 ≤ _; omega⟩, by rw [someL_step hy hkl.2]; exact hS.take 1⟩, ⟨rfl, rfl, rfl, rfl, trivial⟩, by show xs.length - (k + 1) < xs.length - k; omega⟩
       ·first | replace h81 := of_decide_eq_true h81 | replace h81 := of_decide_eq_false h81 | skip
        refine CW.seq (CW.region ?_)
        refine LW.p (PEv.fieldAddr (off := 0) Tryz.underlying46 rfl rfl Tryz.sizeOf3 rfl (.tmp rfl)) rfl rfl rfl ?_
        refine LW.s (SEv.store Tryz.sizeOf3 (.tmp rfl) (.const _) rfl (hS.blk 2 rfl) (Nat.le_of_ble_eq_true rfl)) rfl rfl rfl ?_
        intro w22 Nw22
        have zw22 := Nw22.size
        replace hS := hS.putB 2 rfl (show Set_ _ w22 _ (({ someB y with Kind := 4 } : Fact).cells) _ from Nw22)
        change Wx.Sep _ _ _ [_, _, _] at hS
        refine LW.nil (KW.then (CW.seq (CW.region ?_)))
        refine LW.p (PEv.fieldAddr (off := 1) Tryz.underlying46 rfl rfl Tryz.sizeOf3 rfl (.tmp rfl)) rfl rfl rfl ?_
        refine LW.s (SEv.store Tryz.sizeOf3 (.tmp rfl) (.const _) rfl (hS.blk 2 rfl) (Nat.le_of_ble_eq_true rfl)) rfl rfl rfl ?_
        intro w23 Nw23
        have zw23 := Nw23.size
        replace hS := hS.putB 2 rfl (show Set_ _ w23 _ (({ someB y with Kind := 4, ID := 0 } : Fact).cells) _ from Nw23)
        change Wx.Sep _ _ _ [_, _, _] at hS
        refine LW.nil (KW.then (CW.seq (CW.region ?_)))
        refine LW.p (PEv.indexArr (j := 5) Tryz.underlying67 Tryz.sizeOf3 (.tmp rfl) (.const _) (by decide)) rfl rfl rfl ?_
        refine LW.p (PEv.load Tryz.isAgg3 (.tmp rfl) ((hS.blk 1 rfl).celln rfl)) rfl rfl rfl ?_
        refine LW.c (enter_call0 (.cons (.tmp rfl) (.cons (.const _) .nil)) (Tryz.en37)) rfl rfl rfl rfl (pickR_any _ _ _ (by decide)) ?_
        rintro _ w24 ⟨rfl, uw24⟩
        have zw24 := uw24.size
        replace hS := hS.up uw24
        refine LW.p (PEv.add_w (.const _) (.tmp rfl)) rfl rfl rfl ?_
        refine LW.p (PEv.fieldAddr (off := 9) Tryz.underlying46 rfl rfl Tryz.sizeOf3 rfl (.tmp rfl)) rfl rfl rfl ?_
        refine LW.s (SEv.store Tryz.sizeOf3 (.tmp rfl) (.tmp rfl) rfl (hS.blk 2 rfl) (Nat.le_of_ble_eq_true rfl)) rfl rfl rfl ?_
        intro w25 Nw25
        have zw25 := Nw25.size
        replace hS := hS.putB 2 rfl (show Set_ _ w25 _ (({ someB y with Kind := 4, ID := 0, Lot := wI (1 + pickI y.f 3) } : Fact).cells) _ from Nw25)
        change Wx.Sep _ _ _ [_, _, _] at hS
        refine LW.nil (KW.then (CW.region ?_))
        refine LW.p (PEv.indexArr (j := 5) Tryz.underlying67 Tryz.sizeOf3 (.tmp rfl) (.const _) (by decide)) rfl rfl rfl ?_
        refine LW.p (PEv.load Tryz.isAgg3 (.tmp rfl) ((hS.blk 1 rfl).celln rfl)) rfl rfl rfl ?_
        refine LW.p (PEv.quo (.tmp rfl) (.const _) (by decide)) rfl rfl rfl ?_
        refine LW.c (enter_call0 (.cons (.tmp rfl) (.cons (.const _) .nil)) (Tryz.en37)) rfl rfl rfl rfl (pickR_any _ _ _ (by decide)) ?_
        rintro _ w26 ⟨rfl, uw26⟩
        have zw26 := uw26.size
        replace hS := hS.up uw26
        refine LW.p (PEv.add_w (.const _) (.tmp rfl)) rfl rfl rfl ?_
        refine LW.p (PEv.fieldAddr (off := 10) Tryz.underlying46 rfl rfl Tryz.sizeOf3 rfl (.tmp rfl)) rfl rfl rfl ?_
        refine LW.s (SEv.store Tryz.sizeOf3 (.tmp rfl) (.tmp rfl) rfl (hS.blk 2 rfl) (Nat.le_of_ble_eq_true rfl)) rfl rfl rfl ?_
        intro w27 Nw27
        have zw27 := Nw27.size
        replace hS := hS.putB 2 rfl (show Set_ _ w27 _ (({ someB y with Kind := 4, ID := 0, Lot := wI (1 + pickI y.f 3), Product := wI (1 + pickI (wI (y.f.tdiv 3)) 2) } : Fact).cells) _ from Nw27)
        change Wx.Sep _ _ _ [_, _, _] at hS
        refine LW.nil (KW.inBlock (KW.then ?_))
        first | rw [← someF_p (by omega)] at hS | rw [← someF_s (by omega)] at hS | rw [← someF_l (by omega) (by omega) (by omega)] at hS
        have hsl := someL_len (xs.take k)
        refine CW.region (LW.p (PEv.move (.tmp rfl)) rfl rfl rfl ?_)
        refine LW.p (PEv.loadA Tryz.isAgg46 Tryz.sizeOf46 rfl (.tmp rfl) ((hS.blk 2 rfl).agg)) rfl rfl rfl ?_
        refine LW.r (REv.buildSlice (xs := [someF y]) (enc := Fact.cells) (mk := fun f : Fact => .agg f.cells) Tryz.underlying22 Tryz.sizeOf46 Tryz.zeroValue46 rfl (by decide) (fun _ => rfl) (fun _ => rfl) (.cons (.tmp rfl) .nil) rfl) rfl rfl rfl rfl ?_
        rintro _ w28 ⟨B95, cB95, rfl, NB95, yB95, xB95⟩
        have eB95 := NB95.at_
        have zB95 := NB95.size
        replace hS := hS.up NB95.up
        have hE95 := xB95
        refine LW.r (REv.appendF (enc := Fact.cells) (bytes := 160) (i := Tryz.t46) Tryz.underlying22 (by kernel_rfl) rfl rfl rfl rfl (by decide) (fun _ => rfl) Fact.one (.tmp rfl) (.tmp rfl) (hS.own 0 rfl) (Sl.of_els hE95) (by have := hsl; simp [maxLen]; omega) (by have := hsl; simp; omega)) rfl rfl rfl rfl ?_
        intro v96 w29 Gw29
        have zw29 := Gw29.fr.size
        replace hS := hS.stp 0 rfl Gw29
        change Wx.Sep _ _ _ [_, _, _] at hS
        refine LW.p (PEv.assign (.tmp rfl)) rfl rfl rfl (LW.nil (KW.inBlock (KW.then (CW.region (LW.p (PEv.move (.tmp rfl)) rfl rfl rfl ?_)))))
        refine LW.p (PEv.inc (.tmp rfl) (by omega)) rfl rfl rfl ?_
        refine LW.p (PEv.assign (.tmp rfl)) rfl rfl rfl (LW.nil (KW.round ?_))
        exact ⟨(k + 1, v96), ⟨⟨by show k + 1 ≤ _; omega, by show k + 1 ≤ _; omega⟩, by rw [someL_step hy hkl.2]; exact hS.take 1⟩, ⟨rfl, rfl, rfl, rfl, trivial⟩, by show xs.length - (k + 1) < xs.length - k; omega⟩
     ·first | replace h62 := of_decide_eq_true h62 | replace h62 := of_decide_eq_false h62 | skip
      refine CW.region ?_
      refine LW.p (PEv.eql (.tmp rfl) (.const _)) rfl rfl rfl ?_
      refine LW.p (PEv.assign (.tmp rfl)) rfl rfl rfl (LW.nil (KW.then ?_))
      refine CW.cond (.tmp rfl) (fun h62 => ?_) (fun h62 => ?_)
      ·first | replace h62 := of_decide_eq_true h62 | replace h62 := of_decide_eq_false h62 | skip
       refine CW.seq (CW.region ?_)
       refine LW.p (PEv.fieldAddr (off := 0) Tryz.underlying46 rfl rfl Tryz.sizeOf3 rfl (.tmp rfl)) rfl rfl rfl ?_
       refine LW.s (SEv.store Tryz.sizeOf3 (.tmp rfl) (.const _) rfl (hS.blk 2 rfl) (Nat.le_of_ble_eq_true rfl)) rfl rfl rfl ?_
       intro w30 Nw30
       have zw30 := Nw30.size
       replace hS := hS.putB 2 rfl (show Set_ _ w30 _ (({ someB y with Kind := 1 } : Fact).cells) _ from Nw30)
       change Wx.Sep _ _ _ [_, _, _] at hS
       refine LW.nil (KW.then (CW.seq (CW.region ?_)))
       refine LW.p (PEv.indexArr (j := 5) Tryz.underlying67 Tryz.sizeOf3 (.tmp rfl) (.const _) (by decide)) rfl rfl rfl ?_
       refine LW.p (PEv.load Tryz.isAgg3 (.tmp rfl) ((hS.blk 1 rfl).celln rfl)) rfl rfl rfl ?_
       refine LW.c (enter_call0 (.cons (.tmp rfl) (.cons (.const _) .nil)) (Tryz.en37)) rfl rfl rfl rfl (pickR_any _ _ _ (by decide)) ?_
       rintro _ w31 ⟨rfl, uw31⟩
       have zw31 := uw31.size
       replace hS := hS.up uw31
       refine LW.p (PEv.fieldAddr (off := 11) Tryz.underlying46 rfl rfl Tryz.sizeOf3 rfl (.tmp rfl)) rfl rfl rfl ?_
       refine LW.s (SEv.store Tryz.sizeOf3 (.tmp rfl) (.tmp rfl) rfl (hS.blk 2 rfl) (Nat.le_of_ble_eq_true rfl)) rfl rfl rfl ?_
       intro w32 Nw32
       have zw32 := Nw32.size
       replace hS := hS.putB 2 rfl (show Set_ _ w32 _ (({ someB y with Kind := 1, Tool := pickI y.f 3 } : Fact).cells) _ from Nw32)
       change Wx.Sep _ _ _ [_, _, _] at hS
       refine LW.nil (KW.then (CW.seq (CW.region ?_)))
       refine LW.p (PEv.indexArr (j := 5) Tryz.underlying67 Tryz.sizeOf3 (.tmp rfl) (.const _) (by decide)) rfl rfl rfl ?_
       refine LW.p (PEv.load Tryz.isAgg3 (.tmp rfl) ((hS.blk 1 rfl).celln rfl)) rfl rfl rfl ?_
       refine LW.p (PEv.quo (.tmp rfl) (.const _) (by decide)) rfl rfl rfl ?_
       refine LW.c (enter_call0 (.cons (.tmp rfl) (.cons (.const _) .nil)) (Tryz.en37)) rfl rfl rfl rfl (pickR_any _ _ _ (by decide)) ?_
       rintro _ w33 ⟨rfl, uw33⟩
       have zw33 := uw33.size
       replace hS := hS.up uw33
       refine LW.p (PEv.fieldAddr (off := 13) Tryz.underlying46 rfl rfl Tryz.sizeOf3 rfl (.tmp rfl)) rfl rfl rfl ?_
       refine LW.s (SEv.store Tryz.sizeOf3 (.tmp rfl) (.tmp rfl) rfl (hS.blk 2 rfl) (Nat.le_of_ble_eq_true rfl)) rfl rfl rfl ?_
       intro w34 Nw34
       have zw34 := Nw34.size
       replace hS := hS.putB 2 rfl (show Set_ _ w34 _ (({ someB y with Kind := 1, Tool := pickI y.f 3, Step := pickI (wI (y.f.tdiv 3)) 4 } : Fact).cells) _ from Nw34)
       change Wx.Sep _ _ _ [_, _, _] at hS
       refine LW.nil (KW.then (CW.seq (CW.region ?_)))
       refine LW.p (PEv.fieldAddr (off := 14) Tryz.underlying46 rfl rfl Tryz.sizeOf3 rfl (.tmp rfl)) rfl rfl rfl ?_
       refine LW.s (SEv.store Tryz.sizeOf3 (.tmp rfl) (.const _) rfl (hS.blk 2 rfl) (Nat.le_of_ble_eq_true rfl)) rfl rfl rfl ?_
       intro w35 Nw35
       have zw35 := Nw35.size
       replace hS := hS.putB 2 rfl (show Set_ _ w35 _ (({ someB y with Kind := 1, Tool := pickI y.f 3, Step := pickI (wI (y.f.tdiv 3)) 4, Recipe := 1 } : Fact).cells) _ from Nw35)
       change Wx.Sep _ _ _ [_, _, _] at hS
       refine LW.nil (KW.then (CW.seq (CW.region ?_)))
       refine LW.p (PEv.fieldAddr (off := 15) Tryz.underlying46 rfl rfl Tryz.sizeOf3 rfl (.tmp rfl)) rfl rfl rfl ?_
       refine LW.s (SEv.store Tryz.sizeOf3 (.tmp rfl) (.const _) rfl (hS.blk 2 rfl) (Nat.le_of_ble_eq_true rfl)) rfl rfl rfl ?_
       intro w36 Nw36
       have zw36 := Nw36.size
       replace hS := hS.putB 2 rfl (show Set_ _ w36 _ (({ someB y with Kind := 1, Tool := pickI y.f 3, Step := pickI (wI (y.f.tdiv 3)) 4, Recipe := 1, Revision := 1 } : Fact).cells) _ from Nw36)
       change Wx.Sep _ _ _ [_, _, _] at hS
       refine LW.nil (KW.then (CW.region ?_))
       refine LW.p (PEv.fieldAddr (off := 5) Tryz.underlying46 rfl rfl Tryz.sizeOf3 rfl (.tmp rfl)) rfl rfl rfl ?_
       refine LW.p (PEv.load Tryz.isAgg3 (.tmp rfl) ((hS.blk 2 rfl).celln rfl)) rfl rfl rfl ?_
       refine LW.p (PEv.add_w (.tmp rfl) (.const _)) rfl rfl rfl ?_
       refine LW.p (PEv.fieldAddr (off := 6) Tryz.underlying46 rfl rfl Tryz.sizeOf3 rfl (.tmp rfl)) rfl rfl rfl ?_
       refine LW.s (SEv.store Tryz.sizeOf3 (.tmp rfl) (.tmp rfl) rfl (hS.blk 2 rfl) (Nat.le_of_ble_eq_true rfl)) rfl rfl rfl ?_
       intro w37 Nw37
       have zw37 := Nw37.size
       replace hS := hS.putB 2 rfl (show Set_ _ w37 _ (({ someB y with Kind := 1, Tool := pickI y.f 3, Step := pickI (wI (y.f.tdiv 3)) 4, Recipe := 1, Revision := 1, Until := wI ((someB y).Time + 5) } : Fact).cells) _ from Nw37)
       change Wx.Sep _ _ _ [_, _, _] at hS
       refine LW.nil (KW.inBlock (KW.then ?_))
       first | rw [← someF_p (by omega)] at hS | rw [← someF_s (by omega)] at hS | rw [← someF_l (by omega) (by omega) (by omega)] at hS
       have hsl := someL_len (xs.take k)
       refine CW.region (LW.p (PEv.move (.tmp rfl)) rfl rfl rfl ?_)
       refine LW.p (PEv.loadA Tryz.isAgg46 Tryz.sizeOf46 rfl (.tmp rfl) ((hS.blk 2 rfl).agg)) rfl rfl rfl ?_
       refine LW.r (REv.buildSlice (xs := [someF y]) (enc := Fact.cells) (mk := fun f : Fact => .agg f.cells) Tryz.underlying22 Tryz.sizeOf46 Tryz.zeroValue46 rfl (by decide) (fun _ => rfl) (fun _ => rfl) (.cons (.tmp rfl) .nil) rfl) rfl rfl rfl rfl ?_
       rintro _ w38 ⟨B95, cB95, rfl, NB95, yB95, xB95⟩
       have eB95 := NB95.at_
       have zB95 := NB95.size
       replace hS := hS.up NB95.up
       have hE95 := xB95
       refine LW.r (REv.appendF (enc := Fact.cells) (bytes := 160) (i := Tryz.t46) Tryz.underlying22 (by kernel_rfl) rfl rfl rfl rfl (by decide) (fun _ => rfl) Fact.one (.tmp rfl) (.tmp rfl) (hS.own 0 rfl) (Sl.of_els hE95) (by have := hsl; simp [maxLen]; omega) (by have := hsl; simp; omega)) rfl rfl rfl rfl ?_
       intro v96 w39 Gw39
       have zw39 := Gw39.fr.size
       replace hS := hS.stp 0 rfl Gw39
       change Wx.Sep _ _ _ [_, _, _] at hS
       refine LW.p (PEv.assign (.tmp rfl)) rfl rfl rfl (LW.nil (KW.inBlock (KW.then (CW.region (LW.p (PEv.move (.tmp rfl)) rfl rfl rfl ?_)))))
       refine LW.p (PEv.inc (.tmp rfl) (by omega)) rfl rfl rfl ?_
       refine LW.p (PEv.assign (.tmp rfl)) rfl rfl rfl (LW.nil (KW.round ?_))
       exact ⟨(k + 1, v96), ⟨⟨by show k + 1 ≤ _; omega, by show k + 1 ≤ _; omega⟩, by rw [someL_step hy hkl.2]; exact hS.take 1⟩, ⟨rfl, rfl, rfl, rfl, trivial⟩, by show xs.length - (k + 1) < xs.length - k; omega⟩
      ·first | replace h62 := of_decide_eq_true h62 | replace h62 := of_decide_eq_false h62 | skip
       refine CW.seq (CW.region ?_)
       refine LW.p (PEv.eql (.tmp rfl) (.const _)) rfl rfl rfl ?_
       refine LW.p (PEv.assign (.tmp rfl)) rfl rfl rfl (LW.nil (KW.then ?_))
       refine CW.cond (.tmp rfl) (fun h81 => ?_) (fun h81 => ?_)
       ·first | replace h81 := of_decide_eq_true h81 | replace h81 := of_decide_eq_false h81 | skip
        refine CW.seq (CW.region ?_)
        refine LW.p (PEv.fieldAddr (off := 0) Tryz.underlying46 rfl rfl Tryz.sizeOf3 rfl (.tmp rfl)) rfl rfl rfl ?_
        refine LW.s (SEv.store Tryz.sizeOf3 (.tmp rfl) (.const _) rfl (hS.blk 2 rfl) (Nat.le_of_ble_eq_true rfl)) rfl rfl rfl ?_
        intro w40 Nw40
        have zw40 := Nw40.size
        replace hS := hS.putB 2 rfl (show Set_ _ w40 _ (({ someB y with Kind := 3 } : Fact).cells) _ from Nw40)
        change Wx.Sep _ _ _ [_, _, _] at hS
        refine LW.nil (KW.then ?_)
        refine CW.draws_then 8 (by kernel_rfl) (by kernel_rfl) (by kernel_rfl) (by kernel_rfl) (by kernel_rfl) rfl rfl ?_
        refine HW.p (PEv.fieldAddr (off := 7) Tryz.underlying46 rfl rfl Tryz.sizeOf3 rfl (.tmp rfl)) rfl rfl ?_
        refine HW.p (PEv.load Tryz.isAgg3 (.tmp rfl) ((hS.blk 2 rfl).celln rfl)) rfl rfl ?_
        refine HW.p (PEv.indexArr (j := 5) Tryz.underlying67 Tryz.sizeOf3 (.tmp rfl) (.const _) (by decide)) rfl rfl ?_
        refine HW.p (PEv.load Tryz.isAgg3 (.tmp rfl) ((hS.blk 1 rfl).celln rfl)) rfl rfl ?_
        refine HW.c (fun a w _ ha => enter_call0 (.cons (.tmp rfl) (.cons (.const _) .nil)) (Tryz.en37) a ha) rfl rfl (fun w hu => pickR_any _ _ w (by decide)) ?_
        refine HW.p (PEv.add_w (.tmp rfl) (.tmp rfl)) rfl rfl ?_
        refine HW.p (PEv.rem (.tmp rfl) (.const _) (by decide)) rfl rfl ?_
        refine HW.p (PEv.add_w (.const _) (.tmp rfl)) rfl rfl ?_
        refine HW.nil ?_
        intro w41 uw41
        have zw41 := uw41.size
        replace hS := hS.up uw41
        refine LW.p (PEv.fieldAddr (off := 8) Tryz.underlying46 rfl rfl Tryz.sizeOf3 rfl (.tmp rfl)) rfl rfl rfl ?_
        refine LW.s (SEv.store Tryz.sizeOf3 (.tmp rfl) (.tmp rfl) rfl (hS.blk 2 rfl) (Nat.le_of_ble_eq_true rfl)) rfl rfl rfl ?_
        intro w42 Nw42
        have zw42 := Nw42.size
        replace hS := hS.putB 2 rfl (show Set_ _ w42 _ (({ someB y with Kind := 3, Other := wI (1 + (wI ((someB y).Wafer + pickI y.f 5)).tmod 6) } : Fact).cells) _ from Nw42)
        change Wx.Sep _ _ _ [_, _, _] at hS
        refine LW.nil (KW.inBlock (KW.then ?_))
        first | rw [← someF_p (by omega)] at hS | rw [← someF_s (by omega)] at hS | rw [← someF_l (by omega) (by omega) (by omega)] at hS
        have hsl := someL_len (xs.take k)
        refine CW.region (LW.p (PEv.move (.tmp rfl)) rfl rfl rfl ?_)
        refine LW.p (PEv.loadA Tryz.isAgg46 Tryz.sizeOf46 rfl (.tmp rfl) ((hS.blk 2 rfl).agg)) rfl rfl rfl ?_
        refine LW.r (REv.buildSlice (xs := [someF y]) (enc := Fact.cells) (mk := fun f : Fact => .agg f.cells) Tryz.underlying22 Tryz.sizeOf46 Tryz.zeroValue46 rfl (by decide) (fun _ => rfl) (fun _ => rfl) (.cons (.tmp rfl) .nil) rfl) rfl rfl rfl rfl ?_
        rintro _ w43 ⟨B95, cB95, rfl, NB95, yB95, xB95⟩
        have eB95 := NB95.at_
        have zB95 := NB95.size
        replace hS := hS.up NB95.up
        have hE95 := xB95
        refine LW.r (REv.appendF (enc := Fact.cells) (bytes := 160) (i := Tryz.t46) Tryz.underlying22 (by kernel_rfl) rfl rfl rfl rfl (by decide) (fun _ => rfl) Fact.one (.tmp rfl) (.tmp rfl) (hS.own 0 rfl) (Sl.of_els hE95) (by have := hsl; simp [maxLen]; omega) (by have := hsl; simp; omega)) rfl rfl rfl rfl ?_
        intro v96 w44 Gw44
        have zw44 := Gw44.fr.size
        replace hS := hS.stp 0 rfl Gw44
        change Wx.Sep _ _ _ [_, _, _] at hS
        refine LW.p (PEv.assign (.tmp rfl)) rfl rfl rfl (LW.nil (KW.inBlock (KW.then (CW.region (LW.p (PEv.move (.tmp rfl)) rfl rfl rfl ?_)))))
        refine LW.p (PEv.inc (.tmp rfl) (by omega)) rfl rfl rfl ?_
        refine LW.p (PEv.assign (.tmp rfl)) rfl rfl rfl (LW.nil (KW.round ?_))
        exact ⟨(k + 1, v96), ⟨⟨by show k + 1 ≤ _; omega, by show k + 1 ≤ _; omega⟩, by rw [someL_step hy hkl.2]; exact hS.take 1⟩, ⟨rfl, rfl, rfl, rfl, trivial⟩, by show xs.length - (k + 1) < xs.length - k; omega⟩
       ·first | replace h81 := of_decide_eq_true h81 | replace h81 := of_decide_eq_false h81 | skip
        refine CW.seq (CW.region ?_)
        refine LW.p (PEv.fieldAddr (off := 0) Tryz.underlying46 rfl rfl Tryz.sizeOf3 rfl (.tmp rfl)) rfl rfl rfl ?_
        refine LW.s (SEv.store Tryz.sizeOf3 (.tmp rfl) (.const _) rfl (hS.blk 2 rfl) (Nat.le_of_ble_eq_true rfl)) rfl rfl rfl ?_
        intro w45 Nw45
        have zw45 := Nw45.size
        replace hS := hS.putB 2 rfl (show Set_ _ w45 _ (({ someB y with Kind := 4 } : Fact).cells) _ from Nw45)
        change Wx.Sep _ _ _ [_, _, _] at hS
        refine LW.nil (KW.then (CW.seq (CW.region ?_)))
        refine LW.p (PEv.fieldAddr (off := 1) Tryz.underlying46 rfl rfl Tryz.sizeOf3 rfl (.tmp rfl)) rfl rfl rfl ?_
        refine LW.s (SEv.store Tryz.sizeOf3 (.tmp rfl) (.const _) rfl (hS.blk 2 rfl) (Nat.le_of_ble_eq_true rfl)) rfl rfl rfl ?_
        intro w46 Nw46
        have zw46 := Nw46.size
        replace hS := hS.putB 2 rfl (show Set_ _ w46 _ (({ someB y with Kind := 4, ID := 0 } : Fact).cells) _ from Nw46)
        change Wx.Sep _ _ _ [_, _, _] at hS
        refine LW.nil (KW.then (CW.seq (CW.region ?_)))
        refine LW.p (PEv.indexArr (j := 5) Tryz.underlying67 Tryz.sizeOf3 (.tmp rfl) (.const _) (by decide)) rfl rfl rfl ?_
        refine LW.p (PEv.load Tryz.isAgg3 (.tmp rfl) ((hS.blk 1 rfl).celln rfl)) rfl rfl rfl ?_
        refine LW.c (enter_call0 (.cons (.tmp rfl) (.cons (.const _) .nil)) (Tryz.en37)) rfl rfl rfl rfl (pickR_any _ _ _ (by decide)) ?_
        rintro _ w47 ⟨rfl, uw47⟩
        have zw47 := uw47.size
        replace hS := hS.up uw47
        refine LW.p (PEv.add_w (.const _) (.tmp rfl)) rfl rfl rfl ?_
        refine LW.p (PEv.fieldAddr (off := 9) Tryz.underlying46 rfl rfl Tryz.sizeOf3 rfl (.tmp rfl)) rfl rfl rfl ?_
        refine LW.s (SEv.store Tryz.sizeOf3 (.tmp rfl) (.tmp rfl) rfl (hS.blk 2 rfl) (Nat.le_of_ble_eq_true rfl)) rfl rfl rfl ?_
        intro w48 Nw48
        have zw48 := Nw48.size
        replace hS := hS.putB 2 rfl (show Set_ _ w48 _ (({ someB y with Kind := 4, ID := 0, Lot := wI (1 + pickI y.f 3) } : Fact).cells) _ from Nw48)
        change Wx.Sep _ _ _ [_, _, _] at hS
        refine LW.nil (KW.then (CW.region ?_))
        refine LW.p (PEv.indexArr (j := 5) Tryz.underlying67 Tryz.sizeOf3 (.tmp rfl) (.const _) (by decide)) rfl rfl rfl ?_
        refine LW.p (PEv.load Tryz.isAgg3 (.tmp rfl) ((hS.blk 1 rfl).celln rfl)) rfl rfl rfl ?_
        refine LW.p (PEv.quo (.tmp rfl) (.const _) (by decide)) rfl rfl rfl ?_
        refine LW.c (enter_call0 (.cons (.tmp rfl) (.cons (.const _) .nil)) (Tryz.en37)) rfl rfl rfl rfl (pickR_any _ _ _ (by decide)) ?_
        rintro _ w49 ⟨rfl, uw49⟩
        have zw49 := uw49.size
        replace hS := hS.up uw49
        refine LW.p (PEv.add_w (.const _) (.tmp rfl)) rfl rfl rfl ?_
        refine LW.p (PEv.fieldAddr (off := 10) Tryz.underlying46 rfl rfl Tryz.sizeOf3 rfl (.tmp rfl)) rfl rfl rfl ?_
        refine LW.s (SEv.store Tryz.sizeOf3 (.tmp rfl) (.tmp rfl) rfl (hS.blk 2 rfl) (Nat.le_of_ble_eq_true rfl)) rfl rfl rfl ?_
        intro w50 Nw50
        have zw50 := Nw50.size
        replace hS := hS.putB 2 rfl (show Set_ _ w50 _ (({ someB y with Kind := 4, ID := 0, Lot := wI (1 + pickI y.f 3), Product := wI (1 + pickI (wI (y.f.tdiv 3)) 2) } : Fact).cells) _ from Nw50)
        change Wx.Sep _ _ _ [_, _, _] at hS
        refine LW.nil (KW.inBlock (KW.then ?_))
        first | rw [← someF_p (by omega)] at hS | rw [← someF_s (by omega)] at hS | rw [← someF_l (by omega) (by omega) (by omega)] at hS
        have hsl := someL_len (xs.take k)
        refine CW.region (LW.p (PEv.move (.tmp rfl)) rfl rfl rfl ?_)
        refine LW.p (PEv.loadA Tryz.isAgg46 Tryz.sizeOf46 rfl (.tmp rfl) ((hS.blk 2 rfl).agg)) rfl rfl rfl ?_
        refine LW.r (REv.buildSlice (xs := [someF y]) (enc := Fact.cells) (mk := fun f : Fact => .agg f.cells) Tryz.underlying22 Tryz.sizeOf46 Tryz.zeroValue46 rfl (by decide) (fun _ => rfl) (fun _ => rfl) (.cons (.tmp rfl) .nil) rfl) rfl rfl rfl rfl ?_
        rintro _ w51 ⟨B95, cB95, rfl, NB95, yB95, xB95⟩
        have eB95 := NB95.at_
        have zB95 := NB95.size
        replace hS := hS.up NB95.up
        have hE95 := xB95
        refine LW.r (REv.appendF (enc := Fact.cells) (bytes := 160) (i := Tryz.t46) Tryz.underlying22 (by kernel_rfl) rfl rfl rfl rfl (by decide) (fun _ => rfl) Fact.one (.tmp rfl) (.tmp rfl) (hS.own 0 rfl) (Sl.of_els hE95) (by have := hsl; simp [maxLen]; omega) (by have := hsl; simp; omega)) rfl rfl rfl rfl ?_
        intro v96 w52 Gw52
        have zw52 := Gw52.fr.size
        replace hS := hS.stp 0 rfl Gw52
        change Wx.Sep _ _ _ [_, _, _] at hS
        refine LW.p (PEv.assign (.tmp rfl)) rfl rfl rfl (LW.nil (KW.inBlock (KW.then (CW.region (LW.p (PEv.move (.tmp rfl)) rfl rfl rfl ?_)))))
        refine LW.p (PEv.inc (.tmp rfl) (by omega)) rfl rfl rfl ?_
        refine LW.p (PEv.assign (.tmp rfl)) rfl rfl rfl (LW.nil (KW.round ?_))
        exact ⟨(k + 1, v96), ⟨⟨by show k + 1 ≤ _; omega, by show k + 1 ≤ _; omega⟩, by rw [someL_step hy hkl.2]; exact hS.take 1⟩, ⟨rfl, rfl, rfl, rfl, trivial⟩, by show xs.length - (k + 1) < xs.length - k; omega⟩
   ·first | replace h14 := of_decide_eq_true h14 | replace h14 := of_decide_eq_false h14 | skip
    refine CW.exit (KW.then_exit (KW.then_exit (KW.block_hit (KW.then (CW.seq (CW.region (LW.p (PEv.move (.tmp rfl)) rfl rfl rfl (LW.p (PEv.assign (.tmp rfl)) rfl rfl rfl (LW.nil (KW.then (CW.ret ?_)))))))))))
    refine KW.ret1 rfl rfl ⟨_, rfl, ?_⟩
    rw [someL_end (by simp at h14; omega)] at hS
    exact ⟨OwnS.ofSep hS, hS.upd⟩
end Go.Proofs.YthfjagphcekcbaaGreat
namespace Go.Wx
def exF (k : Nat) (p : Int × Int) : Fact := { zeroF with Kind := 1, Version := 1, ID := ((1 + k : Nat) : Int), Wafer := p.1, Recipe := 1, Revision := 1, Time := p.2, Until := p.2 }
def ePr (p : Int × Int) : Array Go.Value := #[vi p.1, vi p.2]
def exR : List (Int × Int) := [(5, 10), (5, 30), (6, 40)]
def exP : List Fact := [exF 0 (5, 10), exF 1 (5, 30), exF 2 (6, 40)]
def exS : Fact := { zeroF with Kind := 3, Version := 1, ID := 1, Wafer := 5, Other := 6, Time := 20 }
def exL1 : Fact := { zeroF with Kind := 4, Version := 1, Wafer := 5, Lot := 7, Product := 1 }
def exL2 : Fact := { zeroF with Kind := 4, Version := 1, Wafer := 5, Lot := 8, Product := 1, Time := 25 }
def exB : Base := ⟨exP, [], [exS], [exL1, exL2], [], [], [], [], [], [], []⟩
theorem Els.gr {α : Type} {w w' : World} {B base k : Nat} {enc : α → Array Go.Value} {xs : List α} (h : Els w (some ⟨B, 0, none⟩) k enc xs) (g : Grew base w w') (hB : B < base) : Els w' (some ⟨B, 0, none⟩) k enc xs := fun i x hx => by
  obtain ⟨B', o, e, hc⟩ := h i x hx
  cases e
  refine ⟨B, 0, rfl, fun j v hv => ?_⟩
  have h1 := hc j v hv
  have hlt := block_lt_of_cell h1
  unfold World.cell? at h1 ⊢
  rw [g.block B hlt hB]
  exact h1
theorem exP_step {k : Nat} {p : Int × Int} (h : exR[k]? = some p) : exP.take (k + 1) = exP.take k ++ [exF k p] := by
  have hk : k < 3 := (List.getElem?_eq_some_iff.1 h).1
  rcases (by omega : k = 0 ∨ k = 1 ∨ k = 2) with rfl | rfl | rfl <;> (cases h; rfl)
end Go.Wx
namespace Go.Proofs.YthfjagphcekcbaaGreat
open Go.Wx Go.RowKit
set_option maxHeartbeats 4000000 in
theorem example_any (w : World) : Ret Tryz.prog 32 #[] w fun r w' => ∃ bc, r = .agg bc ∧ BaseC w' bc exB ∧ Up w w' := by
  have hW := Up.refl w
  obtain ⟨w0, rfl⟩ : ∃ w0, w0 = w := ⟨_, rfl⟩
  refine Calls_start (n := 37) (m := 9) Tryz.func32 rfl rfl rfl ?_
  refine CW.seq (CW.region ?_)
  refine LW.r (REv.allocA Tryz.zeroValue24) rfl rfl rfl rfl ?_
  rintro _ w1 ⟨B0, rfl, NB0⟩
  have eB0 := NB0.at_
  have zB0 := NB0.size
  replace hW := hW.up NB0.up
  have hB0 := NB0.blk
  refine LW.nil (KW.then (CW.seq (CW.region ?_)))
  refine LW.r (REv.allocA Tryz.zeroValue24) rfl rfl rfl rfl ?_
  rintro _ w2 ⟨B1, rfl, NB1⟩
  have eB1 := NB1.at_
  have zB1 := NB1.size
  replace hW := hW.up NB1.up
  replace hB0 := hB0.up NB1.up
  have hB1 := NB1.blk
  refine LW.nil (KW.then (CW.seq (CW.seq (CW.region ?_))))
  refine LW.p (PEv.buildArr (cs := (ePr (5, 10))) Tryz.underlying85 Tryz.zeroValue85 Tryz.sizeOf3 (.cons (.const _) (.cons (.const _) .nil)) rfl) rfl rfl rfl ?_
  refine LW.p (PEv.buildArr (cs := (ePr (5, 30))) Tryz.underlying85 Tryz.zeroValue85 Tryz.sizeOf3 (.cons (.const _) (.cons (.const _) .nil)) rfl) rfl rfl rfl ?_
  refine LW.p (PEv.buildArr (cs := (ePr (6, 40))) Tryz.underlying85 Tryz.zeroValue85 Tryz.sizeOf3 (.cons (.const _) (.cons (.const _) .nil)) rfl) rfl rfl rfl ?_
  refine LW.r (REv.buildSlice (xs := exR) (enc := ePr) (mk := fun p => .agg (ePr p)) Tryz.underlying86 Tryz.sizeOf85 Tryz.zeroValue85 rfl (by decide) (fun _ => rfl) (fun _ => rfl) (.cons (.tmp rfl) (.cons (.tmp rfl) (.cons (.tmp rfl) .nil))) rfl) rfl rfl rfl rfl ?_
  rintro _ w3 ⟨B7, cB7, rfl, NB7, yB7, xB7⟩
  have eB7 := NB7.at_
  have zB7 := NB7.size
  replace hW := hW.up NB7.up
  replace hB0 := hB0.up NB7.up
  replace hB1 := hB1.up NB7.up
  have hB7 := NB7.blk
  have hE7 := xB7
  refine LW.p (PEv.lenS Tryz.underlying86 (.tmp rfl)) rfl rfl rfl ?_
  refine LW.p (PEv.move (.const _)) rfl rfl rfl ?_
  refine LW.nil (KW.then (CW.block ?_))
  refine CW.loopB (σ := Nat × Go.Value) (fun s w => (s.1 ≤ exR.length) ∧ (Blk w B0 #[.slice none 0 0, .slice none 0 0, .slice none 0 0, .slice none 0 0, .slice none 0 0, .slice none 0 0, .slice none 0 0, .slice none 0 0, .slice none 0 0, .slice none 0 0, .slice none 0 0] 24) ∧ (Blk w B1 #[s.2, .slice none 0 0, .slice none 0 0, .slice none 0 0, .slice none 0 0, .slice none 0 0, .slice none 0 0, .slice none 0 0, .slice none 0 0, .slice none 0 0, .slice none 0 0] 24) ∧ (Els w (some ⟨B7, 0, none⟩) 2 ePr exR) ∧ (OwnS w (B7 + 1) 46 19 Fact.cells s.2 (exP.take s.1)) ∧ (Sz (B7 + 1) w) ∧ (Up w0 w)) (fun s => [(9, .eq (vi (s.1 : Int)))]) ([(0, .eq _), (1, .eq _), (7, .eq _), (8, .eq _)]) (fun s => exR.length - s.1) (0, .slice none 0 0) ?_ ⟨rfl, rfl, rfl, rfl, rfl, trivial⟩ ?_
  ·exact ⟨Nat.zero_le _, hB0, hB1, hE7, OwnS.nil _ _ _ _ _, (show B7 + 1 ≤ _ by omega), hW⟩
  ·rintro ⟨k, v⟩ w4 ⟨hk, hB0, hB1, hE7, hO, hZ7, hW⟩
   dsimp only at hk hB1 hO
   change CW _ _ _ _ _ _ _ ([(9, .eq (vi (k : Int)))] ++ _) _
   refine CW.seq ?_
   skip
   refine CW.region ?_
   refine LW.p (PEv.lss (.tmp rfl) (.tmp rfl)) rfl rfl rfl ?_
   refine LW.nil (KW.then (CW.seq ?_))
   refine CW.cond (.tmp rfl) (fun h10 => ?_) (fun h10 => ?_)
   ·first | replace h10 := of_decide_eq_true h10 | replace h10 := of_decide_eq_false h10 | skip
    refine CW.skip (KW.then (CW.seq (CW.block (CW.seq ?_))))
    have hk3 : k < 3 := by have : exR.length = 3 := rfl; omega
    have z7 : B7 + 1 ≤ _ := hZ7
    refine CW.region (LW.p (PEv.move (.tmp rfl)) rfl rfl rfl ?_)
    obtain ⟨x, hx⟩ := getElem?_of_lt (xs := exR) (i := k) (by omega)
    obtain ⟨Bx, ox, ax, hcx⟩ := hE7 _ x hx
    refine LW.p (PEv.indexAddr' Tryz.underlying86 Tryz.sizeOf85 (.tmp rfl) (.tmp rfl) (by omega) ax) rfl rfl rfl ?_
    refine LW.p (PEv.loadA Tryz.isAgg85 Tryz.sizeOf85 rfl (.tmp rfl) (hcx)) rfl rfl rfl ?_
    refine LW.r (REv.allocA Tryz.zeroValue85) rfl rfl rfl rfl ?_
    rintro _ w5 ⟨B3, rfl, MB3⟩
    refine LW.p (PEv.assign (.tmp rfl)) rfl rfl rfl ?_
    refine LW.s (SEv.storeA Tryz.sizeOf85 rfl (.tmp rfl) (.tmp rfl) (by simp [ePr, Value.oneCell']) MB3.blk rfl) rfl rfl rfl ?_
    intro w6 LB3
    have NB3 := MB3.set LB3
    clear LB3 MB3
    have eB3 := NB3.at_
    have zB3 := NB3.size
    replace hB0 := hB0.up NB3.up
    replace hB1 := hB1.up NB3.up
    replace hE7 := hE7.up NB3.up
    replace hO := hO.up NB3.up
    replace hZ7 := hZ7.up NB3.up
    replace hW := hW.up NB3.up
    replace hcx := hcx.up NB3.up
    have hB3 := NB3.blk
    refine LW.nil (KW.then (CW.region ?_))
    refine LW.p (PEv.fieldAddr (off := 0) Tryz.underlying24 rfl rfl Tryz.sizeOf22 rfl (.tmp rfl)) rfl rfl rfl ?_
    refine LW.p (PEv.load Tryz.isAgg22 (.tmp rfl) (hB1.celln rfl)) rfl rfl rfl ?_
    refine LW.p (PEv.move (.tmp rfl)) rfl rfl rfl ?_
    refine LW.p (PEv.addN (i := 1) (.const _) (.tmp rfl) (by omega)) rfl rfl rfl ?_
    refine LW.p (PEv.indexArr (j := 0) Tryz.underlying85 Tryz.sizeOf3 (.tmp rfl) (.const _) (by decide)) rfl rfl rfl ?_
    refine LW.p (PEv.load Tryz.isAgg3 (.tmp rfl) (hB3.celln rfl)) rfl rfl rfl ?_
    refine LW.p (PEv.indexArr (j := 1) Tryz.underlying85 Tryz.sizeOf3 (.tmp rfl) (.const _) (by decide)) rfl rfl rfl ?_
    refine LW.p (PEv.load Tryz.isAgg3 (.tmp rfl) (hB3.celln rfl)) rfl rfl rfl ?_
    refine LW.p (PEv.indexArr (j := 1) Tryz.underlying85 Tryz.sizeOf3 (.tmp rfl) (.const _) (by decide)) rfl rfl rfl ?_
    refine LW.p (PEv.load Tryz.isAgg3 (.tmp rfl) (hB3.celln rfl)) rfl rfl rfl ?_
    refine LW.p (PEv.build (cs := (exF k x).cells) Tryz.underlying46 Tryz.zeroValue46 Tryz.places46 (.cons (.const _) (.cons (.const _) (.cons (.tmp rfl) (.cons (.tmp rfl) (.cons (.const _) (.cons (.const _) (.cons (.tmp rfl) (.cons (.tmp rfl) .nil)))))))) rfl) rfl rfl rfl ?_
    refine LW.r (REv.buildSlice (xs := [exF k x]) (enc := Fact.cells) (mk := fun f : Fact => .agg f.cells) Tryz.underlying22 Tryz.sizeOf46 Tryz.zeroValue46 rfl (by decide) (fun _ => rfl) (fun _ => rfl) (.cons (.tmp rfl) .nil) rfl) rfl rfl rfl rfl ?_
    rintro _ w7 ⟨B25, cB25, rfl, NB25, yB25, xB25⟩
    have eB25 := NB25.at_
    have zB25 := NB25.size
    replace hB0 := hB0.up NB25.up
    replace hB1 := hB1.up NB25.up
    replace hE7 := hE7.up NB25.up
    replace hO := hO.up NB25.up
    replace hZ7 := hZ7.up NB25.up
    replace hW := hW.up NB25.up
    replace hcx := hcx.up NB25.up
    replace hB3 := hB3.up NB25.up
    have hB25 := NB25.blk
    have hE25 := xB25
    refine LW.r (REv.append (enc := Fact.cells) (base := B7 + 1) (bytes := 160) (i := Tryz.t46) Tryz.underlying22 (by kernel_rfl) rfl rfl rfl rfl (by decide) (fun _ => rfl) Fact.one (.tmp rfl) (.tmp rfl) hO (Sl.of_els hE25) (by simp) (by simp [maxLen]; omega) (by simp; omega) (by omega)) rfl rfl rfl rfl ?_
    rintro v26 w8 ⟨Ow8, Gw8⟩
    have zw8 := Gw8.size
    replace hB0 := hB0.gr Gw8 (by omega)
    replace hB1 := hB1.gr Gw8 (by omega)
    replace hE7 := hE7.gr Gw8 (by omega)
    replace hZ7 := hZ7.gr Gw8 rfl
    replace hW := hW.gr Gw8 (by omega)
    replace hO := Ow8
    refine LW.p (PEv.fieldAddr (off := 0) Tryz.underlying24 rfl rfl Tryz.sizeOf22 rfl (.tmp rfl)) rfl rfl rfl ?_
    refine LW.s (SEv.store Tryz.sizeOf22 (.tmp rfl) (.tmp rfl) hO.one hB1 (Nat.le_of_ble_eq_true rfl)) rfl rfl rfl ?_
    intro w9 Nw9
    have zw9 := Nw9.size
    replace hB0 := hB0.sto Nw9.sto (by omega)
    replace hE7 := hE7.sto Nw9.sto (by omega)
    replace hO := hO.sto Nw9.sto (by omega)
    replace hZ7 := hZ7.sto Nw9.sto (by omega)
    replace hW := hW.sto Nw9.sto (by omega)
    replace hB1 := Nw9.blk
    replace hB1 : Blk w9 B1 #[v26, .slice none 0 0, .slice none 0 0, .slice none 0 0, .slice none 0 0, .slice none 0 0, .slice none 0 0, .slice none 0 0, .slice none 0 0, .slice none 0 0, .slice none 0 0] _ := hB1
    refine LW.nil (KW.inBlock (KW.then (CW.region ?_)))
    refine LW.p (PEv.inc (.tmp rfl) (by omega)) rfl rfl rfl ?_
    refine LW.p (PEv.move (.tmp rfl)) rfl rfl rfl (LW.nil (KW.round ?_))
    exact ⟨(k + 1, v26), ⟨by show k + 1 ≤ _; omega, hB0, hB1, hE7, by rw [exP_step hx]; exact hO, hZ7, hW⟩, ⟨rfl, rfl, rfl, rfl, rfl, trivial⟩, by show exR.length - (k + 1) < exR.length - k; omega⟩
   ·first | replace h10 := of_decide_eq_true h10 | replace h10 := of_decide_eq_false h10 | skip
    refine CW.exit (KW.then_exit (KW.then_exit (KW.block_hit (KW.then (CW.seq ?_)))))
    have hk3 : k = 3 := by have : exR.length = 3 := rfl; omega
    subst hk3
    have z7 : B7 + 1 ≤ _ := hZ7
    refine CW.region ?_
    refine LW.p (PEv.build (cs := exS.cells) Tryz.underlying46 Tryz.zeroValue46 Tryz.places46 (.cons (.const _) (.cons (.const _) (.cons (.const _) (.cons (.const _) (.cons (.const _) (.cons (.const _) .nil)))))) rfl) rfl rfl rfl ?_
    refine LW.r (REv.buildSlice (xs := [exS]) (enc := Fact.cells) (mk := fun f : Fact => .agg f.cells) Tryz.underlying22 Tryz.sizeOf46 Tryz.zeroValue46 rfl (by decide) (fun _ => rfl) (fun _ => rfl) (.cons (.tmp rfl) .nil) rfl) rfl rfl rfl rfl ?_
    rintro _ w10 ⟨B30, cB30, rfl, NB30, yB30, xB30⟩
    have eB30 := NB30.at_
    have zB30 := NB30.size
    replace hB0 := hB0.up NB30.up
    replace hB1 := hB1.up NB30.up
    replace hE7 := hE7.up NB30.up
    replace hO := hO.up NB30.up
    replace hZ7 := hZ7.up NB30.up
    replace hW := hW.up NB30.up
    have hB30 := NB30.blk
    have hE30 := xB30
    refine LW.p (PEv.fieldAddr (off := 2) Tryz.underlying24 rfl rfl Tryz.sizeOf22 rfl (.tmp rfl)) rfl rfl rfl ?_
    refine LW.s (SEv.store Tryz.sizeOf22 (.tmp rfl) (.tmp rfl) rfl hB1 (Nat.le_of_ble_eq_true rfl)) rfl rfl rfl ?_
    intro w11 Nw11
    have zw11 := Nw11.size
    replace hB0 := hB0.sto Nw11.sto (by omega)
    replace hE7 := hE7.sto Nw11.sto (by omega)
    replace hO := hO.sto Nw11.sto (by omega)
    replace hZ7 := hZ7.sto Nw11.sto (by omega)
    replace hW := hW.sto Nw11.sto (by omega)
    replace hB30 := hB30.sto Nw11.sto (by omega)
    replace hE30 := hE30.sto Nw11.sto (by omega)
    replace hB1 := Nw11.blk
    replace hB1 : Blk w11 B1 #[v, .slice none 0 0, .slice (some ⟨B30, 0, none⟩) 1 1, .slice none 0 0, .slice none 0 0, .slice none 0 0, .slice none 0 0, .slice none 0 0, .slice none 0 0, .slice none 0 0, .slice none 0 0] _ := hB1
    refine LW.nil (KW.then (CW.seq (CW.region ?_)))
    refine LW.p (PEv.build (cs := exL1.cells) Tryz.underlying46 Tryz.zeroValue46 Tryz.places46 (.cons (.const _) (.cons (.const _) (.cons (.const _) (.cons (.const _) (.cons (.const _) .nil))))) rfl) rfl rfl rfl ?_
    refine LW.p (PEv.build (cs := exL2.cells) Tryz.underlying46 Tryz.zeroValue46 Tryz.places46 (.cons (.const _) (.cons (.const _) (.cons (.const _) (.cons (.const _) (.cons (.const _) (.cons (.const _) .nil)))))) rfl) rfl rfl rfl ?_
    refine LW.r (REv.buildSlice (xs := [exL1, exL2]) (enc := Fact.cells) (mk := fun f : Fact => .agg f.cells) Tryz.underlying22 Tryz.sizeOf46 Tryz.zeroValue46 rfl (by decide) (fun _ => rfl) (fun _ => rfl) (.cons (.tmp rfl) (.cons (.tmp rfl) .nil)) rfl) rfl rfl rfl rfl ?_
    rintro _ w12 ⟨B34, cB34, rfl, NB34, yB34, xB34⟩
    have eB34 := NB34.at_
    have zB34 := NB34.size
    replace hB0 := hB0.up NB34.up
    replace hB1 := hB1.up NB34.up
    replace hE7 := hE7.up NB34.up
    replace hO := hO.up NB34.up
    replace hZ7 := hZ7.up NB34.up
    replace hW := hW.up NB34.up
    replace hB30 := hB30.up NB34.up
    replace hE30 := hE30.up NB34.up
    have hB34 := NB34.blk
    have hE34 := xB34
    refine LW.p (PEv.fieldAddr (off := 3) Tryz.underlying24 rfl rfl Tryz.sizeOf22 rfl (.tmp rfl)) rfl rfl rfl ?_
    refine LW.s (SEv.store Tryz.sizeOf22 (.tmp rfl) (.tmp rfl) rfl hB1 (Nat.le_of_ble_eq_true rfl)) rfl rfl rfl ?_
    intro w13 Nw13
    have zw13 := Nw13.size
    replace hB0 := hB0.sto Nw13.sto (by omega)
    replace hE7 := hE7.sto Nw13.sto (by omega)
    replace hO := hO.sto Nw13.sto (by omega)
    replace hZ7 := hZ7.sto Nw13.sto (by omega)
    replace hW := hW.sto Nw13.sto (by omega)
    replace hB30 := hB30.sto Nw13.sto (by omega)
    replace hE30 := hE30.sto Nw13.sto (by omega)
    replace hB34 := hB34.sto Nw13.sto (by omega)
    replace hE34 := hE34.sto Nw13.sto (by omega)
    replace hB1 := Nw13.blk
    replace hB1 : Blk w13 B1 #[v, .slice none 0 0, .slice (some ⟨B30, 0, none⟩) 1 1, .slice (some ⟨B34, 0, none⟩) 2 2, .slice none 0 0, .slice none 0 0, .slice none 0 0, .slice none 0 0, .slice none 0 0, .slice none 0 0, .slice none 0 0] _ := hB1
    refine LW.nil (KW.then (CW.seq ?_))
    have hv1 := hO.one
    refine CW.region ?_
    refine LW.p (PEv.loadA Tryz.isAgg24 Tryz.sizeOf24 rfl (.tmp rfl) (hB1.agg)) rfl rfl rfl ?_
    refine LW.s (SEv.storeA Tryz.sizeOf24 rfl (.tmp rfl) (.tmp rfl) (by simp [Value.oneCell']; exact hv1) hB0 rfl) rfl rfl rfl ?_
    intro w14 Nw14
    have zw14 := Nw14.size
    replace hB1 := hB1.sto Nw14.sto (by omega)
    replace hE7 := hE7.sto Nw14.sto (by omega)
    replace hO := hO.sto Nw14.sto (by omega)
    replace hZ7 := hZ7.sto Nw14.sto (by omega)
    replace hW := hW.sto Nw14.sto (by omega)
    replace hB30 := hB30.sto Nw14.sto (by omega)
    replace hE30 := hE30.sto Nw14.sto (by omega)
    replace hB34 := hB34.sto Nw14.sto (by omega)
    replace hE34 := hE34.sto Nw14.sto (by omega)
    replace hB0 := Nw14.blk
    replace hB0 : Blk w14 B0 #[v, .slice none 0 0, .slice (some ⟨B30, 0, none⟩) 1 1, .slice (some ⟨B34, 0, none⟩) 2 2, .slice none 0 0, .slice none 0 0, .slice none 0 0, .slice none 0 0, .slice none 0 0, .slice none 0 0, .slice none 0 0] _ := hB0
    refine LW.nil (KW.then (CW.ret ?_))
    refine KW.retA rfl rfl Tryz.isAgg24 Tryz.sizeOf24 rfl (hB0.agg) ⟨_, rfl, ?_⟩
    exact ⟨_, rfl, ⟨_, _, _, _, _, _, _, _, _, _, _, rfl, hO.sl (fun _ => rfl), Sl.nil _ _ _, Sl.of_els hE30, Sl.of_els hE34, Sl.nil _ _ _, Sl.nil _ _ _, Sl.nil _ _ _, Sl.nil _ _ _, Sl.nil _ _ _, Sl.nil _ _ _, Sl.nil _ _ _⟩, hW⟩
end Go.Proofs.YthfjagphcekcbaaGreat
namespace Go.Wx
theorem ex_h5 : histL exB.Processes exB.Swaps 5 = [exF 0 (5, 10), exF 2 (6, 40)] := by kernel_rfl
theorem ex_h6 : histL exB.Processes exB.Swaps 6 = [exF 1 (5, 30)] := by kernel_rfl
theorem ex_l1 : lotOf exB.Lots 5 24 = (7, 1) := by kernel_rfl
theorem ex_l2 : lotOf exB.Lots 5 25 = (8, 1) := by kernel_rfl
theorem ex_w1 : whoL exB.Swaps 19 5 = 5 := by kernel_rfl
theorem ex_w2 : whoL exB.Swaps 20 5 = 6 := by kernel_rfl
theorem ex_w3 : whoL exB.Swaps 20 6 = 5 := by kernel_rfl
theorem ex_m1 : markL exB.Swaps 40 5 = 6 := by kernel_rfl
theorem ex_me : membersL exB.Lots 8 30 = [5] := by
  unfold membersL sortI
  rw [show memK exB.Lots 8 30 exB.Lots = [5] from by kernel_rfl]
  exact List.mergeSort_of_pairwise (by decide)
theorem ex_wa : wafersL exB.Lots exB.Processes exB.Swaps = [5, 6] := by
  unfold wafersL sortI
  rw [show (proK exB.Swaps (lotK exB.Lots) exB.Processes).filter isIDb = [5, 6] from by kernel_rfl]
  exact List.mergeSort_of_pairwise (by decide)
end Go.Wx
namespace Go.Proofs.YthfjagphcekcbaaGreat
open Go.Wx Go.RowKit
set_option maxHeartbeats 2000000 in
theorem sane_any (w : World) : Ret Tryz.prog 11 #[] w fun r w' => r = .bool true ∧ Up w w' := by
  have hW := Up.refl w
  refine Calls_start (n := 80) (m := 9) Tryz.func11 rfl rfl rfl ?_
  refine CW.seq (CW.region (LW.p (PEv.assign (.const _)) rfl rfl rfl (LW.nil (KW.then (CW.seq (CW.region ?_))))))
  refine LW.c (enter_call0 .nil (Tryz.en32)) rfl rfl rfl rfl (example_any _) ?_
  rintro _ w1 ⟨bc, rfl, hC, uw1⟩
  have zw1 := uw1.size
  replace hW := hW.up uw1
  refine LW.r (REv.allocA Tryz.zeroValue24) rfl rfl rfl rfl ?_
  rintro _ w2 ⟨B1, rfl, MB1⟩
  refine LW.s (SEv.storeA Tryz.sizeOf24 (hC.size) (.tmp rfl) (.tmp rfl) (hC.one) MB1.blk rfl) rfl rfl rfl ?_
  intro w3 LB1
  have NB1 := MB1.set LB1
  clear LB1 MB1
  have eB1 := NB1.at_
  have zB1 := NB1.size
  replace hW := hW.up NB1.up
  replace hC := hC.up NB1.up
  have hB1 := NB1.blk
  refine LW.nil (KW.then (CW.seq (CW.region ?_)))
  refine LW.p (PEv.loadA Tryz.isAgg24 Tryz.sizeOf24 (hC.size) (.tmp rfl) (hB1.agg)) rfl rfl rfl ?_
  refine LW.c (enter_call0 (.cons (.tmp rfl) (.cons (.const _) .nil)) (Tryz.en23)) rfl rfl rfl rfl (History_any bc exB 5 _ hC (by decide) (by decide)) ?_
  rintro v10 w4 ⟨hO10, uw4⟩
  have zw4 := uw4.size
  replace hW := hW.up uw4
  replace hC := hC.up uw4
  replace hB1 := hB1.up uw4
  rw [ex_h5] at hO10
  obtain ⟨ad10, cp10, rfl, hE100⟩ := hO10.sl (fun _ => rfl)
  have hE10 : Els w4 ad10 19 Fact.cells [exF 0 (5, 10), exF 2 (6, 40)] := hE100
  clear hO10 hE100
  refine LW.p (PEv.assign (.tmp rfl)) rfl rfl rfl (LW.nil (KW.then (CW.seq (CW.region ?_))))
  refine LW.p (PEv.loadA Tryz.isAgg24 Tryz.sizeOf24 (hC.size) (.tmp rfl) (hB1.agg)) rfl rfl rfl ?_
  refine LW.c (enter_call0 (.cons (.tmp rfl) (.cons (.const _) (.cons (.const _) .nil))) (Tryz.en16)) rfl rfl rfl rfl (lot_any bc exB 5 24 _ hC (by decide)) ?_
  rintro _ w5 ⟨rfl, uw5⟩
  have zw5 := uw5.size
  replace hW := hW.up uw5
  replace hC := hC.up uw5
  replace hB1 := hB1.up uw5
  replace hE10 := hE10.up uw5
  rw [ex_l1]
  refine LW.p (PEv.move (.tmp rfl)) rfl rfl rfl (LW.p (PEv.extract (.tmp rfl) rfl) rfl rfl rfl (LW.p (PEv.extract (.tmp rfl) rfl) rfl rfl rfl (LW.p (PEv.assign (.tmp rfl)) rfl rfl rfl (LW.p (PEv.assign (.tmp rfl)) rfl rfl rfl (LW.nil (KW.then (CW.seq (CW.region ?_))))))))
  refine LW.p (PEv.loadA Tryz.isAgg24 Tryz.sizeOf24 (hC.size) (.tmp rfl) (hB1.agg)) rfl rfl rfl ?_
  refine LW.c (enter_call0 (.cons (.tmp rfl) (.cons (.const _) (.cons (.const _) .nil))) (Tryz.en16)) rfl rfl rfl rfl (lot_any bc exB 5 25 _ hC (by decide)) ?_
  rintro _ w6 ⟨rfl, uw6⟩
  have zw6 := uw6.size
  replace hW := hW.up uw6
  replace hC := hC.up uw6
  replace hB1 := hB1.up uw6
  replace hE10 := hE10.up uw6
  rw [ex_l2]
  refine LW.p (PEv.move (.tmp rfl)) rfl rfl rfl (LW.p (PEv.extract (.tmp rfl) rfl) rfl rfl rfl (LW.p (PEv.extract (.tmp rfl) rfl) rfl rfl rfl (LW.p (PEv.assign (.tmp rfl)) rfl rfl rfl (LW.p (PEv.assign (.tmp rfl)) rfl rfl rfl (LW.nil (KW.then (CW.seq (CW.seq (CW.region (LW.p (PEv.move (.tmp rfl)) rfl rfl rfl ?_))))))))))
  refine LW.p (PEv.lenS Tryz.underlying22 (.tmp rfl)) rfl rfl rfl ?_
  refine LW.p (PEv.fa (PEv.neq (.tmp rfl) (.const _)) (rfl)) rfl rfl rfl ?_
  refine LW.p (PEv.move (.tmp rfl)) rfl rfl rfl ?_
  refine LW.yes rfl rfl rfl rfl rfl rfl ?_
  refine LW.p (PEv.loadA Tryz.isAgg24 Tryz.sizeOf24 (hC.size) (.tmp rfl) (hB1.agg)) rfl rfl rfl ?_
  refine LW.yes rfl rfl rfl rfl rfl rfl ?_
  refine LW.c (enter_call0 (.cons (.tmp rfl) (.cons (.const _) .nil)) (Tryz.en23)) rfl rfl rfl rfl (History_any bc exB 6 _ hC (by decide) (by decide)) ?_
  rintro v26 w7 ⟨hO26, uw7⟩
  have zw7 := uw7.size
  replace hW := hW.up uw7
  replace hC := hC.up uw7
  replace hB1 := hB1.up uw7
  replace hE10 := hE10.up uw7
  rw [ex_h6] at hO26
  obtain ⟨ad26, cp26, rfl, hE260⟩ := hO26.sl (fun _ => rfl)
  have hE26 : Els w7 ad26 19 Fact.cells [exF 1 (5, 30)] := hE260
  clear hO26 hE260
  refine LW.yes rfl rfl rfl rfl rfl rfl ?_
  refine LW.p (PEv.lenS Tryz.underlying22 (.tmp rfl)) rfl rfl rfl ?_
  refine LW.yes rfl rfl rfl rfl rfl rfl ?_
  refine LW.p (PEv.fa (PEv.neq (.tmp rfl) (.const _)) (rfl)) rfl rfl rfl ?_
  refine LW.p (PEv.pick_or (.tmp rfl) (fun hp => (by first | exact .const _ | exact .tmp rfl | exact .cond rfl (by first | assumption | simp_all)))) rfl rfl rfl ?_
  refine LW.nil (KW.then ?_)
  refine CW.cond_false (.tmp rfl) ?_
  refine CW.skip (KW.then (CW.seq (CW.region ?_)))
  refine LW.p (PEv.loadA Tryz.isAgg24 Tryz.sizeOf24 (hC.size) (.tmp rfl) (hB1.agg)) rfl rfl rfl ?_
  refine LW.c (enter_call0 (.cons (.tmp rfl) (.cons (.const _) (.cons (.const _) .nil))) (Tryz.en18)) rfl rfl rfl rfl (Who_any bc exB 5 19 _ hC (by decide)) ?_
  rintro _ w8 ⟨rfl, uw8⟩
  have zw8 := uw8.size
  replace hW := hW.up uw8
  replace hC := hC.up uw8
  replace hB1 := hB1.up uw8
  replace hE10 := hE10.up uw8
  replace hE26 := hE26.up uw8
  rw [ex_w1]
  refine LW.p (PEv.tr (PEv.eql (.tmp rfl) (.const _)) (rfl)) rfl rfl rfl ?_
  refine LW.p (PEv.move (.tmp rfl)) rfl rfl rfl ?_
  refine LW.yes rfl rfl rfl rfl rfl rfl ?_
  refine LW.p (PEv.loadA Tryz.isAgg24 Tryz.sizeOf24 (hC.size) (.tmp rfl) (hB1.agg)) rfl rfl rfl ?_
  refine LW.yes rfl rfl rfl rfl rfl rfl ?_
  refine LW.c (enter_call0 (.cons (.tmp rfl) (.cons (.const _) (.cons (.const _) .nil))) (Tryz.en18)) rfl rfl rfl rfl (Who_any bc exB 5 20 _ hC (by decide)) ?_
  rintro _ w9 ⟨rfl, uw9⟩
  have zw9 := uw9.size
  replace hW := hW.up uw9
  replace hC := hC.up uw9
  replace hB1 := hB1.up uw9
  replace hE10 := hE10.up uw9
  replace hE26 := hE26.up uw9
  rw [ex_w2]
  refine LW.yes rfl rfl rfl rfl rfl rfl ?_
  refine LW.p (PEv.tr (PEv.eql (.tmp rfl) (.const _)) (rfl)) rfl rfl rfl ?_
  refine LW.p (PEv.pick_and (.tmp rfl) (fun hp => (by first | exact .const _ | exact .tmp rfl | exact .cond rfl (by first | assumption | simp_all)))) rfl rfl rfl ?_
  refine LW.p (PEv.move (.tmp rfl)) rfl rfl rfl ?_
  refine LW.yes rfl rfl rfl rfl rfl rfl ?_
  refine LW.p (PEv.loadA Tryz.isAgg24 Tryz.sizeOf24 (hC.size) (.tmp rfl) (hB1.agg)) rfl rfl rfl ?_
  refine LW.yes rfl rfl rfl rfl rfl rfl ?_
  refine LW.c (enter_call0 (.cons (.tmp rfl) (.cons (.const _) (.cons (.const _) .nil))) (Tryz.en18)) rfl rfl rfl rfl (Who_any bc exB 6 20 _ hC (by decide)) ?_
  rintro _ w10 ⟨rfl, uw10⟩
  have zw10 := uw10.size
  replace hW := hW.up uw10
  replace hC := hC.up uw10
  replace hB1 := hB1.up uw10
  replace hE10 := hE10.up uw10
  replace hE26 := hE26.up uw10
  rw [ex_w3]
  refine LW.yes rfl rfl rfl rfl rfl rfl ?_
  refine LW.p (PEv.tr (PEv.eql (.tmp rfl) (.const _)) (rfl)) rfl rfl rfl ?_
  refine LW.p (PEv.pick_and (.tmp rfl) (fun hp => (by first | exact .const _ | exact .tmp rfl | exact .cond rfl (by first | assumption | simp_all)))) rfl rfl rfl ?_
  refine LW.p (PEv.move (.tmp rfl)) rfl rfl rfl ?_
  refine LW.yes rfl rfl rfl rfl rfl rfl ?_
  refine LW.p (PEv.loadA Tryz.isAgg24 Tryz.sizeOf24 (hC.size) (.tmp rfl) (hB1.agg)) rfl rfl rfl ?_
  refine LW.yes rfl rfl rfl rfl rfl rfl ?_
  refine LW.c (enter_call0 (.cons (.tmp rfl) (.cons (.const _) (.cons (.const _) .nil))) (Tryz.en20)) rfl rfl rfl rfl (Mark_any bc exB 5 40 _ hC (by decide)) ?_
  rintro _ w11 ⟨rfl, uw11⟩
  have zw11 := uw11.size
  replace hW := hW.up uw11
  replace hC := hC.up uw11
  replace hB1 := hB1.up uw11
  replace hE10 := hE10.up uw11
  replace hE26 := hE26.up uw11
  rw [ex_m1]
  refine LW.yes rfl rfl rfl rfl rfl rfl ?_
  refine LW.p (PEv.tr (PEv.eql (.tmp rfl) (.const _)) (rfl)) rfl rfl rfl ?_
  refine LW.p (PEv.pick_and (.tmp rfl) (fun hp => (by first | exact .const _ | exact .tmp rfl | exact .cond rfl (by first | assumption | simp_all)))) rfl rfl rfl ?_
  refine LW.p (PEv.assign (.tmp rfl)) rfl rfl rfl (LW.nil (KW.then (CW.seq ?_)))
  obtain ⟨Bx, ox, ax, hcx⟩ := hE10 1 _ rfl
  refine CW.region (LW.p (PEv.move (.tmp rfl)) rfl rfl rfl (LW.p (PEv.move (.tmp rfl)) rfl rfl rfl ?_))
  refine LW.yes rfl rfl rfl rfl rfl rfl ?_
  refine LW.p (PEv.move (.tmp rfl)) rfl rfl rfl ?_
  refine LW.yes rfl rfl rfl rfl rfl rfl ?_
  refine LW.p (PEv.indexAddr' Tryz.underlying22 Tryz.sizeOf46 (.tmp rfl) (.const _) (by decide) ax) rfl rfl rfl ?_
  refine LW.yes rfl rfl rfl rfl rfl rfl ?_
  refine LW.p (PEv.fieldAddr (off := 1) Tryz.underlying46 rfl rfl Tryz.sizeOf3 rfl (.tmp rfl)) rfl rfl rfl ?_
  refine LW.yes rfl rfl rfl rfl rfl rfl ?_
  refine LW.p (PEv.load Tryz.isAgg3 (.tmp rfl) (hcx.nth (j := 1) rfl)) rfl rfl rfl ?_
  refine LW.yes rfl rfl rfl rfl rfl rfl ?_
  refine LW.p (PEv.tr (PEv.eql (.tmp rfl) (.const _)) (rfl)) rfl rfl rfl ?_
  refine LW.p (PEv.pick_and (.tmp rfl) (fun hp => (by first | exact .const _ | exact .tmp rfl | exact .cond rfl (by first | assumption | simp_all)))) rfl rfl rfl ?_
  refine LW.p (PEv.move (.tmp rfl)) rfl rfl rfl ?_
  refine LW.yes rfl rfl rfl rfl rfl rfl ?_
  refine LW.p (PEv.move (.tmp rfl)) rfl rfl rfl ?_
  refine LW.yes rfl rfl rfl rfl rfl rfl ?_
  refine LW.p (PEv.tr (PEv.eql (.tmp rfl) (.const _)) (rfl)) rfl rfl rfl ?_
  refine LW.p (PEv.pick_and (.tmp rfl) (fun hp => (by first | exact .const _ | exact .tmp rfl | exact .cond rfl (by first | assumption | simp_all)))) rfl rfl rfl ?_
  refine LW.p (PEv.move (.tmp rfl)) rfl rfl rfl ?_
  refine LW.yes rfl rfl rfl rfl rfl rfl ?_
  refine LW.p (PEv.move (.tmp rfl)) rfl rfl rfl ?_
  refine LW.yes rfl rfl rfl rfl rfl rfl ?_
  refine LW.p (PEv.tr (PEv.eql (.tmp rfl) (.const _)) (rfl)) rfl rfl rfl ?_
  refine LW.p (PEv.pick_and (.tmp rfl) (fun hp => (by first | exact .const _ | exact .tmp rfl | exact .cond rfl (by first | assumption | simp_all)))) rfl rfl rfl ?_
  refine LW.p (PEv.move (.tmp rfl)) rfl rfl rfl ?_
  refine LW.yes rfl rfl rfl rfl rfl rfl ?_
  refine LW.p (PEv.move (.tmp rfl)) rfl rfl rfl ?_
  refine LW.yes rfl rfl rfl rfl rfl rfl ?_
  refine LW.p (PEv.tr (PEv.eql (.tmp rfl) (.const _)) (rfl)) rfl rfl rfl ?_
  refine LW.p (PEv.pick_and (.tmp rfl) (fun hp => (by first | exact .const _ | exact .tmp rfl | exact .cond rfl (by first | assumption | simp_all)))) rfl rfl rfl ?_
  refine LW.p (PEv.move (.tmp rfl)) rfl rfl rfl ?_
  refine LW.yes rfl rfl rfl rfl rfl rfl ?_
  refine LW.p (PEv.loadA Tryz.isAgg24 Tryz.sizeOf24 (hC.size) (.tmp rfl) (hB1.agg)) rfl rfl rfl ?_
  refine LW.yes rfl rfl rfl rfl rfl rfl ?_
  refine LW.c (enter_call0 (.cons (.tmp rfl) (.cons (.const _) (.cons (.const _) .nil))) (Tryz.en26)) rfl rfl rfl rfl (Members_any bc exB 8 30 _ hC (by decide)) ?_
  rintro v70 w12 ⟨hO70, uw12⟩
  have zw12 := uw12.size
  replace hW := hW.up uw12
  replace hC := hC.up uw12
  replace hB1 := hB1.up uw12
  replace hE10 := hE10.up uw12
  replace hE26 := hE26.up uw12
  replace hcx := hcx.up uw12
  rw [ex_me] at hO70
  obtain ⟨ad70, cp70, rfl, hE700⟩ := hO70.sl (fun _ => rfl)
  have hE70 : Els w12 ad70 1 eInt [5] := hE700
  clear hO70 hE700
  refine LW.yes rfl rfl rfl rfl rfl rfl ?_
  refine LW.r (REv.buildSlice (xs := ([5] : List Int)) (enc := eInt) (mk := vi) Tryz.underlying32 Tryz.sizeOf3 Tryz.zeroValue3 rfl (by decide) (fun _ => rfl) (fun _ => rfl) (.cons (.const _) .nil) rfl) rfl rfl rfl rfl ?_
  rintro _ w13 ⟨B71, cB71, rfl, NB71, yB71, xB71⟩
  have eB71 := NB71.at_
  have zB71 := NB71.size
  replace hW := hW.up NB71.up
  replace hC := hC.up NB71.up
  replace hB1 := hB1.up NB71.up
  replace hE10 := hE10.up NB71.up
  replace hE26 := hE26.up NB71.up
  replace hcx := hcx.up NB71.up
  replace hE70 := hE70.up NB71.up
  have hB71 := NB71.blk
  have hE71 := xB71
  refine LW.yes rfl rfl rfl rfl rfl rfl ?_
  refine LW.c (enter_call0 (.cons (.tmp rfl) (.cons (.tmp rfl) .nil)) (Tryz.en25)) rfl rfl rfl rfl (sameInts_any _ _ [5] [5] _ (Sl.of_els hE70) (Sl.of_els hE71) (by decide) (by decide)) ?_
  rintro _ w14 ⟨rfl, uw14⟩
  have zw14 := uw14.size
  replace hW := hW.up uw14
  replace hC := hC.up uw14
  replace hB1 := hB1.up uw14
  replace hE10 := hE10.up uw14
  replace hE26 := hE26.up uw14
  replace hcx := hcx.up uw14
  replace hE70 := hE70.up uw14
  replace hB71 := hB71.up uw14
  replace hE71 := hE71.up uw14
  rw [decide_eq_true rfl]
  refine LW.p (PEv.pick_and (.tmp rfl) (fun hp => (by first | exact .const _ | exact .tmp rfl | exact .cond rfl (by first | assumption | simp_all)))) rfl rfl rfl ?_
  refine LW.p (PEv.move (.tmp rfl)) rfl rfl rfl ?_
  refine LW.yes rfl rfl rfl rfl rfl rfl ?_
  refine LW.p (PEv.loadA Tryz.isAgg24 Tryz.sizeOf24 (hC.size) (.tmp rfl) (hB1.agg)) rfl rfl rfl ?_
  refine LW.yes rfl rfl rfl rfl rfl rfl ?_
  refine LW.c (enter_call0 (.cons (.tmp rfl) .nil) (Tryz.en28)) rfl rfl rfl rfl (Wafers_any bc exB _ hC (by decide) (by decide)) ?_
  rintro v76 w15 ⟨hO76, uw15⟩
  have zw15 := uw15.size
  replace hW := hW.up uw15
  replace hC := hC.up uw15
  replace hB1 := hB1.up uw15
  replace hE10 := hE10.up uw15
  replace hE26 := hE26.up uw15
  replace hcx := hcx.up uw15
  replace hE70 := hE70.up uw15
  replace hB71 := hB71.up uw15
  replace hE71 := hE71.up uw15
  rw [ex_wa] at hO76
  obtain ⟨ad76, cp76, rfl, hE760⟩ := hO76.sl (fun _ => rfl)
  have hE76 : Els w15 ad76 1 eInt [5, 6] := hE760
  clear hO76 hE760
  refine LW.yes rfl rfl rfl rfl rfl rfl ?_
  refine LW.r (REv.buildSlice (xs := ([5, 6] : List Int)) (enc := eInt) (mk := vi) Tryz.underlying32 Tryz.sizeOf3 Tryz.zeroValue3 rfl (by decide) (fun _ => rfl) (fun _ => rfl) (.cons (.const _) (.cons (.const _) .nil)) rfl) rfl rfl rfl rfl ?_
  rintro _ w16 ⟨B77, cB77, rfl, NB77, yB77, xB77⟩
  have eB77 := NB77.at_
  have zB77 := NB77.size
  replace hW := hW.up NB77.up
  replace hC := hC.up NB77.up
  replace hB1 := hB1.up NB77.up
  replace hE10 := hE10.up NB77.up
  replace hE26 := hE26.up NB77.up
  replace hcx := hcx.up NB77.up
  replace hE70 := hE70.up NB77.up
  replace hB71 := hB71.up NB77.up
  replace hE71 := hE71.up NB77.up
  replace hE76 := hE76.up NB77.up
  have hB77 := NB77.blk
  have hE77 := xB77
  refine LW.yes rfl rfl rfl rfl rfl rfl ?_
  refine LW.c (enter_call0 (.cons (.tmp rfl) (.cons (.tmp rfl) .nil)) (Tryz.en25)) rfl rfl rfl rfl (sameInts_any _ _ [5, 6] [5, 6] _ (Sl.of_els hE76) (Sl.of_els hE77) (by decide) (by decide)) ?_
  rintro _ w17 ⟨rfl, uw17⟩
  have zw17 := uw17.size
  replace hW := hW.up uw17
  replace hC := hC.up uw17
  replace hB1 := hB1.up uw17
  replace hE10 := hE10.up uw17
  replace hE26 := hE26.up uw17
  replace hcx := hcx.up uw17
  replace hE70 := hE70.up uw17
  replace hB71 := hB71.up uw17
  replace hE71 := hE71.up uw17
  replace hE76 := hE76.up uw17
  replace hB77 := hB77.up uw17
  replace hE77 := hE77.up uw17
  rw [decide_eq_true rfl]
  refine LW.p (PEv.pick_and (.tmp rfl) (fun hp => (by first | exact .const _ | exact .tmp rfl | exact .cond rfl (by first | assumption | simp_all)))) rfl rfl rfl ?_
  refine LW.p (PEv.assign (.tmp rfl)) rfl rfl rfl (LW.nil (KW.then (CW.ret ?_)))
  refine KW.ret1 rfl rfl ⟨_, rfl, ?_⟩
  exact ⟨rfl, hW⟩
end Go.Proofs.YthfjagphcekcbaaGreat
end
section
namespace Go.Wx
theorem histL_len (ps ss : List Fact) (w : Int) : (histL ps ss w).length ≤ ps.length := by
  unfold histL
  split
  · exact ordG_len _ _
  · exact Nat.zero_le _
theorem sortI_len (ks : List Int) : (sortI ks).length = ks.length := List.length_mergeSort _
theorem wafersL_len (ls ps ss : List Fact) : (wafersL ls ps ss).length ≤ ls.length + ps.length := by
  unfold wafersL
  rw [sortI_len]
  exact Nat.le_trans (List.length_filter_le isIDb _) (Nat.le_trans (proK_len ss (lotK ls) ps) (Nat.add_le_add_right (lotK_len ls) _))
theorem memK_len2 (lots : List Fact) (lot t : Int) : (membersL lots lot t).length ≤ lots.length := by unfold membersL; rw [sortI_len]; exact memK_len _ _ _ _
end Go.Wx
namespace Go.Proofs.YthfjagphcekcbaaGreat
open Go.Wx Go.RowKit
theorem sameFacts_v (v1 v2 : Go.Value) (l m : List Fact) (w : World) (h1 : Sl w v1 19 Fact.cells l) (h2 : Sl w v2 19 Fact.cells m) (hl : l.length ≤ 100000) : Ret Tryz.prog 22 #[v1, v2] w fun r w' => r = .bool (eqFs l m) ∧ Up w w' := by
  obtain ⟨ad, cp, rfl, hE⟩ := h1
  obtain ⟨ad', cp', rfl, hE'⟩ := h2
  exact sameFacts_any ad ad' cp cp' l m w hE hE' hl
end Go.Proofs.YthfjagphcekcbaaGreat
end
section
namespace Go.Wx
theorem addI_nodup {ks : List Int} {k : Int} (h : ks.Nodup) : (addI ks k).Nodup := by
  unfold addI
  split
  · exact h
  · rename_i e
    exact List.nodup_append.2 ⟨h, by simp, fun a ha c hc => by rw [List.mem_singleton] at hc; subst hc; exact fun e2 => e (e2 ▸ ha)⟩
theorem foldAdd {α : Type} (g : α → Int) : ∀ (l : List α) (ks : List Int), (ks.Nodup → (l.foldl (fun ks x => addI ks (g x)) ks).Nodup) ∧ ∀ k, k ∈ l.foldl (fun ks x => addI ks (g x)) ks ↔ k ∈ ks ∨ ∃ x ∈ l, g x = k
  | [], ks => ⟨fun h => h, fun k => by simp⟩
  | x :: l, ks => by
    have ih := foldAdd g l (addI ks (g x))
    rw [List.foldl_cons]
    refine ⟨fun h => ih.1 (addI_nodup h), fun k => ?_⟩
    rw [ih.2 k, addI_mem]
    constructor
    · rintro ((h | h) | ⟨y, hy, e⟩)
      · exact .inl h
      · exact .inr ⟨x, List.mem_cons_self, h.symm⟩
      · exact .inr ⟨y, List.mem_cons_of_mem _ hy, e⟩
    · rintro (h | ⟨y, hy, e⟩)
      · exact .inl (.inl h)
      · rcases List.mem_cons.1 hy with rfl | hy
        · exact .inl (.inr e.symm)
        · exact .inr ⟨y, hy, e⟩
theorem sortI_mem {ks : List Int} {k : Int} : k ∈ sortI ks ↔ k ∈ ks := (List.mergeSort_perm ks _).mem_iff
theorem sortI_lt {ks : List Int} (h : ks.Nodup) : (sortI ks).Pairwise (· < ·) := by
  have h1 : (sortI ks).Pairwise fun x y => decide (x ≤ y) = true := List.pairwise_mergeSort (fun a b c h1 h2 => by simp at h1 h2 ⊢; omega) (fun a b => by simp; omega) ks
  have h2 : (sortI ks).Pairwise (· ≠ ·) := ((List.mergeSort_perm ks _).nodup_iff).2 h
  exact (h1.and h2).imp fun {a b} h => by have := of_decide_eq_true h.1; have := h.2; omega
theorem foldAddP {α : Type} (p : α → Bool) (g : α → Int) : ∀ (l : List α) (ks : List Int), (ks.Nodup → (l.foldl (fun ks x => if p x = true then addI ks (g x) else ks) ks).Nodup) ∧ ∀ k, k ∈ l.foldl (fun ks x => if p x = true then addI ks (g x) else ks) ks ↔ k ∈ ks ∨ ∃ x ∈ l, p x = true ∧ g x = k
  | [], ks => ⟨fun h => h, fun k => by simp⟩
  | x :: l, ks => by
    rw [List.foldl_cons]
    by_cases hp : p x = true
    · rw [if_pos hp]
      have ih := foldAddP p g l (addI ks (g x))
      refine ⟨fun h => ih.1 (addI_nodup h), fun k => ?_⟩
      rw [ih.2 k, addI_mem]
      constructor
      · rintro ((h | h) | ⟨y, hy, e⟩)
        · exact .inl h
        · exact .inr ⟨x, List.mem_cons_self, hp, h.symm⟩
        · exact .inr ⟨y, List.mem_cons_of_mem _ hy, e⟩
      · rintro (h | ⟨y, hy, e1, e⟩)
        · exact .inl (.inl h)
        · rcases List.mem_cons.1 hy with rfl | hy
          · exact .inl (.inr e.symm)
          · exact .inr ⟨y, hy, e1, e⟩
    · rw [if_neg hp]
      have ih := foldAddP p g l ks
      refine ⟨ih.1, fun k => ?_⟩
      rw [ih.2 k]
      constructor
      · rintro (h | ⟨y, hy, e⟩)
        · exact .inl h
        · exact .inr ⟨y, List.mem_cons_of_mem _ hy, e⟩
      · rintro (h | ⟨y, hy, e1, e⟩)
        · exact .inl h
        · rcases List.mem_cons.1 hy with rfl | hy
          · exact absurd e1 hp
          · exact .inr ⟨y, hy, e1, e⟩
theorem own_take {w : World} {b e c n : Nat} {ad : Option Addr} {l : List Fact} {u : Nat} (h : OwnS w b e 19 Fact.cells (.slice ad u c) l) (hn : n ≤ l.length) : Sl w (.slice ad n c) 19 Fact.cells (l.take n) := by
  have hE := h.elB (fun _ => rfl)
  refine ⟨ad, c, by rw [List.length_take, Nat.min_eq_left hn], fun i x hx => hE i x ?_⟩
  rw [List.getElem?_take] at hx
  split at hx
  · exact hx
  · cases hx
theorem sorted_eq {α : Type} {key : α → K2} {A B : List α} (hA : srt key A) (hB : srt key B) (hp : A.Perm B) (hd : ∀ x ∈ A, ∀ y ∈ A, key x = key y → x = y) : A = B := by
  rw [(StS.refl hA).eq, (StS.refl hB).eq]
  exact sortK_perm hp hd
theorem ltTI_ne {a b : Fact} (h : a.Time ≠ b.Time) : ltK (keyTI a) (keyTI b) = decide (a.Time < b.Time) := by show (decide (a.Time < b.Time) || (decide (a.Time = b.Time) && decide (a.ID < b.ID))) = _; rw [decide_eq_false h]; simp
theorem ltTI_eq {a b : Fact} (h : a.Time = b.Time) : ltK (keyTI a) (keyTI b) = decide (a.ID < b.ID) := by show (decide (a.Time < b.Time) || (decide (a.Time = b.Time) && decide (a.ID < b.ID))) = _; rw [decide_eq_true h, decide_eq_false (show ¬ a.Time < b.Time by omega)]; simp
theorem ord_step {L : List Fact} {i k : Nat} {x : Fact} (hx : L[i]? = some x) (hk : k ≤ (sortK keyTI (L.take i)).length) (hgt : ∀ y ∈ (sortK keyTI (L.take i)).drop k, ltK (keyTI x) (keyTI y) = true) (hle : k = 0 ∨ ∃ y, (sortK keyTI (L.take i))[k - 1]? = some y ∧ ltK (keyTI x) (keyTI y) = false) :
    sortK keyTI (L.take (i + 1)) = ((sortK keyTI (L.take i)).take k ++ [x]) ++ (sortK keyTI (L.take i)).drop k := by
  have h := (StS.snoc (sortK_sts (key := keyTI) (L.take i)) hk hgt hle).eq
  rw [take_succ_of hx, ← h]
  unfold insAt
  simp
theorem dropP {α : Type} {l : List α} {k : Nat} {u : α} (hk : 0 < k) (hu : l[k - 1]? = some u) : l.drop (k - 1) = u :: l.drop k := by
  have h := (List.getElem?_eq_some_iff.1 hu)
  obtain ⟨h1, h2⟩ := h
  rw [List.drop_eq_getElem_cons h1, h2]
  congr 2
  omega
theorem sortK_len (l : List Fact) : (sortK keyTI l).length = l.length := (sortK_sts l).same.length
theorem ordG_def (p : Fact → Bool) (l : List Fact) : ordG p l = sortK keyTI (l.filter p) := rfl
theorem prev_elem {w : World} {b e c u : Nat} {ad : Option Addr} {l : List Fact} (h : OwnS w b e 19 Fact.cells (.slice ad u c) l) {k : Nat} (hk : k ≤ l.length) : ∃ x B o, 0 < k → l[k - 1]? = some x ∧ ad = some ⟨B, o, none⟩ ∧ AggAt w B (o + (k - 1) * 19) x.cells := by
  by_cases h0 : 0 < k
  · obtain ⟨x, hx⟩ := getElem?_of_lt (xs := l) (i := k - 1) (by omega)
    obtain ⟨B, o, h1, h2⟩ := h.elB (fun _ => rfl) (k - 1) x hx
    exact ⟨x, B, o, fun _ => ⟨hx, h1, h2⟩⟩
  · exact ⟨zeroF, 0, 0, fun h => absurd h h0⟩
theorem whoF_pred {L : List Fact} {k : Nat} {x : Fact} (hk : 0 < k) (hx : L[k - 1]? = some x) (m : Int) : whoF (L.drop (k - 1)) m = tau x (whoF (L.drop k) m) := by rw [dropP hk hx]; rfl
theorem markF_succ {L : List Fact} {k : Nat} {x : Fact} (hx : L[k]? = some x) (m : Int) : markF (L.take (k + 1)) m = tau x (markF (L.take k) m) := by rw [take_succ_of hx]; unfold markF; rw [List.foldl_append]; rfl
theorem tau_w {x : Fact} {k : Int} (h : k = x.Wafer) : tau x k = x.Other := if_pos h
theorem tau_o {x : Fact} {k : Int} (h : ¬ k = x.Wafer) (h2 : k = x.Other) : tau x k = x.Wafer := (if_neg h).trans (if_pos h2)
theorem tau_n {x : Fact} {k : Int} (h : ¬ k = x.Wafer) (h2 : ¬ k = x.Other) : tau x k = k := (if_neg h).trans (if_neg h2)
theorem lot_takes (w t : Int) (o : Option Fact) (x : Fact) : (((isIDb w && decide (x.Wafer = w)) && decide (x.Time ≤ t)) && (!o.isSome || decide ((o.getD zeroF).Time < x.Time))) = lotTakes w t o x := by
  unfold lotTakes
  cases o <;> rfl
theorem lotBest_step {l : List Fact} {w t : Int} {k : Nat} {x : Fact} (hx : l[k]? = some x) : lotBest (l.take (k + 1)) w t = if lotTakes w t (lotBest (l.take k) w t) x = true then some x else lotBest (l.take k) w t := by rw [take_succ_of hx, lotBest_snoc]; rfl
theorem lotOf_def (l : List Fact) (w t : Int) : lotOf l w t = (((lotBest l w t).getD zeroF).Lot, ((lotBest l w t).getD zeroF).Product) := by
  unfold lotOf
  cases lotBest l w t <;> rfl
theorem lot_id {l : List Fact} {w t : Int} (h : isIDb w = false) : lotOf l w t = (0, 0) := by
  have : lotBest l w t = none := by
    unfold lotBest
    induction l with
    | nil => rfl
    | cons f l ih =>
      rw [List.foldl_cons]
      have e : lotStep w t none f = none := by unfold lotStep lotTakes; rw [h]; rfl
      rw [e]; exact ih
  unfold lotOf
  rw [this]
def SlC (w : World) (v : Go.Value) (xs : List Int) : Prop := ∃ ad cp, v = .slice ad xs.length cp ∧ Els w ad 1 eInt xs ∧ xs.length ≤ cp
theorem SlC.up {w w' : World} {v : Go.Value} {xs : List Int} (h : SlC w v xs) (u : Up w w') : SlC w' v xs := let ⟨ad, c, e, hE, hc⟩ := h; ⟨ad, c, e, Els.up hE u, hc⟩
theorem SlC.sl {w : World} {v : Go.Value} {xs : List Int} (h : SlC w v xs) : Sl w v 1 eInt xs := let ⟨ad, c, e, hE, _⟩ := h; ⟨ad, c, e, hE⟩
theorem SlC.nil (w : World) : SlC w (.slice none 0 0) [] := ⟨none, 0, rfl, fun i x h => by simp at h, Nat.le_refl _⟩
theorem SlC.nil0 (w : World) : SlC w (.slice none 0 0) (sortI []) := by rw [show sortI [] = [] by simp [sortI]]; exact SlC.nil w
theorem OwnS.slc {w : World} {b e : Nat} {v : Go.Value} {xs : List Int} (h : OwnS w b e 1 eInt v xs) : SlC w v xs := by
  obtain ⟨ad, cp, rfl, hE⟩ := h.sl (fun _ => rfl)
  exact ⟨ad, cp, rfl, hE, own_cap h⟩
def keyN (n : Int) : K2 := (n, 0)
theorem lt_uniq {A B : List Int} (hA : A.Pairwise (· < ·)) (hB : B.Pairwise (· < ·)) (h : ∀ k, k ∈ A ↔ k ∈ B) : A = B := by
  have nA : A.Nodup := hA.imp fun {a b} h e => by omega
  have nB : B.Nodup := hB.imp fun {a b} h e => by omega
  refine sorted_eq (key := keyN) (hA.imp fun {a b} h => ?_) (hB.imp fun {a b} h => ?_) ((List.perm_ext_iff_of_nodup nA nB).2 h) fun x _ y _ e => (Prod.mk.inj e).1
  · rw [ltK_not]; show ¬ (b < a ∨ (b = a ∧ (0 : Int) < 0)); omega
  · rw [ltK_not]; show ¬ (b < a ∨ (b = a ∧ (0 : Int) < 0)); omega
theorem nodupLt {ks : List Int} (h : ks.Pairwise (· < ·)) : ks.Nodup := h.imp fun {a b} h e => by omega
theorem add_found {ks : List Int} (h : ks.Pairwise (· < ·)) {n : Int} (hn : n ∈ ks) : ks = sortI (addI ks n) := lt_uniq h (sortI_lt (addI_nodup (nodupLt h))) fun k => by rw [sortI_mem, addI_mem]; exact ⟨.inl, fun h => h.elim id fun e => e ▸ hn⟩
theorem add_new {ks : List Int} (h : ks.Pairwise (· < ·)) {n : Int} {k : Nat} (h1 : ∀ y ∈ ks.take k, y < n) (h2 : ∀ y ∈ ks.drop k, n < y) : (ks.take k ++ [n]) ++ ks.drop k = sortI (addI ks n) := by
  refine lt_uniq ?_ (sortI_lt (addI_nodup (nodupLt h))) fun j => ?_
  · rw [List.append_assoc]
    refine List.pairwise_append.2 ⟨h.sublist (List.take_sublist _ _), List.pairwise_cons.2 ⟨h2, h.sublist (List.drop_sublist _ _)⟩, fun a ha b hb => ?_⟩
    have := h1 a ha
    rcases List.mem_cons.1 hb with rfl | hb
    · exact this
    · have := h2 b hb; omega
  · rw [sortI_mem, addI_mem, List.mem_append, List.mem_append, List.mem_singleton]
    have e : j ∈ ks ↔ j ∈ ks.take k ∨ j ∈ ks.drop k := by rw [← List.mem_append, List.take_append_drop]
    rw [e]
    constructor
    · rintro ((h | h) | h)
      · exact .inl (.inl h)
      · exact .inr h
      · exact .inl (.inr h)
    · rintro ((h | h) | h)
      · exact .inl (.inl h)
      · exact .inr h
      · exact .inl (.inr h)
theorem drop_gt {ks : List Int} (h : ks.Pairwise (· < ·)) {n : Int} {k : Nat} (hk : k < ks.length → ∃ u, ks[k]? = some u ∧ n < u) : ∀ y ∈ ks.drop k, n < y := fun y hy => by
  obtain ⟨j, hj⟩ := List.mem_iff_getElem?.1 hy
  rw [List.getElem?_drop] at hj
  have hlt := (List.getElem?_eq_some_iff.1 hj).1
  obtain ⟨u, hu, hnu⟩ := hk (by omega)
  by_cases e : j = 0
  · subst e
    rw [Nat.add_zero, hu] at hj
    cases hj; exact hnu
  · obtain ⟨l1, e1⟩ := List.getElem?_eq_some_iff.1 hu
    obtain ⟨l2, e2⟩ := List.getElem?_eq_some_iff.1 hj
    have := List.pairwise_iff_getElem.1 h k (k + j) l1 l2 (by omega)
    rw [e1, e2] at this
    omega
theorem at_elem {w : World} {ad : Option Addr} {ks : List Int} (hE : Els w ad 1 eInt ks) (k : Nat) : ∃ u B o, k < ks.length → ks[k]? = some u ∧ ad = some ⟨B, o, none⟩ ∧ AggAt w B (o + k * 1) (eInt u) := by
  by_cases h0 : k < ks.length
  · obtain ⟨x, hx⟩ := getElem?_of_lt (xs := ks) (i := k) h0
    obtain ⟨B, o, h1, h2⟩ := hE k x hx
    exact ⟨x, B, o, fun _ => ⟨hx, h1, h2⟩⟩
  · exact ⟨0, 0, 0, fun h => absurd h h0⟩
theorem sortI_addI (X : List Int) (n : Int) : sortI (addI (sortI X) n) = sortI (addI X n) := by
  unfold sortI
  refine sort_perm ?_
  have hp : (X.mergeSort fun x y => decide (x ≤ y)).Perm X := List.mergeSort_perm X _
  unfold addI
  by_cases h : n ∈ X
  · rw [if_pos h, if_pos (hp.mem_iff.2 h)]; exact hp
  · rw [if_neg h, if_neg (fun e => h (hp.mem_iff.1 e))]; exact hp.append_right _
theorem filt_add_yes (X : List Int) {n : Int} (h : isIDb n = true) : (addI X n).filter isIDb = addI (X.filter isIDb) n := by
  unfold addI
  by_cases e : n ∈ X
  · rw [if_pos e, if_pos (List.mem_filter.2 ⟨e, h⟩)]
  · rw [if_neg e, if_neg (fun h2 => e (List.mem_filter.1 h2).1), List.filter_append]
    congr 1
    exact List.filter_cons_of_pos h
theorem filt_add_no (X : List Int) {n : Int} (h : isIDb n = false) : (addI X n).filter isIDb = X.filter isIDb := by
  unfold addI
  by_cases e : n ∈ X
  · rw [if_pos e]
  · rw [if_neg e, List.filter_append, List.filter_cons_of_neg (by rw [h]; exact Bool.false_ne_true), List.filter_nil, List.append_nil]
theorem lotK_nodup (l : List Fact) : (lotK l).Nodup := (foldAdd (fun f : Fact => f.Wafer) l []).1 List.nodup_nil
theorem proK_nodup (ss ps : List Fact) {ks : List Int} (h : ks.Nodup) : (proK ss ks ps).Nodup := (foldAdd (fun f : Fact => whoL ss f.Time f.Wafer) ps ks).1 h
theorem memK_nodup (ls : List Fact) (lot t : Int) (l : List Fact) : (memK ls lot t l).Nodup := (foldAddP (memP ls lot t) (fun f => f.Wafer) l []).1 List.nodup_nil
theorem memP_eq {ls : List Fact} {lot t : Int} (hi : isIDb lot = true) (x : Fact) : (decide ((lotOf ls x.Wafer t).1 = lot) && isIDb x.Wafer) = memP ls lot t x := by
  unfold memP
  rw [hi, Bool.and_true]
  cases h : isIDb x.Wafer with
  | true => rw [Bool.and_true]
  | false =>
    rw [lot_id h, Bool.and_false]
    symm
    refine decide_eq_false fun e => ?_
    rw [← e] at hi; cases hi
theorem members_no {ls : List Fact} {lot t : Int} (hi : isIDb lot = false) : membersL ls lot t = [] := by
  have : memK ls lot t ls = [] := List.eq_nil_iff_forall_not_mem.2 fun k hk => by
    unfold memK at hk
    rcases ((foldAddP (memP ls lot t) (fun f => f.Wafer) ls []).2 k).1 hk with h | ⟨f, _, h, _⟩
    · cases h
    · unfold memP at h
      rw [hi, Bool.and_false] at h; cases h
  unfold membersL
  rw [this]; simp [sortI]
end Go.Wx
namespace Go.Proofs.YthfjagphcekcbaaGreat
open Go.Wx Go.RowKit
theorem rid_any (n : Int) (w : World) : Ret Tryz.prog 39 #[vi n] w fun r w' => r = .bool (isIDb n) ∧ Up w w' := by
  have hW := Up.refl w
  refine Calls_start (n := 9) (m := 9) Tryz.func39 rfl rfl rfl ?_
  refine CW.seq (CW.region (LW.p (PEv.assign (.const _)) rfl rfl rfl (LW.nil (KW.then (CW.seq (CW.region (LW.p (PEv.move (.tmp rfl)) rfl rfl rfl ?_)))))))
  refine LW.p (PEv.geq (.tmp rfl) (.const _)) rfl rfl rfl ?_
  refine LW.p (PEv.move (.tmp rfl)) rfl rfl rfl ?_
  refine LW.g rfl rfl rfl rfl rfl rfl rfl (fun hc => PEv.move (.tmp rfl)) ?_
  refine LW.g rfl rfl rfl rfl rfl rfl rfl (fun hc => PEv.leq (by first | exact .tmp rfl | exact .cond rfl (by first | assumption | simp_all)) (.const _)) ?_
  refine LW.p (PEv.pick_and (.tmp rfl) (fun hp => (by first | exact .const _ | exact .tmp rfl | exact .cond rfl (by first | assumption | simp_all)))) rfl rfl rfl ?_
  refine LW.p (PEv.assign (.tmp rfl)) rfl rfl rfl (LW.nil (KW.then (CW.ret ?_)))
  refine KW.ret1 rfl rfl ⟨_, rfl, ?_⟩
  exact ⟨rfl, hW⟩
theorem rBefore_any (a b : Fact) (w : World) : Ret Tryz.prog 88 #[.agg a.cells, .agg b.cells] w fun r w' => r = .bool (ltK (keyTI a) (keyTI b)) ∧ Up w w' := by
  have hW := Up.refl w
  refine Calls_start (n := 20) (m := 9) Tryz.func88 rfl rfl rfl ?_
  refine CW.seq (CW.region ?_)
  refine LW.r (REv.boxA (.tmp rfl)) rfl rfl rfl rfl ?_
  rintro _ w1 ⟨B2, rfl, NB2⟩
  have eB2 := NB2.at_
  have zB2 := NB2.size
  replace hW := hW.up NB2.up
  have hB2 := NB2.blk
  refine LW.r (REv.boxA (.tmp rfl)) rfl rfl rfl rfl ?_
  rintro _ w2 ⟨B3, rfl, NB3⟩
  have eB3 := NB3.at_
  have zB3 := NB3.size
  replace hW := hW.up NB3.up
  replace hB2 := hB2.up NB3.up
  have hB3 := NB3.blk
  refine LW.p (PEv.assign (.const _)) rfl rfl rfl (LW.nil (KW.then (CW.seq (CW.seq (CW.region ?_)))))
  refine LW.p (PEv.fieldAddr (off := 5) Tryz.underlying46 rfl rfl Tryz.sizeOf3 rfl (.tmp rfl)) rfl rfl rfl ?_
  refine LW.p (PEv.load Tryz.isAgg3 (.tmp rfl) (hB2.celln rfl)) rfl rfl rfl ?_
  refine LW.p (PEv.fieldAddr (off := 5) Tryz.underlying46 rfl rfl Tryz.sizeOf3 rfl (.tmp rfl)) rfl rfl rfl ?_
  refine LW.p (PEv.load Tryz.isAgg3 (.tmp rfl) (hB3.celln rfl)) rfl rfl rfl ?_
  refine LW.p (PEv.neq (.tmp rfl) (.tmp rfl)) rfl rfl rfl ?_
  refine LW.nil (KW.then ?_)
  refine CW.cond (.tmp rfl) (fun h9 => ?_) (fun h9 => ?_)
  ·first | replace h9 := of_decide_eq_true h9 | replace h9 := of_decide_eq_false h9 | skip
   have hne : a.Time ≠ b.Time := by simpa using h9
   refine CW.seq (CW.region ?_)
   refine LW.p (PEv.fieldAddr (off := 5) Tryz.underlying46 rfl rfl Tryz.sizeOf3 rfl (.tmp rfl)) rfl rfl rfl ?_
   refine LW.p (PEv.load Tryz.isAgg3 (.tmp rfl) (hB2.celln rfl)) rfl rfl rfl ?_
   refine LW.p (PEv.fieldAddr (off := 5) Tryz.underlying46 rfl rfl Tryz.sizeOf3 rfl (.tmp rfl)) rfl rfl rfl ?_
   refine LW.p (PEv.load Tryz.isAgg3 (.tmp rfl) (hB3.celln rfl)) rfl rfl rfl ?_
   refine LW.p (PEv.lss (.tmp rfl) (.tmp rfl)) rfl rfl rfl ?_
   refine LW.p (PEv.assign (.tmp rfl)) rfl rfl rfl (LW.nil (KW.then (CW.ret (KW.then_ret ?_))))
   refine KW.ret1 rfl rfl ⟨_, rfl, ?_⟩
   first | exact ⟨by rw [ltTI_ne hne], hW⟩ | exact ⟨by rw [ltTI_eq heq], hW⟩
  ·first | replace h9 := of_decide_eq_true h9 | replace h9 := of_decide_eq_false h9 | skip
   have heq : a.Time = b.Time := by simpa using h9
   refine CW.skip (KW.then (CW.seq (CW.region ?_)))
   refine LW.p (PEv.fieldAddr (off := 1) Tryz.underlying46 rfl rfl Tryz.sizeOf3 rfl (.tmp rfl)) rfl rfl rfl ?_
   refine LW.p (PEv.load Tryz.isAgg3 (.tmp rfl) (hB2.celln rfl)) rfl rfl rfl ?_
   refine LW.p (PEv.fieldAddr (off := 1) Tryz.underlying46 rfl rfl Tryz.sizeOf3 rfl (.tmp rfl)) rfl rfl rfl ?_
   refine LW.p (PEv.load Tryz.isAgg3 (.tmp rfl) (hB3.celln rfl)) rfl rfl rfl ?_
   refine LW.p (PEv.lss (.tmp rfl) (.tmp rfl)) rfl rfl rfl ?_
   refine LW.p (PEv.assign (.tmp rfl)) rfl rfl rfl (LW.nil (KW.then (CW.ret ?_)))
   refine KW.ret1 rfl rfl ⟨_, rfl, ?_⟩
   first | exact ⟨by rw [ltTI_ne hne], hW⟩ | exact ⟨by rw [ltTI_eq heq], hW⟩
set_option maxHeartbeats 1000000 in
theorem rOrdered_any (ad : Option Addr) (cp : Nat) (l : List Fact) (w : World) (hE0 : Els w ad 19 Fact.cells l) (hl : l.length ≤ 1000000000) : Ret Tryz.prog 45 #[.slice ad l.length cp] w fun r w' => OwnS w' w.heap.size 46 19 Fact.cells r (sortK keyTI l) ∧ Up w w' := by
  obtain ⟨w0, rfl⟩ : ∃ w0, w0 = w := ⟨_, rfl⟩
  have hS := Sep.start no w0
  refine Calls_start (n := 49) (m := 9) Tryz.func45 rfl rfl rfl ?_
  refine CW.seq (CW.region (LW.p (PEv.assign (.const _)) rfl rfl rfl (LW.nil (KW.then (CW.seq (CW.region (LW.p (PEv.assign (.const _)) rfl rfl rfl (LW.nil (KW.then (CW.seq (CW.seq ?_)))))))))))
  replace hS := hS.addn (OwnS.nil _ 0 46 19 Fact.cells)
  change Wx.Sep _ _ _ [_] at hS
  refine CW.region (LW.p (PEv.assign (.const _)) rfl rfl rfl (LW.nil (KW.then (CW.block ?_))))
  refine CW.loopB (σ := Nat × Go.Value) (fun s w => (s.1 ≤ l.length) ∧ (Wx.Sep no w0 w [aOwn 46 19 Fact.cells s.2 (sortK keyTI (l.take s.1))])) (fun s => [(4, .eq (vi (s.1 : Int))), (3, .eq (s.2))]) ([(0, .eq _), (2, .eq _)]) (fun s => l.length - s.1) (0, .slice none 0 0) ?_ ⟨rfl, rfl, rfl, rfl, trivial⟩ ?_
  ·exact ⟨Nat.zero_le _, hS⟩
  ·rintro ⟨i, v⟩ w1 ⟨hi, hS⟩
   dsimp only at hi hS
   change CW _ _ _ _ _ _ _ ([(4, .eq (vi (i : Int))), (3, .eq (v))] ++ _) _
   refine CW.seq (CW.seq (CW.region (LW.p (PEv.move (.tmp rfl)) rfl rfl rfl (LW.p (PEv.move (.tmp rfl)) rfl rfl rfl ?_))))
   refine LW.p (PEv.lenS Tryz.underlying22 (.tmp rfl)) rfl rfl rfl ?_
   refine LW.p (PEv.lss (.tmp rfl) (.tmp rfl)) rfl rfl rfl ?_
   refine LW.nil (KW.then ?_)
   refine CW.cond (.tmp rfl) (fun h10 => ?_) (fun h10 => ?_)
   ·first | replace h10 := of_decide_eq_true h10 | replace h10 := of_decide_eq_false h10 | skip
    refine CW.skip (KW.then (CW.seq (CW.block (CW.seq ?_))))
    obtain ⟨x, hx⟩ := getElem?_of_lt (xs := l) (i := i) (by omega)
    obtain ⟨adv, cpv, rfl, _⟩ := (hS.own 0 rfl).sl (fun _ => rfl)
    have hSl := sortK_len (l.take i)
    have hil : (l.take i).length = i ∧ i < l.length := by rw [List.length_take]; omega
    refine CW.region (LW.p (PEv.move (.tmp rfl)) rfl rfl rfl ?_)
    refine LW.p (PEv.lenS Tryz.underlying22 (.tmp rfl)) rfl rfl rfl ?_
    refine LW.p (PEv.assign (.tmp rfl)) rfl rfl rfl (LW.nil (KW.then (CW.seq (CW.block ?_))))
    refine CW.loopB (σ := Nat) (fun s w => (s ≤ (sortK keyTI (l.take i)).length) ∧ (∀ y ∈ (sortK keyTI (l.take i)).drop s, ltK (keyTI x) (keyTI y) = true) ∧ (Wx.Sep no w0 w [aOwn 46 19 Fact.cells (.slice adv (sortK keyTI (l.take i)).length cpv) ((sortK keyTI (l.take i)))])) (fun s => [(5, .eq (vi (s : Int)))]) ([(0, .eq _), (2, .eq _), (3, .eq _), (4, .eq _)]) (fun s => s) (sortK keyTI (l.take i)).length ?_ ⟨rfl, rfl, rfl, rfl, rfl, trivial⟩ ?_
    ·exact ⟨Nat.le_refl _, (fun y hy => by rw [List.drop_length] at hy; cases hy), hS⟩
    ·rintro k w2 ⟨hk, hgt, hS⟩
     refine CW.seq (CW.seq ?_)
     obtain ⟨Bx, ox, ax, hcx⟩ := (Els.up hE0 hS.upd) i x hx
     obtain ⟨u, Bu, ou, hau⟩ := prev_elem (hS.own 0 rfl) hk
     refine CW.draws (by kernel_rfl) (by kernel_rfl) rfl rfl ?_
     refine HW.p (PEv.move (.tmp rfl)) rfl rfl ?_
     refine HW.p (PEv.gtr (.tmp rfl) (.const _)) rfl rfl ?_
     refine HW.p (PEv.move (.tmp rfl)) rfl rfl ?_
     refine HW.g rfl rfl rfl rfl rfl rfl (fun hc => PEv.move (.tmp rfl)) ?_
     refine HW.g rfl rfl rfl rfl rfl rfl (fun hc => PEv.move (.tmp rfl)) ?_
     refine HW.g rfl rfl rfl rfl rfl rfl (fun hc => PEv.indexAddr' Tryz.underlying22 Tryz.sizeOf46 (by first | exact .tmp rfl | exact .cond rfl (by first | assumption | simp_all)) (by first | exact .tmp rfl | exact .cond rfl (by first | assumption | simp_all)) (by omega) ax) ?_
     refine HW.g rfl rfl rfl rfl rfl rfl (fun hc => PEv.loadA Tryz.isAgg46 Tryz.sizeOf46 rfl (by first | exact .tmp rfl | exact .cond rfl (by first | assumption | simp_all)) (hcx)) ?_
     refine HW.g rfl rfl rfl rfl rfl rfl (fun hc => PEv.move (.tmp rfl)) ?_
     refine HW.g rfl rfl rfl rfl rfl rfl (fun hc => PEv.move (.tmp rfl)) ?_
     refine HW.g rfl rfl rfl rfl rfl rfl (fun hc => PEv.val (v' := vi ((k - 1 : Nat) : Int)) (PEv.sub (by first | exact .tmp rfl | exact .cond rfl (by first | assumption | simp_all)) (.const _) (by omega) (by omega)) (by have h0 := (show 0 < k by simp at hc; omega); congr 1; omega)) ?_
     refine HW.g rfl rfl rfl rfl rfl rfl (fun hc => PEv.indexAddr' Tryz.underlying22 Tryz.sizeOf46 (by first | exact .tmp rfl | exact .cond rfl (by first | assumption | simp_all)) (by first | exact .tmp rfl | exact .cond rfl (by first | assumption | simp_all)) (by have h0 := (show 0 < k by simp at hc; omega); omega) (hau (show 0 < k by simp at hc; omega)).2.1) ?_
     refine HW.g rfl rfl rfl rfl rfl rfl (fun hc => PEv.loadA Tryz.isAgg46 Tryz.sizeOf46 rfl (by first | exact .tmp rfl | exact .cond rfl (by first | assumption | simp_all)) ((hau (show 0 < k by simp at hc; omega)).2.2)) ?_
     refine HW.gc rfl rfl rfl rfl rfl rfl (fun hc a w _ ha => enter_call0 (.cons (by first | exact .tmp rfl | exact .cond rfl (by first | assumption | simp_all)) (.cons (by first | exact .tmp rfl | exact .cond rfl (by first | assumption | simp_all)) .nil)) (Tryz.en88) a ha) (fun hc w hu => rBefore_any x u w) ?_
     refine HW.p (PEv.pick_and (.tmp rfl) (fun hp => (by first | exact .const _ | exact .tmp rfl | exact .cond rfl (by first | assumption | (rw [hp]; rfl) | (rw [hc, hp]; rfl) | simp_all)))) rfl rfl ?_
     refine HW.nil ?_
     intro w3 uw3
     have zw3 := uw3.size
     replace hS := hS.up uw3
     refine KW.then ?_
     refine CW.cond (.tmp rfl) (fun h28 => ?_) (fun h28 => ?_)
     ·first | replace h28 := of_decide_eq_true h28 | replace h28 := of_decide_eq_false h28 | skip
      have h28k : 0 < k ∧ ltK (keyTI x) (keyTI u) = true := by simp only [Bool.and_eq_true, decide_eq_true_eq] at h28; exact ⟨by omega, h28.2⟩
      have hu := (hau h28k.1).1
      refine CW.skip (KW.then (CW.block (CW.region (LW.p (PEv.move (.tmp rfl)) rfl rfl rfl ?_))))
      refine LW.p (PEv.sub (.tmp rfl) (.const _) (by omega) (by omega)) rfl rfl rfl ?_
      refine LW.p (PEv.assign (.tmp rfl)) rfl rfl rfl (LW.nil (KW.inBlock (KW.round ?_)))
      exact ⟨k - 1, ⟨by omega, (fun y hy => by rw [dropP h28k.1 hu] at hy; exact (List.mem_cons.1 hy).elim (fun e => e ▸ h28k.2) (hgt y)), hS⟩, ⟨by have h0 := h28k.1; rw [show ((k - 1 : Nat) : Int) = (k : Int) - 1 by omega]; rfl, rfl, rfl, rfl, rfl, trivial⟩, by first | omega | (dsimp only; omega)⟩
     ·first | replace h28 := of_decide_eq_true h28 | replace h28 := of_decide_eq_false h28 | skip
      have hle : k = 0 ∨ ∃ y, (sortK keyTI (l.take i))[k - 1]? = some y ∧ ltK (keyTI x) (keyTI y) = false := by
       by_cases h0 : 0 < k
       · refine .inr ⟨u, (hau h0).1, ?_⟩
         rw [decide_eq_true (show (0 : Int) < (k : Int) by omega), Bool.true_and] at h28
         exact h28
       · exact .inl (by omega)
      refine CW.exit (KW.then_exit (KW.then_exit (KW.block_hit (KW.then (CW.seq (CW.region (LW.p (PEv.assign (.const _)) rfl rfl rfl (LW.nil (KW.then (CW.seq ?_))))))))))
      replace hS := hS.addn (OwnS.nil _ 0 46 19 Fact.cells)
      change Wx.Sep _ _ _ [_, _] at hS
      refine CW.region (LW.p (PEv.move (.tmp rfl)) rfl rfl rfl (LW.p (PEv.move (.tmp rfl)) rfl rfl rfl (LW.p (PEv.move (.tmp rfl)) rfl rfl rfl ?_)))
      refine LW.p (PEv.sliceHi Tryz.underlying22 Tryz.sizeOf46 (.tmp rfl) (.tmp rfl) (by have := own_cap (hS.own 0 rfl); omega)) rfl rfl rfl ?_
      refine LW.r (REv.appendF (enc := Fact.cells) (bytes := 160) (i := Tryz.t46) Tryz.underlying22 (by kernel_rfl) rfl rfl rfl rfl (by decide) (fun _ => rfl) Fact.one (.tmp rfl) (.tmp rfl) (hS.own 1 rfl) (own_take (hS.own 0 rfl) (by omega)) (by have := And.intro hSl hil; simp [maxLen]; omega) (by have := And.intro hSl hil; simp; omega)) rfl rfl rfl rfl ?_
      intro v35 w4 Gw4
      have zw4 := Gw4.fr.size
      replace hS := hS.stp 1 rfl Gw4
      change Wx.Sep _ _ _ [_, _] at hS
      refine LW.p (PEv.assign (.tmp rfl)) rfl rfl rfl (LW.nil (KW.then (CW.seq ?_)))
      obtain ⟨Bx, ox, ax, hcx⟩ := (Els.up hE0 hS.upd) i x hx
      refine CW.region (LW.p (PEv.move (.tmp rfl)) rfl rfl rfl (LW.p (PEv.move (.tmp rfl)) rfl rfl rfl (LW.p (PEv.move (.tmp rfl)) rfl rfl rfl ?_)))
      refine LW.p (PEv.indexAddr' Tryz.underlying22 Tryz.sizeOf46 (.tmp rfl) (.tmp rfl) (by omega) ax) rfl rfl rfl ?_
      refine LW.p (PEv.loadA Tryz.isAgg46 Tryz.sizeOf46 rfl (.tmp rfl) (hcx)) rfl rfl rfl ?_
      refine LW.r (REv.buildSlice (xs := [x]) (enc := Fact.cells) (mk := fun f : Fact => .agg f.cells) Tryz.underlying22 Tryz.sizeOf46 Tryz.zeroValue46 rfl (by decide) (fun _ => rfl) (fun _ => rfl) (.cons (.tmp rfl) .nil) rfl) rfl rfl rfl rfl ?_
      rintro _ w5 ⟨B41, cB41, rfl, NB41, yB41, xB41⟩
      have eB41 := NB41.at_
      have zB41 := NB41.size
      replace hS := hS.up NB41.up
      have hE41 := xB41
      refine LW.r (REv.appendF (enc := Fact.cells) (bytes := 160) (i := Tryz.t46) Tryz.underlying22 (by kernel_rfl) rfl rfl rfl rfl (by decide) (fun _ => rfl) Fact.one (.tmp rfl) (.tmp rfl) (hS.own 1 rfl) (Sl.of_els hE41) (by have := And.intro hSl hil; simp [maxLen]; omega) (by have := And.intro hSl hil; simp; omega)) rfl rfl rfl rfl ?_
      intro v42 w6 Gw6
      have zw6 := Gw6.fr.size
      replace hS := hS.stp 1 rfl Gw6
      change Wx.Sep _ _ _ [_, _] at hS
      refine LW.p (PEv.assign (.tmp rfl)) rfl rfl rfl (LW.nil (KW.then (CW.region (LW.p (PEv.move (.tmp rfl)) rfl rfl rfl (LW.p (PEv.move (.tmp rfl)) rfl rfl rfl (LW.p (PEv.move (.tmp rfl)) rfl rfl rfl ?_))))))
      refine LW.p (PEv.sliceFrom Tryz.underlying22 Tryz.sizeOf46 (.tmp rfl) (.tmp rfl) (by omega)) rfl rfl rfl ?_
      refine LW.r (REv.appendF (enc := Fact.cells) (bytes := 160) (i := Tryz.t46) Tryz.underlying22 (by kernel_rfl) rfl rfl rfl rfl (by decide) (fun _ => rfl) Fact.one (.tmp rfl) (.tmp rfl) (hS.own 1 rfl) (Els.drop ((hS.own 0 rfl).elB (fun _ => rfl)) (own_cap (hS.own 0 rfl))) (by have := And.intro hSl hil; simp [maxLen]; omega) (by have := And.intro hSl hil; simp; omega)) rfl rfl rfl rfl ?_
      intro v47 w7 Gw7
      have zw7 := Gw7.fr.size
      replace hS := hS.stp 1 rfl Gw7
      change Wx.Sep _ _ _ [_, _] at hS
      refine LW.p (PEv.assign (.tmp rfl)) rfl rfl rfl (LW.nil (KW.inBlock (KW.then (CW.region (LW.p (PEv.move (.tmp rfl)) rfl rfl rfl ?_)))))
      refine LW.p (PEv.inc (.tmp rfl) (by omega)) rfl rfl rfl ?_
      refine LW.p (PEv.assign (.tmp rfl)) rfl rfl rfl (LW.nil (KW.round ?_))
      exact ⟨(i + 1, v47), ⟨by show i + 1 ≤ _; omega, by rw [ord_step hx hk hgt hle]; exact hS.sub (List.sublist_cons_self _ _)⟩, ⟨rfl, rfl, rfl, rfl, trivial⟩, by show l.length - (i + 1) < l.length - i; omega⟩
   ·first | replace h10 := of_decide_eq_true h10 | replace h10 := of_decide_eq_false h10 | skip
    refine CW.exit (KW.then_exit (KW.then_exit (KW.block_hit (KW.then (CW.seq (CW.region (LW.p (PEv.move (.tmp rfl)) rfl rfl rfl (LW.p (PEv.assign (.tmp rfl)) rfl rfl rfl (LW.nil (KW.then (CW.ret ?_)))))))))))
    refine KW.ret1 rfl rfl ⟨_, rfl, ?_⟩
    have hil : i = l.length := by omega
    rw [hil, List.take_length] at hS
    exact ⟨OwnS.ofSep hS, hS.upd⟩
theorem rswaps_any (bc : Array Go.Value) (b : Base) (time : Int) (w : World) (hC : BaseC w bc b) (hl : b.Swaps.length ≤ 1000000000) : Ret Tryz.prog 42 #[.agg bc, vi time] w fun r w' => OwnS w' w.heap.size 46 19 Fact.cells r (ordG (swOk time) b.Swaps) ∧ Up w w' := by
  obtain ⟨w0, rfl⟩ : ∃ w0, w0 = w := ⟨_, rfl⟩
  have hS := Sep.start no w0
  refine Calls_start (n := 40) (m := 9) Tryz.func42 rfl rfl rfl ?_
  refine CW.seq (CW.region ?_)
  refine LW.r (REv.boxA (.tmp rfl)) rfl rfl rfl rfl ?_
  rintro _ w1 ⟨B2, rfl, NB2⟩
  have eB2 := NB2.at_
  have zB2 := NB2.size
  replace hS := hS.addB NB2
  change Wx.Sep _ _ _ [_] at hS
  refine LW.p (PEv.assign (.const _)) rfl rfl rfl (LW.nil (KW.then (CW.seq ?_)))
  obtain ⟨v2, h2, ad, cp, rfl, hE0⟩ := hC.at2
  refine CW.region (LW.p (PEv.assign (.const _)) rfl rfl rfl (LW.nil (KW.then (CW.seq (CW.seq ?_)))))
  replace hS := hS.addn (OwnS.nil _ 0 46 19 Fact.cells)
  change Wx.Sep _ _ _ [_, _] at hS
  have hzz := hS.upd.size
  refine CW.region (LW.p (PEv.assign (.const _)) rfl rfl rfl (LW.nil (KW.then (CW.block ?_))))
  refine CW.loopB (σ := Nat × Go.Value) (fun s w => (s.1 ≤ b.Swaps.length) ∧ (Wx.Sep no w0 w [aBlk B2 bc 24, aOwn 46 19 Fact.cells s.2 ((b.Swaps.take s.1).filter (swOk time))])) (fun s => [(6, .eq (vi (s.1 : Int))), (5, .eq (s.2))]) ([(1, .eq _), (2, .eq _), (4, .eq _)]) (fun s => b.Swaps.length - s.1) (0, .slice none 0 0) ?_ ⟨rfl, rfl, rfl, rfl, rfl, trivial⟩ ?_
  ·exact ⟨Nat.zero_le _, hS⟩
  ·rintro ⟨k, v⟩ w2 ⟨hk, hS⟩
   dsimp only at hk hS
   change CW _ _ _ _ _ _ _ ([(6, .eq (vi (k : Int))), (5, .eq (v))] ++ _) _
   refine CW.seq (CW.seq (CW.region (LW.p (PEv.move (.tmp rfl)) rfl rfl rfl ?_)))
   refine LW.p (PEv.fieldAddr (off := 2) Tryz.underlying24 rfl rfl Tryz.sizeOf22 rfl (.tmp rfl)) rfl rfl rfl ?_
   refine LW.p (PEv.load Tryz.isAgg22 (.tmp rfl) ((hS.blk 0 rfl).cell h2)) rfl rfl rfl ?_
   refine LW.p (PEv.lenS Tryz.underlying22 (.tmp rfl)) rfl rfl rfl ?_
   refine LW.p (PEv.lss (.tmp rfl) (.tmp rfl)) rfl rfl rfl ?_
   refine LW.nil (KW.then ?_)
   refine CW.cond (.tmp rfl) (fun h12 => ?_) (fun h12 => ?_)
   ·first | replace h12 := of_decide_eq_true h12 | replace h12 := of_decide_eq_false h12 | skip
    refine CW.skip (KW.then (CW.seq (CW.block (CW.seq ?_))))
    have hE := Els.up hE0 hS.upd
    refine CW.region ?_
    refine LW.p (PEv.fieldAddr (off := 2) Tryz.underlying24 rfl rfl Tryz.sizeOf22 rfl (.tmp rfl)) rfl rfl rfl ?_
    refine LW.p (PEv.load Tryz.isAgg22 (.tmp rfl) ((hS.blk 0 rfl).cell h2)) rfl rfl rfl ?_
    refine LW.p (PEv.move (.tmp rfl)) rfl rfl rfl ?_
    obtain ⟨x, hx⟩ := getElem?_of_lt (xs := b.Swaps) (i := k) (by omega)
    obtain ⟨Bx, ox, ax, hcx⟩ := hE _ x hx
    refine LW.p (PEv.indexAddr' Tryz.underlying22 Tryz.sizeOf46 (.tmp rfl) (.tmp rfl) (by omega) ax) rfl rfl rfl ?_
    refine LW.p (PEv.loadA Tryz.isAgg46 Tryz.sizeOf46 rfl (.tmp rfl) (hcx)) rfl rfl rfl ?_
    refine LW.r (REv.allocA Tryz.zeroValue46) rfl rfl rfl rfl ?_
    rintro _ w3 ⟨B7, rfl, MB7⟩
    refine LW.s (SEv.storeA Tryz.sizeOf46 rfl (.tmp rfl) (.tmp rfl) (Fact.one _) MB7.blk rfl) rfl rfl rfl ?_
    intro w4 LB7
    have NB7 := MB7.set LB7
    clear LB7 MB7
    have eB7 := NB7.at_
    have zB7 := NB7.size
    replace hcx := hcx.up NB7.up
    replace hS := hS.addB NB7
    change Wx.Sep _ _ _ [_, _, _] at hS
    refine LW.nil (KW.then (CW.seq (CW.region ?_)))
    refine LW.p (PEv.fieldAddr (off := 7) Tryz.underlying46 rfl rfl Tryz.sizeOf3 rfl (.tmp rfl)) rfl rfl rfl ?_
    refine LW.p (PEv.load Tryz.isAgg3 (.tmp rfl) ((hS.blk 2 rfl).celln rfl)) rfl rfl rfl ?_
    refine LW.c (enter_call0 (.cons (.tmp rfl) .nil) (Tryz.en39)) rfl rfl rfl rfl (rid_any _ _) ?_
    rintro _ w5 ⟨rfl, uw5⟩
    have zw5 := uw5.size
    replace hS := hS.up uw5
    refine LW.p (PEv.move (.tmp rfl)) rfl rfl rfl ?_
    refine LW.g rfl rfl rfl rfl rfl rfl rfl (fun hc => PEv.fieldAddr (off := 8) Tryz.underlying46 rfl rfl Tryz.sizeOf3 rfl (.tmp rfl)) ?_
    refine LW.g rfl rfl rfl rfl rfl rfl rfl (fun hc => PEv.load Tryz.isAgg3 (by first | exact .tmp rfl | exact .cond rfl (by first | assumption | simp_all)) ((hS.blk 2 rfl).celln rfl)) ?_
    refine LW.gc rfl rfl rfl rfl rfl rfl rfl rfl (fun hc => enter_call0 (.cons (by first | exact .tmp rfl | exact .cond rfl (by first | assumption | simp_all)) .nil) (Tryz.en39)) (fun hc => rid_any _ _) ?_
    intro w6 uw6
    have zw6 := uw6.size
    replace hS := hS.up uw6
    refine LW.p (PEv.pick_and (.tmp rfl) (fun hp => (by first | exact .const _ | exact .tmp rfl | exact .cond rfl (by first | assumption | (rw [hp]; rfl) | (rw [hc, hp]; rfl) | simp_all)))) rfl rfl rfl ?_
    refine LW.p (PEv.move (.tmp rfl)) rfl rfl rfl ?_
    refine LW.g rfl rfl rfl rfl rfl rfl rfl (fun hc => PEv.fieldAddr (off := 5) Tryz.underlying46 rfl rfl Tryz.sizeOf3 rfl (.tmp rfl)) ?_
    refine LW.g rfl rfl rfl rfl rfl rfl rfl (fun hc => PEv.load Tryz.isAgg3 (by first | exact .tmp rfl | exact .cond rfl (by first | assumption | simp_all)) ((hS.blk 2 rfl).celln rfl)) ?_
    refine LW.g rfl rfl rfl rfl rfl rfl rfl (fun hc => PEv.move (.tmp rfl)) ?_
    refine LW.g rfl rfl rfl rfl rfl rfl rfl (fun hc => PEv.leq (by first | exact .tmp rfl | exact .cond rfl (by first | assumption | simp_all)) (by first | exact .tmp rfl | exact .cond rfl (by first | assumption | simp_all))) ?_
    refine LW.p (PEv.pick_and (.tmp rfl) (fun hp => (by first | exact .const _ | exact .tmp rfl | exact .cond rfl (by first | assumption | (rw [hp]; rfl) | (rw [hc, hp]; rfl) | simp_all)))) rfl rfl rfl ?_
    refine LW.nil (KW.then ?_)
    refine CW.cond (.tmp rfl) (fun h33 => ?_) (fun h33 => ?_)
    ·first | replace h33 := of_decide_eq_true h33 | replace h33 := of_decide_eq_false h33 | skip
     have hfl := filt_len (swOk time) b.Swaps k
     refine CW.region (LW.p (PEv.move (.tmp rfl)) rfl rfl rfl ?_)
     refine LW.p (PEv.loadA Tryz.isAgg46 Tryz.sizeOf46 rfl (.tmp rfl) ((hS.blk 2 rfl).agg)) rfl rfl rfl ?_
     refine LW.r (REv.buildSlice (xs := [x]) (enc := Fact.cells) (mk := fun f : Fact => .agg f.cells) Tryz.underlying22 Tryz.sizeOf46 Tryz.zeroValue46 rfl (by decide) (fun _ => rfl) (fun _ => rfl) (.cons (.tmp rfl) .nil) rfl) rfl rfl rfl rfl ?_
     rintro _ w7 ⟨B36, cB36, rfl, NB36, yB36, xB36⟩
     have eB36 := NB36.at_
     have zB36 := NB36.size
     replace hS := hS.up NB36.up
     have hE36 := xB36
     refine LW.r (REv.appendF (enc := Fact.cells) (bytes := 160) (i := Tryz.t46) Tryz.underlying22 (by kernel_rfl) rfl rfl rfl rfl (by decide) (fun _ => rfl) Fact.one (.tmp rfl) (.tmp rfl) (hS.own 1 rfl) (Sl.of_els hE36) (by have := hfl; simp [maxLen]; omega) (by have := hfl; simp; omega)) rfl rfl rfl rfl ?_
     intro v37 w8 Gw8
     have zw8 := Gw8.fr.size
     replace hS := hS.stp 1 rfl Gw8
     change Wx.Sep _ _ _ [_, _, _] at hS
     refine LW.p (PEv.assign (.tmp rfl)) rfl rfl rfl (LW.nil (KW.inBlock (KW.then (CW.region (LW.p (PEv.move (.tmp rfl)) rfl rfl rfl ?_)))))
     refine LW.p (PEv.inc (.tmp rfl) (by omega)) rfl rfl rfl ?_
     refine LW.p (PEv.assign (.tmp rfl)) rfl rfl rfl (LW.nil (KW.round ?_))
     first | exact ⟨(k + 1, v37), ⟨by show k + 1 ≤ _; omega, by first | (rw [fp_yes hx (show swOk time x = true from h33)]; exact hS.take 2) | (rw [fp_no hx (show swOk time x = false from h33)]; exact hS.take 2)⟩, ⟨rfl, rfl, rfl, rfl, rfl, trivial⟩, by show b.Swaps.length - (k + 1) < b.Swaps.length - k; omega⟩ | exact ⟨(k + 1, v), ⟨by show k + 1 ≤ _; omega, by first | (rw [fp_yes hx (show swOk time x = true from h33)]; exact hS.take 2) | (rw [fp_no hx (show swOk time x = false from h33)]; exact hS.take 2)⟩, ⟨rfl, rfl, rfl, rfl, rfl, trivial⟩, by show b.Swaps.length - (k + 1) < b.Swaps.length - k; omega⟩
    ·first | replace h33 := of_decide_eq_true h33 | replace h33 := of_decide_eq_false h33 | skip
     refine CW.skip (KW.inBlock (KW.then (CW.region (LW.p (PEv.move (.tmp rfl)) rfl rfl rfl ?_))))
     refine LW.p (PEv.inc (.tmp rfl) (by omega)) rfl rfl rfl ?_
     refine LW.p (PEv.assign (.tmp rfl)) rfl rfl rfl (LW.nil (KW.round ?_))
     first | exact ⟨(k + 1, v37), ⟨by show k + 1 ≤ _; omega, by first | (rw [fp_yes hx (show swOk time x = true from h33)]; exact hS.take 2) | (rw [fp_no hx (show swOk time x = false from h33)]; exact hS.take 2)⟩, ⟨rfl, rfl, rfl, rfl, rfl, trivial⟩, by show b.Swaps.length - (k + 1) < b.Swaps.length - k; omega⟩ | exact ⟨(k + 1, v), ⟨by show k + 1 ≤ _; omega, by first | (rw [fp_yes hx (show swOk time x = true from h33)]; exact hS.take 2) | (rw [fp_no hx (show swOk time x = false from h33)]; exact hS.take 2)⟩, ⟨rfl, rfl, rfl, rfl, rfl, trivial⟩, by show b.Swaps.length - (k + 1) < b.Swaps.length - k; omega⟩
   ·first | replace h12 := of_decide_eq_true h12 | replace h12 := of_decide_eq_false h12 | skip
    refine CW.exit (KW.then_exit (KW.then_exit (KW.block_hit (KW.then (CW.seq ?_)))))
    have hkl : k = b.Swaps.length := by omega
    rw [hkl, List.take_length] at hS
    have hzz := hS.upd.size
    obtain ⟨adv, cpv, rfl, _⟩ := (hS.own 1 rfl).sl (fun _ => rfl)
    refine CW.region (LW.p (PEv.move (.tmp rfl)) rfl rfl rfl ?_)
    refine LW.c (enter_call0 (.cons (.tmp rfl) .nil) (Tryz.en45)) rfl rfl rfl rfl (rOrdered_any adv cpv (b.Swaps.filter (swOk time)) _ ((hS.own 1 rfl).els (fun _ => rfl)) (Nat.le_trans (List.length_filter_le _ _) hl)) ?_
    rintro v39 w9 ⟨hO39, uw9⟩
    have zw9 := uw9.size
    replace hS := hS.up uw9
    rw [← ordG_def] at hO39
    replace hO39 := hO39.mono (show w0.heap.size ≤ _ by omega)
    refine LW.p (PEv.assign (.tmp rfl)) rfl rfl rfl (LW.nil (KW.then (CW.ret ?_)))
    refine KW.ret1 rfl rfl ⟨_, rfl, ?_⟩
    exact ⟨hO39, hS.upd⟩
theorem rWho_any (bc : Array Go.Value) (b : Base) (mark time : Int) (w : World) (hC : BaseC w bc b) (hl : b.Swaps.length ≤ 1000000000) : Ret Tryz.prog 19 #[.agg bc, vi mark, vi time] w fun r w' => r = vi (whoL b.Swaps time mark) ∧ Up w w' := by
  have hW := Up.refl w
  obtain ⟨w0, rfl⟩ : ∃ w0, w0 = w := ⟨_, rfl⟩
  refine Calls_start (n := 47) (m := 9) Tryz.func19 rfl rfl rfl ?_
  refine CW.seq (CW.region ?_)
  refine LW.r (REv.boxA (.tmp rfl)) rfl rfl rfl rfl ?_
  rintro _ w1 ⟨B3, rfl, NB3⟩
  have eB3 := NB3.at_
  have zB3 := NB3.size
  replace hC := hC.up NB3.up
  replace hW := hW.up NB3.up
  have hB3 := NB3.blk
  refine LW.p (PEv.assign (.const _)) rfl rfl rfl (LW.nil (KW.then (CW.seq (CW.seq (CW.region (LW.p (PEv.move (.tmp rfl)) rfl rfl rfl ?_))))))
  refine LW.c (enter_call0 (.cons (.tmp rfl) .nil) (Tryz.en39)) rfl rfl rfl rfl (rid_any _ _) ?_
  rintro _ w2 ⟨rfl, uw2⟩
  have zw2 := uw2.size
  replace hC := hC.up uw2
  replace hW := hW.up uw2
  replace hB3 := hB3.up uw2
  refine LW.p (PEv.not (.tmp rfl)) rfl rfl rfl ?_
  refine LW.nil (KW.then ?_)
  refine CW.cond (.tmp rfl) (fun h11 => ?_) (fun h11 => ?_)
  ·first | replace h11 := of_decide_eq_true h11 | replace h11 := of_decide_eq_false h11 | skip
   have hi : isIDb mark = false := by simpa using h11
   refine CW.seq (CW.region (LW.p (PEv.assign (.const _)) rfl rfl rfl (LW.nil (KW.then (CW.ret (KW.then_ret ?_))))))
   refine KW.ret1 rfl rfl ⟨_, rfl, ?_⟩
   first | exact ⟨by rw [whoL_eq, if_neg (by rw [hi]; exact Bool.false_ne_true)], hW⟩ | exact ⟨by rw [whoL_eq, if_pos hi, hm, show k = 0 by omega]; rfl, hW⟩
  ·first | replace h11 := of_decide_eq_true h11 | replace h11 := of_decide_eq_false h11 | skip
   have hi : isIDb mark = true := by simpa using h11
   refine CW.skip (KW.then (CW.seq (CW.region ?_)))
   refine LW.p (PEv.loadA Tryz.isAgg24 Tryz.sizeOf24 (hC.size) (.tmp rfl) (hB3.agg)) rfl rfl rfl ?_
   refine LW.p (PEv.move (.tmp rfl)) rfl rfl rfl ?_
   refine LW.c (enter_call0 (.cons (.tmp rfl) (.cons (.tmp rfl) .nil)) (Tryz.en42)) rfl rfl rfl rfl (rswaps_any bc b time _ hC hl) ?_
   rintro v14 w3 ⟨hO14, uw3⟩
   have zw3 := uw3.size
   replace hC := hC.up uw3
   replace hW := hW.up uw3
   replace hB3 := hB3.up uw3
   obtain ⟨adL, cpL, rfl, hEL⟩ := hO14.sl (fun _ => rfl)
   replace hEL : Els w3 adL 19 Fact.cells (ordG (swOk time) b.Swaps) := hEL
   clear hO14
   have hoL := ordG_len (swOk time) b.Swaps
   refine LW.p (PEv.assign (.tmp rfl)) rfl rfl rfl (LW.nil (KW.then (CW.seq (CW.seq (CW.region (LW.p (PEv.move (.tmp rfl)) rfl rfl rfl ?_))))))
   refine LW.p (PEv.lenS Tryz.underlying22 (.tmp rfl)) rfl rfl rfl ?_
   refine LW.p (PEv.sub (.tmp rfl) (.const _) (by omega) (by omega)) rfl rfl rfl ?_
   refine LW.p (PEv.assign (.tmp rfl)) rfl rfl rfl (LW.nil (KW.then (CW.block ?_)))
   refine CW.loopB (σ := Nat × Int) (fun s w => (s.1 ≤ (ordG (swOk time) b.Swaps).length) ∧ (s.2 = whoF ((ordG (swOk time) b.Swaps).drop s.1) mark) ∧ (Up w3 w)) (fun s => [(8, .eq (vi ((s.1 : Int) - 1))), (1, .eq (vi s.2))]) ([(6, .eq _), (7, .eq _)]) (fun s => s.1) ((ordG (swOk time) b.Swaps).length, mark) ?_ ⟨rfl, rfl, rfl, rfl, trivial⟩ ?_
   ·exact ⟨Nat.le_refl _, by rw [List.drop_length]; rfl, Up.refl _⟩
   ·rintro ⟨k, m⟩ w4 ⟨hk, hm, hL1⟩
    dsimp only at hk hm
    change CW _ _ _ _ _ _ _ ([(8, .eq (vi ((k : Int) - 1))), (1, .eq (vi m))] ++ _) _
    have zzw4 := hL1.size
    replace hC := hC.up hL1
    replace hW := hW.up hL1
    replace hB3 := hB3.up hL1
    replace hEL := hEL.up hL1
    refine CW.seq (CW.seq (CW.region (LW.p (PEv.move (.tmp rfl)) rfl rfl rfl ?_)))
    refine LW.p (PEv.geq (.tmp rfl) (.const _)) rfl rfl rfl ?_
    refine LW.nil (KW.then ?_)
    refine CW.cond (.tmp rfl) (fun h19 => ?_) (fun h19 => ?_)
    ·first | replace h19 := of_decide_eq_true h19 | replace h19 := of_decide_eq_false h19 | skip
     refine CW.skip (KW.then (CW.seq (CW.block (CW.seq ?_))))
     have h0 : 0 < k := by omega
     obtain ⟨x, hx⟩ := getElem?_of_lt (xs := (ordG (swOk time) b.Swaps)) (i := k - 1) (by omega)
     obtain ⟨Bx, ox, ax, hcx⟩ := hEL (k - 1) x hx
     rw [show ((k : Int) - 1) = ((k - 1 : Nat) : Int) by omega]
     refine CW.region (LW.p (PEv.move (.tmp rfl)) rfl rfl rfl (LW.p (PEv.move (.tmp rfl)) rfl rfl rfl (LW.p (PEv.move (.tmp rfl)) rfl rfl rfl ?_)))
     refine LW.p (PEv.indexAddr' Tryz.underlying22 Tryz.sizeOf46 (.tmp rfl) (.tmp rfl) (by omega) ax) rfl rfl rfl ?_
     refine LW.p (PEv.fieldAddr (off := 7) Tryz.underlying46 rfl rfl Tryz.sizeOf3 rfl (.tmp rfl)) rfl rfl rfl ?_
     refine LW.p (PEv.load Tryz.isAgg3 (.tmp rfl) (hcx.nth (j := 7) rfl)) rfl rfl rfl ?_
     refine LW.p (PEv.eql (.tmp rfl) (.tmp rfl)) rfl rfl rfl ?_
     refine LW.nil (KW.then ?_)
     refine CW.cond (.tmp rfl) (fun h28 => ?_) (fun h28 => ?_)
     ·first | replace h28 := of_decide_eq_true h28 | replace h28 := of_decide_eq_false h28 | skip
      refine CW.region (LW.p (PEv.move (.tmp rfl)) rfl rfl rfl (LW.p (PEv.move (.tmp rfl)) rfl rfl rfl ?_))
      refine LW.p (PEv.indexAddr' Tryz.underlying22 Tryz.sizeOf46 (.tmp rfl) (.tmp rfl) (by omega) ax) rfl rfl rfl ?_
      refine LW.p (PEv.fieldAddr (off := 8) Tryz.underlying46 rfl rfl Tryz.sizeOf3 rfl (.tmp rfl)) rfl rfl rfl ?_
      refine LW.p (PEv.load Tryz.isAgg3 (.tmp rfl) (hcx.nth (j := 8) rfl)) rfl rfl rfl ?_
      refine LW.p (PEv.assign (.tmp rfl)) rfl rfl rfl (LW.nil (KW.inBlock (KW.then (CW.region (LW.p (PEv.move (.tmp rfl)) rfl rfl rfl ?_)))))
      refine LW.p (PEv.sub (.tmp rfl) (.const _) (by omega) (by omega)) rfl rfl rfl ?_
      refine LW.p (PEv.assign (.tmp rfl)) rfl rfl rfl (LW.nil (KW.round ?_))
      first | exact ⟨(k - 1, x.Other), ⟨by show k - 1 ≤ _; omega, by rw [whoF_pred h0 hx, ← hm, tau_w h28], hL1⟩, ⟨rfl, rfl, rfl, rfl, trivial⟩, by show k - 1 < k; omega⟩ | exact ⟨(k - 1, x.Wafer), ⟨by show k - 1 ≤ _; omega, by rw [whoF_pred h0 hx, ← hm, tau_o h28 h40], hL1⟩, ⟨rfl, rfl, rfl, rfl, trivial⟩, by show k - 1 < k; omega⟩ | exact ⟨(k - 1, m), ⟨by show k - 1 ≤ _; omega, by rw [whoF_pred h0 hx, ← hm, tau_n h28 h40], hL1⟩, ⟨rfl, rfl, rfl, rfl, trivial⟩, by show k - 1 < k; omega⟩
     ·first | replace h28 := of_decide_eq_true h28 | replace h28 := of_decide_eq_false h28 | skip
      refine CW.seq (CW.region (LW.p (PEv.move (.tmp rfl)) rfl rfl rfl (LW.p (PEv.move (.tmp rfl)) rfl rfl rfl (LW.p (PEv.move (.tmp rfl)) rfl rfl rfl ?_))))
      refine LW.p (PEv.indexAddr' Tryz.underlying22 Tryz.sizeOf46 (.tmp rfl) (.tmp rfl) (by omega) ax) rfl rfl rfl ?_
      refine LW.p (PEv.fieldAddr (off := 8) Tryz.underlying46 rfl rfl Tryz.sizeOf3 rfl (.tmp rfl)) rfl rfl rfl ?_
      refine LW.p (PEv.load Tryz.isAgg3 (.tmp rfl) (hcx.nth (j := 8) rfl)) rfl rfl rfl ?_
      refine LW.p (PEv.eql (.tmp rfl) (.tmp rfl)) rfl rfl rfl ?_
      refine LW.nil (KW.then ?_)
      refine CW.cond (.tmp rfl) (fun h40 => ?_) (fun h40 => ?_)
      ·first | replace h40 := of_decide_eq_true h40 | replace h40 := of_decide_eq_false h40 | skip
       refine CW.region (LW.p (PEv.move (.tmp rfl)) rfl rfl rfl (LW.p (PEv.move (.tmp rfl)) rfl rfl rfl ?_))
       refine LW.p (PEv.indexAddr' Tryz.underlying22 Tryz.sizeOf46 (.tmp rfl) (.tmp rfl) (by omega) ax) rfl rfl rfl ?_
       refine LW.p (PEv.fieldAddr (off := 7) Tryz.underlying46 rfl rfl Tryz.sizeOf3 rfl (.tmp rfl)) rfl rfl rfl ?_
       refine LW.p (PEv.load Tryz.isAgg3 (.tmp rfl) (hcx.nth (j := 7) rfl)) rfl rfl rfl ?_
       refine LW.p (PEv.assign (.tmp rfl)) rfl rfl rfl (LW.nil (KW.inBlock (KW.then (CW.region (LW.p (PEv.move (.tmp rfl)) rfl rfl rfl ?_)))))
       refine LW.p (PEv.sub (.tmp rfl) (.const _) (by omega) (by omega)) rfl rfl rfl ?_
       refine LW.p (PEv.assign (.tmp rfl)) rfl rfl rfl (LW.nil (KW.round ?_))
       first | exact ⟨(k - 1, x.Other), ⟨by show k - 1 ≤ _; omega, by rw [whoF_pred h0 hx, ← hm, tau_w h28], hL1⟩, ⟨rfl, rfl, rfl, rfl, trivial⟩, by show k - 1 < k; omega⟩ | exact ⟨(k - 1, x.Wafer), ⟨by show k - 1 ≤ _; omega, by rw [whoF_pred h0 hx, ← hm, tau_o h28 h40], hL1⟩, ⟨rfl, rfl, rfl, rfl, trivial⟩, by show k - 1 < k; omega⟩ | exact ⟨(k - 1, m), ⟨by show k - 1 ≤ _; omega, by rw [whoF_pred h0 hx, ← hm, tau_n h28 h40], hL1⟩, ⟨rfl, rfl, rfl, rfl, trivial⟩, by show k - 1 < k; omega⟩
      ·first | replace h40 := of_decide_eq_true h40 | replace h40 := of_decide_eq_false h40 | skip
       refine CW.skip (KW.inBlock (KW.then (CW.region (LW.p (PEv.move (.tmp rfl)) rfl rfl rfl ?_))))
       refine LW.p (PEv.sub (.tmp rfl) (.const _) (by omega) (by omega)) rfl rfl rfl ?_
       refine LW.p (PEv.assign (.tmp rfl)) rfl rfl rfl (LW.nil (KW.round ?_))
       first | exact ⟨(k - 1, x.Other), ⟨by show k - 1 ≤ _; omega, by rw [whoF_pred h0 hx, ← hm, tau_w h28], hL1⟩, ⟨rfl, rfl, rfl, rfl, trivial⟩, by show k - 1 < k; omega⟩ | exact ⟨(k - 1, x.Wafer), ⟨by show k - 1 ≤ _; omega, by rw [whoF_pred h0 hx, ← hm, tau_o h28 h40], hL1⟩, ⟨rfl, rfl, rfl, rfl, trivial⟩, by show k - 1 < k; omega⟩ | exact ⟨(k - 1, m), ⟨by show k - 1 ≤ _; omega, by rw [whoF_pred h0 hx, ← hm, tau_n h28 h40], hL1⟩, ⟨rfl, rfl, rfl, rfl, trivial⟩, by show k - 1 < k; omega⟩
    ·first | replace h19 := of_decide_eq_true h19 | replace h19 := of_decide_eq_false h19 | skip
     refine CW.exit (KW.then_exit (KW.then_exit (KW.block_hit (KW.then (CW.seq (CW.region (LW.p (PEv.move (.tmp rfl)) rfl rfl rfl (LW.p (PEv.assign (.tmp rfl)) rfl rfl rfl (LW.nil (KW.then (CW.ret ?_)))))))))))
     refine KW.ret1 rfl rfl ⟨_, rfl, ?_⟩
     first | exact ⟨by rw [whoL_eq, if_neg (by rw [hi]; exact Bool.false_ne_true)], hW⟩ | exact ⟨by rw [whoL_eq, if_pos hi, hm, show k = 0 by omega]; rfl, hW⟩
theorem rMark_any (bc : Array Go.Value) (b : Base) (wafer time : Int) (w : World) (hC : BaseC w bc b) (hl : b.Swaps.length ≤ 1000000000) : Ret Tryz.prog 21 #[.agg bc, vi wafer, vi time] w fun r w' => r = vi (markL b.Swaps time wafer) ∧ Up w w' := by
  have hW := Up.refl w
  obtain ⟨w0, rfl⟩ : ∃ w0, w0 = w := ⟨_, rfl⟩
  refine Calls_start (n := 46) (m := 9) Tryz.func21 rfl rfl rfl ?_
  refine CW.seq (CW.region ?_)
  refine LW.r (REv.boxA (.tmp rfl)) rfl rfl rfl rfl ?_
  rintro _ w1 ⟨B3, rfl, NB3⟩
  have eB3 := NB3.at_
  have zB3 := NB3.size
  replace hC := hC.up NB3.up
  replace hW := hW.up NB3.up
  have hB3 := NB3.blk
  refine LW.p (PEv.assign (.const _)) rfl rfl rfl (LW.nil (KW.then (CW.seq (CW.seq (CW.region (LW.p (PEv.move (.tmp rfl)) rfl rfl rfl ?_))))))
  refine LW.c (enter_call0 (.cons (.tmp rfl) .nil) (Tryz.en39)) rfl rfl rfl rfl (rid_any _ _) ?_
  rintro _ w2 ⟨rfl, uw2⟩
  have zw2 := uw2.size
  replace hC := hC.up uw2
  replace hW := hW.up uw2
  replace hB3 := hB3.up uw2
  refine LW.p (PEv.not (.tmp rfl)) rfl rfl rfl ?_
  refine LW.nil (KW.then ?_)
  refine CW.cond (.tmp rfl) (fun h11 => ?_) (fun h11 => ?_)
  ·first | replace h11 := of_decide_eq_true h11 | replace h11 := of_decide_eq_false h11 | skip
   have hi : isIDb wafer = false := by simpa using h11
   refine CW.seq (CW.region (LW.p (PEv.assign (.const _)) rfl rfl rfl (LW.nil (KW.then (CW.ret (KW.then_ret ?_))))))
   refine KW.ret1 rfl rfl ⟨_, rfl, ?_⟩
   first | exact ⟨by unfold markL; rw [if_neg (by rw [hi]; exact Bool.false_ne_true)], hW⟩ | exact ⟨by unfold markL; rw [if_pos hi, hm, show k = (ordG (swOk time) b.Swaps).length by omega, List.take_length], hW⟩
  ·first | replace h11 := of_decide_eq_true h11 | replace h11 := of_decide_eq_false h11 | skip
   have hi : isIDb wafer = true := by simpa using h11
   refine CW.skip (KW.then (CW.seq (CW.region ?_)))
   refine LW.p (PEv.loadA Tryz.isAgg24 Tryz.sizeOf24 (hC.size) (.tmp rfl) (hB3.agg)) rfl rfl rfl ?_
   refine LW.p (PEv.move (.tmp rfl)) rfl rfl rfl ?_
   refine LW.c (enter_call0 (.cons (.tmp rfl) (.cons (.tmp rfl) .nil)) (Tryz.en42)) rfl rfl rfl rfl (rswaps_any bc b time _ hC hl) ?_
   rintro v14 w3 ⟨hO14, uw3⟩
   have zw3 := uw3.size
   replace hC := hC.up uw3
   replace hW := hW.up uw3
   replace hB3 := hB3.up uw3
   obtain ⟨adL, cpL, rfl, hEL⟩ := hO14.sl (fun _ => rfl)
   replace hEL : Els w3 adL 19 Fact.cells (ordG (swOk time) b.Swaps) := hEL
   clear hO14
   have hoL := ordG_len (swOk time) b.Swaps
   refine LW.p (PEv.assign (.tmp rfl)) rfl rfl rfl (LW.nil (KW.then (CW.seq (CW.seq (CW.region (LW.p (PEv.assign (.const _)) rfl rfl rfl (LW.nil (KW.then (CW.block ?_)))))))))
   refine CW.loopB (σ := Nat × Int) (fun s w => (s.1 ≤ (ordG (swOk time) b.Swaps).length) ∧ (s.2 = markF ((ordG (swOk time) b.Swaps).take s.1) wafer) ∧ (Up w3 w)) (fun s => [(8, .eq (vi (s.1 : Int))), (1, .eq (vi s.2))]) ([(6, .eq _), (7, .eq _)]) (fun s => (ordG (swOk time) b.Swaps).length - s.1) (0, wafer) ?_ ⟨rfl, rfl, rfl, rfl, trivial⟩ ?_
   ·exact ⟨Nat.zero_le _, rfl, Up.refl _⟩
   ·rintro ⟨k, m⟩ w4 ⟨hk, hm, hL1⟩
    dsimp only at hk hm
    change CW _ _ _ _ _ _ _ ([(8, .eq (vi (k : Int))), (1, .eq (vi m))] ++ _) _
    have zzw4 := hL1.size
    replace hC := hC.up hL1
    replace hW := hW.up hL1
    replace hB3 := hB3.up hL1
    replace hEL := hEL.up hL1
    refine CW.seq (CW.seq (CW.region (LW.p (PEv.move (.tmp rfl)) rfl rfl rfl (LW.p (PEv.move (.tmp rfl)) rfl rfl rfl ?_))))
    refine LW.p (PEv.lenS Tryz.underlying22 (.tmp rfl)) rfl rfl rfl ?_
    refine LW.p (PEv.lss (.tmp rfl) (.tmp rfl)) rfl rfl rfl ?_
    refine LW.nil (KW.then ?_)
    refine CW.cond (.tmp rfl) (fun h18 => ?_) (fun h18 => ?_)
    ·first | replace h18 := of_decide_eq_true h18 | replace h18 := of_decide_eq_false h18 | skip
     refine CW.skip (KW.then (CW.seq (CW.block (CW.seq ?_))))
     obtain ⟨x, hx⟩ := getElem?_of_lt (xs := (ordG (swOk time) b.Swaps)) (i := k) (by omega)
     obtain ⟨Bx, ox, ax, hcx⟩ := hEL k x hx
     refine CW.region (LW.p (PEv.move (.tmp rfl)) rfl rfl rfl (LW.p (PEv.move (.tmp rfl)) rfl rfl rfl (LW.p (PEv.move (.tmp rfl)) rfl rfl rfl ?_)))
     refine LW.p (PEv.indexAddr' Tryz.underlying22 Tryz.sizeOf46 (.tmp rfl) (.tmp rfl) (by omega) ax) rfl rfl rfl ?_
     refine LW.p (PEv.fieldAddr (off := 7) Tryz.underlying46 rfl rfl Tryz.sizeOf3 rfl (.tmp rfl)) rfl rfl rfl ?_
     refine LW.p (PEv.load Tryz.isAgg3 (.tmp rfl) (hcx.nth (j := 7) rfl)) rfl rfl rfl ?_
     refine LW.p (PEv.eql (.tmp rfl) (.tmp rfl)) rfl rfl rfl ?_
     refine LW.nil (KW.then ?_)
     refine CW.cond (.tmp rfl) (fun h27 => ?_) (fun h27 => ?_)
     ·first | replace h27 := of_decide_eq_true h27 | replace h27 := of_decide_eq_false h27 | skip
      refine CW.region (LW.p (PEv.move (.tmp rfl)) rfl rfl rfl (LW.p (PEv.move (.tmp rfl)) rfl rfl rfl ?_))
      refine LW.p (PEv.indexAddr' Tryz.underlying22 Tryz.sizeOf46 (.tmp rfl) (.tmp rfl) (by omega) ax) rfl rfl rfl ?_
      refine LW.p (PEv.fieldAddr (off := 8) Tryz.underlying46 rfl rfl Tryz.sizeOf3 rfl (.tmp rfl)) rfl rfl rfl ?_
      refine LW.p (PEv.load Tryz.isAgg3 (.tmp rfl) (hcx.nth (j := 8) rfl)) rfl rfl rfl ?_
      refine LW.p (PEv.assign (.tmp rfl)) rfl rfl rfl (LW.nil (KW.inBlock (KW.then (CW.region (LW.p (PEv.move (.tmp rfl)) rfl rfl rfl ?_)))))
      refine LW.p (PEv.inc (.tmp rfl) (by omega)) rfl rfl rfl ?_
      refine LW.p (PEv.assign (.tmp rfl)) rfl rfl rfl (LW.nil (KW.round ?_))
      first | exact ⟨(k + 1, x.Other), ⟨by show k + 1 ≤ _; omega, by rw [markF_succ hx, ← hm, tau_w h27], hL1⟩, ⟨rfl, rfl, rfl, rfl, trivial⟩, by show (ordG (swOk time) b.Swaps).length - (k + 1) < (ordG (swOk time) b.Swaps).length - k; omega⟩ | exact ⟨(k + 1, x.Wafer), ⟨by show k + 1 ≤ _; omega, by rw [markF_succ hx, ← hm, tau_o h27 h39], hL1⟩, ⟨rfl, rfl, rfl, rfl, trivial⟩, by show (ordG (swOk time) b.Swaps).length - (k + 1) < (ordG (swOk time) b.Swaps).length - k; omega⟩ | exact ⟨(k + 1, m), ⟨by show k + 1 ≤ _; omega, by rw [markF_succ hx, ← hm, tau_n h27 h39], hL1⟩, ⟨rfl, rfl, rfl, rfl, trivial⟩, by show (ordG (swOk time) b.Swaps).length - (k + 1) < (ordG (swOk time) b.Swaps).length - k; omega⟩
     ·first | replace h27 := of_decide_eq_true h27 | replace h27 := of_decide_eq_false h27 | skip
      refine CW.seq (CW.region (LW.p (PEv.move (.tmp rfl)) rfl rfl rfl (LW.p (PEv.move (.tmp rfl)) rfl rfl rfl (LW.p (PEv.move (.tmp rfl)) rfl rfl rfl ?_))))
      refine LW.p (PEv.indexAddr' Tryz.underlying22 Tryz.sizeOf46 (.tmp rfl) (.tmp rfl) (by omega) ax) rfl rfl rfl ?_
      refine LW.p (PEv.fieldAddr (off := 8) Tryz.underlying46 rfl rfl Tryz.sizeOf3 rfl (.tmp rfl)) rfl rfl rfl ?_
      refine LW.p (PEv.load Tryz.isAgg3 (.tmp rfl) (hcx.nth (j := 8) rfl)) rfl rfl rfl ?_
      refine LW.p (PEv.eql (.tmp rfl) (.tmp rfl)) rfl rfl rfl ?_
      refine LW.nil (KW.then ?_)
      refine CW.cond (.tmp rfl) (fun h39 => ?_) (fun h39 => ?_)
      ·first | replace h39 := of_decide_eq_true h39 | replace h39 := of_decide_eq_false h39 | skip
       refine CW.region (LW.p (PEv.move (.tmp rfl)) rfl rfl rfl (LW.p (PEv.move (.tmp rfl)) rfl rfl rfl ?_))
       refine LW.p (PEv.indexAddr' Tryz.underlying22 Tryz.sizeOf46 (.tmp rfl) (.tmp rfl) (by omega) ax) rfl rfl rfl ?_
       refine LW.p (PEv.fieldAddr (off := 7) Tryz.underlying46 rfl rfl Tryz.sizeOf3 rfl (.tmp rfl)) rfl rfl rfl ?_
       refine LW.p (PEv.load Tryz.isAgg3 (.tmp rfl) (hcx.nth (j := 7) rfl)) rfl rfl rfl ?_
       refine LW.p (PEv.assign (.tmp rfl)) rfl rfl rfl (LW.nil (KW.inBlock (KW.then (CW.region (LW.p (PEv.move (.tmp rfl)) rfl rfl rfl ?_)))))
       refine LW.p (PEv.inc (.tmp rfl) (by omega)) rfl rfl rfl ?_
       refine LW.p (PEv.assign (.tmp rfl)) rfl rfl rfl (LW.nil (KW.round ?_))
       first | exact ⟨(k + 1, x.Other), ⟨by show k + 1 ≤ _; omega, by rw [markF_succ hx, ← hm, tau_w h27], hL1⟩, ⟨rfl, rfl, rfl, rfl, trivial⟩, by show (ordG (swOk time) b.Swaps).length - (k + 1) < (ordG (swOk time) b.Swaps).length - k; omega⟩ | exact ⟨(k + 1, x.Wafer), ⟨by show k + 1 ≤ _; omega, by rw [markF_succ hx, ← hm, tau_o h27 h39], hL1⟩, ⟨rfl, rfl, rfl, rfl, trivial⟩, by show (ordG (swOk time) b.Swaps).length - (k + 1) < (ordG (swOk time) b.Swaps).length - k; omega⟩ | exact ⟨(k + 1, m), ⟨by show k + 1 ≤ _; omega, by rw [markF_succ hx, ← hm, tau_n h27 h39], hL1⟩, ⟨rfl, rfl, rfl, rfl, trivial⟩, by show (ordG (swOk time) b.Swaps).length - (k + 1) < (ordG (swOk time) b.Swaps).length - k; omega⟩
      ·first | replace h39 := of_decide_eq_true h39 | replace h39 := of_decide_eq_false h39 | skip
       refine CW.skip (KW.inBlock (KW.then (CW.region (LW.p (PEv.move (.tmp rfl)) rfl rfl rfl ?_))))
       refine LW.p (PEv.inc (.tmp rfl) (by omega)) rfl rfl rfl ?_
       refine LW.p (PEv.assign (.tmp rfl)) rfl rfl rfl (LW.nil (KW.round ?_))
       first | exact ⟨(k + 1, x.Other), ⟨by show k + 1 ≤ _; omega, by rw [markF_succ hx, ← hm, tau_w h27], hL1⟩, ⟨rfl, rfl, rfl, rfl, trivial⟩, by show (ordG (swOk time) b.Swaps).length - (k + 1) < (ordG (swOk time) b.Swaps).length - k; omega⟩ | exact ⟨(k + 1, x.Wafer), ⟨by show k + 1 ≤ _; omega, by rw [markF_succ hx, ← hm, tau_o h27 h39], hL1⟩, ⟨rfl, rfl, rfl, rfl, trivial⟩, by show (ordG (swOk time) b.Swaps).length - (k + 1) < (ordG (swOk time) b.Swaps).length - k; omega⟩ | exact ⟨(k + 1, m), ⟨by show k + 1 ≤ _; omega, by rw [markF_succ hx, ← hm, tau_n h27 h39], hL1⟩, ⟨rfl, rfl, rfl, rfl, trivial⟩, by show (ordG (swOk time) b.Swaps).length - (k + 1) < (ordG (swOk time) b.Swaps).length - k; omega⟩
    ·first | replace h18 := of_decide_eq_true h18 | replace h18 := of_decide_eq_false h18 | skip
     refine CW.exit (KW.then_exit (KW.then_exit (KW.block_hit (KW.then (CW.seq (CW.region (LW.p (PEv.move (.tmp rfl)) rfl rfl rfl (LW.p (PEv.assign (.tmp rfl)) rfl rfl rfl (LW.nil (KW.then (CW.ret ?_)))))))))))
     refine KW.ret1 rfl rfl ⟨_, rfl, ?_⟩
     first | exact ⟨by unfold markL; rw [if_neg (by rw [hi]; exact Bool.false_ne_true)], hW⟩ | exact ⟨by unfold markL; rw [if_pos hi, hm, show k = (ordG (swOk time) b.Swaps).length by omega, List.take_length], hW⟩
theorem rHistory_any (bc : Array Go.Value) (b : Base) (wafer : Int) (w : World) (hC : BaseC w bc b) (hl : b.Swaps.length ≤ 1000000000) (hp : b.Processes.length ≤ 1000000000) : Ret Tryz.prog 24 #[.agg bc, vi wafer] w fun r w' => OwnS w' w.heap.size 46 19 Fact.cells r (histL b.Processes b.Swaps wafer) ∧ Up w w' := by
  obtain ⟨w0, rfl⟩ : ∃ w0, w0 = w := ⟨_, rfl⟩
  have hS := Sep.start no w0
  refine Calls_start (n := 37) (m := 9) Tryz.func24 rfl rfl rfl ?_
  refine CW.seq (CW.region ?_)
  refine LW.r (REv.boxA (.tmp rfl)) rfl rfl rfl rfl ?_
  rintro _ w1 ⟨B2, rfl, NB2⟩
  have eB2 := NB2.at_
  have zB2 := NB2.size
  replace hS := hS.addB NB2
  change Wx.Sep _ _ _ [_] at hS
  refine LW.p (PEv.assign (.const _)) rfl rfl rfl (LW.nil (KW.then (CW.seq (CW.seq (CW.region (LW.p (PEv.move (.tmp rfl)) rfl rfl rfl ?_))))))
  refine LW.c (enter_call0 (.cons (.tmp rfl) .nil) (Tryz.en39)) rfl rfl rfl rfl (rid_any _ _) ?_
  rintro _ w2 ⟨rfl, uw2⟩
  have zw2 := uw2.size
  replace hS := hS.up uw2
  refine LW.p (PEv.not (.tmp rfl)) rfl rfl rfl ?_
  refine LW.nil (KW.then ?_)
  refine CW.cond (.tmp rfl) (fun h10 => ?_) (fun h10 => ?_)
  ·first | replace h10 := of_decide_eq_true h10 | replace h10 := of_decide_eq_false h10 | skip
   have hi : isIDb wafer = false := by simpa using h10
   refine CW.seq (CW.region (LW.p (PEv.assign (.const _)) rfl rfl rfl (LW.nil (KW.then (CW.ret (KW.then_ret ?_))))))
   refine KW.ret1 rfl rfl ⟨_, rfl, ?_⟩
   first | exact ⟨by unfold histL; rw [if_neg (by rw [hi]; exact Bool.false_ne_true)]; exact OwnS.nil _ _ _ _ _, hS.upd⟩ | exact ⟨by unfold histL; rw [if_pos hi]; exact hO36, hS.upd⟩
  ·first | replace h10 := of_decide_eq_true h10 | replace h10 := of_decide_eq_false h10 | skip
   have hi : isIDb wafer = true := by simpa using h10
   refine CW.skip (KW.then (CW.seq ?_))
   obtain ⟨v0, h0, ad, cp, rfl, hE0⟩ := hC.at0
   refine CW.region (LW.p (PEv.assign (.const _)) rfl rfl rfl (LW.nil (KW.then (CW.seq (CW.seq ?_)))))
   replace hS := hS.addn (OwnS.nil _ 0 46 19 Fact.cells)
   change Wx.Sep _ _ _ [_, _] at hS
   refine CW.region (LW.p (PEv.assign (.const _)) rfl rfl rfl (LW.nil (KW.then (CW.block ?_))))
   refine CW.loopB (σ := Nat × Go.Value) (fun s w => (s.1 ≤ b.Processes.length) ∧ (Wx.Sep no w0 w [aBlk B2 bc 24, aOwn 46 19 Fact.cells s.2 ((b.Processes.take s.1).filter (fun f : Fact => decide (whoL b.Swaps f.Time f.Wafer = wafer)))])) (fun s => [(6, .eq (vi (s.1 : Int))), (5, .eq (s.2))]) ([(1, .eq _), (2, .eq _), (4, .eq _)]) (fun s => b.Processes.length - s.1) (0, .slice none 0 0) ?_ ⟨rfl, rfl, rfl, rfl, rfl, trivial⟩ ?_
   ·exact ⟨Nat.zero_le _, hS⟩
   ·rintro ⟨k, v⟩ w3 ⟨hk, hS⟩
    dsimp only at hk hS
    change CW _ _ _ _ _ _ _ ([(6, .eq (vi (k : Int))), (5, .eq (v))] ++ _) _
    refine CW.seq (CW.seq (CW.region (LW.p (PEv.move (.tmp rfl)) rfl rfl rfl ?_)))
    refine LW.p (PEv.fieldAddr (off := 0) Tryz.underlying24 rfl rfl Tryz.sizeOf22 rfl (.tmp rfl)) rfl rfl rfl ?_
    refine LW.p (PEv.load Tryz.isAgg22 (.tmp rfl) ((hS.blk 0 rfl).cell h0)) rfl rfl rfl ?_
    refine LW.p (PEv.lenS Tryz.underlying22 (.tmp rfl)) rfl rfl rfl ?_
    refine LW.p (PEv.lss (.tmp rfl) (.tmp rfl)) rfl rfl rfl ?_
    refine LW.nil (KW.then ?_)
    refine CW.cond (.tmp rfl) (fun h15 => ?_) (fun h15 => ?_)
    ·first | replace h15 := of_decide_eq_true h15 | replace h15 := of_decide_eq_false h15 | skip
     refine CW.skip (KW.then (CW.seq (CW.block (CW.seq ?_))))
     have hE := Els.up hE0 hS.upd
     refine CW.region ?_
     refine LW.p (PEv.fieldAddr (off := 0) Tryz.underlying24 rfl rfl Tryz.sizeOf22 rfl (.tmp rfl)) rfl rfl rfl ?_
     refine LW.p (PEv.load Tryz.isAgg22 (.tmp rfl) ((hS.blk 0 rfl).cell h0)) rfl rfl rfl ?_
     refine LW.p (PEv.move (.tmp rfl)) rfl rfl rfl ?_
     obtain ⟨x, hx⟩ := getElem?_of_lt (xs := b.Processes) (i := k) (by omega)
     obtain ⟨Bx, ox, ax, hcx⟩ := hE _ x hx
     refine LW.p (PEv.indexAddr' Tryz.underlying22 Tryz.sizeOf46 (.tmp rfl) (.tmp rfl) (by omega) ax) rfl rfl rfl ?_
     refine LW.p (PEv.loadA Tryz.isAgg46 Tryz.sizeOf46 rfl (.tmp rfl) (hcx)) rfl rfl rfl ?_
     refine LW.r (REv.allocA Tryz.zeroValue46) rfl rfl rfl rfl ?_
     rintro _ w4 ⟨B7, rfl, MB7⟩
     refine LW.s (SEv.storeA Tryz.sizeOf46 rfl (.tmp rfl) (.tmp rfl) (Fact.one _) MB7.blk rfl) rfl rfl rfl ?_
     intro w5 LB7
     have NB7 := MB7.set LB7
     clear LB7 MB7
     have eB7 := NB7.at_
     have zB7 := NB7.size
     replace hcx := hcx.up NB7.up
     replace hS := hS.addB NB7
     change Wx.Sep _ _ _ [_, _, _] at hS
     refine LW.nil (KW.then (CW.seq (CW.region ?_)))
     refine LW.p (PEv.loadA Tryz.isAgg24 Tryz.sizeOf24 (hC.size) (.tmp rfl) ((hS.blk 0 rfl).agg)) rfl rfl rfl ?_
     refine LW.p (PEv.fieldAddr (off := 7) Tryz.underlying46 rfl rfl Tryz.sizeOf3 rfl (.tmp rfl)) rfl rfl rfl ?_
     refine LW.p (PEv.load Tryz.isAgg3 (.tmp rfl) ((hS.blk 2 rfl).celln rfl)) rfl rfl rfl ?_
     refine LW.p (PEv.fieldAddr (off := 5) Tryz.underlying46 rfl rfl Tryz.sizeOf3 rfl (.tmp rfl)) rfl rfl rfl ?_
     refine LW.p (PEv.load Tryz.isAgg3 (.tmp rfl) ((hS.blk 2 rfl).celln rfl)) rfl rfl rfl ?_
     refine LW.c (enter_call0 (.cons (.tmp rfl) (.cons (.tmp rfl) (.cons (.tmp rfl) .nil))) (Tryz.en19)) rfl rfl rfl rfl (rWho_any bc b x.Wafer x.Time _ (hC.up hS.upd) hl) ?_
     rintro _ w6 ⟨rfl, uw6⟩
     have zw6 := uw6.size
     replace hS := hS.up uw6
     refine LW.p (PEv.move (.tmp rfl)) rfl rfl rfl ?_
     refine LW.p (PEv.eql (.tmp rfl) (.tmp rfl)) rfl rfl rfl ?_
     refine LW.nil (KW.then ?_)
     refine CW.cond (.tmp rfl) (fun h30 => ?_) (fun h30 => ?_)
     ·first | replace h30 := of_decide_eq_true h30 | replace h30 := of_decide_eq_false h30 | skip
      have hfl := filt_len (fun f : Fact => decide (whoL b.Swaps f.Time f.Wafer = wafer)) b.Processes k
      refine CW.region (LW.p (PEv.move (.tmp rfl)) rfl rfl rfl ?_)
      refine LW.p (PEv.loadA Tryz.isAgg46 Tryz.sizeOf46 rfl (.tmp rfl) ((hS.blk 2 rfl).agg)) rfl rfl rfl ?_
      refine LW.r (REv.buildSlice (xs := [x]) (enc := Fact.cells) (mk := fun f : Fact => .agg f.cells) Tryz.underlying22 Tryz.sizeOf46 Tryz.zeroValue46 rfl (by decide) (fun _ => rfl) (fun _ => rfl) (.cons (.tmp rfl) .nil) rfl) rfl rfl rfl rfl ?_
      rintro _ w7 ⟨B33, cB33, rfl, NB33, yB33, xB33⟩
      have eB33 := NB33.at_
      have zB33 := NB33.size
      replace hS := hS.up NB33.up
      have hE33 := xB33
      refine LW.r (REv.appendF (enc := Fact.cells) (bytes := 160) (i := Tryz.t46) Tryz.underlying22 (by kernel_rfl) rfl rfl rfl rfl (by decide) (fun _ => rfl) Fact.one (.tmp rfl) (.tmp rfl) (hS.own 1 rfl) (Sl.of_els hE33) (by have := hfl; simp [maxLen]; omega) (by have := hfl; simp; omega)) rfl rfl rfl rfl ?_
      intro v34 w8 Gw8
      have zw8 := Gw8.fr.size
      replace hS := hS.stp 1 rfl Gw8
      change Wx.Sep _ _ _ [_, _, _] at hS
      refine LW.p (PEv.assign (.tmp rfl)) rfl rfl rfl (LW.nil (KW.inBlock (KW.then (CW.region (LW.p (PEv.move (.tmp rfl)) rfl rfl rfl ?_)))))
      refine LW.p (PEv.inc (.tmp rfl) (by omega)) rfl rfl rfl ?_
      refine LW.p (PEv.assign (.tmp rfl)) rfl rfl rfl (LW.nil (KW.round ?_))
      first | exact ⟨(k + 1, v34), ⟨by show k + 1 ≤ _; omega, by first | (rw [fp_yes (p := fun f : Fact => decide (whoL b.Swaps f.Time f.Wafer = wafer)) hx (decide_eq_true h30)]; exact hS.take 2) | (rw [fp_no (p := fun f : Fact => decide (whoL b.Swaps f.Time f.Wafer = wafer)) hx (decide_eq_false h30)]; exact hS.take 2)⟩, ⟨rfl, rfl, rfl, rfl, rfl, trivial⟩, by show b.Processes.length - (k + 1) < b.Processes.length - k; omega⟩ | exact ⟨(k + 1, v), ⟨by show k + 1 ≤ _; omega, by first | (rw [fp_yes (p := fun f : Fact => decide (whoL b.Swaps f.Time f.Wafer = wafer)) hx (decide_eq_true h30)]; exact hS.take 2) | (rw [fp_no (p := fun f : Fact => decide (whoL b.Swaps f.Time f.Wafer = wafer)) hx (decide_eq_false h30)]; exact hS.take 2)⟩, ⟨rfl, rfl, rfl, rfl, rfl, trivial⟩, by show b.Processes.length - (k + 1) < b.Processes.length - k; omega⟩
     ·first | replace h30 := of_decide_eq_true h30 | replace h30 := of_decide_eq_false h30 | skip
      refine CW.skip (KW.inBlock (KW.then (CW.region (LW.p (PEv.move (.tmp rfl)) rfl rfl rfl ?_))))
      refine LW.p (PEv.inc (.tmp rfl) (by omega)) rfl rfl rfl ?_
      refine LW.p (PEv.assign (.tmp rfl)) rfl rfl rfl (LW.nil (KW.round ?_))
      first | exact ⟨(k + 1, v34), ⟨by show k + 1 ≤ _; omega, by first | (rw [fp_yes (p := fun f : Fact => decide (whoL b.Swaps f.Time f.Wafer = wafer)) hx (decide_eq_true h30)]; exact hS.take 2) | (rw [fp_no (p := fun f : Fact => decide (whoL b.Swaps f.Time f.Wafer = wafer)) hx (decide_eq_false h30)]; exact hS.take 2)⟩, ⟨rfl, rfl, rfl, rfl, rfl, trivial⟩, by show b.Processes.length - (k + 1) < b.Processes.length - k; omega⟩ | exact ⟨(k + 1, v), ⟨by show k + 1 ≤ _; omega, by first | (rw [fp_yes (p := fun f : Fact => decide (whoL b.Swaps f.Time f.Wafer = wafer)) hx (decide_eq_true h30)]; exact hS.take 2) | (rw [fp_no (p := fun f : Fact => decide (whoL b.Swaps f.Time f.Wafer = wafer)) hx (decide_eq_false h30)]; exact hS.take 2)⟩, ⟨rfl, rfl, rfl, rfl, rfl, trivial⟩, by show b.Processes.length - (k + 1) < b.Processes.length - k; omega⟩
    ·first | replace h15 := of_decide_eq_true h15 | replace h15 := of_decide_eq_false h15 | skip
     refine CW.exit (KW.then_exit (KW.then_exit (KW.block_hit (KW.then (CW.seq ?_)))))
     have hkl : k = b.Processes.length := by omega
     rw [hkl, List.take_length] at hS
     have hzz := hS.upd.size
     obtain ⟨adv, cpv, rfl, _⟩ := (hS.own 1 rfl).sl (fun _ => rfl)
     refine CW.region (LW.p (PEv.move (.tmp rfl)) rfl rfl rfl ?_)
     refine LW.c (enter_call0 (.cons (.tmp rfl) .nil) (Tryz.en45)) rfl rfl rfl rfl (rOrdered_any adv cpv (b.Processes.filter fun f : Fact => decide (whoL b.Swaps f.Time f.Wafer = wafer)) _ ((hS.own 1 rfl).els (fun _ => rfl)) (Nat.le_trans (List.length_filter_le _ _) hp)) ?_
     rintro v36 w9 ⟨hO36, uw9⟩
     have zw9 := uw9.size
     replace hS := hS.up uw9
     rw [← ordG_def] at hO36
     replace hO36 := hO36.mono (show w0.heap.size ≤ _ by omega)
     refine LW.p (PEv.assign (.tmp rfl)) rfl rfl rfl (LW.nil (KW.then (CW.ret ?_)))
     refine KW.ret1 rfl rfl ⟨_, rfl, ?_⟩
     first | exact ⟨by unfold histL; rw [if_neg (by rw [hi]; exact Bool.false_ne_true)]; exact OwnS.nil _ _ _ _ _, hS.upd⟩ | exact ⟨by unfold histL; rw [if_pos hi]; exact hO36, hS.upd⟩
theorem rlot_any (bc : Array Go.Value) (b : Base) (wafer time : Int) (w : World) (hC : BaseC w bc b) (hl : b.Lots.length ≤ 1000000000) : Ret Tryz.prog 17 #[.agg bc, vi wafer, vi time] w fun r w' => r = .tuple #[vi (lotOf b.Lots wafer time).1, vi (lotOf b.Lots wafer time).2] ∧ Up w w' := by
  obtain ⟨w0, rfl⟩ : ∃ w0, w0 = w := ⟨_, rfl⟩
  have hS := Sep.start no w0
  refine Calls_start (n := 55) (m := 9) Tryz.func17 rfl rfl rfl ?_
  refine CW.seq (CW.region ?_)
  refine LW.r (REv.boxA (.tmp rfl)) rfl rfl rfl rfl ?_
  rintro _ w1 ⟨B3, rfl, NB3⟩
  have eB3 := NB3.at_
  have zB3 := NB3.size
  replace hS := hS.addB NB3
  change Wx.Sep _ _ _ [_] at hS
  refine LW.p (PEv.assign (.const _)) rfl rfl rfl (LW.p (PEv.assign (.const _)) rfl rfl rfl (LW.nil (KW.then (CW.seq (CW.region ?_)))))
  refine LW.p (PEv.build (cs := zeroF.cells) Tryz.underlying46 Tryz.zeroValue46 Tryz.places46 .nil rfl) rfl rfl rfl ?_
  refine LW.r (REv.allocA Tryz.zeroValue46) rfl rfl rfl rfl ?_
  rintro _ w2 ⟨B8, rfl, MB8⟩
  refine LW.s (SEv.storeA Tryz.sizeOf46 rfl (.tmp rfl) (.tmp rfl) (Fact.one _) MB8.blk rfl) rfl rfl rfl ?_
  intro w3 LB8
  have NB8 := MB8.set LB8
  clear LB8 MB8
  have eB8 := NB8.at_
  have zB8 := NB8.size
  replace hS := hS.addB NB8
  change Wx.Sep _ _ _ [_, _] at hS
  refine LW.nil (KW.then (CW.seq (CW.region (LW.p (PEv.assign (.const _)) rfl rfl rfl (LW.nil (KW.then (CW.seq (CW.seq (CW.region (LW.p (PEv.assign (.const _)) rfl rfl rfl (LW.nil (KW.then (CW.block ?_)))))))))))))
  refine CW.loopB (σ := Nat × Option Fact) (fun s w => (s.1 ≤ b.Lots.length) ∧ (s.2 = lotBest (b.Lots.take s.1) wafer time) ∧ (Wx.Sep no w0 w [aBlk B3 bc 24, aBlk B8 (s.2.getD zeroF).cells 46])) (fun s => [(10, .eq (vi (s.1 : Int))), (9, .eq (.bool s.2.isSome))]) ([(1, .eq _), (2, .eq _), (3, .eq _), (6, .eq _), (7, .eq _), (8, .eq _)]) (fun s => b.Lots.length - s.1) (0, none) ?_ ⟨rfl, rfl, rfl, rfl, rfl, rfl, rfl, rfl, trivial⟩ ?_
  ·exact ⟨Nat.zero_le _, rfl, hS⟩
  ·rintro ⟨k, ob⟩ w4 ⟨hk, ho, hS⟩
   dsimp only at hk ho hS
   change CW _ _ _ _ _ _ _ ([(10, .eq (vi (k : Int))), (9, .eq (.bool ob.isSome))] ++ _) _
   refine CW.seq (CW.seq ?_)
   obtain ⟨v3, h3, ad, cp, rfl, hE0⟩ := hC.at3
   refine CW.region (LW.p (PEv.move (.tmp rfl)) rfl rfl rfl ?_)
   refine LW.p (PEv.fieldAddr (off := 3) Tryz.underlying24 rfl rfl Tryz.sizeOf22 rfl (.tmp rfl)) rfl rfl rfl ?_
   refine LW.p (PEv.load Tryz.isAgg22 (.tmp rfl) ((hS.blk 0 rfl).cell h3)) rfl rfl rfl ?_
   refine LW.p (PEv.lenS Tryz.underlying22 (.tmp rfl)) rfl rfl rfl ?_
   refine LW.p (PEv.lss (.tmp rfl) (.tmp rfl)) rfl rfl rfl ?_
   refine LW.nil (KW.then ?_)
   refine CW.cond (.tmp rfl) (fun h17 => ?_) (fun h17 => ?_)
   ·first | replace h17 := of_decide_eq_true h17 | replace h17 := of_decide_eq_false h17 | skip
    refine CW.skip (KW.then (CW.seq (CW.block (CW.seq ?_))))
    have hE := Els.up hE0 hS.upd
    refine CW.region ?_
    refine LW.p (PEv.fieldAddr (off := 3) Tryz.underlying24 rfl rfl Tryz.sizeOf22 rfl (.tmp rfl)) rfl rfl rfl ?_
    refine LW.p (PEv.load Tryz.isAgg22 (.tmp rfl) ((hS.blk 0 rfl).cell h3)) rfl rfl rfl ?_
    refine LW.p (PEv.move (.tmp rfl)) rfl rfl rfl ?_
    obtain ⟨x, hx⟩ := getElem?_of_lt (xs := b.Lots) (i := k) (by omega)
    obtain ⟨Bx, ox, ax, hcx⟩ := hE _ x hx
    refine LW.p (PEv.indexAddr' Tryz.underlying22 Tryz.sizeOf46 (.tmp rfl) (.tmp rfl) (by omega) ax) rfl rfl rfl ?_
    refine LW.p (PEv.loadA Tryz.isAgg46 Tryz.sizeOf46 rfl (.tmp rfl) (hcx)) rfl rfl rfl ?_
    refine LW.r (REv.allocA Tryz.zeroValue46) rfl rfl rfl rfl ?_
    rintro _ w5 ⟨B11, rfl, MB11⟩
    refine LW.s (SEv.storeA Tryz.sizeOf46 rfl (.tmp rfl) (.tmp rfl) (Fact.one _) MB11.blk rfl) rfl rfl rfl ?_
    intro w6 LB11
    have NB11 := MB11.set LB11
    clear LB11 MB11
    have eB11 := NB11.at_
    have zB11 := NB11.size
    replace hcx := hcx.up NB11.up
    replace hS := hS.addB NB11
    change Wx.Sep _ _ _ [_, _, _] at hS
    refine LW.nil (KW.then (CW.seq (CW.region (LW.p (PEv.move (.tmp rfl)) rfl rfl rfl ?_))))
    refine LW.c (enter_call0 (.cons (.tmp rfl) .nil) (Tryz.en39)) rfl rfl rfl rfl (rid_any _ _) ?_
    rintro _ w7 ⟨rfl, uw7⟩
    have zw7 := uw7.size
    replace hS := hS.up uw7
    refine LW.p (PEv.move (.tmp rfl)) rfl rfl rfl ?_
    refine LW.g rfl rfl rfl rfl rfl rfl rfl (fun hc => PEv.fieldAddr (off := 7) Tryz.underlying46 rfl rfl Tryz.sizeOf3 rfl (.tmp rfl)) ?_
    refine LW.g rfl rfl rfl rfl rfl rfl rfl (fun hc => PEv.load Tryz.isAgg3 (by first | exact .tmp rfl | exact .cond rfl (by first | assumption | simp_all)) ((hS.blk 2 rfl).celln rfl)) ?_
    refine LW.g rfl rfl rfl rfl rfl rfl rfl (fun hc => PEv.move (.tmp rfl)) ?_
    refine LW.g rfl rfl rfl rfl rfl rfl rfl (fun hc => PEv.eql (by first | exact .tmp rfl | exact .cond rfl (by first | assumption | simp_all)) (by first | exact .tmp rfl | exact .cond rfl (by first | assumption | simp_all))) ?_
    refine LW.p (PEv.pick_and (.tmp rfl) (fun hp => (by first | exact .const _ | exact .tmp rfl | exact .cond rfl (by first | assumption | (rw [hp]; rfl) | (rw [hc, hp]; rfl) | simp_all)))) rfl rfl rfl ?_
    refine LW.p (PEv.move (.tmp rfl)) rfl rfl rfl ?_
    refine LW.g rfl rfl rfl rfl rfl rfl rfl (fun hc => PEv.fieldAddr (off := 5) Tryz.underlying46 rfl rfl Tryz.sizeOf3 rfl (.tmp rfl)) ?_
    refine LW.g rfl rfl rfl rfl rfl rfl rfl (fun hc => PEv.load Tryz.isAgg3 (by first | exact .tmp rfl | exact .cond rfl (by first | assumption | simp_all)) ((hS.blk 2 rfl).celln rfl)) ?_
    refine LW.g rfl rfl rfl rfl rfl rfl rfl (fun hc => PEv.move (.tmp rfl)) ?_
    refine LW.g rfl rfl rfl rfl rfl rfl rfl (fun hc => PEv.leq (by first | exact .tmp rfl | exact .cond rfl (by first | assumption | simp_all)) (by first | exact .tmp rfl | exact .cond rfl (by first | assumption | simp_all))) ?_
    refine LW.p (PEv.pick_and (.tmp rfl) (fun hp => (by first | exact .const _ | exact .tmp rfl | exact .cond rfl (by first | assumption | (rw [hp]; rfl) | (rw [hc, hp]; rfl) | simp_all)))) rfl rfl rfl ?_
    refine LW.p (PEv.move (.tmp rfl)) rfl rfl rfl ?_
    refine LW.g rfl rfl rfl rfl rfl rfl rfl (fun hc => PEv.move (.tmp rfl)) ?_
    refine LW.g rfl rfl rfl rfl rfl rfl rfl (fun hc => PEv.not (by first | exact .tmp rfl | exact .cond rfl (by first | assumption | simp_all))) ?_
    refine LW.g rfl rfl rfl rfl rfl rfl rfl (fun hc => PEv.move (by first | exact .tmp rfl | exact .cond rfl (by first | assumption | simp_all))) ?_
    refine LW.gg rfl rfl rfl rfl rfl rfl rfl (fun hc => PEv.fieldAddr (off := 5) Tryz.underlying46 rfl rfl Tryz.sizeOf3 rfl (.tmp rfl)) ?_
    refine LW.gg rfl rfl rfl rfl rfl rfl rfl (fun hc => PEv.load Tryz.isAgg3 (by first | exact .tmp rfl | exact .cond rfl (by first | assumption | simp_all)) ((hS.blk 2 rfl).celln rfl)) ?_
    refine LW.gg rfl rfl rfl rfl rfl rfl rfl (fun hc => PEv.fieldAddr (off := 5) Tryz.underlying46 rfl rfl Tryz.sizeOf3 rfl (.tmp rfl)) ?_
    refine LW.gg rfl rfl rfl rfl rfl rfl rfl (fun hc => PEv.load Tryz.isAgg3 (by first | exact .tmp rfl | exact .cond rfl (by first | assumption | simp_all)) ((hS.blk 1 rfl).celln rfl)) ?_
    refine LW.gg rfl rfl rfl rfl rfl rfl rfl (fun hc => PEv.gtr (by first | exact .tmp rfl | exact .cond rfl (by first | assumption | simp_all)) (by first | exact .tmp rfl | exact .cond rfl (by first | assumption | simp_all))) ?_
    refine LW.g rfl rfl rfl rfl rfl rfl rfl (fun hc => PEv.pick_or (by first | exact .tmp rfl | exact .cond rfl (by first | assumption | simp_all)) (fun hp => (by first | exact .const _ | exact .tmp rfl | exact .cond rfl (by first | assumption | (rw [hp]; rfl) | (rw [hc, hp]; rfl) | simp_all)))) ?_
    refine LW.p (PEv.pick_and (.tmp rfl) (fun hp => (by first | exact .const _ | exact .tmp rfl | exact .cond rfl (by first | assumption | (rw [hp]; rfl) | (rw [hc, hp]; rfl) | simp_all)))) rfl rfl rfl ?_
    refine LW.nil (KW.then ?_)
    refine CW.cond (.tmp rfl) (fun h49 => ?_) (fun h49 => ?_)
    ·first | replace h49 := of_decide_eq_true h49 | replace h49 := of_decide_eq_false h49 | skip
     rw [lot_takes] at h49
     refine CW.seq (CW.region ?_)
     refine LW.p (PEv.loadA Tryz.isAgg46 Tryz.sizeOf46 rfl (.tmp rfl) ((hS.blk 2 rfl).agg)) rfl rfl rfl ?_
     refine LW.s (SEv.storeA Tryz.sizeOf46 rfl (.tmp rfl) (.tmp rfl) (Fact.one _) (hS.blk 1 rfl) rfl) rfl rfl rfl ?_
     intro w8 Nw8
     have zw8 := Nw8.size
     replace hS := hS.putB 1 rfl (show Set_ _ w8 _ (((some x).getD zeroF).cells) _ from Nw8)
     change Wx.Sep _ _ _ [_, _, _] at hS
     refine LW.nil (KW.then (CW.region (LW.p (PEv.assign (.const _)) rfl rfl rfl (LW.nil (KW.inBlock (KW.then (CW.region (LW.p (PEv.move (.tmp rfl)) rfl rfl rfl ?_))))))))
     refine LW.p (PEv.inc (.tmp rfl) (by omega)) rfl rfl rfl ?_
     refine LW.p (PEv.assign (.tmp rfl)) rfl rfl rfl (LW.nil (KW.round ?_))
     first | exact ⟨(k + 1, some x), ⟨by show k + 1 ≤ _; omega, by rw [lotBest_step hx, ← ho, if_pos h49], hS.take 2⟩, ⟨rfl, rfl, rfl, rfl, rfl, rfl, rfl, rfl, trivial⟩, by show b.Lots.length - (k + 1) < b.Lots.length - k; omega⟩ | exact ⟨(k + 1, ob), ⟨by show k + 1 ≤ _; omega, by rw [lotBest_step hx, ← ho, if_neg (by rw [h49]; exact Bool.false_ne_true)], hS.take 2⟩, ⟨rfl, rfl, rfl, rfl, rfl, rfl, rfl, rfl, trivial⟩, by show b.Lots.length - (k + 1) < b.Lots.length - k; omega⟩
    ·first | replace h49 := of_decide_eq_true h49 | replace h49 := of_decide_eq_false h49 | skip
     rw [lot_takes] at h49
     refine CW.skip (KW.inBlock (KW.then (CW.region (LW.p (PEv.move (.tmp rfl)) rfl rfl rfl ?_))))
     refine LW.p (PEv.inc (.tmp rfl) (by omega)) rfl rfl rfl ?_
     refine LW.p (PEv.assign (.tmp rfl)) rfl rfl rfl (LW.nil (KW.round ?_))
     first | exact ⟨(k + 1, some x), ⟨by show k + 1 ≤ _; omega, by rw [lotBest_step hx, ← ho, if_pos h49], hS.take 2⟩, ⟨rfl, rfl, rfl, rfl, rfl, rfl, rfl, rfl, trivial⟩, by show b.Lots.length - (k + 1) < b.Lots.length - k; omega⟩ | exact ⟨(k + 1, ob), ⟨by show k + 1 ≤ _; omega, by rw [lotBest_step hx, ← ho, if_neg (by rw [h49]; exact Bool.false_ne_true)], hS.take 2⟩, ⟨rfl, rfl, rfl, rfl, rfl, rfl, rfl, rfl, trivial⟩, by show b.Lots.length - (k + 1) < b.Lots.length - k; omega⟩
   ·first | replace h17 := of_decide_eq_true h17 | replace h17 := of_decide_eq_false h17 | skip
    refine CW.exit (KW.then_exit (KW.then_exit (KW.block_hit (KW.then (CW.seq ?_)))))
    have hkl : k = b.Lots.length := by omega
    rw [hkl, List.take_length] at ho
    refine CW.draws (by kernel_rfl) (by kernel_rfl) rfl rfl ?_
    refine HW.p (PEv.fieldAddr (off := 9) Tryz.underlying46 rfl rfl Tryz.sizeOf3 rfl (.tmp rfl)) rfl rfl ?_
    refine HW.p (PEv.load Tryz.isAgg3 (.tmp rfl) ((hS.blk 1 rfl).celln rfl)) rfl rfl ?_
    refine HW.p (PEv.fieldAddr (off := 10) Tryz.underlying46 rfl rfl Tryz.sizeOf3 rfl (.tmp rfl)) rfl rfl ?_
    refine HW.p (PEv.load Tryz.isAgg3 (.tmp rfl) ((hS.blk 1 rfl).celln rfl)) rfl rfl ?_
    refine HW.p (PEv.assign (.tmp rfl)) rfl rfl ?_
    refine HW.p (PEv.assign (.tmp rfl)) rfl rfl ?_
    refine HW.nil ?_
    intro w9 uw9
    have zw9 := uw9.size
    replace hS := hS.up uw9
    refine KW.then (CW.ret ?_)
    refine KW.ret2 rfl rfl rfl ⟨_, rfl, ?_⟩
    exact ⟨by rw [lotOf_def, ← ho], hS.upd⟩
theorem radd_any (ad : Option Addr) (cp : Nat) (ks : List Int) (n : Int) (w : World) (hE : Els w ad 1 eInt ks) (hcp : ks.length ≤ cp) (hks : ks.length ≤ 10000000) (hlt : ks.Pairwise (· < ·)) : Ret Tryz.prog 48 #[.slice ad ks.length cp, vi n] w fun r w' => SlC w' r (sortI (addI ks n)) ∧ Up w w' := by
  obtain ⟨w0, rfl⟩ : ∃ w0, w0 = w := ⟨_, rfl⟩
  have hS := Sep.start no w0
  refine Calls_start (n := 48) (m := 9) Tryz.func48 rfl rfl rfl ?_
  refine CW.seq (CW.region (LW.p (PEv.assign (.const _)) rfl rfl rfl (LW.nil (KW.then (CW.seq (CW.region (LW.p (PEv.assign (.const _)) rfl rfl rfl (LW.nil (KW.then (CW.seq (CW.block ?_)))))))))))
  refine CW.loopB (σ := Nat) (fun s w => (s ≤ ks.length) ∧ (∀ y ∈ ks.take s, y < n) ∧ (Wx.Sep no w0 w [])) (fun s => [(5, .eq (vi (s : Int)))]) ([(0, .eq _), (1, .eq _), (4, .eq _)]) (fun s => ks.length - s) 0 ?_ ⟨rfl, rfl, rfl, rfl, trivial⟩ ?_
  ·exact ⟨Nat.zero_le _, (fun y hy => by cases hy), hS⟩
  ·rintro k w1 ⟨hk, hlo, hS⟩
   refine CW.seq (CW.seq ?_)
   obtain ⟨u, Bu, ou, hau⟩ := at_elem (Els.up hE hS.upd) k
   refine CW.region (LW.p (PEv.move (.tmp rfl)) rfl rfl rfl (LW.p (PEv.move (.tmp rfl)) rfl rfl rfl ?_))
   refine LW.p (PEv.lenS Tryz.underlying32 (.tmp rfl)) rfl rfl rfl ?_
   refine LW.p (PEv.lss (.tmp rfl) (.tmp rfl)) rfl rfl rfl ?_
   refine LW.p (PEv.move (.tmp rfl)) rfl rfl rfl ?_
   refine LW.g rfl rfl rfl rfl rfl rfl rfl (fun hc => PEv.move (.tmp rfl)) ?_
   refine LW.g rfl rfl rfl rfl rfl rfl rfl (fun hc => PEv.move (.tmp rfl)) ?_
   refine LW.g rfl rfl rfl rfl rfl rfl rfl (fun hc => PEv.indexAddr' Tryz.underlying32 Tryz.sizeOf3 (by first | exact .tmp rfl | exact .cond rfl (by first | assumption | simp_all)) (by first | exact .tmp rfl | exact .cond rfl (by first | assumption | simp_all)) (by have h0 := (show k < ks.length by simp at hc; omega); omega) (hau (show k < ks.length by simp at hc; omega)).2.1) ?_
   refine LW.g rfl rfl rfl rfl rfl rfl rfl (fun hc => PEv.load Tryz.isAgg3 (by first | exact .tmp rfl | exact .cond rfl (by first | assumption | simp_all)) (((hau (show k < ks.length by simp at hc; omega)).2.2).nth (j := 0) rfl)) ?_
   refine LW.g rfl rfl rfl rfl rfl rfl rfl (fun hc => PEv.move (.tmp rfl)) ?_
   refine LW.g rfl rfl rfl rfl rfl rfl rfl (fun hc => PEv.lss (by first | exact .tmp rfl | exact .cond rfl (by first | assumption | simp_all)) (by first | exact .tmp rfl | exact .cond rfl (by first | assumption | simp_all))) ?_
   refine LW.p (PEv.pick_and (.tmp rfl) (fun hp => (by first | exact .const _ | exact .tmp rfl | exact .cond rfl (by first | assumption | (rw [hp]; rfl) | (rw [hc, hp]; rfl) | simp_all)))) rfl rfl rfl ?_
   refine LW.nil (KW.then ?_)
   refine CW.cond (.tmp rfl) (fun h18 => ?_) (fun h18 => ?_)
   ·first | replace h18 := of_decide_eq_true h18 | replace h18 := of_decide_eq_false h18 | skip
    have h18k : k < ks.length ∧ u < n := by simp only [Bool.and_eq_true, decide_eq_true_eq] at h18; omega
    have hu := (hau h18k.1).1
    refine CW.skip (KW.then (CW.block (CW.region (LW.p (PEv.move (.tmp rfl)) rfl rfl rfl ?_))))
    refine LW.p (PEv.inc (.tmp rfl) (by omega)) rfl rfl rfl ?_
    refine LW.p (PEv.assign (.tmp rfl)) rfl rfl rfl (LW.nil (KW.inBlock (KW.round ?_)))
    exact ⟨k + 1, ⟨by omega, (fun y hy => by rw [take_succ_of hu, List.mem_append, List.mem_singleton] at hy; exact hy.elim (hlo y) (fun e => by rw [e]; exact h18k.2)), hS⟩, ⟨rfl, rfl, rfl, rfl, trivial⟩, by first | omega | (dsimp only; omega)⟩
   ·first | replace h18 := of_decide_eq_true h18 | replace h18 := of_decide_eq_false h18 | skip
    have h18k : k < ks.length → ¬ u < n := fun h h2 => by rw [decide_eq_true (show (k : Int) < (ks.length : Int) by omega), decide_eq_true h2] at h18; cases h18
    refine CW.exit (KW.then_exit (KW.then_exit (KW.block_hit (KW.then (CW.seq (CW.seq (CW.region (LW.p (PEv.move (.tmp rfl)) rfl rfl rfl (LW.p (PEv.move (.tmp rfl)) rfl rfl rfl ?_)))))))))
    refine LW.p (PEv.lenS Tryz.underlying32 (.tmp rfl)) rfl rfl rfl ?_
    refine LW.p (PEv.lss (.tmp rfl) (.tmp rfl)) rfl rfl rfl ?_
    refine LW.p (PEv.move (.tmp rfl)) rfl rfl rfl ?_
    refine LW.g rfl rfl rfl rfl rfl rfl rfl (fun hc => PEv.move (.tmp rfl)) ?_
    refine LW.g rfl rfl rfl rfl rfl rfl rfl (fun hc => PEv.move (.tmp rfl)) ?_
    refine LW.g rfl rfl rfl rfl rfl rfl rfl (fun hc => PEv.indexAddr' Tryz.underlying32 Tryz.sizeOf3 (by first | exact .tmp rfl | exact .cond rfl (by first | assumption | simp_all)) (by first | exact .tmp rfl | exact .cond rfl (by first | assumption | simp_all)) (by have h0 := (show k < ks.length by simp at hc; omega); omega) (hau (show k < ks.length by simp at hc; omega)).2.1) ?_
    refine LW.g rfl rfl rfl rfl rfl rfl rfl (fun hc => PEv.load Tryz.isAgg3 (by first | exact .tmp rfl | exact .cond rfl (by first | assumption | simp_all)) (((hau (show k < ks.length by simp at hc; omega)).2.2).nth (j := 0) rfl)) ?_
    refine LW.g rfl rfl rfl rfl rfl rfl rfl (fun hc => PEv.move (.tmp rfl)) ?_
    refine LW.g rfl rfl rfl rfl rfl rfl rfl (fun hc => PEv.eql (by first | exact .tmp rfl | exact .cond rfl (by first | assumption | simp_all)) (by first | exact .tmp rfl | exact .cond rfl (by first | assumption | simp_all))) ?_
    refine LW.p (PEv.pick_and (.tmp rfl) (fun hp => (by first | exact .const _ | exact .tmp rfl | exact .cond rfl (by first | assumption | (rw [hp]; rfl) | (rw [hc, hp]; rfl) | simp_all)))) rfl rfl rfl ?_
    refine LW.nil (KW.then ?_)
    refine CW.cond (.tmp rfl) (fun h32 => ?_) (fun h32 => ?_)
    ·first | replace h32 := of_decide_eq_true h32 | replace h32 := of_decide_eq_false h32 | skip
     have h32k : k < ks.length ∧ u = n := by simp only [Bool.and_eq_true, decide_eq_true_eq] at h32; omega
     have hu := (hau h32k.1).1
     refine CW.seq (CW.region (LW.p (PEv.move (.tmp rfl)) rfl rfl rfl (LW.p (PEv.assign (.tmp rfl)) rfl rfl rfl (LW.nil (KW.then (CW.ret (KW.then_ret ?_)))))))
     refine KW.ret1 rfl rfl ⟨_, rfl, ?_⟩
     first | exact ⟨by rw [← add_found hlt (List.mem_of_getElem? (h32k.2 ▸ hu))]; exact ⟨ad, cp, rfl, Els.up hE hS.upd, hcp⟩, hS.upd⟩ | exact ⟨by rw [← add_new hlt hlo hdg]; exact OwnS.slc (hS.own 0 rfl), hS.upd⟩
    ·first | replace h32 := of_decide_eq_true h32 | replace h32 := of_decide_eq_false h32 | skip
     have hk2 : k < ks.length → ∃ u, ks[k]? = some u ∧ n < u := fun h => ⟨u, (hau h).1, by
      have h2 : ¬ u = n := fun e => by rw [decide_eq_true (show (k : Int) < (ks.length : Int) by omega), decide_eq_true e] at h32; cases h32
      have := h18k h
      omega⟩
     refine CW.skip (KW.then (CW.seq (CW.region (LW.p (PEv.assign (.const _)) rfl rfl rfl (LW.nil (KW.then (CW.seq ?_)))))))
     replace hS := hS.addn (OwnS.nil _ 0 3 1 eInt)
     change Wx.Sep _ _ _ [_] at hS
     have hdg := drop_gt hlt hk2
     refine CW.region (LW.p (PEv.move (.tmp rfl)) rfl rfl rfl (LW.p (PEv.move (.tmp rfl)) rfl rfl rfl (LW.p (PEv.move (.tmp rfl)) rfl rfl rfl ?_)))
     refine LW.p (PEv.sliceHi Tryz.underlying32 Tryz.sizeOf3 (.tmp rfl) (.tmp rfl) (by omega)) rfl rfl rfl ?_
     refine LW.r (REv.appendF (enc := eInt) (bytes := 8) (i := Tryz.t3) Tryz.underlying32 (by kernel_rfl) rfl rfl rfl rfl (by decide) (fun _ => rfl) eInt_one (.tmp rfl) (.tmp rfl) (hS.own 0 rfl) (by have := (Els.take (j := k) hE); exact ⟨ad, cp, by rw [List.length_take, Nat.min_eq_left hk], Els.up this hS.upd⟩) (by have := hks; simp [maxLen]; omega) (by have := hks; simp; omega)) rfl rfl rfl rfl ?_
     intro v38 w2 Gw2
     have zw2 := Gw2.fr.size
     replace hS := hS.stp 0 rfl Gw2
     change Wx.Sep _ _ _ [_] at hS
     refine LW.p (PEv.assign (.tmp rfl)) rfl rfl rfl (LW.nil (KW.then (CW.seq (CW.region (LW.p (PEv.move (.tmp rfl)) rfl rfl rfl (LW.p (PEv.move (.tmp rfl)) rfl rfl rfl ?_))))))
     refine LW.r (REv.buildSlice (xs := [n]) (enc := eInt) (mk := vi) Tryz.underlying32 Tryz.sizeOf3 Tryz.zeroValue3 rfl (by decide) (fun _ => rfl) (fun _ => rfl) (.cons (.tmp rfl) .nil) rfl) rfl rfl rfl rfl ?_
     rintro _ w3 ⟨B41, cB41, rfl, NB41, yB41, xB41⟩
     have eB41 := NB41.at_
     have zB41 := NB41.size
     replace hS := hS.up NB41.up
     have hE41 := xB41
     refine LW.r (REv.appendF (enc := eInt) (bytes := 8) (i := Tryz.t3) Tryz.underlying32 (by kernel_rfl) rfl rfl rfl rfl (by decide) (fun _ => rfl) eInt_one (.tmp rfl) (.tmp rfl) (hS.own 0 rfl) (Sl.of_els hE41) (by have := hks; simp [maxLen]; omega) (by have := hks; simp; omega)) rfl rfl rfl rfl ?_
     intro v42 w4 Gw4
     have zw4 := Gw4.fr.size
     replace hS := hS.stp 0 rfl Gw4
     change Wx.Sep _ _ _ [_] at hS
     refine LW.p (PEv.assign (.tmp rfl)) rfl rfl rfl (LW.nil (KW.then (CW.seq (CW.region (LW.p (PEv.move (.tmp rfl)) rfl rfl rfl (LW.p (PEv.move (.tmp rfl)) rfl rfl rfl (LW.p (PEv.move (.tmp rfl)) rfl rfl rfl ?_)))))))
     refine LW.p (PEv.sliceFrom Tryz.underlying32 Tryz.sizeOf3 (.tmp rfl) (.tmp rfl) (by omega)) rfl rfl rfl ?_
     refine LW.r (REv.appendF (enc := eInt) (bytes := 8) (i := Tryz.t3) Tryz.underlying32 (by kernel_rfl) rfl rfl rfl rfl (by decide) (fun _ => rfl) eInt_one (.tmp rfl) (.tmp rfl) (hS.own 0 rfl) (Els.drop (Els.up hE hS.upd) hcp) (by have := hks; simp [maxLen]; omega) (by have := hks; simp; omega)) rfl rfl rfl rfl ?_
     intro v47 w5 Gw5
     have zw5 := Gw5.fr.size
     replace hS := hS.stp 0 rfl Gw5
     change Wx.Sep _ _ _ [_] at hS
     refine LW.p (PEv.assign (.tmp rfl)) rfl rfl rfl (LW.nil (KW.then (CW.ret ?_)))
     refine KW.ret1 rfl rfl ⟨_, rfl, ?_⟩
     first | exact ⟨by rw [← add_found hlt (List.mem_of_getElem? (h32k.2 ▸ hu))]; exact ⟨ad, cp, rfl, Els.up hE hS.upd, hcp⟩, hS.upd⟩ | exact ⟨by rw [← add_new hlt hlo hdg]; exact OwnS.slc (hS.own 0 rfl), hS.upd⟩
theorem rMembers_any (bc : Array Go.Value) (b : Base) (lot time : Int) (w : World) (hC : BaseC w bc b) (hl : b.Lots.length ≤ 1000000) : Ret Tryz.prog 27 #[.agg bc, vi lot, vi time] w fun r w' => Sl w' r 1 eInt (membersL b.Lots lot time) ∧ Up w w' := by
  have hW := Up.refl w
  obtain ⟨w0, rfl⟩ : ∃ w0, w0 = w := ⟨_, rfl⟩
  refine Calls_start (n := 54) (m := 9) Tryz.func27 rfl rfl rfl ?_
  refine CW.seq (CW.region ?_)
  refine LW.r (REv.boxA (.tmp rfl)) rfl rfl rfl rfl ?_
  rintro _ w1 ⟨B3, rfl, NB3⟩
  have eB3 := NB3.at_
  have zB3 := NB3.size
  replace hC := hC.up NB3.up
  replace hW := hW.up NB3.up
  have hB3 := NB3.blk
  refine LW.p (PEv.assign (.const _)) rfl rfl rfl (LW.nil (KW.then (CW.seq (CW.seq (CW.region (LW.p (PEv.move (.tmp rfl)) rfl rfl rfl ?_))))))
  refine LW.c (enter_call0 (.cons (.tmp rfl) .nil) (Tryz.en39)) rfl rfl rfl rfl (rid_any _ _) ?_
  rintro _ w2 ⟨rfl, uw2⟩
  have zw2 := uw2.size
  replace hC := hC.up uw2
  replace hW := hW.up uw2
  replace hB3 := hB3.up uw2
  refine LW.p (PEv.not (.tmp rfl)) rfl rfl rfl ?_
  refine LW.nil (KW.then ?_)
  refine CW.cond (.tmp rfl) (fun h13 => ?_) (fun h13 => ?_)
  ·first | replace h13 := of_decide_eq_true h13 | replace h13 := of_decide_eq_false h13 | skip
   have hi : isIDb lot = false := by simpa using h13
   refine CW.seq (CW.region (LW.p (PEv.assign (.const _)) rfl rfl rfl (LW.nil (KW.then (CW.ret (KW.then_ret ?_))))))
   refine KW.ret1 rfl rfl ⟨_, rfl, ?_⟩
   first | exact ⟨by rw [members_no hi]; exact Sl.nil _ _ _, hW⟩ | exact ⟨by have hkl : k = b.Lots.length := (by omega); rw [hkl, List.take_length] at hV; exact hV.sl, hW⟩
  ·first | replace h13 := of_decide_eq_true h13 | replace h13 := of_decide_eq_false h13 | skip
   have hi : isIDb lot = true := by simpa using h13
   refine CW.skip (KW.then (CW.seq (CW.region (LW.p (PEv.assign (.const _)) rfl rfl rfl (LW.nil (KW.then (CW.seq (CW.seq (CW.region (LW.p (PEv.assign (.const _)) rfl rfl rfl (LW.nil (KW.then (CW.block ?_)))))))))))))
   refine CW.loopB (σ := Nat × Go.Value) (fun s w => (s.1 ≤ b.Lots.length) ∧ (Up w0 w) ∧ (Blk w B3 bc 24) ∧ (BaseC w bc b) ∧ (SlC w s.2 (sortI (memK b.Lots lot time (b.Lots.take s.1))))) (fun s => [(8, .eq (vi (s.1 : Int))), (7, .eq (s.2))]) ([(1, .eq _), (2, .eq _), (3, .eq _), (6, .eq _)]) (fun s => b.Lots.length - s.1) (0, .slice none 0 0) ?_ ⟨rfl, rfl, rfl, rfl, rfl, rfl, trivial⟩ ?_
   ·exact ⟨Nat.zero_le _, hW, hB3, hC, SlC.nil0 _⟩
   ·rintro ⟨k, v⟩ w3 ⟨hk, hW, hB3, hC, hV⟩
    dsimp only at hk hV
    change CW _ _ _ _ _ _ _ ([(8, .eq (vi (k : Int))), (7, .eq (v))] ++ _) _
    refine CW.seq (CW.seq ?_)
    obtain ⟨v3, h3, ad, cp, rfl, hE⟩ := hC.at3
    refine CW.region (LW.p (PEv.move (.tmp rfl)) rfl rfl rfl ?_)
    refine LW.p (PEv.fieldAddr (off := 3) Tryz.underlying24 rfl rfl Tryz.sizeOf22 rfl (.tmp rfl)) rfl rfl rfl ?_
    refine LW.p (PEv.load Tryz.isAgg22 (.tmp rfl) (hB3.cell h3)) rfl rfl rfl ?_
    refine LW.p (PEv.lenS Tryz.underlying22 (.tmp rfl)) rfl rfl rfl ?_
    refine LW.p (PEv.lss (.tmp rfl) (.tmp rfl)) rfl rfl rfl ?_
    refine LW.nil (KW.then ?_)
    refine CW.cond (.tmp rfl) (fun h18 => ?_) (fun h18 => ?_)
    ·first | replace h18 := of_decide_eq_true h18 | replace h18 := of_decide_eq_false h18 | skip
     refine CW.skip (KW.then (CW.seq (CW.block (CW.seq ?_))))
     obtain ⟨x, hx⟩ := getElem?_of_lt (xs := b.Lots) (i := k) (by omega)
     obtain ⟨Bx, ox, ax, hcx⟩ := hE k x hx
     have hml := memK_len b.Lots lot time (b.Lots.take k)
     have hml2 : (b.Lots.take k).length ≤ k := by rw [List.length_take]; omega
     refine CW.draws (by kernel_rfl) (by kernel_rfl) rfl rfl ?_
     refine HW.p (PEv.loadA Tryz.isAgg24 Tryz.sizeOf24 (hC.size) (.tmp rfl) (hB3.agg)) rfl rfl ?_
     refine HW.p (PEv.fieldAddr (off := 3) Tryz.underlying24 rfl rfl Tryz.sizeOf22 rfl (.tmp rfl)) rfl rfl ?_
     refine HW.p (PEv.load Tryz.isAgg22 (.tmp rfl) (hB3.cell h3)) rfl rfl ?_
     refine HW.p (PEv.move (.tmp rfl)) rfl rfl ?_
     refine HW.p (PEv.indexAddr' Tryz.underlying22 Tryz.sizeOf46 (.tmp rfl) (.tmp rfl) (by omega) ax) rfl rfl ?_
     refine HW.p (PEv.fieldAddr (off := 7) Tryz.underlying46 rfl rfl Tryz.sizeOf3 rfl (.tmp rfl)) rfl rfl ?_
     refine HW.p (PEv.load Tryz.isAgg3 (.tmp rfl) (hcx.nth (j := 7) rfl)) rfl rfl ?_
     refine HW.p (PEv.move (.tmp rfl)) rfl rfl ?_
     refine HW.c (fun a w _ ha => enter_call0 (.cons (.tmp rfl) (.cons (.tmp rfl) (.cons (.tmp rfl) .nil))) (Tryz.en17) a ha) rfl rfl (fun w hu => rlot_any bc b x.Wafer time w (hC.up hu) (by omega)) ?_
     refine HW.p (PEv.move (.tmp rfl)) rfl rfl ?_
     refine HW.p (PEv.extract (.tmp rfl) rfl) rfl rfl ?_
     refine HW.p (PEv.extract (.tmp rfl) rfl) rfl rfl ?_
     refine HW.p (PEv.assign (.tmp rfl)) rfl rfl ?_
     refine HW.p (PEv.assign (.tmp rfl)) rfl rfl ?_
     refine HW.nil ?_
     intro w4 uw4
     have zw4 := uw4.size
     replace hW := hW.up uw4
     replace hB3 := hB3.up uw4
     replace hC := hC.up uw4
     replace hV := hV.up uw4
     refine KW.then (CW.seq ?_)
     obtain ⟨v3, h3, ad, cp, rfl, hE⟩ := hC.at3
     obtain ⟨Bx, ox, ax, hcx⟩ := hE k x hx
     refine CW.region (LW.p (PEv.move (.tmp rfl)) rfl rfl rfl (LW.p (PEv.move (.tmp rfl)) rfl rfl rfl ?_))
     refine LW.p (PEv.eql (.tmp rfl) (.tmp rfl)) rfl rfl rfl ?_
     refine LW.p (PEv.move (.tmp rfl)) rfl rfl rfl ?_
     refine LW.g rfl rfl rfl rfl rfl rfl rfl (fun hc => PEv.fieldAddr (off := 3) Tryz.underlying24 rfl rfl Tryz.sizeOf22 rfl (.tmp rfl)) ?_
     refine LW.g rfl rfl rfl rfl rfl rfl rfl (fun hc => PEv.load Tryz.isAgg22 (by first | exact .tmp rfl | exact .cond rfl (by first | assumption | simp_all)) (hB3.cell h3)) ?_
     refine LW.g rfl rfl rfl rfl rfl rfl rfl (fun hc => PEv.move (.tmp rfl)) ?_
     refine LW.g rfl rfl rfl rfl rfl rfl rfl (fun hc => PEv.indexAddr' Tryz.underlying22 Tryz.sizeOf46 (by first | exact .tmp rfl | exact .cond rfl (by first | assumption | simp_all)) (by first | exact .tmp rfl | exact .cond rfl (by first | assumption | simp_all)) (by omega) ax) ?_
     refine LW.g rfl rfl rfl rfl rfl rfl rfl (fun hc => PEv.fieldAddr (off := 7) Tryz.underlying46 rfl rfl Tryz.sizeOf3 rfl (by first | exact .tmp rfl | exact .cond rfl (by first | assumption | simp_all))) ?_
     refine LW.g rfl rfl rfl rfl rfl rfl rfl (fun hc => PEv.load Tryz.isAgg3 (by first | exact .tmp rfl | exact .cond rfl (by first | assumption | simp_all)) (hcx.nth (j := 7) rfl)) ?_
     refine LW.gc rfl rfl rfl rfl rfl rfl rfl rfl (fun hc => enter_call0 (.cons (by first | exact .tmp rfl | exact .cond rfl (by first | assumption | simp_all)) .nil) (Tryz.en39)) (fun hc => rid_any _ _) ?_
     intro w5 uw5
     have zw5 := uw5.size
     replace hW := hW.up uw5
     replace hB3 := hB3.up uw5
     replace hC := hC.up uw5
     replace hV := hV.up uw5
     refine LW.p (PEv.pick_and (.tmp rfl) (fun hp => (by first | exact .const _ | exact .tmp rfl | exact .cond rfl (by first | assumption | (rw [hp]; rfl) | (rw [hc, hp]; rfl) | simp_all)))) rfl rfl rfl ?_
     refine LW.nil (KW.then ?_)
     refine CW.cond (.tmp rfl) (fun h44 => ?_) (fun h44 => ?_)
     ·first | replace h44 := of_decide_eq_true h44 | replace h44 := of_decide_eq_false h44 | skip
      rw [memP_eq hi] at h44
      obtain ⟨v3, h3, ad, cp, rfl, hE⟩ := hC.at3
      obtain ⟨Bx, ox, ax, hcx⟩ := hE k x hx
      obtain ⟨adv, cpv, rfl, hEv, hcv⟩ := hV
      refine CW.region (LW.p (PEv.move (.tmp rfl)) rfl rfl rfl ?_)
      refine LW.p (PEv.fieldAddr (off := 3) Tryz.underlying24 rfl rfl Tryz.sizeOf22 rfl (.tmp rfl)) rfl rfl rfl ?_
      refine LW.p (PEv.load Tryz.isAgg22 (.tmp rfl) (hB3.cell h3)) rfl rfl rfl ?_
      refine LW.p (PEv.move (.tmp rfl)) rfl rfl rfl ?_
      refine LW.p (PEv.indexAddr' Tryz.underlying22 Tryz.sizeOf46 (.tmp rfl) (.tmp rfl) (by omega) ax) rfl rfl rfl ?_
      refine LW.p (PEv.fieldAddr (off := 7) Tryz.underlying46 rfl rfl Tryz.sizeOf3 rfl (.tmp rfl)) rfl rfl rfl ?_
      refine LW.p (PEv.load Tryz.isAgg3 (.tmp rfl) (hcx.nth (j := 7) rfl)) rfl rfl rfl ?_
      refine LW.c (enter_call0 (.cons (.tmp rfl) (.cons (.tmp rfl) .nil)) (Tryz.en48)) rfl rfl rfl rfl (radd_any adv cpv (sortI (memK b.Lots lot time (b.Lots.take k))) x.Wafer _ hEv hcv (by rw [sortI_len]; omega) (sortI_lt (memK_nodup _ _ _ _))) ?_
      rintro v52 w6 ⟨hV2, uw6⟩
      have zw6 := uw6.size
      replace hW := hW.up uw6
      replace hB3 := hB3.up uw6
      replace hC := hC.up uw6
      rw [sortI_addI] at hV2
      refine LW.p (PEv.assign (.tmp rfl)) rfl rfl rfl (LW.nil (KW.inBlock (KW.then (CW.region (LW.p (PEv.move (.tmp rfl)) rfl rfl rfl ?_)))))
      refine LW.p (PEv.inc (.tmp rfl) (by omega)) rfl rfl rfl ?_
      refine LW.p (PEv.assign (.tmp rfl)) rfl rfl rfl (LW.nil (KW.round ?_))
      first | exact ⟨(k + 1, v52), ⟨by show k + 1 ≤ _; omega, hW, hB3, hC, by first | (rw [memK_yes hx h44]; exact hV2) | (rw [memK_no hx h44]; exact hV)⟩, ⟨rfl, rfl, rfl, rfl, rfl, rfl, trivial⟩, by show b.Lots.length - (k + 1) < b.Lots.length - k; omega⟩ | exact ⟨(k + 1, v), ⟨by show k + 1 ≤ _; omega, hW, hB3, hC, by first | (rw [memK_yes hx h44]; exact hV2) | (rw [memK_no hx h44]; exact hV)⟩, ⟨rfl, rfl, rfl, rfl, rfl, rfl, trivial⟩, by show b.Lots.length - (k + 1) < b.Lots.length - k; omega⟩
     ·first | replace h44 := of_decide_eq_true h44 | replace h44 := of_decide_eq_false h44 | skip
      rw [memP_eq hi] at h44
      refine CW.skip (KW.inBlock (KW.then (CW.region (LW.p (PEv.move (.tmp rfl)) rfl rfl rfl ?_))))
      refine LW.p (PEv.inc (.tmp rfl) (by omega)) rfl rfl rfl ?_
      refine LW.p (PEv.assign (.tmp rfl)) rfl rfl rfl (LW.nil (KW.round ?_))
      first | exact ⟨(k + 1, v52), ⟨by show k + 1 ≤ _; omega, hW, hB3, hC, by first | (rw [memK_yes hx h44]; exact hV2) | (rw [memK_no hx h44]; exact hV)⟩, ⟨rfl, rfl, rfl, rfl, rfl, rfl, trivial⟩, by show b.Lots.length - (k + 1) < b.Lots.length - k; omega⟩ | exact ⟨(k + 1, v), ⟨by show k + 1 ≤ _; omega, hW, hB3, hC, by first | (rw [memK_yes hx h44]; exact hV2) | (rw [memK_no hx h44]; exact hV)⟩, ⟨rfl, rfl, rfl, rfl, rfl, rfl, trivial⟩, by show b.Lots.length - (k + 1) < b.Lots.length - k; omega⟩
    ·first | replace h18 := of_decide_eq_true h18 | replace h18 := of_decide_eq_false h18 | skip
     refine CW.exit (KW.then_exit (KW.then_exit (KW.block_hit (KW.then (CW.seq (CW.region (LW.p (PEv.move (.tmp rfl)) rfl rfl rfl (LW.p (PEv.assign (.tmp rfl)) rfl rfl rfl (LW.nil (KW.then (CW.ret ?_)))))))))))
     refine KW.ret1 rfl rfl ⟨_, rfl, ?_⟩
     first | exact ⟨by rw [members_no hi]; exact Sl.nil _ _ _, hW⟩ | exact ⟨by have hkl : k = b.Lots.length := (by omega); rw [hkl, List.take_length] at hV; exact hV.sl, hW⟩
theorem rWafers_any (bc : Array Go.Value) (b : Base) (w : World) (hC : BaseC w bc b) (hs : b.Swaps.length ≤ 1000000000) (hl : b.Lots.length ≤ 1000000) (hp : b.Processes.length ≤ 1000000) : Ret Tryz.prog 29 #[.agg bc] w fun r w' => Sl w' r 1 eInt (wafersL b.Lots b.Processes b.Swaps) ∧ Up w w' := by
  have hW := Up.refl w
  obtain ⟨w0, rfl⟩ : ∃ w0, w0 = w := ⟨_, rfl⟩
  refine Calls_start (n := 56) (m := 9) Tryz.func29 rfl rfl rfl ?_
  refine CW.seq (CW.region ?_)
  refine LW.r (REv.boxA (.tmp rfl)) rfl rfl rfl rfl ?_
  rintro _ w1 ⟨B1, rfl, NB1⟩
  have eB1 := NB1.at_
  have zB1 := NB1.size
  replace hC := hC.up NB1.up
  replace hW := hW.up NB1.up
  have hB1 := NB1.blk
  refine LW.p (PEv.assign (.const _)) rfl rfl rfl (LW.nil (KW.then (CW.seq (CW.region (LW.p (PEv.assign (.const _)) rfl rfl rfl (LW.nil (KW.then (CW.seq (CW.seq (CW.region (LW.p (PEv.assign (.const _)) rfl rfl rfl (LW.nil (KW.then ?_)))))))))))))
  refine CW.block ?_
  refine CW.loopB (σ := Nat × Go.Value) (fun s w => (s.1 ≤ b.Lots.length) ∧ (Up w0 w) ∧ (Blk w B1 bc 24) ∧ (BaseC w bc b) ∧ (SlC w s.2 (sortI ((lotK (b.Lots.take s.1)).filter isIDb)))) (fun s => [(4, .eq (vi (s.1 : Int))), (3, .eq (s.2))]) ([(1, .eq _), (2, .eq _)]) (fun s => b.Lots.length - s.1) (0, .slice none 0 0) ?_ ⟨rfl, rfl, rfl, rfl, trivial⟩ ?_
  ·exact ⟨Nat.zero_le _, hW, hB1, hC, SlC.nil0 _⟩
  ·rintro ⟨k, v⟩ w2 ⟨hk, hW, hB1, hC, hV⟩
   dsimp only at hk hV
   change CW _ _ _ _ _ _ _ ([(4, .eq (vi (k : Int))), (3, .eq (v))] ++ _) _
   refine CW.seq (CW.seq ?_)
   obtain ⟨v3, h3, ad, cp, rfl, hE⟩ := hC.at3
   refine CW.region (LW.p (PEv.move (.tmp rfl)) rfl rfl rfl ?_)
   refine LW.p (PEv.fieldAddr (off := 3) Tryz.underlying24 rfl rfl Tryz.sizeOf22 rfl (.tmp rfl)) rfl rfl rfl ?_
   refine LW.p (PEv.load Tryz.isAgg22 (.tmp rfl) (hB1.cell h3)) rfl rfl rfl ?_
   refine LW.p (PEv.lenS Tryz.underlying22 (.tmp rfl)) rfl rfl rfl ?_
   refine LW.p (PEv.lss (.tmp rfl) (.tmp rfl)) rfl rfl rfl ?_
   refine LW.nil (KW.then ?_)
   refine CW.cond (.tmp rfl) (fun h11 => ?_) (fun h11 => ?_)
   ·first | replace h11 := of_decide_eq_true h11 | replace h11 := of_decide_eq_false h11 | skip
    refine CW.skip (KW.then (CW.seq (CW.block (CW.seq ?_))))
    obtain ⟨x, hx⟩ := getElem?_of_lt (xs := b.Lots) (i := k) (by omega)
    obtain ⟨Bx, ox, ax, hcx⟩ := hE k x hx
    have hlk := Nat.le_trans (List.length_filter_le isIDb _) (lotK_len (b.Lots.take k))
    have hlk2 : (b.Lots.take k).length ≤ k := by rw [List.length_take]; omega
    refine CW.region ?_
    refine LW.p (PEv.fieldAddr (off := 3) Tryz.underlying24 rfl rfl Tryz.sizeOf22 rfl (.tmp rfl)) rfl rfl rfl ?_
    refine LW.p (PEv.load Tryz.isAgg22 (.tmp rfl) (hB1.cell h3)) rfl rfl rfl ?_
    refine LW.p (PEv.move (.tmp rfl)) rfl rfl rfl ?_
    refine LW.p (PEv.indexAddr' Tryz.underlying22 Tryz.sizeOf46 (.tmp rfl) (.tmp rfl) (by omega) ax) rfl rfl rfl ?_
    refine LW.p (PEv.fieldAddr (off := 7) Tryz.underlying46 rfl rfl Tryz.sizeOf3 rfl (.tmp rfl)) rfl rfl rfl ?_
    refine LW.p (PEv.load Tryz.isAgg3 (.tmp rfl) (hcx.nth (j := 7) rfl)) rfl rfl rfl ?_
    refine LW.c (enter_call0 (.cons (.tmp rfl) .nil) (Tryz.en39)) rfl rfl rfl rfl (rid_any _ _) ?_
    rintro _ w3 ⟨rfl, uw3⟩
    have zw3 := uw3.size
    replace hW := hW.up uw3
    replace hB1 := hB1.up uw3
    replace hC := hC.up uw3
    replace hV := hV.up uw3
    refine LW.nil (KW.then ?_)
    refine CW.cond (.tmp rfl) (fun h20 => ?_) (fun h20 => ?_)
    ·first | replace h20 := of_decide_eq_true h20 | replace h20 := of_decide_eq_false h20 | skip
     have hid := h20
     obtain ⟨v3, h3, ad, cp, rfl, hE⟩ := hC.at3
     obtain ⟨Bx, ox, ax, hcx⟩ := hE k x hx
     obtain ⟨adv, cpv, rfl, hEv, hcv⟩ := hV
     refine CW.region (LW.p (PEv.move (.tmp rfl)) rfl rfl rfl ?_)
     refine LW.p (PEv.fieldAddr (off := 3) Tryz.underlying24 rfl rfl Tryz.sizeOf22 rfl (.tmp rfl)) rfl rfl rfl ?_
     refine LW.p (PEv.load Tryz.isAgg22 (.tmp rfl) (hB1.cell h3)) rfl rfl rfl ?_
     refine LW.p (PEv.move (.tmp rfl)) rfl rfl rfl ?_
     refine LW.p (PEv.indexAddr' Tryz.underlying22 Tryz.sizeOf46 (.tmp rfl) (.tmp rfl) (by omega) ax) rfl rfl rfl ?_
     refine LW.p (PEv.fieldAddr (off := 7) Tryz.underlying46 rfl rfl Tryz.sizeOf3 rfl (.tmp rfl)) rfl rfl rfl ?_
     refine LW.p (PEv.load Tryz.isAgg3 (.tmp rfl) (hcx.nth (j := 7) rfl)) rfl rfl rfl ?_
     refine LW.c (enter_call0 (.cons (.tmp rfl) (.cons (.tmp rfl) .nil)) (Tryz.en48)) rfl rfl rfl rfl (radd_any adv cpv (sortI ((lotK (b.Lots.take k)).filter isIDb)) x.Wafer _ hEv hcv (by rw [sortI_len]; omega) (sortI_lt ((lotK_nodup _).filter _))) ?_
     rintro v28 w4 ⟨hV2, uw4⟩
     have zw4 := uw4.size
     replace hW := hW.up uw4
     replace hB1 := hB1.up uw4
     replace hC := hC.up uw4
     rw [sortI_addI, ← filt_add_yes _ hid] at hV2
     refine LW.p (PEv.assign (.tmp rfl)) rfl rfl rfl (LW.nil (KW.inBlock (KW.then (CW.region (LW.p (PEv.move (.tmp rfl)) rfl rfl rfl ?_)))))
     refine LW.p (PEv.inc (.tmp rfl) (by omega)) rfl rfl rfl ?_
     refine LW.p (PEv.assign (.tmp rfl)) rfl rfl rfl (LW.nil (KW.round ?_))
     first | exact ⟨(k + 1, v28), ⟨by show k + 1 ≤ _; omega, hW, hB1, hC, by rw [lotK_step hx]; first | exact hV2 | (rw [filt_add_no _ hid]; exact hV)⟩, ⟨rfl, rfl, rfl, rfl, trivial⟩, by show b.Lots.length - (k + 1) < b.Lots.length - k; omega⟩ | exact ⟨(k + 1, v), ⟨by show k + 1 ≤ _; omega, hW, hB1, hC, by rw [lotK_step hx]; first | exact hV2 | (rw [filt_add_no _ hid]; exact hV)⟩, ⟨rfl, rfl, rfl, rfl, trivial⟩, by show b.Lots.length - (k + 1) < b.Lots.length - k; omega⟩
    ·first | replace h20 := of_decide_eq_true h20 | replace h20 := of_decide_eq_false h20 | skip
     have hid := h20
     refine CW.skip (KW.inBlock (KW.then (CW.region (LW.p (PEv.move (.tmp rfl)) rfl rfl rfl ?_))))
     refine LW.p (PEv.inc (.tmp rfl) (by omega)) rfl rfl rfl ?_
     refine LW.p (PEv.assign (.tmp rfl)) rfl rfl rfl (LW.nil (KW.round ?_))
     first | exact ⟨(k + 1, v28), ⟨by show k + 1 ≤ _; omega, hW, hB1, hC, by rw [lotK_step hx]; first | exact hV2 | (rw [filt_add_no _ hid]; exact hV)⟩, ⟨rfl, rfl, rfl, rfl, trivial⟩, by show b.Lots.length - (k + 1) < b.Lots.length - k; omega⟩ | exact ⟨(k + 1, v), ⟨by show k + 1 ≤ _; omega, hW, hB1, hC, by rw [lotK_step hx]; first | exact hV2 | (rw [filt_add_no _ hid]; exact hV)⟩, ⟨rfl, rfl, rfl, rfl, trivial⟩, by show b.Lots.length - (k + 1) < b.Lots.length - k; omega⟩
   ·first | replace h11 := of_decide_eq_true h11 | replace h11 := of_decide_eq_false h11 | skip
    refine CW.exit (KW.then_exit (KW.then_exit (KW.block_hit (KW.then (CW.seq (CW.seq ?_))))))
    have hkl : k = b.Lots.length := by omega
    rw [hkl, List.take_length] at hV
    refine CW.region (LW.p (PEv.assign (.const _)) rfl rfl rfl (LW.nil (KW.then (CW.block ?_))))
    refine CW.loopB (σ := Nat × Go.Value) (fun s w => (s.1 ≤ b.Processes.length) ∧ (Up w0 w) ∧ (Blk w B1 bc 24) ∧ (BaseC w bc b) ∧ (SlC w s.2 (sortI ((proK b.Swaps (lotK b.Lots) (b.Processes.take s.1)).filter isIDb)))) (fun s => [(5, .eq (vi (s.1 : Int))), (3, .eq (s.2))]) ([(1, .eq _), (2, .eq _)]) (fun s => b.Processes.length - s.1) (0, v) ?_ ⟨rfl, rfl, rfl, rfl, trivial⟩ ?_
    ·exact ⟨Nat.zero_le _, hW, hB1, hC, hV⟩
    ·rintro ⟨j, v⟩ w5 ⟨hj, hW, hB1, hC, hV⟩
     dsimp only at hj hV
     change CW _ _ _ _ _ _ _ ([(5, .eq (vi (j : Int))), (3, .eq (v))] ++ _) _
     refine CW.seq (CW.seq ?_)
     obtain ⟨v0, h0, ad0, cp0, rfl, hEp⟩ := hC.at0
     refine CW.region (LW.p (PEv.move (.tmp rfl)) rfl rfl rfl ?_)
     refine LW.p (PEv.fieldAddr (off := 0) Tryz.underlying24 rfl rfl Tryz.sizeOf22 rfl (.tmp rfl)) rfl rfl rfl ?_
     refine LW.p (PEv.load Tryz.isAgg22 (.tmp rfl) (hB1.cell h0)) rfl rfl rfl ?_
     refine LW.p (PEv.lenS Tryz.underlying22 (.tmp rfl)) rfl rfl rfl ?_
     refine LW.p (PEv.lss (.tmp rfl) (.tmp rfl)) rfl rfl rfl ?_
     refine LW.nil (KW.then ?_)
     refine CW.cond (.tmp rfl) (fun h33 => ?_) (fun h33 => ?_)
     ·first | replace h33 := of_decide_eq_true h33 | replace h33 := of_decide_eq_false h33 | skip
      refine CW.skip (KW.then (CW.seq (CW.block (CW.seq ?_))))
      obtain ⟨y, hy⟩ := getElem?_of_lt (xs := b.Processes) (i := j) (by omega)
      obtain ⟨By, oy, ay, hcy⟩ := hEp j y hy
      have hlk := Nat.le_trans (List.length_filter_le isIDb _) (proK_len b.Swaps (lotK b.Lots) (b.Processes.take j))
      have hlk2 : (b.Processes.take j).length ≤ j := by rw [List.length_take]; omega
      have hlk3 := lotK_len b.Lots
      refine CW.draws_then 13 (by kernel_rfl) (by kernel_rfl) (by kernel_rfl) (by kernel_rfl) (by kernel_rfl) rfl rfl ?_
      refine HW.p (PEv.loadA Tryz.isAgg24 Tryz.sizeOf24 (hC.size) (.tmp rfl) (hB1.agg)) rfl rfl ?_
      refine HW.p (PEv.fieldAddr (off := 0) Tryz.underlying24 rfl rfl Tryz.sizeOf22 rfl (.tmp rfl)) rfl rfl ?_
      refine HW.p (PEv.load Tryz.isAgg22 (.tmp rfl) (hB1.cell h0)) rfl rfl ?_
      refine HW.p (PEv.move (.tmp rfl)) rfl rfl ?_
      refine HW.p (PEv.indexAddr' Tryz.underlying22 Tryz.sizeOf46 (.tmp rfl) (.tmp rfl) (by omega) ay) rfl rfl ?_
      refine HW.p (PEv.fieldAddr (off := 7) Tryz.underlying46 rfl rfl Tryz.sizeOf3 rfl (.tmp rfl)) rfl rfl ?_
      refine HW.p (PEv.load Tryz.isAgg3 (.tmp rfl) (hcy.nth (j := 7) rfl)) rfl rfl ?_
      refine HW.p (PEv.fieldAddr (off := 0) Tryz.underlying24 rfl rfl Tryz.sizeOf22 rfl (.tmp rfl)) rfl rfl ?_
      refine HW.p (PEv.load Tryz.isAgg22 (.tmp rfl) (hB1.cell h0)) rfl rfl ?_
      refine HW.p (PEv.move (.tmp rfl)) rfl rfl ?_
      refine HW.p (PEv.indexAddr' Tryz.underlying22 Tryz.sizeOf46 (.tmp rfl) (.tmp rfl) (by omega) ay) rfl rfl ?_
      refine HW.p (PEv.fieldAddr (off := 5) Tryz.underlying46 rfl rfl Tryz.sizeOf3 rfl (.tmp rfl)) rfl rfl ?_
      refine HW.p (PEv.load Tryz.isAgg3 (.tmp rfl) (hcy.nth (j := 5) rfl)) rfl rfl ?_
      refine HW.nil ?_
      intro w6 uw6
      have zw6 := uw6.size
      replace hW := hW.up uw6
      replace hB1 := hB1.up uw6
      replace hC := hC.up uw6
      replace hV := hV.up uw6
      refine LW.c (enter_call0 (.cons (.tmp rfl) (.cons (.tmp rfl) (.cons (.tmp rfl) .nil))) (Tryz.en19)) rfl rfl rfl rfl (rWho_any bc b y.Wafer y.Time _ hC hs) ?_
      rintro _ w7 ⟨rfl, uw7⟩
      have zw7 := uw7.size
      replace hW := hW.up uw7
      replace hB1 := hB1.up uw7
      replace hC := hC.up uw7
      replace hV := hV.up uw7
      refine LW.p (PEv.assign (.tmp rfl)) rfl rfl rfl (LW.nil (KW.then (CW.seq (CW.region (LW.p (PEv.move (.tmp rfl)) rfl rfl rfl ?_)))))
      refine LW.c (enter_call0 (.cons (.tmp rfl) .nil) (Tryz.en39)) rfl rfl rfl rfl (rid_any _ _) ?_
      rintro _ w8 ⟨rfl, uw8⟩
      have zw8 := uw8.size
      replace hW := hW.up uw8
      replace hB1 := hB1.up uw8
      replace hC := hC.up uw8
      replace hV := hV.up uw8
      refine LW.nil (KW.then ?_)
      refine CW.cond (.tmp rfl) (fun h51 => ?_) (fun h51 => ?_)
      ·first | replace h51 := of_decide_eq_true h51 | replace h51 := of_decide_eq_false h51 | skip
       have hid := h51
       obtain ⟨adv, cpv, rfl, hEv, hcv⟩ := hV
       refine CW.region (LW.p (PEv.move (.tmp rfl)) rfl rfl rfl (LW.p (PEv.move (.tmp rfl)) rfl rfl rfl ?_))
       refine LW.c (enter_call0 (.cons (.tmp rfl) (.cons (.tmp rfl) .nil)) (Tryz.en48)) rfl rfl rfl rfl (radd_any adv cpv (sortI ((proK b.Swaps (lotK b.Lots) (b.Processes.take j)).filter isIDb)) (whoL b.Swaps y.Time y.Wafer) _ hEv hcv (by rw [sortI_len]; omega) (sortI_lt ((proK_nodup _ _ (lotK_nodup _)).filter _))) ?_
       rintro v54 w9 ⟨hV2, uw9⟩
       have zw9 := uw9.size
       replace hW := hW.up uw9
       replace hB1 := hB1.up uw9
       replace hC := hC.up uw9
       rw [sortI_addI, ← filt_add_yes _ hid] at hV2
       refine LW.p (PEv.assign (.tmp rfl)) rfl rfl rfl (LW.nil (KW.inBlock (KW.then (CW.region (LW.p (PEv.move (.tmp rfl)) rfl rfl rfl ?_)))))
       refine LW.p (PEv.inc (.tmp rfl) (by omega)) rfl rfl rfl ?_
       refine LW.p (PEv.assign (.tmp rfl)) rfl rfl rfl (LW.nil (KW.round ?_))
       first | exact ⟨(j + 1, v54), ⟨by show j + 1 ≤ _; omega, hW, hB1, hC, by rw [proK_step hy]; first | exact hV2 | (rw [filt_add_no _ hid]; exact hV)⟩, ⟨rfl, rfl, rfl, rfl, trivial⟩, by show b.Processes.length - (j + 1) < b.Processes.length - j; omega⟩ | exact ⟨(j + 1, v), ⟨by show j + 1 ≤ _; omega, hW, hB1, hC, by rw [proK_step hy]; first | exact hV2 | (rw [filt_add_no _ hid]; exact hV)⟩, ⟨rfl, rfl, rfl, rfl, trivial⟩, by show b.Processes.length - (j + 1) < b.Processes.length - j; omega⟩
      ·first | replace h51 := of_decide_eq_true h51 | replace h51 := of_decide_eq_false h51 | skip
       have hid := h51
       refine CW.skip (KW.inBlock (KW.then (CW.region (LW.p (PEv.move (.tmp rfl)) rfl rfl rfl ?_))))
       refine LW.p (PEv.inc (.tmp rfl) (by omega)) rfl rfl rfl ?_
       refine LW.p (PEv.assign (.tmp rfl)) rfl rfl rfl (LW.nil (KW.round ?_))
       first | exact ⟨(j + 1, v54), ⟨by show j + 1 ≤ _; omega, hW, hB1, hC, by rw [proK_step hy]; first | exact hV2 | (rw [filt_add_no _ hid]; exact hV)⟩, ⟨rfl, rfl, rfl, rfl, trivial⟩, by show b.Processes.length - (j + 1) < b.Processes.length - j; omega⟩ | exact ⟨(j + 1, v), ⟨by show j + 1 ≤ _; omega, hW, hB1, hC, by rw [proK_step hy]; first | exact hV2 | (rw [filt_add_no _ hid]; exact hV)⟩, ⟨rfl, rfl, rfl, rfl, trivial⟩, by show b.Processes.length - (j + 1) < b.Processes.length - j; omega⟩
     ·first | replace h33 := of_decide_eq_true h33 | replace h33 := of_decide_eq_false h33 | skip
      refine CW.exit (KW.then_exit (KW.then_exit (KW.block_hit (KW.then (CW.seq (CW.region (LW.p (PEv.move (.tmp rfl)) rfl rfl rfl (LW.p (PEv.assign (.tmp rfl)) rfl rfl rfl (LW.nil (KW.then (CW.ret ?_)))))))))))
      refine KW.ret1 rfl rfl ⟨_, rfl, ?_⟩
      have hjl : j = b.Processes.length := by omega
      rw [hjl, List.take_length] at hV
      exact ⟨hV.sl, hW⟩
end Go.Proofs.YthfjagphcekcbaaGreat
end
