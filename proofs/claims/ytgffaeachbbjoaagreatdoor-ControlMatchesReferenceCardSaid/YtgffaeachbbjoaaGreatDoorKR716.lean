import Derived.Test.YtgffaeachbbjoaaGreatDoorKR715
section
namespace Go.Wx
theorem OwnS.keepT {α : Type} {enc : α → Array Value} {w w' : World} {b k : Nat} {e T : TypeId} {v : Value} {xs : List α} (h : OwnS w b e k enc v xs) (hne : Nat.beq e T = false) (u : KeepT T w w') : OwnS w' b e k enc v xs := by
 obtain ⟨h1, h2⟩ := h
 refine ⟨h1, ?_⟩
 rcases h2 with h2 | ⟨g, cap, cur, rfl, hb, hg, rest⟩
 · exact .inl h2
 exact .inr ⟨g, cap, cur, rfl, hb, u.obj g _ hg (fun _ _ e' => by cases e'; simp at hne), rest⟩
end Go.Wx
namespace Go.Proofs.YtgffaeachbbjoaaGreatDoor
open Go.Proofs.Tryz
open Go.Wx Go.RowKit
theorem rDecisions_sep (bc : Array Go.Value) (b : Base) (t c r : Int) (w : World) (hC : BaseC w bc b) (hlP : b.Processes.length ≤ 400) (hlR : b.Resets.length ≤ 100000) (hlM : b.Measures.length ≤ 100000) (hlT : b.Targets.length ≤ 100000) : Ret Tryz.prog 19 #[.agg bc, vi t, vi c, vi r] w fun r0 w' => ∃ v L, r0 = v ∧ L.map DP.dec = desF b t c r ∧ Wx.Sep no w w' [aOwn 37 6 DP.cells v L, aAnd (usesA 3 L)] := by
 obtain ⟨w0, rfl⟩ : ∃ w0, w0 = w := ⟨_, rfl⟩
 have hS := Sep.start no w0
 refine cS (n := 54) (m := 9) func19 rfl rfl rfl ?_
 refine CW.S ?_
 refine LW.rr (.boxA (.t rfl)) rfl ?_
 rintro _ w1 ⟨B4, rfl, NB4⟩
 have eB4 := NB4.at_
 have zB4 := NB4.size
 replace hS := hS.addB NB4
 change Wx.Sep _ _ _ [_] at hS
 refine LW.C (LW.S (CW.region ?_))
 refine LW.pp (.loadA isAgg24 sizeOf24 (hC.size) (.t rfl) ((hS.blk 0 rfl).agg)) ?_
 refine LW.M rfl (LW.M rfl (LW.M rfl ?_))
 refine LW.K (eC (.cons (.t rfl) (.cons (.t rfl) (.cons (.t rfl) (.cons (.t rfl) .nil)))) (en37)) rfl (rruns_any bc b t c r _ (hC.up hS.upd) oQ) ?_
 rintro v_ w2 ⟨hO_, uw2⟩
 have zw2 := uw2.size
 replace hS := hS.add uw2 (A' := aOwn 50 19 Fact.cells v_ (rnsF b t c r)) (hO_.mono (Nat.zero_le _)) (fun i h => (hO_.base i h))
 change Wx.Sep _ _ _ [_, _] at hS
 clear hO_
 have hrr : ∀ y ∈ rnsF b t c r, y.Recipe = r := fun y hy => (rns_mem.1 hy).2.2.2
 obtain ⟨rs, ers⟩ : ∃ R, R = rnsF b t c r := ⟨_, rfl⟩
 have hrl := rnsF_len b t c r
 rw [← ers] at hS hrl hrr
 obtain ⟨ad10, cp10, rfl, _⟩ := (hS.own 1 rfl).sl (fun _ => rfl)
 refine LW.A rfl (LW.S (CW.region (LW.C (LW.S (CW.seq ?_)))))
 replace hS := hS.add (Up.refl _) (A' := aOwn 37 6 DP.cells (.slice none 0 0) ([] : List DP)) (OwnS.nil _ _ _ _ _) (by intro i h; cases h)
 replace hS := hS.add (Up.refl _) (A' := aAnd (usesA 3 [])) ⟨by simp [usesA], by simp [usesA]⟩ (by rintro i ⟨A, hA, _⟩; simp [usesA] at hA)
 change Wx.Sep no _ _ [_, _, _, _] at hS
 refine CW.region (LW.C (LW.T (CW.block ?_)))
 refine CW.loopB (σ := Nat × Go.Value × List DP) (fun s w => (s.1 ≤ rs.length) ∧ (s.2.2.map DP.dec = (List.range s.1).map (decAt b t c r rs)) ∧ (Wx.Sep no w0 w [aBlk B4 bc 24, aOwn 50 19 Fact.cells (.slice ad10 rs.length cp10) rs, aOwn 37 6 DP.cells s.2.1 s.2.2, aAnd (usesA 3 s.2.2)])) (fun s => [(11, .eq (vi (s.1 : Int))), (10, .eq (s.2.1))]) ([(1, .eq _), (2, .eq _), (3, .eq _), (4, .eq _), (9, .eq _)]) (fun s => rs.length - s.1) (0, .slice none 0 0, []) ?_ ⟨rfl, rfl, rfl, rfl, rfl, rfl, rfl, trivial⟩ ?_
 ·exact ⟨Nat.zero_le _, rfl, hS⟩
 rintro ⟨k, v, L⟩ w3 ⟨hk, hL, hS⟩
 dsimp only at hk hL hS
 have hLl : L.length = k := by have h := congrArg List.length hL; simpa using h
 change CW _ _ _ _ _ _ _ ([(11, .eq (vi (k : Int))), (10, .eq (v))] ++ _) _
 refine CW.seq (CW.S (LW.M rfl (LW.M rfl ?_)))
 refine LW.pp (.lenS underlying22 (.t rfl)) ?_
 refine LW.pp (.lss (.t rfl) (.t rfl)) ?_
 refine LW.T ?_
 refine CW.cond (.t rfl) (fun h22 => ?_) (fun h22 => ?_)
 ·replace h22 := dQ h22
  refine CW.skip (KW.then (CW.seq (CW.block (CW.seq ?_))))
  obtain ⟨x, hx⟩ := getElem?_of_lt (xs := rs) (i := k) oQ
  obtain ⟨Bx, ox, ax, hcx⟩ := (show Els w3 ad10 19 Fact.cells rs from (hS.own 1 rfl).els (fun _ => rfl)) k x hx
  refine CW.boxU 19 16 17 14 12 39 (DP.cells ⟨dec0, none, 0⟩) [.eq (.agg bc), .eq (vi t), .eq (vi c), .eq (vi r), .eq (.slice ad10 rs.length cp10), .eq (vi (k : Int)), .eq (.pointer (some ⟨Bx, ox + k * 19, none⟩)), .eq (.pointer (some ⟨Bx, ox + k * 19 + 5, none⟩)), .eq (vi x.Time), .eq (.slice ad10 rs.length cp10), .eq (vi (k : Int)), .eq (.slice ad10 (rs.take k).length cp10), .pred fun v W => ∃ ad cp, v = .tuple #[.agg (DP.cells ⟨decF b t c r x.Time (rs.take k), ad, cp⟩), .bool true] ∧ OwnS W w3.drew.heap.size 3 1 eInt (.slice ad (decF b t c r x.Time (rs.take k)).uses.length cp) (decF b t c r x.Time (rs.take k)).uses, .pred fun v W => ∃ ad cp, v = .tuple #[.agg (DP.cells ⟨decF b t c r x.Time (rs.take k), ad, cp⟩), .bool true] ∧ OwnS W w3.drew.heap.size 3 1 eInt (.slice ad (decF b t c r x.Time (rs.take k)).uses.length cp) (decF b t c r x.Time (rs.take k)).uses, .pred fun v W => ∃ ad cp, v = .agg (DP.cells ⟨decF b t c r x.Time (rs.take k), ad, cp⟩) ∧ OwnS W w3.drew.heap.size 3 1 eInt (.slice ad (decF b t c r x.Time (rs.take k)).uses.length cp) (decF b t c r x.Time (rs.take k)).uses, .eq (.bool true), .pred fun v _ => ∃ B, v = .pointer (some ⟨B, 0, none⟩), .eq undef, .eq (.bool true)] [13] zeroValue37 sizeOf37 kQ rfl kQ kQ kQ kQ kQ kQ kQ rfl rfl ⟨_, _, _, rfl⟩ _ rfl ⟨_, _, _, rfl⟩ ⟨PhT.eq _ _, PhT.eq _ _, PhT.eq _ _, PhT.eq _ _, PhT.eq _ _, PhT.eq _ _, PhT.eq _ _, PhT.eq _ _, PhT.eq _ _, PhT.eq _ _, PhT.eq _ _, PhT.eq _ _, PhT.pred fun _ _ _ h u => let ⟨ad, cp, e, hb⟩ := h; ⟨ad, cp, e, hb.keepT cQ u⟩, PhT.pred fun _ _ _ h u => let ⟨ad, cp, e, hb⟩ := h; ⟨ad, cp, e, hb.keepT cQ u⟩, PhT.pred fun _ _ _ h u => let ⟨ad, cp, e, hb⟩ := h; ⟨ad, cp, e, hb.keepT cQ u⟩, PhT.eq _ _, PhT.pred fun _ _ _ h _ => h, PhT.eq _ _, PhT.eq _ _, trivial⟩ rfl (fun v W h => let ⟨ad, cp, e, _⟩ := h; ⟨_, e, rfl, DP.one _⟩) (fun B W => ⟨B, rfl⟩) ?_ ?_
  ·intro W hU0
   have hU := (Up.drew w3).trans hU0
   have hSW := hS.up hU
   have zU0 := hU0.size
   have hcp := (hSW.own 1 rfl).lcp
   have hEW : Els W ad10 19 Fact.cells rs := (hSW.own 1 rfl).els (fun _ => rfl)
   refine aC (.inr ⟨rfl, TU.p (.loadA isAgg24 sizeOf24 hC.size (.t rfl) ((hSW.blk 0 rfl).agg)) rfl⟩) ?_
   refine aC (.inr ⟨rfl, TU.p (.move (.t rfl)) rfl⟩) ?_
   refine aC (.inr ⟨rfl, TU.p (.move (.t rfl)) rfl⟩) ?_
   refine aC (.inr ⟨rfl, TU.p (.move (.t rfl)) rfl⟩) ?_
   refine aC (.inr ⟨rfl, TU.p (.move (.t rfl)) rfl⟩) ?_
   refine aC (.inr ⟨rfl, TU.p (.move (.t rfl)) rfl⟩) ?_
   refine aC (.inr ⟨rfl, TU.p (.indexAddr' underlying22 sizeOf50 (.t rfl) (.t rfl) oQ ax) rfl⟩) ?_
   refine aC (.inr ⟨rfl, TU.p (.fA 5 underlying50 rfl sizeOf3 rfl) rfl⟩) ?_
   refine aC (.inr ⟨rfl, TU.p (.ld isAgg3 rfl ((els_again hEW hx ax).nth (j := 5) rfl)) rfl⟩) ?_
   refine aC (.inr ⟨rfl, TU.p (.move (.t rfl)) rfl⟩) ?_
   refine aC (.inr ⟨rfl, TU.p (.move (.t rfl)) rfl⟩) ?_
   refine aC (.inr ⟨rfl, TU.p (.vl (PEv.sliceHi underlying22 sizeOf50 (.t rfl) (.t rfl) oQ) (by rw [List.length_take, Nat.min_eq_left (by omega)])) rfl⟩) ?_
   refine aC (.inr ⟨rfl, TU.c (eC (.cons (.t rfl) (.cons (.t rfl) (.cons (.t rfl) (.cons (.t rfl) (.cons (.t rfl) (.cons (.t rfl) .nil)))))) (en38)) (rdecide_any bc b t c r x.Time ad10 cp10 (rs.take k) W (hC.up (hS.upd.trans hU)) (Els.take hEW) (fun y hy => hrr y (List.mem_of_mem_take hy)) (by rw [List.length_take]; omega) hlR hlM hlT) (by rintro v W1 ⟨adu, cpu, rfl, ho, hu⟩; exact ⟨hu, adu, cpu, rfl, ho.mono zU0⟩)⟩) ?_
   refine aC (.inr ⟨rfl, TU.open (d := 38) rfl (by rintro _ ⟨adu, cpu, rfl, ho⟩; exact TU.p (.move (.t rfl)) ⟨adu, cpu, rfl, ho⟩)⟩) ?_
   refine aC (.inr ⟨rfl, TU.open (d := 25) rfl (by rintro _ ⟨adu, cpu, rfl, ho⟩; exact TU.p (.extract (.t rfl) rfl) ⟨adu, cpu, rfl, ho⟩)⟩) ?_
   refine aC (.inr ⟨rfl, TU.open (d := 25) rfl (by rintro _ ⟨adu, cpu, rfl, ho⟩; exact TU.p (.extract (.t rfl) rfl) rfl)⟩) ?_
   refine aC (.inl (.inl rfl)) ?_
   refine aC (.inl (.inr rfl)) ?_
   refine aC (.inr ⟨rfl, TU.p (.assign (.t rfl)) rfl⟩) ?_
   exact allL.nil
  intro w4 B12 g hU0 zB12_ hB12 hg
  have hU := (Up.drew w3).trans hU0
  have zw4 := hU.size
  have zdr : w3.drew.heap.size = w3.heap.size := rfl
  obtain ⟨ad7, cp7, e39, ho7⟩ : ∃ ad cp, g 39 = .agg (DP.cells ⟨decF b t c r x.Time (rs.take k), ad, cp⟩) ∧ OwnS w4 w3.drew.heap.size 3 1 eInt (.slice ad (decF b t c r x.Time (rs.take k)).uses.length cp) (decF b t c r x.Time (rs.take k)).uses := hg 14 _ 39 cQ rfl rfl
  have e13 : g 13 = .bool true := hg 18 _ 13 cQ rfl rfl
  rw [e39] at hB12
  replace hB12 : Blk w4 B12 (DP.cells ⟨decF b t c r x.Time (rs.take k), ad7, cp7⟩) 37 := hB12
  change LW _ _ _ _ _ _ _ _ ((12, _) :: (13, .eq (g 13)) :: _) _
  rw [e13]
  clear e39 e13 hg
  replace hS := (hS.up (Up.drew _)).add2 hU0 (A := aBlk B12 (DP.cells ⟨decF b t c r x.Time (rs.take k), ad7, cp7⟩) 37) (B := aOwn 3 1 eInt (.slice ad7 (decF b t c r x.Time (rs.take k)).uses.length cp7) (decF b t c r x.Time (rs.take k)).uses) hB12 (ho7.mono (Nat.zero_le _)) (fun i (e : i = B12) => by omega) (fun i h => ho7.base i h) (fun i (e : i = B12) h2 => own_blk ho7 hB12 cQ (e ▸ h2))
  clear ho7 hB12
  change Wx.Sep no _ _ [_, _, _, _, _, _] at hS
  refine LW.S (CW.S (LW.M rfl ?_))
  refine LW.pp (.fa (PEv.not (.t rfl)) (rfl)) ?_
  refine LW.T ?_
  refine CW.cond_false (.t rfl) ?_
  refine CW.skip (KW.then (CW.seq ?_))
  replace hcx := els_again (show Els w4 ad10 19 Fact.cells rs from (hS.own 1 rfl).els (fun _ => rfl)) hx ax
  refine CW.region (LW.M rfl (LW.M rfl ?_))
  refine LW.pp (.indexAddr' underlying22 sizeOf50 (.t rfl) (.t rfl) oQ ax) ?_
  refine LW.pp (.fA 1 underlying50 rfl sizeOf3 rfl) ?_
  refine LW.pp (.ld isAgg3 rfl (hcx.nth (j := 1) rfl)) ?_
  refine LW.pp (.fA 0 underlying37 rfl sizeOf3 rfl) ?_
  refine LW.E (.store sizeOf3 (.t rfl) (.t rfl) rfl (hS.blk 4 rfl) (Nat.le_of_ble_eq_true rfl)) ?_
  intro w5 Nw5
  have zw5 := Nw5.size
  replace hS := hS.putB 4 rfl (show Set_ _ w5 _ (DP.cells ⟨{ decF b t c r x.Time (rs.take k) with run := x.ID }, ad7, cp7⟩) _ from Nw5)
  change Wx.Sep _ _ _ [_, _, _, _, _, _] at hS
  clear hcx
  refine LW.T (CW.region (LW.M rfl ?_))
  refine LW.pp (.la isAgg37 sizeOf37 rfl ((hS.blk 4 rfl).agg)) ?_
  refine LW.rr (.buildSlice (xs := [(⟨{ decF b t c r x.Time (rs.take k) with run := x.ID }, ad7, cp7⟩ : DP)]) (enc := DP.cells) (mk := fun p => .agg p.cells) underlying43 sizeOf37 zeroValue37 rfl cQ (fun _ => rfl) (fun _ => rfl) (.cons (.t rfl) .nil) rfl) rfl ?_
  rintro _ w6 ⟨B51, cB51, rfl, NB51, yB51, xB51⟩
  have eB51 := NB51.at_
  have zB51 := NB51.size
  replace hS := hS.up NB51.up
  have hE51 := xB51
  refine LW.rr (.appendF (enc := DP.cells) (bytes := 64) (i := Tryz.t37) underlying43 kQ rfl rfl rfl rfl cQ (fun _ => rfl) DP.one (.t rfl) (.t rfl) (hS.own 2 rfl) (Sl.of_els hE51) (by simp [maxLen]; omega) (by simp; omega)) rfl ?_
  intro v52 w7 Gw7
  have zw7 := Gw7.fr.size
  replace hS := hS.stp 2 rfl Gw7
  change Wx.Sep _ _ _ [_, _, _, _, _, _] at hS
  refine LW.A rfl (LW.nil (KW.inBlock (KW.then ?_)))
  have h9 := Sep.snocA (Bs := [_, _, _]) (hS.sub (.cons_cons _ (.cons_cons _ (.cons_cons _ (.cons_cons _ (.cons _ (.cons_cons _ .slnil)))))))
  replace h9 : Wx.Sep no w0 w7 ([_, _, _] ++ [aAnd (usesA 3 L ++ [aOwn 3 1 eInt (DP.uv ⟨{ decF b t c r x.Time (rs.take k) with run := x.ID }, ad7, cp7⟩) (DP.dec ⟨{ decF b t c r x.Time (rs.take k) with run := x.ID }, ad7, cp7⟩).uses])]) := h9
  rw [usesA_snoc] at h9
  refine CW.region (LW.M rfl ?_)
  refine LW.pp (.add (.t rfl) (.const _) oQ oQ) ?_
  refine LW.A rfl (LW.nil (KW.round ?_))
  exact ⟨(k + 1, v52, L ++ [(⟨{ decF b t c r x.Time (rs.take k) with run := x.ID }, ad7, cp7⟩ : DP)]), ⟨by show k + 1 ≤ _; omega, by rw [List.map_append, map_range_succ, hL, decAt_some hx]; rfl, h9⟩, ⟨rfl, rfl, rfl, rfl, rfl, rfl, rfl, trivial⟩, by show rs.length - (k + 1) < rs.length - k; omega⟩
 replace h22 := dQ h22
 refine CW.exit (KW.then_exit (KW.then_exit (KW.block_hit (KW.then (CW.S (LW.M rfl (LW.A rfl (LW.T (CW.ret ?_)))))))))
 refine KW.ret1 rfl rfl ⟨_, rfl, ?_⟩
 have hkl : k = rs.length := by omega
 exact ⟨v, L, rfl, by rw [hL, hkl, ers]; rfl, hS.sub (.cons _ (.cons _ (.cons_cons _ (.cons_cons _ .slnil))))⟩
theorem rDecisions_any (bc : Array Go.Value) (b : Base) (t c r : Int) (w : World) (hC : BaseC w bc b) (hlP : b.Processes.length ≤ 400) (hlR : b.Resets.length ≤ 100000) (hlM : b.Measures.length ≤ 100000) (hlT : b.Targets.length ≤ 100000) : Ret Tryz.prog 19 #[.agg bc, vi t, vi c, vi r] w fun r0 w' => DecsE w' r0 (desF b t c r) ∧ Up w w' :=
 (rDecisions_sep bc b t c r w hC hlP hlR hlM hlT).mono fun _ _ ⟨_, _, e, hm, hT⟩ => ⟨by rw [e]; exact decsE_of hT hm, hT.upd⟩
theorem rDecide_any (bc : Array Go.Value) (b : Base) (t c r time : Int) (w : World) (hC : BaseC w bc b) (hlP : b.Processes.length ≤ 400) (hlR : b.Resets.length ≤ 100000) (hlM : b.Measures.length ≤ 100000) (hlT : b.Targets.length ≤ 100000) : Ret Tryz.prog 15 #[.agg bc, vi t, vi c, vi r, vi time] w fun r0 w' => ∃ v, r0 = .tuple #[v, vi 0] ∧ DecE w' v (decNow b t c r time) ∧ Up w w' := by
 obtain ⟨w0, rfl⟩ : ∃ w0, w0 = w := ⟨_, rfl⟩
 have hS := Sep.start no w0
 refine cS (n := 56) (m := 9) func15 rfl rfl rfl ?_
 refine CW.S ?_
 refine LW.rr (.boxA (.t rfl)) rfl ?_
 rintro _ w1 ⟨B5, rfl, NB5⟩
 have eB5 := NB5.at_
 have zB5 := NB5.size
 replace hS := hS.addB NB5
 change Wx.Sep _ _ _ [_] at hS
 refine LW.rr (.allocA zeroValue37) rfl ?_
 rintro _ w2 ⟨B10, rfl, NB10⟩
 have eB10 := NB10.at_
 have zB10 := NB10.size
 replace hS := hS.addB NB10
 change Wx.Sep _ _ _ [_, _] at hS
 refine LW.C (LW.S (CW.region ?_))
 refine LW.pp (.loadA isAgg24 sizeOf24 (hC.size) (.t rfl) ((hS.blk 0 rfl).agg)) ?_
 refine LW.M rfl (LW.M rfl (LW.M rfl ?_))
 refine LW.K (eC (.cons (.t rfl) (.cons (.t rfl) (.cons (.t rfl) (.cons (.t rfl) .nil)))) (en37)) rfl (rruns_any bc b t c r _ (hC.up hS.upd) oQ) ?_
 rintro v_ w3 ⟨hO_, uw3⟩
 have zw3 := uw3.size
 replace hS := hS.add uw3 (A' := aOwn 50 19 Fact.cells v_ (rnsF b t c r)) (hO_.mono (Nat.zero_le _)) (fun i h => (hO_.base i h))
 change Wx.Sep _ _ _ [_, _, _] at hS
 clear hO_
 have hrr : ∀ y ∈ rnsF b t c r, y.Recipe = r := fun y hy => (rns_mem.1 hy).2.2.2
 obtain ⟨rs, ers⟩ : ∃ R, R = rnsF b t c r := ⟨_, rfl⟩
 have hrl := rnsF_len b t c r
 rw [← ers] at hS hrl hrr
 obtain ⟨ad10, cp10, rfl, _⟩ := (hS.own 2 rfl).sl (fun _ => rfl)
 refine LW.A rfl (LW.S (CW.region (LW.C (LW.S (CW.seq ?_)))))
 replace hS := hS.add (Up.refl _) (A' := aOwn 50 19 Fact.cells (.slice none 0 0) ([] : List Fact)) (OwnS.nil _ _ _ _ _) (by intro i h; cases h)
 change Wx.Sep no _ _ [_, _, _, _] at hS
 refine CW.region (LW.C (LW.T (CW.block ?_)))
 refine CW.loopB (σ := Nat × Go.Value) (fun s w => (s.1 ≤ rs.length) ∧ (Wx.Sep no w0 w [aBlk B5 bc 24, aBlk B10 (DP.cells ⟨dec0, none, 0⟩) 37, aOwn 50 19 Fact.cells (.slice ad10 rs.length cp10) rs, aOwn 50 19 Fact.cells (s.2) ((rs.take s.1).filter (fun x => decide (x.Time ≤ time)))])) (fun s => [(14, .eq (vi (s.1 : Int))), (13, .eq (s.2))]) ([(1, .eq _), (2, .eq _), (3, .eq _), (4, .eq _), (5, .eq _), (10, .eq _), (11, .eq _), (12, .eq _)]) (fun s => rs.length - s.1) (0, .slice none 0 0) ?_ ⟨rfl, rfl, rfl, rfl, rfl, rfl, rfl, rfl, rfl, rfl, trivial⟩ ?_
 ·exact ⟨Nat.zero_le _, hS⟩
 rintro ⟨k, v⟩ w4 ⟨hk, hS⟩
 dsimp only at hk hS
 change CW _ _ _ _ _ _ _ ([(14, .eq (vi (k : Int))), (13, .eq (v))] ++ _) _
 refine CW.seq (CW.S (LW.M rfl (LW.M rfl ?_)))
 refine LW.pp (.lenS underlying22 (.t rfl)) ?_
 refine LW.pp (.lss (.t rfl) (.t rfl)) ?_
 refine LW.T ?_
 refine CW.cond (.t rfl) (fun h25 => ?_) (fun h25 => ?_)
 ·replace h25 := dQ h25
  refine CW.skip (KW.then (CW.seq (CW.block (CW.seq ?_))))
  obtain ⟨x, hx⟩ := getElem?_of_lt (xs := rs) (i := k) oQ
  obtain ⟨Bx, ox, ax, hcx⟩ := (show Els w4 ad10 19 Fact.cells rs from (hS.own 2 rfl).els (fun _ => rfl)) k x hx
  refine CW.region (LW.M rfl (LW.M rfl ?_))
  refine LW.pp (.indexAddr' underlying22 sizeOf50 (.t rfl) (.t rfl) oQ ax) ?_
  refine LW.pp (.fA 5 underlying50 rfl sizeOf3 rfl) ?_
  refine LW.pp (.ld isAgg3 rfl (hcx.nth (j := 5) rfl)) ?_
  refine LW.M rfl ?_
  refine LW.pp (.leq (.t rfl) (.t rfl)) ?_
  refine LW.T ?_
  refine CW.cond (.t rfl) (fun h34 => ?_) (fun h34 => ?_)
  ·replace h34 := dQ h34
   have hp : (fun x => decide (x.Time ≤ time)) x = true := decide_eq_true h34
   refine CW.region (LW.M rfl (LW.M rfl (LW.M rfl ?_)))
   refine LW.pp (.indexAddr' underlying22 sizeOf50 (.t rfl) (.t rfl) oQ ax) ?_
   refine LW.pp (.la isAgg50 sizeOf50 rfl (hcx)) ?_
   refine LW.rr (.buildSlice (xs := [x]) (enc := Fact.cells) (mk := fun f : Fact => .agg f.cells) underlying22 sizeOf50 zeroValue50 rfl cQ (fun _ => rfl) (fun _ => rfl) (.cons (.t rfl) .nil) rfl) rfl ?_
   rintro _ w5 ⟨B40, cB40, rfl, NB40, yB40, xB40⟩
   have eB40 := NB40.at_
   have zB40 := NB40.size
   replace hS := hS.up NB40.up
   replace hcx := hcx.up NB40.up
   have hE40 := xB40
   refine LW.rr (.appendF (enc := Fact.cells) (bytes := 160) (i := Tryz.t50) underlying22 kQ rfl rfl rfl rfl cQ (fun _ => rfl) Fact.one (.t rfl) (.t rfl) (hS.own 3 rfl) (Sl.of_els hE40) (by have := filt_len (fun x => decide (x.Time ≤ time)) rs k; simp [maxLen]; omega) (by have := filt_len (fun x => decide (x.Time ≤ time)) rs k; simp; omega)) rfl ?_
   intro v41 w6 Gw6
   have zw6 := Gw6.fr.size
   replace hS := hS.stp 3 rfl Gw6
   change Wx.Sep _ _ _ [_, _, _, _] at hS
   refine LW.A rfl (LW.nil (KW.inBlock (KW.then (CW.region (LW.M rfl ?_)))))
   refine LW.pp (.inc (.t rfl) oQ) ?_
   refine LW.A rfl (LW.nil (KW.round ?_))
   first | exact ⟨(k + 1, v41), ⟨by show k + 1 ≤ _; omega, by first | (rw [fp_yes hx hp]; exact hS.take 4) | (rw [fp_no hx hp]; exact hS.take 4)⟩, ⟨rfl, rfl, rfl, rfl, rfl, rfl, rfl, rfl, rfl, rfl, trivial⟩, by show rs.length - (k + 1) < rs.length - k; omega⟩ | exact ⟨(k + 1, v), ⟨by show k + 1 ≤ _; omega, by first | (rw [fp_yes hx hp]; exact hS.take 4) | (rw [fp_no hx hp]; exact hS.take 4)⟩, ⟨rfl, rfl, rfl, rfl, rfl, rfl, rfl, rfl, rfl, rfl, trivial⟩, by show rs.length - (k + 1) < rs.length - k; omega⟩
  replace h34 := dQ h34
  have hp : (fun x => decide (x.Time ≤ time)) x = false := decide_eq_false h34
  refine CW.skip (KW.inBlock (KW.then (CW.region (LW.M rfl ?_))))
  refine LW.pp (.inc (.t rfl) oQ) ?_
  refine LW.A rfl (LW.nil (KW.round ?_))
  first | exact ⟨(k + 1, v41), ⟨by show k + 1 ≤ _; omega, by first | (rw [fp_yes hx hp]; exact hS.take 4) | (rw [fp_no hx hp]; exact hS.take 4)⟩, ⟨rfl, rfl, rfl, rfl, rfl, rfl, rfl, rfl, rfl, rfl, trivial⟩, by show rs.length - (k + 1) < rs.length - k; omega⟩ | exact ⟨(k + 1, v), ⟨by show k + 1 ≤ _; omega, by first | (rw [fp_yes hx hp]; exact hS.take 4) | (rw [fp_no hx hp]; exact hS.take 4)⟩, ⟨rfl, rfl, rfl, rfl, rfl, rfl, rfl, rfl, rfl, rfl, trivial⟩, by show rs.length - (k + 1) < rs.length - k; omega⟩
 replace h25 := dQ h25
 refine CW.exit (KW.then_exit (KW.then_exit (KW.block_hit (KW.then (CW.seq ?_)))))
 have hkl : k = rs.length := by omega
 rw [hkl, List.take_length] at hS
 obtain ⟨adv, cpv, rfl, _⟩ := (hS.own 3 rfl).sl (fun _ => rfl)
 have hEv : Els w4 adv 19 Fact.cells (rs.filter (fun x => decide (x.Time ≤ time))) := (hS.own 3 rfl).els (fun _ => rfl)
 refine CW.region ?_
 refine LW.pp (.loadA isAgg24 sizeOf24 (hC.size) (.t rfl) ((hS.blk 0 rfl).agg)) ?_
 refine LW.M rfl (LW.M rfl (LW.M rfl (LW.M rfl (LW.M rfl ?_))))
 refine LW.K (eC (.cons (.t rfl) (.cons (.t rfl) (.cons (.t rfl) (.cons (.t rfl) (.cons (.t rfl) (.cons (.t rfl) .nil)))))) (en38)) rfl (rdecide_any bc b t c r time adv cpv (rs.filter (fun x => decide (x.Time ≤ time))) _ (hC.up hS.upd) hEv (fun y hy => hrr y (List.mem_filter.1 hy).1) (Nat.le_trans (List.length_filter_le _ _) oQ) hlR hlM hlT) ?_
 rintro _ w7 ⟨ad9, cp9, rfl, hO9, uw7⟩
 have zw7 := uw7.size
 replace hS := hS.add uw7 (A' := aOwn 3 1 eInt (.slice ad9 (decF b t c r time (rs.filter (fun x => decide (x.Time ≤ time)))).uses.length cp9) (decF b t c r time (rs.filter (fun x => decide (x.Time ≤ time)))).uses) (hO9.mono (Nat.zero_le _)) (fun i h => hO9.base i h)
 change Wx.Sep _ _ _ [_, _, _, _, _] at hS
 clear hO9
 refine LW.M rfl (LW.pp (.extract (.t rfl) rfl) (LW.pp (.extract (.t rfl) rfl) ?_))
 refine LW.rr (.allocA zeroValue37) rfl ?_
 rintro _ w8 ⟨B15, rfl, MB15⟩
 refine LW.E (.storeA sizeOf37 rfl (.t rfl) (.t rfl) (DP.one _) MB15.blk rfl) ?_
 intro w9 LB15
 have NB15 := MB15.set LB15
 clear LB15 MB15
 have eB15 := NB15.at_
 have zB15 := NB15.size
 replace hS := hS.addB NB15
 change Wx.Sep _ _ _ [_, _, _, _, _, _] at hS
 refine LW.A rfl (LW.S (CW.S (LW.M rfl ?_)))
 refine LW.pp (.fa (PEv.not (.t rfl)) (rfl)) ?_
 refine LW.T ?_
 refine CW.cond_false (.t rfl) ?_
 refine CW.skip (KW.then (CW.S ?_))
 refine LW.pp (.la isAgg37 sizeOf37 rfl ((hS.blk 5 rfl).agg)) ?_
 refine LW.E (.storeA sizeOf37 rfl (.t rfl) (.t rfl) (DP.one _) (hS.blk 1 rfl) rfl) ?_
 intro w10 Nw10
 have zw10 := Nw10.size
 replace hS := hS.putB 1 rfl (show Set_ _ w10 _ (DP.cells ⟨decF b t c r time (rs.filter (fun x => decide (x.Time ≤ time))), ad9, cp9⟩) _ from Nw10)
 change Wx.Sep _ _ _ [_, _, _, _, _, _] at hS
 refine LW.C (LW.T (CW.ret ?_))
 refine KW.retAT rfl rfl rfl isAgg37 sizeOf37 rfl ((hS.blk 1 rfl)).agg ⟨_, rfl, ?_⟩
 have eN : decF b t c r time (rs.filter (fun x => decide (x.Time ≤ time))) = decNow b t c r time := by rw [ers]; rfl
 exact ⟨_, rfl, ⟨ad9, cp9, by rw [eN], by rw [← eN]; exact (hS.own 4 rfl).sl (fun _ => rfl)⟩, hS.upd⟩
theorem rExplain_any (bc : Array Go.Value) (b : Base) (id : Int) (w : World) (hC : BaseC w bc b) (hlP : b.Processes.length ≤ 400) (hlR : b.Resets.length ≤ 100000) (hlM : b.Measures.length ≤ 100000) (hlT : b.Targets.length ≤ 100000) (hV : ∀ f ∈ b.Processes, inI f.Value) : Ret Tryz.prog 21 #[.agg bc, vi id] w fun r0 w' => ∃ v, r0 = .tuple #[v, .bool (expF b id).2.1, vi (expF b id).2.2] ∧ DecE w' v (expF b id).1 ∧ Up w w' := by
 obtain ⟨w0, rfl⟩ : ∃ w0, w0 = w := ⟨_, rfl⟩
 have hS := Sep.start no w0
 refine cS (n := 65) (m := 9) func21 rfl rfl rfl ?_
 refine CW.S ?_
 refine LW.rr (.boxA (.t rfl)) rfl ?_
 rintro _ w1 ⟨B2, rfl, NB2⟩
 have eB2 := NB2.at_
 have zB2 := NB2.size
 replace hS := hS.addB NB2
 change Wx.Sep _ _ _ [_] at hS
 refine LW.rr (.allocA zeroValue37) rfl ?_
 rintro _ w2 ⟨B4, rfl, NB4⟩
 have eB4 := NB4.at_
 have zB4 := NB4.size
 replace hS := hS.addB NB4
 change Wx.Sep _ _ _ [_, _] at hS
 refine LW.C (LW.C (LW.S ?_))
 cases hq1 : procB b id with
 | none =>
  refine CW.region ?_
  refine LW.pp (.loadA isAgg24 sizeOf24 (hC.size) (.t rfl) ((hS.blk 0 rfl).agg)) ?_
  refine LW.M rfl ?_
  refine LW.K (eC (.u rfl rfl) (en42)) rfl (rProcess_any bc b id _ (hC.up hS.upd) oQ) ?_
  rintro _ w3 ⟨rfl, uw3⟩
  have zw3 := uw3.size
  replace hS := hS.up uw3
  rw [hq1]
  refine LW.M rfl (LW.pp (.extract (.t rfl) rfl) (LW.pp (.extract (.t rfl) rfl) ?_))
  refine LW.rr (.allocA zeroValue50) rfl ?_
  rintro _ w4 ⟨B7, rfl, MB7⟩
  refine LW.E (.storeA sizeOf50 rfl (.t rfl) (.t rfl) (Fact.one _) MB7.blk rfl) ?_
  intro w5 LB7
  have NB7 := MB7.set LB7
  clear LB7 MB7
  have eB7 := NB7.at_
  have zB7 := NB7.size
  replace hS := hS.addB NB7
  change Wx.Sep _ _ _ [_, _, _] at hS
  refine LW.A rfl (LW.S (CW.S (LW.M rfl ?_)))
  refine LW.pp (.tr (PEv.not (.t rfl)) (rfl)) ?_
  refine LW.T ?_
  refine CW.cond_true (.t rfl) ?_
  refine CW.S ?_
  refine LW.pp (.build (cs := DP.cells ⟨dec0, none, 0⟩) underlying37 zeroValue37 Tryz.places37 .nil kQ) ?_
  refine LW.E (.storeA sizeOf37 rfl (.t rfl) (.t rfl) (DP.one _) (hS.blk 1 rfl) rfl) ?_
  intro w6 Nw6
  have zw6 := Nw6.size
  replace hS := hS.putB 1 rfl (show Set_ _ w6 _ (DP.cells ⟨dec0, none, 0⟩) _ from Nw6)
  change Wx.Sep _ _ _ [_, _, _] at hS
  refine LW.C (LW.C (LW.T (CW.ret (KW.then_ret ?_))))
  refine KW.retATT rfl rfl rfl rfl isAgg37 sizeOf37 rfl (hS.blk 1 rfl).agg ⟨_, rfl, ?_⟩
  rw [expF_none hq1]
  exact ⟨_, rfl, ⟨none, 0, rfl, Sl.nil _ _ _⟩, hS.upd⟩
 | some f =>
  refine CW.region ?_
  refine LW.pp (.loadA isAgg24 sizeOf24 (hC.size) (.t rfl) ((hS.blk 0 rfl).agg)) ?_
  refine LW.M rfl ?_
  refine LW.K (eC (.u rfl rfl) (en42)) rfl (rProcess_any bc b id _ (hC.up hS.upd) oQ) ?_
  rintro _ w7 ⟨rfl, uw7⟩
  have zw7 := uw7.size
  replace hS := hS.up uw7
  rw [hq1]
  refine LW.M rfl (LW.pp (.extract (.t rfl) rfl) (LW.pp (.extract (.t rfl) rfl) ?_))
  refine LW.rr (.allocA zeroValue50) rfl ?_
  rintro _ w8 ⟨B7, rfl, MB7⟩
  refine LW.E (.storeA sizeOf50 rfl (.t rfl) (.t rfl) (Fact.one _) MB7.blk rfl) ?_
  intro w9 LB7
  have NB7 := MB7.set LB7
  clear LB7 MB7
  have eB7 := NB7.at_
  have zB7 := NB7.size
  replace hS := hS.addB NB7
  change Wx.Sep _ _ _ [_, _, _] at hS
  refine LW.A rfl (LW.S (CW.S (LW.M rfl ?_)))
  refine LW.pp (.fa (PEv.not (.t rfl)) (rfl)) ?_
  refine LW.T ?_
  refine CW.cond_false (.t rfl) ?_
  refine CW.skip (KW.then (CW.S ?_))
  refine LW.pp (.loadA isAgg24 sizeOf24 (hC.size) (.t rfl) ((hS.blk 0 rfl).agg)) ?_
  refine LW.pp (.fA 11 underlying50 rfl sizeOf3 rfl) ?_
  refine LW.pp (.ld isAgg3 rfl ((hS.blk 2 rfl).celln rfl)) ?_
  refine LW.pp (.fA 12 underlying50 rfl sizeOf3 rfl) ?_
  refine LW.pp (.ld isAgg3 rfl ((hS.blk 2 rfl).celln rfl)) ?_
  refine LW.pp (.fA 14 underlying50 rfl sizeOf3 rfl) ?_
  refine LW.pp (.ld isAgg3 rfl ((hS.blk 2 rfl).celln rfl)) ?_
  refine LW.K (eC (.cons (.t rfl) (.cons (.t rfl) (.cons (.t rfl) (.cons (.t rfl) .nil)))) (en19)) rfl (rDecisions_sep bc b f.Tool f.Chamber f.Recipe _ (hC.up hS.upd) hlP hlR hlM hlT) ?_
  rintro _ w10 ⟨v29, L, rfl, hm, hT⟩
  replace hS := hS.join hT
  change Wx.Sep no _ _ [_, _, _, _, _] at hS
  have hLl : L.length ≤ 400 := by have h1 := congrArg List.length hm; rw [List.length_map, desF_len] at h1; have h2 := rnsF_len b f.Tool f.Chamber f.Recipe; omega
  obtain ⟨ad29, cp29, rfl, _⟩ := (hS.own 3 rfl).sl (fun _ => rfl)
  refine LW.A rfl (LW.S (CW.S (LW.C (LW.T (CW.block ?_)))))
  refine CW.loopB (σ := Nat) (fun s w => (s ≤ L.length) ∧ (∀ y ∈ L.take s, decide (y.dec.run = id) = false) ∧ (Wx.Sep no w0 w [aBlk B2 bc 24, aBlk B4 (DP.cells ⟨dec0, none, 0⟩) 37, aBlk B7 f.cells 50, aOwn 37 6 DP.cells (.slice ad29 L.length cp29) L, aAnd (usesA 3 L)])) (fun s => [(10, .eq (vi (s : Int)))]) ([(1, .eq _), (4, .eq _), (7, .eq _), (9, .eq _)]) (fun s => L.length - s) 0 ?_ ⟨rfl, rfl, rfl, rfl, rfl, trivial⟩ ?_
  ·exact ⟨Nat.zero_le _, (by simp), hS⟩
  rintro k w11 ⟨hk, hn, hS⟩
  refine CW.seq (CW.S (LW.M rfl (LW.M rfl ?_)))
  refine LW.pp (.lenS underlying43 (.t rfl)) ?_
  refine LW.pp (.lss (.t rfl) (.t rfl)) ?_
  refine LW.T ?_
  refine CW.cond (.t rfl) (fun h33 => ?_) (fun h33 => ?_)
  ·replace h33 := dQ h33
   refine CW.skip (KW.then (CW.seq (CW.block (CW.seq ?_))))
   obtain ⟨x, hx⟩ := getElem?_of_lt (xs := L) (i := k) oQ
   obtain ⟨Bx, ox, ax, hcx⟩ := (show Els w11 ad29 6 DP.cells L from (hS.own 3 rfl).els (fun _ => rfl)) k x hx
   have hnB : Bx ≠ B4 := fun e => hS.ne (i := 1) (j := 3) cQ rfl rfl B4 rfl (by show (Go.Value.slice ad29 L.length cp29).ownBlock = some B4; rw [ax, e]; rfl)
   refine CW.region (LW.M rfl (LW.M rfl ?_))
   refine LW.pp (.indexAddr' underlying43 sizeOf37 (.t rfl) (.t rfl) oQ ax) ?_
   refine LW.pp (.fA 0 underlying37 rfl sizeOf3 rfl) ?_
   refine LW.pp (.ld isAgg3 rfl (dp_run hcx)) ?_
   refine LW.M rfl ?_
   refine LW.pp (.eql (.t rfl) (.t rfl)) ?_
   refine LW.T ?_
   refine CW.cond (.t rfl) (fun h42 => ?_) (fun h42 => ?_)
   ·replace h42 := dQ h42
    refine CW.S ?_
    refine LW.pp (.fA 16 underlying50 rfl sizeOf3 rfl) ?_
    refine LW.pp (.ld isAgg3 rfl ((hS.blk 2 rfl).celln rfl)) ?_
    refine LW.K (eC (.cons (.t rfl) (.cons (.const _) .nil)) (en43)) rfl (rmake_any f.Value 1000 _ (hV f (procB_mem hq1)) cQ ⟨by decide, by decide⟩) ?_
    rintro _ w12 ⟨rfl, uw12⟩
    have zw12 := uw12.size
    replace hS := hS.up uw12
    replace hcx := hcx.up uw12
    refine LW.M rfl (LW.pp (.extract (.t rfl) rfl) (LW.pp (.extract (.t rfl) rfl) ?_))
    refine LW.rr (.allocA zeroValue34) rfl ?_
    rintro _ w13 ⟨B11, rfl, MB11⟩
    refine LW.E (.storeA sizeOf34 rfl (.t rfl) (.t rfl) (Rt.one _) MB11.blk rfl) ?_
    intro w14 LB11
    have NB11 := MB11.set LB11
    clear LB11 MB11
    have eB11 := NB11.at_
    have zB11 := NB11.size
    replace hcx := hcx.up NB11.up
    replace hS := hS.addB NB11
    change Wx.Sep _ _ _ [_, _, _, _, _, _] at hS
    refine LW.A rfl (LW.S ?_)
    cases hq10 : fitsF f.Value 1000 with
    | true =>
     have h47 : decide ((mkF f.Value 1000).2 = 0) = true := by rw [mkF_fits hq10]; rfl
     refine CW.freeS 16 15 [.slice ad29 L.length cp29, vi (k : Int), .pointer (some ⟨Bx, ox + k * 6, none⟩), .agg x.cells, vi (mkF f.Value 1000).2, .bool true, .bool true, .agg (mkF f.Value 1000).1.cells, .slice ad29 L.length cp29, vi (k : Int), .pointer (some ⟨Bx, ox + k * 6, none⟩), .pointer (some ⟨Bx, ox + k * 6 + 1, none⟩), .agg x.dec.par.cells, .bool (rtB (mkF f.Value 1000).1 x.dec.par), .bool (true && rtB (mkF f.Value 1000).1 x.dec.par), undef] [14] ((· = B4)) (fun W => Blk W B4 (DP.cells ⟨dec0, none, 0⟩) 37) (fun W => Blk W B4 x.cells 37) kQ rfl kQ kQ kQ kQ kQ kQ kQ cQ ((hS.up (Up.drew _)).blk 1 rfl) (fun _ _ h u => h.up u) (fun _ _ h u => h.up u) ?_ ?_ kQ
     ·intro W hU0
      have hU := ((Up.drew w14).fr ((· = B4))).trans hU0
      have hcW : AggAt W Bx (ox + k * 6) x.cells := fun j v hv => cell_fr (hcx j v hv) hU hnB
      have hB11 : Blk W B11 (mkF f.Value 1000).1.cells 34 := (hS.blk 5 rfl).fr hU (fun e => hS.blkNe 1 5 cQ rfl rfl e.symm)
      refine aC ⟨fun _ => TW.p (PEv.move (.t rfl)) rfl, fun e => absurd e cQ⟩ ?_
      refine aC ⟨fun _ => TW.p (PEv.move (.t rfl)) rfl, fun e => absurd e cQ⟩ ?_
      refine aC ⟨fun _ => TW.p (PEv.indexAddr' underlying43 sizeOf37 (.t rfl) (.t rfl) oQ ax) rfl, fun e => absurd e cQ⟩ ?_
      refine aC ⟨fun _ => TW.p (PEv.la isAgg37 sizeOf37 rfl (hcW)) rfl, fun e => absurd e cQ⟩ ?_
      refine aC ⟨fun _ => TW.p (PEv.move (.t rfl)) rfl, fun e => absurd e cQ⟩ ?_
      refine aC ⟨fun _ => TW.p (PEv.tr (PEv.eql (.t rfl) (.const _)) h47) rfl, fun e => absurd e cQ⟩ ?_
      refine aC ⟨fun _ => TW.p (PEv.move (.t rfl)) rfl, fun e => absurd e cQ⟩ ?_
      refine aC ⟨fun _ => TW.yp (PEv.la isAgg34 sizeOf34 rfl (hB11.agg)) rfl rfl rfl rfl rfl, fun e => absurd e cQ⟩ ?_
      refine aC ⟨fun _ => TW.yp (PEv.move (.t rfl)) rfl rfl rfl rfl rfl, fun e => absurd e cQ⟩ ?_
      refine aC ⟨fun _ => TW.yp (PEv.move (.t rfl)) rfl rfl rfl rfl rfl, fun e => absurd e cQ⟩ ?_
      refine aC ⟨fun _ => TW.yp (PEv.indexAddr' underlying43 sizeOf37 (.t rfl) (.t rfl) oQ ax) rfl rfl rfl rfl rfl, fun e => absurd e cQ⟩ ?_
      refine aC ⟨fun _ => TW.yp (PEv.fA 1 underlying37 rfl sizeOf34 rfl) rfl rfl rfl rfl rfl, fun e => absurd e cQ⟩ ?_
      refine aC ⟨fun _ => TW.yp (PEv.la isAgg34 sizeOf34 rfl (dp_par hcW)) rfl rfl rfl rfl rfl, fun e => absurd e cQ⟩ ?_
      refine aC ⟨fun _ => TW.yp (PEv.eqlA eqGuardType34 (Tryz.eqRt _ _) (.t rfl) (.t rfl)) rfl rfl rfl rfl rfl, fun e => absurd e cQ⟩ ?_
      refine aC ⟨fun _ => TW.p (PEv.pick_and (.t rfl) (fun _ => .tmp rfl)) rfl, fun e => absurd e cQ⟩ ?_
      refine aC ⟨fun e => absurd rfl e, fun _ => ⟨fun hpre => SEv.mono (SEv.storeA sizeOf37 rfl (.t rfl) (.t rfl) (DP.one x) hpre rfl) (fun W2 N => ⟨N.sto.fr, N.blk⟩), rfl, rfl⟩⟩ ?_
      exact allL.nil
     intro w15 hU0 hP
     have hU := ((Up.drew w14).fr ((· = B4))).trans hU0
     have zw15 := hU.size
     replace hS := hS.step 1 rfl (A' := aBlk B4 x.cells 37) hU hP (fun _ hi => .inl hi)
     change Wx.Sep no _ _ [_, _, _, _, _, _] at hS
     change LW _ _ _ _ _ _ _ _ ((63, .eq (.bool (true && rtB (mkF f.Value 1000).1 x.dec.par))) :: _) _
     refine LW.A rfl (LW.C (LW.T (CW.ret (KW.block_ret (KW.then_ret (KW.then_ret (KW.block_ret (KW.then_ret ?_))))))))
     refine KW.retATT rfl rfl rfl rfl isAgg37 sizeOf37 rfl (hS.blk 1 rfl).agg ⟨_, rfl, ?_⟩
     rw [expF_some hq1 hm hx (decide_eq_true h42) hn, mkF_fits hq10]
     exact ⟨_, rfl, ⟨x.ad, x.cp, rfl, usesA_get (hS.get 4 rfl) x (List.mem_of_getElem? hx)⟩, hS.upd⟩
    | false =>
     have h47 : decide ((mkF f.Value 1000).2 = 0) = false := by rw [mkFno hq10]; rfl
     refine CW.freeS 16 15 [.slice ad29 L.length cp29, vi (k : Int), .pointer (some ⟨Bx, ox + k * 6, none⟩), .agg x.cells, vi (mkF f.Value 1000).2, .bool false, .bool false, undef, undef, undef, undef, undef, undef, undef, .bool (false && false), undef] [14] ((· = B4)) (fun W => Blk W B4 (DP.cells ⟨dec0, none, 0⟩) 37) (fun W => Blk W B4 x.cells 37) kQ rfl kQ kQ kQ kQ kQ kQ kQ cQ ((hS.up (Up.drew _)).blk 1 rfl) (fun _ _ h u => h.up u) (fun _ _ h u => h.up u) ?_ ?_ kQ
     ·intro W hU0
      have hU := ((Up.drew w14).fr ((· = B4))).trans hU0
      have hcW : AggAt W Bx (ox + k * 6) x.cells := fun j v hv => cell_fr (hcx j v hv) hU hnB
      have hB11 : Blk W B11 (mkF f.Value 1000).1.cells 34 := (hS.blk 5 rfl).fr hU (fun e => hS.blkNe 1 5 cQ rfl rfl e.symm)
      refine aC ⟨fun _ => TW.p (PEv.move (.t rfl)) rfl, fun e => absurd e cQ⟩ ?_
      refine aC ⟨fun _ => TW.p (PEv.move (.t rfl)) rfl, fun e => absurd e cQ⟩ ?_
      refine aC ⟨fun _ => TW.p (PEv.indexAddr' underlying43 sizeOf37 (.t rfl) (.t rfl) oQ ax) rfl, fun e => absurd e cQ⟩ ?_
      refine aC ⟨fun _ => TW.p (PEv.la isAgg37 sizeOf37 rfl (hcW)) rfl, fun e => absurd e cQ⟩ ?_
      refine aC ⟨fun _ => TW.p (PEv.move (.t rfl)) rfl, fun e => absurd e cQ⟩ ?_
      refine aC ⟨fun _ => TW.p (PEv.fa (PEv.eql (.t rfl) (.const _)) h47) rfl, fun e => absurd e cQ⟩ ?_
      refine aC ⟨fun _ => TW.p (PEv.move (.t rfl)) rfl, fun e => absurd e cQ⟩ ?_
      refine aC ⟨fun _ => TW.no rfl rfl rfl rfl rfl rfl, fun e => absurd e cQ⟩ ?_
      refine aC ⟨fun _ => TW.no rfl rfl rfl rfl rfl rfl, fun e => absurd e cQ⟩ ?_
      refine aC ⟨fun _ => TW.no rfl rfl rfl rfl rfl rfl, fun e => absurd e cQ⟩ ?_
      refine aC ⟨fun _ => TW.no rfl rfl rfl rfl rfl rfl, fun e => absurd e cQ⟩ ?_
      refine aC ⟨fun _ => TW.no rfl rfl rfl rfl rfl rfl, fun e => absurd e cQ⟩ ?_
      refine aC ⟨fun _ => TW.no rfl rfl rfl rfl rfl rfl, fun e => absurd e cQ⟩ ?_
      refine aC ⟨fun _ => TW.no rfl rfl rfl rfl rfl rfl, fun e => absurd e cQ⟩ ?_
      refine aC ⟨fun _ => TW.p (PEv.pick_and (b := false) (.t rfl) (fun hp => absurd (show false = true from hp) cQ)) rfl, fun e => absurd e cQ⟩ ?_
      refine aC ⟨fun e => absurd rfl e, fun _ => ⟨fun hpre => SEv.mono (SEv.storeA sizeOf37 rfl (.t rfl) (.t rfl) (DP.one x) hpre rfl) (fun W2 N => ⟨N.sto.fr, N.blk⟩), rfl, rfl⟩⟩ ?_
      exact allL.nil
     intro w16 hU0 hP
     have hU := ((Up.drew w14).fr ((· = B4))).trans hU0
     have zw16 := hU.size
     replace hS := hS.step 1 rfl (A' := aBlk B4 x.cells 37) hU hP (fun _ hi => .inl hi)
     change Wx.Sep no _ _ [_, _, _, _, _, _] at hS
     change LW _ _ _ _ _ _ _ _ ((63, .eq (.bool (false && false))) :: _) _
     refine LW.A rfl (LW.C (LW.T (CW.ret (KW.block_ret (KW.then_ret (KW.then_ret (KW.block_ret (KW.then_ret ?_))))))))
     refine KW.retATT rfl rfl rfl rfl isAgg37 sizeOf37 rfl (hS.blk 1 rfl).agg ⟨_, rfl, ?_⟩
     rw [expF_some hq1 hm hx (decide_eq_true h42) hn, mkFno hq10]
     exact ⟨_, rfl, ⟨x.ad, x.cp, rfl, usesA_get (hS.get 4 rfl) x (List.mem_of_getElem? hx)⟩, hS.upd⟩
   replace h42 := dQ h42
   refine CW.skip (KW.inBlock (KW.then (CW.region (LW.M rfl ?_))))
   refine LW.pp (.inc (.t rfl) oQ) ?_
   refine LW.A rfl (LW.nil (KW.round ?_))
   exact ⟨k + 1, ⟨by omega, noneD_take (p := fun y : DP => decide (y.dec.run = id)) hx hn (decide_eq_false h42), hS.take 5⟩, ⟨rfl, rfl, rfl, rfl, rfl, trivial⟩, by omega⟩
  replace h33 := dQ h33
  refine CW.exit (KW.then_exit (KW.then_exit (KW.block_hit (KW.then (CW.seq ?_)))))
  have hnn : ∀ y ∈ L, decide (y.dec.run = id) = false := by rw [show k = L.length by omega, List.take_length] at hn; exact hn
  refine CW.region ?_
  refine LW.pp (.build (cs := DP.cells ⟨dec0, none, 0⟩) underlying37 zeroValue37 Tryz.places37 .nil kQ) ?_
  refine LW.E (.storeA sizeOf37 rfl (.t rfl) (.t rfl) (DP.one _) (hS.blk 1 rfl) rfl) ?_
  intro w17 Nw17
  have zw17 := Nw17.size
  replace hS := hS.putB 1 rfl (show Set_ _ w17 _ (DP.cells ⟨dec0, none, 0⟩) _ from Nw17)
  change Wx.Sep _ _ _ [_, _, _, _, _] at hS
  refine LW.C (LW.C (LW.T (CW.ret ?_)))
  refine KW.retATT rfl rfl rfl rfl isAgg37 sizeOf37 rfl (hS.blk 1 rfl).agg ⟨_, rfl, ?_⟩
  rw [expF_no hq1 hm hnn]
  exact ⟨_, rfl, ⟨none, 0, rfl, Sl.nil _ _ _⟩, hS.upd⟩
end Go.Proofs.YtgffaeachbbjoaaGreatDoor
end
section
namespace Go.Wx
theorem wI_inI (n : Int) : inI (wI n) := by
 unfold wI
 rw [IntKind.wrap_i64]
 exact ⟨by omega, by omega⟩
structure I3 where
 a : Int
 b : Int
 c : Int
def I3.cells (x : I3) : Array Value := #[vi x.a, vi x.b, vi x.c]
theorem I3.one (x : I3) : x.cells.all (·.oneCell') = true := by simp [I3.cells, Value.oneCell']
def few20 (b : Base) : Base := ⟨b.Processes.take 10, b.Measures.take 10, [], [], [], [], [], [], b.Resets.take 10, b.Targets.take 10, []⟩
theorem sl_take10 {w : World} {ad : Option Addr} {xs : List Fact} (cp : Nat) (hE : Els w ad 19 Fact.cells xs) : Sl w (.slice ad (min xs.length 10) cp) 19 Fact.cells (xs.take 10) := ⟨ad, cp, by rw [List.length_take, Nat.min_comm], Els.take hE⟩
theorem few20_short (b : Base) : shortN 100 (few20 b) := fun j => by
 have h : ∀ l : List Fact, (l.take 10).length ≤ 100 := fun l => by rw [List.length_take]; omega
 match j with
 | 0 | 1 | 8 | 9 => exact h _
 | 2 | 3 | 4 | 5 | 6 | 7 | 10 => exact Nat.zero_le _
 | j + 11 => unfold lstOf; simp
theorem few20_val {b : Base} (h : ∀ f ∈ b.Processes, FOk f) : ∀ f ∈ (few20 b).Processes, inI f.Value := fun f hf => (h f (List.mem_of_mem_take hf)).Value
theorem known_val (xs : List I6) (d : Int) : ∀ f ∈ (ofB (soL xs) d).Processes, inI f.Value := fun f hf => by
 have h := (lst_mem (j := 0) cQ).1 hf
 obtain ⟨y, _, e⟩ := soF_mem h.1.1
 have hk : f.Kind = 1 := h.2.2
 rcases so_cases e with rfl | rfl | rfl | rfl
 · exact wI_inI _
 · cases hk
 · cases hk
 cases hk
def BA : Type := { a : Array Go.Value // a.size = 11 ∧ a.all (·.oneCell') = true }
def BA.cells (a : BA) : Array Go.Value := a.1
theorem expU {b : Base} {id : Int} (h : b.Processes.length ≤ 100000) : (expF b id).1.uses.length ≤ 100000 := by
 unfold expF
 cases procB b id with
 | none => exact Nat.zero_le _
 | some f =>
   dsimp only
   cases e : (desF b f.Tool f.Chamber f.Recipe).find? (fun D => decide (D.run = id)) with
   | none => exact Nat.zero_le _
   | some D => exact Nat.le_trans (desF_uses _ _ _ _ D (List.mem_of_find?_eq_some e)) (Nat.le_trans (rnsF_len _ _ _ _) h)
end Go.Wx
namespace Go.Proofs.YtgffaeachbbjoaaGreatDoor
open Go.Proofs.Tryz
open Go.Wx Go.RowKit
theorem few20_any (bc : Array Go.Value) (b : Base) (w : World) (hC : BaseC w bc b) (hK : BaseK bc) : Ret Tryz.prog 11 #[.agg bc] w fun r w' => ∃ bc', r = .agg bc' ∧ BaseC w' bc' (few20 b) ∧ Up w w' := by
 obtain ⟨w0, rfl⟩ : ∃ w0, w0 = w := ⟨_, rfl⟩
 have hS := Sep.start no w0
 refine cS (n := 32) (m := 9) func11 rfl rfl rfl ?_
 refine CW.S ?_
 refine LW.rr (.boxA (.t rfl)) rfl ?_
 rintro _ w1 ⟨B1, rfl, NB1⟩
 have eB1 := NB1.at_
 have zB1 := NB1.size
 replace hS := hS.addB NB1
 change Wx.Sep _ _ _ [_] at hS
 refine LW.rr (.allocA zeroValue24) rfl ?_
 rintro _ w2 ⟨B2, rfl, NB2⟩
 have eB2 := NB2.at_
 have zB2 := NB2.size
 replace hS := hS.addB NB2
 change Wx.Sep _ _ _ [_, _] at hS
 refine LW.S ?_
 obtain ⟨v0, h0, ad0, cp0, rfl, hE0⟩ := hC.at0
 have hk0 := hK 0 _ _ _ h0
 obtain ⟨v1, h1, ad1, cp1, rfl, hE1⟩ := hC.at1
 have hk1 := hK 1 _ _ _ h1
 obtain ⟨v8, h8, ad8, cp8, rfl, hE8⟩ := hC.at8
 have hk8 := hK 8 _ _ _ h8
 obtain ⟨v9, h9, ad9, cp9, rfl, hE9⟩ := hC.at9
 have hk9 := hK 9 _ _ _ h9
 refine CW.draws_then 29 kQ kQ kQ kQ kQ rfl rfl ?_
 refine HW.pp (.fA 0 underlying24 rfl sizeOf22 rfl) ?_
 refine HW.pp (.ld isAgg22 rfl ((hS.blk 0 rfl).cell h0)) ?_
 refine HW.pp (.fA 0 underlying24 rfl sizeOf22 rfl) ?_
 refine HW.pp (.ld isAgg22 rfl ((hS.blk 0 rfl).cell h0)) ?_
 refine HW.pp (.lenS underlying22 (.t rfl)) ?_
 refine HW.pp (.min2N (j := 10) (.t rfl) (.const _)) ?_
 refine HW.pp (.sliceHi underlying22 sizeOf50 (.t rfl) (.t rfl) (by have := hk0.1; omega)) ?_
 refine HW.pp (.fA 1 underlying24 rfl sizeOf22 rfl) ?_
 refine HW.pp (.ld isAgg22 rfl ((hS.blk 0 rfl).cell h1)) ?_
 refine HW.pp (.fA 1 underlying24 rfl sizeOf22 rfl) ?_
 refine HW.pp (.ld isAgg22 rfl ((hS.blk 0 rfl).cell h1)) ?_
 refine HW.pp (.lenS underlying22 (.t rfl)) ?_
 refine HW.pp (.min2N (j := 10) (.t rfl) (.const _)) ?_
 refine HW.pp (.sliceHi underlying22 sizeOf50 (.t rfl) (.t rfl) (by have := hk1.1; omega)) ?_
 refine HW.pp (.fA 8 underlying24 rfl sizeOf22 rfl) ?_
 refine HW.pp (.ld isAgg22 rfl ((hS.blk 0 rfl).cell h8)) ?_
 refine HW.pp (.fA 8 underlying24 rfl sizeOf22 rfl) ?_
 refine HW.pp (.ld isAgg22 rfl ((hS.blk 0 rfl).cell h8)) ?_
 refine HW.pp (.lenS underlying22 (.t rfl)) ?_
 refine HW.pp (.min2N (j := 10) (.t rfl) (.const _)) ?_
 refine HW.pp (.sliceHi underlying22 sizeOf50 (.t rfl) (.t rfl) (by have := hk8.1; omega)) ?_
 refine HW.pp (.fA 9 underlying24 rfl sizeOf22 rfl) ?_
 refine HW.pp (.ld isAgg22 rfl ((hS.blk 0 rfl).cell h9)) ?_
 refine HW.pp (.fA 9 underlying24 rfl sizeOf22 rfl) ?_
 refine HW.pp (.ld isAgg22 rfl ((hS.blk 0 rfl).cell h9)) ?_
 refine HW.pp (.lenS underlying22 (.t rfl)) ?_
 refine HW.pp (.min2N (j := 10) (.t rfl) (.const _)) ?_
 refine HW.pp (.sliceHi underlying22 sizeOf50 (.t rfl) (.t rfl) (by have := hk9.1; omega)) ?_
 refine HW.pp (.build (cs := #[.slice ad0 (min b.Processes.length 10) cp0, .slice ad1 (min b.Measures.length 10) cp1, .slice none 0 0, .slice none 0 0, .slice none 0 0, .slice none 0 0, .slice none 0 0, .slice none 0 0, .slice ad8 (min b.Resets.length 10) cp8, .slice ad9 (min b.Targets.length 10) cp9, .slice none 0 0]) underlying24 zeroValue24 Tryz.places24 (.cons (.t rfl) (.cons (.t rfl) (.cons (.t rfl) (.cons (.t rfl) .nil)))) kQ) ?_
 refine HW.nil ?_
 intro w3 uw3
 have zw3 := uw3.size
 replace hS := hS.up uw3
 refine LW.E (.storeA sizeOf24 rfl (.t rfl) (.t rfl) (by simp [Value.oneCell']) (hS.blk 1 rfl) rfl) ?_
 intro w4 Nw4
 have zw4 := Nw4.size
 replace hS := hS.putB 1 rfl Nw4
 change Wx.Sep _ _ _ [_, _] at hS
 refine LW.T (CW.ret ?_)
 refine KW.retA rfl rfl isAgg24 sizeOf24 rfl ((hS.blk 1 rfl).agg) ⟨_, rfl, ?_⟩
 exact ⟨_, rfl, ⟨_, _, _, _, _, _, _, _, _, _, _, rfl, sl_take10 _ (Els.up hE0 hS.upd), sl_take10 _ (Els.up hE1 hS.upd), Sl.nil _ _ _, Sl.nil _ _ _, Sl.nil _ _ _, Sl.nil _ _ _, Sl.nil _ _ _, Sl.nil _ _ _, sl_take10 _ (Els.up hE8 hS.upd), sl_take10 _ (Els.up hE9 hS.upd), Sl.nil _ _ _⟩, hS.upd⟩
set_option maxHeartbeats 8000000 in
theorem ControlMatchesReference_any (bc : Array Go.Value) (b0 : Base) (ad : Option Addr) (cp : Nat) (xs : List I6) (day tool chamber recipe time process : Int) (w : World) (hC0 : BaseC w bc b0) (hK0 : BaseK bc) (hG0 : ∀ f ∈ b0.Processes, FOk f) (hE1 : Els w ad 6 I6.cells xs) : Ret Tryz.prog 3 #[.agg bc, .slice ad xs.length cp, vi day, vi tool, vi chamber, vi recipe, vi time, vi process] w fun r w' => r = .bool true ∧ Up w w' := by
 have hW := Up.refl w
 obtain ⟨w0, rfl⟩ : ∃ w0, w0 = w := ⟨_, rfl⟩
 refine cS (n := 159) (m := 9) func3 rfl rfl rfl ?_
 refine CW.S ?_
 refine LW.rr (.boxA (.t rfl)) rfl ?_
 rintro _ w1 ⟨B8, rfl, NB8⟩
 have eB8 := NB8.at_
 have zB8 := NB8.size
 replace hW := hW.up NB8.up
 replace hC0 := hC0.up NB8.up
 have hB8 := NB8.blk
 refine LW.C (LW.S (CW.region ?_))
 refine LW.K (eC .nil (en10)) rfl (sane_any _) ?_
 rintro _ w2 ⟨rfl, uw2⟩
 have zw2 := uw2.size
 replace hW := hW.up uw2
 replace hC0 := hC0.up uw2
 replace hB8 := hB8.up uw2
 refine LW.A rfl (LW.S (CW.S ?_))
 refine LW.pp (.loadA isAgg24 sizeOf24 (hC0.size) (.t rfl) (hB8.agg)) ?_
 refine LW.K (eC (.o rfl) (en11)) rfl (few20_any bc b0 _ hC0 hK0) ?_
 rintro _ w3 ⟨bc1, rfl, hC1, uw3⟩
 have zw3 := uw3.size
 replace hW := hW.up uw3
 replace hC0 := hC0.up uw3
 replace hB8 := hB8.up uw3
 refine LW.M rfl (LW.M rfl ?_)
 refine LW.K (eC (.u rfl rfl) (en12)) rfl (known_any ad cp xs day _ (Els.up hE1 hW)) ?_
 rintro _ w4 ⟨bc2, rfl, hC2, uw4⟩
 have zw4 := uw4.size
 replace hW := hW.up uw4
 replace hC0 := hC0.up uw4
 replace hB8 := hB8.up uw4
 replace hC1 := hC1.up uw4
 have hsz1 := hC1.size
 have hon1 := hC1.one
 have hsz2 := hC2.size
 have hon2 := hC2.one
 refine LW.rr (.buildSlice (xs := ([⟨bc1, hsz1, hon1⟩, ⟨bc2, hsz2, hon2⟩] : List BA)) (enc := BA.cells) (mk := fun a : BA => .agg a.1) underlying29 sizeOf24 zeroValue24 rfl cQ (fun _ => rfl) (fun a => a.2.1) (.cons (.t rfl) (.cons (.t rfl) .nil)) rfl) rfl ?_
 rintro _ w5 ⟨B40, cB40, rfl, NB40, yB40, xB40⟩
 have eB40 := NB40.at_
 have zB40 := NB40.size
 replace hW := hW.up NB40.up
 replace hC0 := hC0.up NB40.up
 replace hB8 := hB8.up NB40.up
 replace hC1 := hC1.up NB40.up
 replace hC2 := hC2.up NB40.up
 have hE40 := xB40
 refine LW.pp (.lenS underlying29 (.t rfl)) ?_
 refine LW.pp (.move (.const _)) ?_
 refine LW.T (CW.block ?_)
 refine CW.loopB (σ := Nat) (fun s w => (s ≤ 2) ∧ (Up w5 w)) (fun s => [(42, .eq (vi (s : Int)))]) ([(3, .eq _), (4, .eq _), (5, .eq _), (6, .eq _), (7, .eq _), (17, .eq _), (40, .eq _), (41, .eq _)]) (fun s => 2 - s) 0 ?_ ⟨rfl, rfl, rfl, rfl, rfl, rfl, rfl, rfl, rfl, trivial⟩ ?_
 ·exact ⟨Nat.zero_le _, Up.refl _⟩
 rintro k w6 ⟨hk, hL1⟩
 have zzw6 := hL1.size
 replace hW := hW.up hL1
 replace hC0 := hC0.up hL1
 replace hB8 := hB8.up hL1
 replace hC1 := hC1.up hL1
 replace hC2 := hC2.up hL1
 replace hE40 := hE40.up hL1
 refine CW.S ?_
 refine LW.pp (.lss (.t rfl) (.t rfl)) ?_
 refine LW.S ?_
 refine CW.cond (.t rfl) (fun h43 => ?_) (fun h43 => ?_)
 ·replace h43 := dQ h43
  have hk2 : k < 2 := Int.ofNat_lt.1 h43
  refine CW.skip (KW.then (CW.seq (CW.block (CW.seq ?_))))
  obtain ⟨a, ha⟩ := getElem?_of_lt (xs := ([⟨bc1, hsz1, hon1⟩, ⟨bc2, hsz2, hon2⟩] : List BA)) (i := k) hk2
  obtain ⟨Ba, oa, aa, hca⟩ := hE40 k a ha
  obtain ⟨b, hCb, hSh, hVb⟩ : ∃ b, BaseC w6 a.1 b ∧ shortN 100 b ∧ ∀ f ∈ b.Processes, inI f.Value := by
   rcases List.mem_cons.1 (List.mem_of_getElem? ha) with e | e
   · rw [e]; exact ⟨_, hC1, few20_short b0, few20_val hG0⟩
   rw [List.mem_singleton.1 e]; exact ⟨_, hC2, ofB_shortN (Nat.le_trans (soL_len xs) cQ) _, known_val xs _⟩
  have hsz := a.2.1
  have hone := a.2.2
  replace hca : AggAt w6 Ba (oa + k * 11) a.1 := hca
  obtain ⟨bcx, ebc⟩ : ∃ c, c = a.1 := ⟨_, rfl⟩
  rw [← ebc] at hCb hsz hone hca
  refine CW.region ?_
  refine LW.pp (.indexAddr' underlying29 sizeOf24 (.t rfl) (.t rfl) oQ aa) ?_
  refine LW.pp (.loadA isAgg24 sizeOf24 (hsz) (.t rfl) (hca)) ?_
  refine LW.rr (.allocA zeroValue24) rfl ?_
  rintro _ w7 ⟨B19, rfl, MB19⟩
  refine LW.E (.storeA sizeOf24 hsz (.t rfl) (.t rfl) hone MB19.blk rfl) ?_
  intro w8 LB19
  have NB19 := MB19.set LB19
  clear LB19 MB19
  have eB19 := NB19.at_
  have zB19 := NB19.size
  replace hW := hW.up NB19.up
  replace hC1 := hC1.up NB19.up
  replace hC2 := hC2.up NB19.up
  replace hE40 := hE40.up NB19.up
  replace hL1 := hL1.up NB19.up
  replace hCb := hCb.up NB19.up
  replace hca := hca.up NB19.up
  have hB19 := NB19.blk
  refine LW.S (CW.S (LW.M rfl (LW.M rfl (LW.M rfl ?_))))
  refine LW.pp (.buildArr (cs := (I3.mk tool chamber recipe).cells) underlying30 zeroValue30 sizeOf3 (.cons (.t rfl) (.cons (.t rfl) (.cons (.t rfl) .nil))) rfl) ?_
  refine LW.M rfl ?_
  refine LW.K (eC (.cons (.t rfl) (.cons (.const _) .nil)) (en13)) rfl (pick_any _ _ _ cQ) ?_
  rintro _ w9 ⟨rfl, uw9⟩
  have zw9 := uw9.size
  replace hW := hW.up uw9
  replace hC1 := hC1.up uw9
  replace hC2 := hC2.up uw9
  replace hE40 := hE40.up uw9
  replace hL1 := hL1.up uw9
  replace hCb := hCb.up uw9
  replace hB19 := hB19.up uw9
  refine LW.M rfl ?_
  refine LW.K (eC (.cons (.t rfl) (.cons (.const _) .nil)) (en13)) rfl (pick_any _ _ _ cQ) ?_
  rintro _ w10 ⟨rfl, uw10⟩
  have zw10 := uw10.size
  replace hW := hW.up uw10
  replace hC1 := hC1.up uw10
  replace hC2 := hC2.up uw10
  replace hE40 := hE40.up uw10
  replace hL1 := hL1.up uw10
  replace hCb := hCb.up uw10
  replace hB19 := hB19.up uw10
  refine LW.M rfl ?_
  refine LW.K (eC (.cons (.t rfl) (.cons (.const _) .nil)) (en13)) rfl (pick_any _ _ _ cQ) ?_
  rintro _ w11 ⟨rfl, uw11⟩
  have zw11 := uw11.size
  replace hW := hW.up uw11
  replace hC1 := hC1.up uw11
  replace hC2 := hC2.up uw11
  replace hE40 := hE40.up uw11
  replace hL1 := hL1.up uw11
  replace hCb := hCb.up uw11
  replace hB19 := hB19.up uw11
  refine LW.pp (.add_w (.const _) (.t rfl)) ?_
  refine LW.pp (.buildArr (cs := (I3.mk (pickI tool 2) (pickI chamber 2) (wI (1 + pickI recipe 2))).cells) underlying30 zeroValue30 sizeOf3 (.cons (.t rfl) (.cons (.t rfl) (.cons (.t rfl) .nil))) rfl) ?_
  refine LW.rr (.buildSlice (xs := [(⟨tool, chamber, recipe⟩ : I3), ⟨pickI tool 2, pickI chamber 2, wI (1 + pickI recipe 2)⟩]) (enc := I3.cells) (mk := fun y : I3 => .agg y.cells) underlying32 sizeOf30 zeroValue30 rfl cQ (fun _ => rfl) (fun _ => rfl) (.cons (.t rfl) (.cons (.t rfl) .nil)) rfl) rfl ?_
  rintro _ w12 ⟨B58, cB58, rfl, NB58, yB58, xB58⟩
  have eB58 := NB58.at_
  have zB58 := NB58.size
  replace hW := hW.up NB58.up
  replace hC1 := hC1.up NB58.up
  replace hC2 := hC2.up NB58.up
  replace hE40 := hE40.up NB58.up
  replace hL1 := hL1.up NB58.up
  replace hCb := hCb.up NB58.up
  replace hB19 := hB19.up NB58.up
  have hB58 := NB58.blk
  have hE58 := xB58
  refine LW.pp (.lenS underlying32 (.t rfl)) ?_
  refine LW.pp (.move (.const _)) ?_
  refine LW.T (CW.block ?_)
  refine CW.loopB (σ := Nat) (fun s w => (s ≤ 2) ∧ (Up w12 w)) (fun s => [(60, .eq (vi (s : Int)))]) ([(3, .eq _), (4, .eq _), (5, .eq _), (6, .eq _), (7, .eq _), (17, .eq _), (19, .eq _), (40, .eq _), (41, .eq _), (42, .eq _), (58, .eq _), (59, .eq _)]) (fun s => 2 - s) 0 ?_ ⟨rfl, rfl, rfl, rfl, rfl, rfl, rfl, rfl, rfl, rfl, rfl, rfl, rfl, trivial⟩ ?_
  ·exact ⟨Nat.zero_le _, Up.refl _⟩
  rintro j w13 ⟨hj, hL2⟩
  have zzw13 := hL2.size
  replace hW := hW.up hL2
  replace hC1 := hC1.up hL2
  replace hC2 := hC2.up hL2
  replace hE40 := hE40.up hL2
  replace hL1 := hL1.up hL2
  replace hCb := hCb.up hL2
  replace hB19 := hB19.up hL2
  replace hB58 := hB58.up hL2
  replace hE58 := hE58.up hL2
  refine CW.S ?_
  refine LW.pp (.lss (.t rfl) (.t rfl)) ?_
  refine LW.S ?_
  refine CW.cond (.t rfl) (fun h61 => ?_) (fun h61 => ?_)
  ·replace h61 := dQ h61
   have hj2 : j < 2 := Int.ofNat_lt.1 h61
   refine CW.skip (KW.then (CW.seq (CW.block (CW.seq ?_))))
   obtain ⟨y, hy⟩ := getElem?_of_lt (xs := [(⟨tool, chamber, recipe⟩ : I3), ⟨pickI tool 2, pickI chamber 2, wI (1 + pickI recipe 2)⟩]) (i := j) hj2
   obtain ⟨By, oy, ay, hcy⟩ := hE58 j y hy
   refine CW.region ?_
   refine LW.pp (.indexAddr' underlying32 sizeOf30 (.t rfl) (.t rfl) oQ ay) ?_
   refine LW.pp (.la isAgg30 sizeOf30 rfl (hcy)) ?_
   refine LW.rr (.allocA zeroValue30) rfl ?_
   rintro _ w14 ⟨B21, rfl, MB21⟩
   refine LW.E (.storeA sizeOf30 rfl (.t rfl) (.t rfl) (I3.one _) MB21.blk rfl) ?_
   intro w15 LB21
   have NB21 := MB21.set LB21
   clear LB21 MB21
   have eB21 := NB21.at_
   have zB21 := NB21.size
   replace hW := hW.up NB21.up
   replace hC1 := hC1.up NB21.up
   replace hC2 := hC2.up NB21.up
   replace hE40 := hE40.up NB21.up
   replace hL1 := hL1.up NB21.up
   replace hCb := hCb.up NB21.up
   replace hB19 := hB19.up NB21.up
   replace hB58 := hB58.up NB21.up
   replace hE58 := hE58.up NB21.up
   replace hL2 := hL2.up NB21.up
   replace hcy := hcy.up NB21.up
   have hB21 := NB21.blk
   refine LW.S (CW.region ?_)
   refine LW.pp (.loadA isAgg24 sizeOf24 (hsz) (.t rfl) (hB19.agg)) ?_
   refine LW.pp (.indexArr (j := 0) underlying30 sizeOf3 (.t rfl) (.const _) cQ) ?_
   refine LW.pp (.ld isAgg3 rfl (hB21.celln rfl)) ?_
   refine LW.pp (.indexArr (j := 1) underlying30 sizeOf3 (.t rfl) (.const _) cQ) ?_
   refine LW.pp (.ld isAgg3 rfl (hB21.celln rfl)) ?_
   refine LW.pp (.indexArr (j := 2) underlying30 sizeOf3 (.t rfl) (.const _) cQ) ?_
   refine LW.pp (.ld isAgg3 rfl (hB21.celln rfl)) ?_
   refine LW.M rfl ?_
   refine LW.K (eC (.cons (.t rfl) (.cons (.t rfl) (.cons (.t rfl) (.cons (.t rfl) (.cons (.t rfl) .nil))))) (en14)) rfl (Decide_any bcx b y.a y.b y.c time _ hCb (Nat.le_trans (hSh 0) cQ) (Nat.le_trans (hSh 8) cQ) (Nat.le_trans (hSh 1) cQ) (Nat.le_trans (hSh 9) cQ)) ?_
   rintro _ w16 ⟨_, rfl, ⟨adp, cpp, rfl, hOp⟩, uw16⟩
   have zw16 := uw16.size
   replace hW := hW.up uw16
   replace hC1 := hC1.up uw16
   replace hC2 := hC2.up uw16
   replace hE40 := hE40.up uw16
   replace hL1 := hL1.up uw16
   replace hCb := hCb.up uw16
   replace hB19 := hB19.up uw16
   replace hB58 := hB58.up uw16
   replace hE58 := hE58.up uw16
   replace hL2 := hL2.up uw16
   replace hB21 := hB21.up uw16
   refine LW.M rfl (LW.pp (.extract (.t rfl) rfl) (LW.pp (.extract (.t rfl) rfl) ?_))
   refine LW.rr (.allocA zeroValue37) rfl ?_
   rintro _ w17 ⟨B22, rfl, MB22⟩
   refine LW.E (.storeA sizeOf37 rfl (.t rfl) (.t rfl) (DP.one _) MB22.blk rfl) ?_
   intro w18 LB22
   have NB22 := MB22.set LB22
   clear LB22 MB22
   have eB22 := NB22.at_
   have zB22 := NB22.size
   replace hW := hW.up NB22.up
   replace hC1 := hC1.up NB22.up
   replace hC2 := hC2.up NB22.up
   replace hE40 := hE40.up NB22.up
   replace hL1 := hL1.up NB22.up
   replace hCb := hCb.up NB22.up
   replace hB19 := hB19.up NB22.up
   replace hB58 := hB58.up NB22.up
   replace hE58 := hE58.up NB22.up
   replace hL2 := hL2.up NB22.up
   replace hB21 := hB21.up NB22.up
   replace hOp := hOp.up NB22.up
   have hB22 := NB22.blk
   refine LW.A rfl (LW.S (CW.region ?_))
   refine LW.pp (.loadA isAgg24 sizeOf24 (hsz) (.t rfl) (hB19.agg)) ?_
   refine LW.pp (.indexArr (j := 0) underlying30 sizeOf3 (.t rfl) (.const _) cQ) ?_
   refine LW.pp (.ld isAgg3 rfl (hB21.celln rfl)) ?_
   refine LW.pp (.indexArr (j := 1) underlying30 sizeOf3 (.t rfl) (.const _) cQ) ?_
   refine LW.pp (.ld isAgg3 rfl (hB21.celln rfl)) ?_
   refine LW.pp (.indexArr (j := 2) underlying30 sizeOf3 (.t rfl) (.const _) cQ) ?_
   refine LW.pp (.ld isAgg3 rfl (hB21.celln rfl)) ?_
   refine LW.M rfl ?_
   refine LW.K (eC (.cons (.t rfl) (.cons (.t rfl) (.cons (.t rfl) (.cons (.t rfl) (.cons (.t rfl) .nil))))) (en15)) rfl (rDecide_any bcx b y.a y.b y.c time _ hCb (Nat.le_trans (hSh 0) cQ) (Nat.le_trans (hSh 8) cQ) (Nat.le_trans (hSh 1) cQ) (Nat.le_trans (hSh 9) cQ)) ?_
   rintro _ w19 ⟨_, rfl, ⟨adq, cpq, rfl, hOq⟩, uw19⟩
   have zw19 := uw19.size
   replace hW := hW.up uw19
   replace hC1 := hC1.up uw19
   replace hC2 := hC2.up uw19
   replace hE40 := hE40.up uw19
   replace hL1 := hL1.up uw19
   replace hCb := hCb.up uw19
   replace hB19 := hB19.up uw19
   replace hB58 := hB58.up uw19
   replace hE58 := hE58.up uw19
   replace hL2 := hL2.up uw19
   replace hB21 := hB21.up uw19
   replace hOp := hOp.up uw19
   replace hB22 := hB22.up uw19
   refine LW.M rfl (LW.pp (.extract (.t rfl) rfl) (LW.pp (.extract (.t rfl) rfl) ?_))
   refine LW.rr (.allocA zeroValue37) rfl ?_
   rintro _ w20 ⟨B24, rfl, MB24⟩
   refine LW.E (.storeA sizeOf37 rfl (.t rfl) (.t rfl) (DP.one _) MB24.blk rfl) ?_
   intro w21 LB24
   have NB24 := MB24.set LB24
   clear LB24 MB24
   have eB24 := NB24.at_
   have zB24 := NB24.size
   replace hW := hW.up NB24.up
   replace hC1 := hC1.up NB24.up
   replace hC2 := hC2.up NB24.up
   replace hE40 := hE40.up NB24.up
   replace hL1 := hL1.up NB24.up
   replace hCb := hCb.up NB24.up
   replace hB19 := hB19.up NB24.up
   replace hB58 := hB58.up NB24.up
   replace hE58 := hE58.up NB24.up
   replace hL2 := hL2.up NB24.up
   replace hB21 := hB21.up NB24.up
   replace hOp := hOp.up NB24.up
   replace hB22 := hB22.up NB24.up
   replace hOq := hOq.up NB24.up
   have hB24 := NB24.blk
   refine LW.A rfl (LW.S ?_)
   refine CW.draws kQ kQ rfl rfl ?_
   refine HW.pp (.move (.t rfl)) ?_
   refine HW.pp (.move (.t rfl)) ?_
   refine HW.pp (.fa (PEv.neq (.t rfl) (.t rfl)) (rfl)) ?_
   refine HW.pp (.move (.t rfl)) ?_
   refine HW.yy (.la isAgg37 sizeOf37 rfl (hB22.agg)) ?_
   refine HW.yy (.la isAgg37 sizeOf37 rfl (hB24.agg)) ?_
   refine HW.yc rfl rfl rfl rfl rfl (fun a w _ ha => enter_call0 (.cons (.t rfl) (.cons (.t rfl) .nil)) (en16) a ha) rfl (fun w hu => same_any (⟨(decNow b y.a y.b y.c time), adp, cpp⟩ : DP) ⟨(decNow b y.a y.b y.c time), adq, cpq⟩ w (hOp.up hu) (hOq.up hu) (Nat.le_trans (decF_uses _ _ _ _ _ _) (Nat.le_trans (List.length_filter_le _ _) (Nat.le_trans (rnsF_len _ _ _ _) (Nat.le_trans (hSh 0) cQ))))) ?_
   refine HW.yy (.fa (PEv.not (.t rfl)) (by rw [sameD_self]; rfl)) ?_
   refine HW.pp (.pick_or (.t rfl) (fun hp => (by first | exact .const _ | exact .tmp rfl | exact .cond rfl (by first | assumption | (rw [hp]; rfl) | (rw [hc, hp]; rfl) | simp_all)))) ?_
   refine HW.pp (.move (.t rfl)) ?_
   refine HW.yy (.loadA isAgg24 sizeOf24 (hsz) (.t rfl) (hB19.agg)) ?_
   refine HW.yy (.indexArr (j := 0) underlying30 sizeOf3 (.t rfl) (.const _) cQ) ?_
   refine HW.yy (.ld isAgg3 rfl (hB21.celln rfl)) ?_
   refine HW.yy (.indexArr (j := 1) underlying30 sizeOf3 (.t rfl) (.const _) cQ) ?_
   refine HW.yy (.ld isAgg3 rfl (hB21.celln rfl)) ?_
   refine HW.yy (.indexArr (j := 2) underlying30 sizeOf3 (.t rfl) (.const _) cQ) ?_
   refine HW.yy (.ld isAgg3 rfl (hB21.celln rfl)) ?_
   refine HW.yqc (ph := .pred fun v w => DecsE w v (desF b y.a y.b y.c)) (fun _ _ _ h u => DecsE.up h u) rfl rfl rfl rfl rfl (fun a w hu ha => ⟨_, _, enter_call0 (.cons (.t rfl) (.cons (.t rfl) (.cons (.t rfl) (.cons (.t rfl) .nil)))) (en18) a ha, (DecisionsE_any bcx b y.a y.b y.c w (hCb.up hu) (Nat.le_trans (hSh 0) cQ) (Nat.le_trans (hSh 8) cQ) (Nat.le_trans (hSh 1) cQ) (Nat.le_trans (hSh 9) cQ)).mono fun v w' h => ⟨h.2, h.1⟩⟩) rfl ?_
   refine HW.yy (.loadA isAgg24 sizeOf24 (hsz) (.t rfl) (hB19.agg)) ?_
   refine HW.yy (.indexArr (j := 0) underlying30 sizeOf3 (.t rfl) (.const _) cQ) ?_
   refine HW.yy (.ld isAgg3 rfl (hB21.celln rfl)) ?_
   refine HW.yy (.indexArr (j := 1) underlying30 sizeOf3 (.t rfl) (.const _) cQ) ?_
   refine HW.yy (.ld isAgg3 rfl (hB21.celln rfl)) ?_
   refine HW.yy (.indexArr (j := 2) underlying30 sizeOf3 (.t rfl) (.const _) cQ) ?_
   refine HW.yy (.ld isAgg3 rfl (hB21.celln rfl)) ?_
   refine HW.yqc (ph := .pred fun v w => DecsE w v (desF b y.a y.b y.c)) (fun _ _ _ h u => DecsE.up h u) rfl rfl rfl rfl rfl (fun a w hu ha => ⟨_, _, enter_call0 (.cons (.t rfl) (.cons (.t rfl) (.cons (.t rfl) (.cons (.t rfl) .nil)))) (en19) a ha, (rDecisions_any bcx b y.a y.b y.c w (hCb.up hu) (Nat.le_trans (hSh 0) cQ) (Nat.le_trans (hSh 8) cQ) (Nat.le_trans (hSh 1) cQ) (Nat.le_trans (hSh 9) cQ)).mono fun v w' h => ⟨h.2, h.1⟩⟩) rfl ?_
   refine HW.yqc (ph := .eq (.bool true)) (phUp.eq _) rfl rfl rfl rfl rfl (fun a w hu ha => ⟨_, _, enter_any2 en17 a w, (sameList_any (a.eval (.tmp 105)) (a.eval (.tmp 113)) (desF b y.a y.b y.c) (desF b y.a y.b y.c) w (ha.known (p := fun v w => DecsE w v (desF b y.a y.b y.c)) rfl) (ha.known (p := fun v w => DecsE w v (desF b y.a y.b y.c)) rfl) (by rw [desF_len]; exact Nat.le_trans (rnsF_len _ _ _ _) (Nat.le_trans (hSh 0) cQ)) (fun D hD => Nat.le_trans (desF_uses _ _ _ _ D hD) (Nat.le_trans (rnsF_len _ _ _ _) (Nat.le_trans (hSh 0) cQ)))).mono fun _ _ h => ⟨h.2, h.1.trans (by rw [sameDs_self])⟩⟩) rfl ?_
   refine HW.yy (.fa (PEv.not (.t rfl)) (rfl)) ?_
   refine HW.pp (.pick_or (.t rfl) (fun hp => (by first | exact .const _ | exact .tmp rfl | exact .cond rfl (by first | assumption | (rw [hp]; rfl) | (rw [hc, hp]; rfl) | simp_all)))) ?_
   refine HW.nil ?_
   intro w22 uw22
   have zw22 := uw22.size
   replace hW := hW.up uw22
   replace hC1 := hC1.up uw22
   replace hC2 := hC2.up uw22
   replace hE40 := hE40.up uw22
   replace hL1 := hL1.up uw22
   replace hCb := hCb.up uw22
   replace hB19 := hB19.up uw22
   replace hB58 := hB58.up uw22
   replace hE58 := hE58.up uw22
   replace hL2 := hL2.up uw22
   replace hB21 := hB21.up uw22
   replace hOp := hOp.up uw22
   replace hB22 := hB22.up uw22
   replace hOq := hOq.up uw22
   replace hB24 := hB24.up uw22
   refine KW.then ?_
   refine CW.cond_false (.t rfl) ?_
   refine CW.skip (KW.inBlock (KW.then (CW.region ?_)))
   refine LW.pp (.inc (.t rfl) oQ) ?_
   refine LW.M rfl (LW.nil (KW.round ?_))
   exact ⟨j + 1, ⟨by omega, hL2⟩, ⟨rfl, rfl, rfl, rfl, rfl, rfl, rfl, rfl, rfl, rfl, rfl, rfl, rfl, trivial⟩, by first | omega | (dsimp only; omega)⟩
  replace h61 := dQ h61
  refine CW.exit (KW.then_exit (KW.then_exit (KW.block_hit (KW.then (CW.S (LW.M rfl (LW.M rfl ?_)))))))
  refine LW.K (eC (.cons (.t rfl) (.cons (.const _) .nil)) (en13)) rfl (pick_any _ _ _ cQ) ?_
  rintro _ w23 ⟨rfl, uw23⟩
  have zw23 := uw23.size
  replace hW := hW.up uw23
  replace hC1 := hC1.up uw23
  replace hC2 := hC2.up uw23
  replace hE40 := hE40.up uw23
  replace hL1 := hL1.up uw23
  replace hCb := hCb.up uw23
  replace hB19 := hB19.up uw23
  replace hB58 := hB58.up uw23
  replace hE58 := hE58.up uw23
  replace hL2 := hL2.up uw23
  refine LW.pp (.add_w (.const _) (.t rfl)) ?_
  refine LW.rr (.buildSlice (xs := [process, wI (1 + pickI process 9)]) (enc := eInt) (mk := vi) underlying35 sizeOf3 zeroValue3 rfl cQ (fun _ => rfl) (fun _ => rfl) (.cons (.t rfl) (.cons (.t rfl) .nil)) rfl) rfl ?_
  rintro _ w24 ⟨B122, cB122, rfl, NB122, yB122, xB122⟩
  have eB122 := NB122.at_
  have zB122 := NB122.size
  replace hW := hW.up NB122.up
  replace hC1 := hC1.up NB122.up
  replace hC2 := hC2.up NB122.up
  replace hE40 := hE40.up NB122.up
  replace hL1 := hL1.up NB122.up
  replace hCb := hCb.up NB122.up
  replace hB19 := hB19.up NB122.up
  replace hB58 := hB58.up NB122.up
  replace hE58 := hE58.up NB122.up
  replace hL2 := hL2.up NB122.up
  have hB122 := NB122.blk
  have hE122 := xB122
  refine LW.pp (.lenS underlying35 (.t rfl)) ?_
  refine LW.pp (.move (.const _)) ?_
  refine LW.T (CW.block ?_)
  refine CW.loopB (σ := Nat) (fun s w => (s ≤ 2) ∧ (Up w24 w)) (fun s => [(124, .eq (vi (s : Int)))]) ([(3, .eq _), (4, .eq _), (5, .eq _), (6, .eq _), (7, .eq _), (17, .eq _), (19, .eq _), (40, .eq _), (41, .eq _), (42, .eq _), (122, .eq _), (123, .eq _)]) (fun s => 2 - s) 0 ?_ ⟨rfl, rfl, rfl, rfl, rfl, rfl, rfl, rfl, rfl, rfl, rfl, rfl, rfl, trivial⟩ ?_
  ·exact ⟨Nat.zero_le _, Up.refl _⟩
  rintro j w25 ⟨hj, hL3⟩
  have zzw25 := hL3.size
  replace hW := hW.up hL3
  replace hC1 := hC1.up hL3
  replace hC2 := hC2.up hL3
  replace hE40 := hE40.up hL3
  replace hL1 := hL1.up hL3
  replace hCb := hCb.up hL3
  replace hB19 := hB19.up hL3
  replace hB58 := hB58.up hL3
  replace hE58 := hE58.up hL3
  replace hL2 := hL2.up hL3
  replace hB122 := hB122.up hL3
  replace hE122 := hE122.up hL3
  refine CW.S ?_
  refine LW.pp (.lss (.t rfl) (.t rfl)) ?_
  refine LW.S ?_
  refine CW.cond (.t rfl) (fun h125 => ?_) (fun h125 => ?_)
  ·replace h125 := dQ h125
   have hj2 : j < 2 := Int.ofNat_lt.1 h125
   refine CW.skip (KW.then (CW.seq (CW.block (CW.seq ?_))))
   obtain ⟨id, hf⟩ := getElem?_of_lt (xs := ([process, wI (1 + pickI process 9)] : List Int)) (i := j) hj2
   obtain ⟨Bf, of, af, hcf⟩ := hE122 j id hf
   refine CW.region ?_
   refine LW.pp (.indexAddr' underlying35 sizeOf3 (.t rfl) (.t rfl) oQ af) ?_
   refine LW.pp (.ld isAgg3 rfl (hcf.nth (j := 0) rfl)) ?_
   refine LW.A rfl (LW.S (CW.region ?_))
   refine LW.pp (.loadA isAgg24 sizeOf24 (hsz) (.t rfl) (hB19.agg)) ?_
   refine LW.M rfl ?_
   refine LW.K (eC (.u rfl rfl) (en20)) rfl (Explain_any bcx b id _ hCb (Nat.le_trans (hSh 0) cQ) (Nat.le_trans (hSh 8) cQ) (Nat.le_trans (hSh 1) cQ) (Nat.le_trans (hSh 9) cQ) hVb) ?_
   rintro _ w26 ⟨_, rfl, ⟨adp, cpp, rfl, hOp⟩, uw26⟩
   have zw26 := uw26.size
   replace hW := hW.up uw26
   replace hC1 := hC1.up uw26
   replace hC2 := hC2.up uw26
   replace hE40 := hE40.up uw26
   replace hL1 := hL1.up uw26
   replace hCb := hCb.up uw26
   replace hB19 := hB19.up uw26
   replace hB58 := hB58.up uw26
   replace hE58 := hE58.up uw26
   replace hL2 := hL2.up uw26
   replace hB122 := hB122.up uw26
   replace hE122 := hE122.up uw26
   replace hL3 := hL3.up uw26
   refine LW.M rfl (LW.pp (.extract (.t rfl) rfl) (LW.pp (.extract (.t rfl) rfl) (LW.pp (.extract (.t rfl) rfl) ?_)))
   refine LW.rr (.allocA zeroValue37) rfl ?_
   rintro _ w27 ⟨B28, rfl, MB28⟩
   refine LW.E (.storeA sizeOf37 rfl (.t rfl) (.t rfl) (DP.one _) MB28.blk rfl) ?_
   intro w28 LB28
   have NB28 := MB28.set LB28
   clear LB28 MB28
   have eB28 := NB28.at_
   have zB28 := NB28.size
   replace hW := hW.up NB28.up
   replace hC1 := hC1.up NB28.up
   replace hC2 := hC2.up NB28.up
   replace hE40 := hE40.up NB28.up
   replace hL1 := hL1.up NB28.up
   replace hCb := hCb.up NB28.up
   replace hB19 := hB19.up NB28.up
   replace hB58 := hB58.up NB28.up
   replace hE58 := hE58.up NB28.up
   replace hL2 := hL2.up NB28.up
   replace hB122 := hB122.up NB28.up
   replace hE122 := hE122.up NB28.up
   replace hL3 := hL3.up NB28.up
   replace hOp := hOp.up NB28.up
   have hB28 := NB28.blk
   refine LW.A rfl (LW.A rfl (LW.S (CW.region ?_)))
   refine LW.pp (.loadA isAgg24 sizeOf24 (hsz) (.t rfl) (hB19.agg)) ?_
   refine LW.M rfl ?_
   refine LW.K (eC (.u rfl rfl) (en21)) rfl (rExplain_any bcx b id _ hCb (Nat.le_trans (hSh 0) cQ) (Nat.le_trans (hSh 8) cQ) (Nat.le_trans (hSh 1) cQ) (Nat.le_trans (hSh 9) cQ) hVb) ?_
   rintro _ w29 ⟨_, rfl, ⟨adq, cpq, rfl, hOq⟩, uw29⟩
   have zw29 := uw29.size
   replace hW := hW.up uw29
   replace hC1 := hC1.up uw29
   replace hC2 := hC2.up uw29
   replace hE40 := hE40.up uw29
   replace hL1 := hL1.up uw29
   replace hCb := hCb.up uw29
   replace hB19 := hB19.up uw29
   replace hB58 := hB58.up uw29
   replace hE58 := hE58.up uw29
   replace hL2 := hL2.up uw29
   replace hB122 := hB122.up uw29
   replace hE122 := hE122.up uw29
   replace hL3 := hL3.up uw29
   replace hOp := hOp.up uw29
   replace hB28 := hB28.up uw29
   refine LW.M rfl (LW.pp (.extract (.t rfl) rfl) (LW.pp (.extract (.t rfl) rfl) (LW.pp (.extract (.t rfl) rfl) ?_)))
   refine LW.rr (.allocA zeroValue37) rfl ?_
   rintro _ w30 ⟨B31, rfl, MB31⟩
   refine LW.E (.storeA sizeOf37 rfl (.t rfl) (.t rfl) (DP.one _) MB31.blk rfl) ?_
   intro w31 LB31
   have NB31 := MB31.set LB31
   clear LB31 MB31
   have eB31 := NB31.at_
   have zB31 := NB31.size
   replace hW := hW.up NB31.up
   replace hC1 := hC1.up NB31.up
   replace hC2 := hC2.up NB31.up
   replace hE40 := hE40.up NB31.up
   replace hL1 := hL1.up NB31.up
   replace hCb := hCb.up NB31.up
   replace hB19 := hB19.up NB31.up
   replace hB58 := hB58.up NB31.up
   replace hE58 := hE58.up NB31.up
   replace hL2 := hL2.up NB31.up
   replace hB122 := hB122.up NB31.up
   replace hE122 := hE122.up NB31.up
   replace hL3 := hL3.up NB31.up
   replace hOp := hOp.up NB31.up
   replace hB28 := hB28.up NB31.up
   replace hOq := hOq.up NB31.up
   have hB31 := NB31.blk
   refine LW.A rfl (LW.A rfl (LW.S (CW.region (LW.M rfl (LW.M rfl ?_)))))
   refine LW.pp (.fa (PEv.neq (.t rfl) (.t rfl)) (by simp)) ?_
   refine LW.M rfl ?_
   refine LW.Y ?_
   refine LW.M rfl ?_
   refine LW.Y ?_
   refine LW.M rfl ?_
   refine LW.Y ?_
   refine LW.pp (.fa (PEv.neqB underlying4 (.t rfl) (.t rfl)) (by simp)) ?_
   refine LW.pp (.pick_or (.t rfl) (fun hp => (by first | exact .const _ | exact .tmp rfl | exact .cond rfl (by first | assumption | (rw [hp]; rfl) | (rw [hc, hp]; rfl) | simp_all)))) ?_
   refine LW.M rfl ?_
   refine LW.Y ?_
   refine LW.pp (.la isAgg37 sizeOf37 rfl (hB28.agg)) ?_
   refine LW.Y ?_
   refine LW.pp (.la isAgg37 sizeOf37 rfl (hB31.agg)) ?_
   refine LW.Y ?_
   refine LW.K (eC (.u rfl rfl) (en16)) rfl (same_any (⟨(expF b id).1, adp, cpp⟩ : DP) ⟨(expF b id).1, adq, cpq⟩ _ hOp hOq (expU (Nat.le_trans (hSh 0) cQ))) ?_
   rintro _ w32 ⟨rfl, uw32⟩
   have zw32 := uw32.size
   replace hW := hW.up uw32
   replace hC1 := hC1.up uw32
   replace hC2 := hC2.up uw32
   replace hE40 := hE40.up uw32
   replace hL1 := hL1.up uw32
   replace hCb := hCb.up uw32
   replace hB19 := hB19.up uw32
   replace hB58 := hB58.up uw32
   replace hE58 := hE58.up uw32
   replace hL2 := hL2.up uw32
   replace hB122 := hB122.up uw32
   replace hE122 := hE122.up uw32
   replace hL3 := hL3.up uw32
   replace hOp := hOp.up uw32
   replace hB28 := hB28.up uw32
   replace hOq := hOq.up uw32
   replace hB31 := hB31.up uw32
   refine LW.Y ?_
   refine LW.pp (.fa (PEv.not (.t rfl)) (by rw [sameD_self]; rfl)) ?_
   refine LW.pp (.pick_or (.t rfl) (fun hp => (by first | exact .const _ | exact .tmp rfl | exact .cond rfl (by first | assumption | (rw [hp]; rfl) | (rw [hc, hp]; rfl) | simp_all)))) ?_
   refine LW.T ?_
   refine CW.cond_false (.t rfl) ?_
   refine CW.skip (KW.inBlock (KW.then (CW.region ?_)))
   refine LW.pp (.inc (.t rfl) oQ) ?_
   refine LW.M rfl (LW.nil (KW.round ?_))
   exact ⟨j + 1, ⟨by omega, hL3⟩, ⟨rfl, rfl, rfl, rfl, rfl, rfl, rfl, rfl, rfl, rfl, rfl, rfl, rfl, trivial⟩, by first | omega | (dsimp only; omega)⟩
  replace h125 := dQ h125
  refine CW.exit (KW.then_exit (KW.then_exit (KW.block_hit (KW.inBlock (KW.then (CW.region ?_))))))
  refine LW.pp (.inc (.t rfl) oQ) ?_
  refine LW.M rfl (LW.nil (KW.round ?_))
  exact ⟨k + 1, ⟨by omega, hL1⟩, ⟨rfl, rfl, rfl, rfl, rfl, rfl, rfl, rfl, rfl, trivial⟩, by first | omega | (dsimp only; omega)⟩
 replace h43 := dQ h43
 refine CW.exit (KW.then_exit (KW.then_exit (KW.block_hit (KW.then (CW.S (LW.M rfl (LW.A rfl (LW.T (CW.ret ?_)))))))))
 refine KW.ret1 rfl rfl ⟨_, rfl, ?_⟩
 exact ⟨rfl, hW⟩
end Go.Proofs.YtgffaeachbbjoaaGreatDoor
end
