import Derived.Test.YtbbpkdlehlamlaaGreatDoorKR619
import Derived.Sort.OwnSortedInts
section
namespace Go.Wx
theorem flat_int (ks : List Int) : ks.flatMap (fun x => (eInt x).toList) = ks.map vi := by
 induction ks with
 | nil => rfl
 | cons k ks ih => rw [List.flatMap_cons, ih]; rfl
def isLate (kb : Base) (id : Int) : Bool := decide ((expF kb id).2.2 = 0) && !(expF kb id).2.1
def lateP (kb : Base) (l : List Fact) : List Int := (l.filter fun p => isLate kb p.ID).map (·.ID)
def lateL (kb : Base) : List Int := (lateP kb kb.Processes).mergeSort fun x y => decide (x ≤ y)
theorem late_yes {kb : Base} {l : List Fact} {i : Nat} {x : Fact} (h : l[i]? = some x) (hx : isLate kb x.ID = true) : lateP kb (l.take (i + 1)) = lateP kb (l.take i) ++ [x.ID] := by
 unfold lateP
 rw [List.take_add_one, h, Option.toList_some, List.filter_append, List.map_append]
 simp [hx]
theorem late_no {kb : Base} {l : List Fact} {i : Nat} {x : Fact} (h : l[i]? = some x) (hx : isLate kb x.ID = false) : lateP kb (l.take (i + 1)) = lateP kb (l.take i) := by
 unfold lateP
 rw [List.take_add_one, h, Option.toList_some, List.filter_append, List.map_append]
 simp [hx]
theorem late_len (kb : Base) (l : List Fact) (i : Nat) : (lateP kb (l.take i)).length ≤ l.length := by
 unfold lateP
 rw [List.length_map]
 exact Nat.le_trans (List.length_filter_le _ _) (by rw [List.length_take]; omega)
theorem sl_els {α : Type} {w : World} {ad : Option Addr} {n c k : Nat} {enc : α → Array Go.Value} {xs : List α} (h : Sl w (.slice ad n c) k enc xs) : Els w ad k enc xs := by
 obtain ⟨a, c', e, he⟩ := h
 cases e
 exact he
theorem des_none {b : Base} {t c r : Int} (h : ∀ p ∈ b.Processes, gof p ≠ ⟨t, c, r⟩) : desF b t c r = [] := by
 have : rnsF b t c r = [] := List.eq_nil_iff_forall_not_mem.2 fun x hx => by
   obtain ⟨h1, h2, h3, h4⟩ := rns_mem.1 hx
   exact h x h1 (by unfold gof; rw [h2, h3, h4])
 unfold desF
 rw [this]
 rfl
end Go.Wx
namespace Go.Proofs.YtbbpkdlehlamlaaGreatDoor
open Go.Proofs.Tryz
open Go.Wx Go.RowKit
theorem sortS_any (v : Go.Value) (ks : List Int) (w : World) (h : OwnS w 0 3 1 eInt v ks) (hlen : ks.length < 4611686018427387904) : Ret Tryz.prog 53 #[v] w fun r w' => r = .tuple #[] ∧ Stp (aOwn 3 1 eInt v ks) (aOwn 3 1 eInt v (ks.mergeSort fun x y => decide (x ≤ y))) w w' := by
 have h0 := h
 obtain ⟨h1, ⟨rfl, hn⟩ | ⟨g, cap, cur, rfl, hg, hb, h2, h3, h4, h5⟩⟩ := h
 · have hks : ks = [] := List.eq_nil_of_length_eq_zero hn
   subst hks
   refine Calls.mono (Tryz.slices_Sort_int_none none 0 w) ?_
   rintro e' w' ⟨rfl, rfl⟩
   exact ⟨_, rfl, rfl, Fr.refl _ _, show OwnS w' 0 3 1 eInt (.slice none 0 0) (List.mergeSort [] _) from by simpa using h0, fun _ h => .inl h⟩
 rw [flat_int] at h5
 have hl : g < w.heap.size := lt_of_block hb
 refine Calls.mono (Tryz.slices_Sort_int g 0 cap ks w (Go.holds_of_blockI hb (by simpa using h5)) hl hlen) ?_
 rintro e' w' ⟨rfl, n, os, rfl⟩
 have hg2 := Go.grownBy_sortedI (w := w) (g := g) (n := n) (os := os) (ks.mergeSort fun x y => decide (x ≤ y)).toArray
 have ho := Go.ownsRow_sortedI (w := w) (n := n) (os := os) (ss := ks) (ts := ks.mergeSort fun x y => decide (x ≤ y)) (by simp) hg hb h2 h3 h4
 refine ⟨_, rfl, rfl, ⟨hg2.os, hg2.tape, hg2.output, hg2.size, fun i hi hn => hg2.block i hi (fun e => hn (by cases e; rfl))⟩, ?_, fun _ h => .inl h⟩
 show World.ownsRow _ _ _ _ _ _ _
 rw [flat_int, List.length_mergeSort]
 exact ho
theorem cloneI_any (ad : Option Addr) (cp : Nat) (l : List Int) (w : World) (hE0 : Els w ad 1 eInt l) (hl : l.length ≤ 1000000000) : Ret Tryz.prog 45 #[.slice ad l.length cp] w fun r w' => OwnS w' w.heap.size 3 1 eInt r l ∧ Up w w' := by
 obtain ⟨w0, rfl⟩ : ∃ w0, w0 = w := ⟨_, rfl⟩
 have hS := Sep.start no w0
 refine cS (n := 8) (m := 9) func45 rfl rfl rfl (CW.S (LW.C (LW.S (CW.S (LW.M rfl (LW.pp (.eqlNilS underlying46 (.t rfl)) (LW.T (CW.cond (.t rfl) (fun h4 => ?_) (fun h4 => ?_)))))))))
 ·have hnil : l = [] := by cases l with | nil => rfl | cons x r => (obtain ⟨B, o, e, _⟩ := hE0 0 x rfl; rw [e] at h4; cases h4)
  refine CW.S (LW.C (LW.T (CW.ret (KW.then_ret (KW.ret1 rfl rfl ⟨_, rfl, ?_⟩)))))
  (subst hnil; exact ⟨OwnS.nil _ _ _ _ _, hS.upd⟩)
 refine CW.skip (KW.then (CW.S (LW.rr (.buildSlice (xs := ([] : List Int)) (enc := eInt) (mk := vi) underlying46 sizeOf3 zeroValue3 rfl cQ (fun _ => rfl) (fun _ => rfl) .nil rfl) rfl ?_)))
 intro v5 w1 hN5
 obtain ⟨uw1, B5, rfl, hO5⟩ := NewSl.own0 hN5 (Nat.le_refl _)
 replace hS := hS.add uw1 (A' := aOwn 3 1 eInt (.slice (some ⟨B5, 0, none⟩) 0 0) ([] : List Int)) (hO5.mono (Nat.zero_le _)) (fun i h => hO5.base i h)
 refine LW.M rfl (LW.rr (.appendF (enc := eInt) (bytes := 8) (i := Tryz.t3) underlying46 kQ rfl rfl rfl rfl cQ (fun _ => rfl) eInt_one (.t rfl) (.t rfl) (hS.own 0 rfl) (Sl.of_els (Els.up hE0 hS.upd)) (by simp [maxLen]; omega) (by simp; omega)) rfl ?_)
 intro v7 w2 Gw2
 replace hS := hS.stp 0 rfl Gw2
 refine LW.A rfl (LW.T (CW.ret (KW.ret1 rfl rfl ⟨_, rfl, ?_⟩)))
 exact ⟨(hS.own 0 rfl).rebase (fun i h => (hS.foot 0 rfl i h).resolve_left (fun h => h)), hS.upd⟩
theorem ELate_any (E bf bd : Nat) (bc : Array Go.Value) (nw : Int) (kb : Base) (w : World) (hbc : bc.size = 11) (hE : Blk w E (EC bf bc bd nw) 80) (hC : BaseC w bc kb) (hlP : kb.Processes.length ≤ 100) (hlM : kb.Measures.length ≤ 100) (hlR : kb.Resets.length ≤ 100) (hlT : kb.Targets.length ≤ 100) (hV : ∀ f ∈ kb.Processes, inI f.Value) : Ret Tryz.prog 21 #[.pointer (some ⟨E, 0, none⟩)] w fun r w' => OwnS w' w.heap.size 3 1 eInt r (lateL kb) ∧ Up w w' := by
 obtain ⟨w0, rfl⟩ : ∃ w0, w0 = w := ⟨_, rfl⟩
 have hS := Sep.start no w0
 refine cS (n := 46) (m := 9) func21 rfl rfl rfl (CW.S (LW.C (LW.S (CW.S (LW.M rfl (LW.pp (.fa (PEv.eqlNil underlying28 (.t rfl)) (rfl)) (LW.T (CW.cond_false (.t rfl) (CW.skip (KW.then (CW.seq (CW.seq ?_))))))))))))
 obtain ⟨_, hvp, adp, cpp, rfl, hEp0⟩ := BaseC.at_ hC (j := 0) cQ
 replace hvp : bc[0]? = some (.slice adp kb.Processes.length cpp) := hvp
 have hEp : Els _ adp 19 Fact.cells kb.Processes := hEp0
 replace hS := hS.addn (OwnS.nil _ 0 3 1 eInt)
 refine CW.region (LW.M rfl (LW.pp (.nilCheck (.t rfl)) (LW.pp (.fA 1 underlying80 rfl sizeOf32 rfl) (LW.pp (.fA 0 underlying32 rfl sizeOf26 rfl) (LW.pp (.ld isAgg26 rfl (EC_lst (hE.up hS.upd) hvp)) (LW.pp (.lenS underlying26 (.t rfl)) (LW.pp (.move (.const _)) (LW.T (CW.block (CW.loopB (σ := Nat × Go.Value) (fun s w => (s.1 ≤ kb.Processes.length) ∧ (Wx.Sep no w0 w [aOwn 3 1 eInt s.2 (lateP kb (kb.Processes.take s.1))])) (fun s => [(16, .eq (vi (s.1 : Int))), (2, .eq (s.2))]) ([(0, .eq _), (14, .eq _), (15, .eq _)]) (fun s => kb.Processes.length - s.1) (0, .slice none 0 0) ?_ ⟨rfl, rfl, rfl, rfl, rfl, trivial⟩ ?_))))))))))
 ·exact ⟨Nat.zero_le _, hS⟩
 rintro ⟨i, v⟩ w1 ⟨hi, hS⟩
 change CW _ _ _ _ _ _ _ ([(16, .eq (vi (i : Int))), (2, .eq (v))] ++ _) _
 refine CW.seq ?_
 skip
 refine CW.region (LW.pp (.lss (.t rfl) (.t rfl)) (LW.S (CW.cond (.t rfl) (fun h17 => ?_) (fun h17 => ?_))))
 ·replace h17 := dQ h17
  refine CW.skip (KW.then (CW.seq (CW.block (CW.seq ?_))))
  have hil : i < kb.Processes.length := by omega
  obtain ⟨x, hx⟩ : ∃ x, kb.Processes[i]? = some x := ⟨_, List.getElem?_eq_getElem hil⟩
  obtain ⟨Bx, ox, ax, hcx⟩ := (Els.up hEp hS.upd) i x hx
  have hll := late_len kb kb.Processes i
  refine CW.region (LW.pp (.indexAddr' underlying26 sizeOf24 (j := i) (.t rfl) (.t rfl) oQ ax) (LW.pp (.la isAgg24 sizeOf24 rfl (hcx)) (LW.rr (.allocA zeroValue24) rfl ?_)))
  rintro _ w2 ⟨B4, rfl, MB4⟩
  refine LW.E (.storeA sizeOf24 rfl (.t rfl) (.t rfl) (Fact.one _) MB4.blk rfl) ?_
  intro w3 LB4
  have NB4 := MB4.set LB4
  replace hS := hS.addB NB4
  refine LW.S (CW.boxU 15 11 12 8 5 28 (DP.cells ⟨dec0, none, 0⟩) [.eq (.pointer (some ⟨E, 0, none⟩)), .eq (.pointer (some ⟨E, 0, none⟩)), .eq (.pointer (some ⟨E, 1, none⟩)), .eq (.agg bc), .eq (.pointer (some ⟨B4, 1, none⟩)), .eq (vi x.ID), .pred (fun v _ => ∃ ad cp, v = .tuple #[.agg (DP.cells ⟨(expF kb x.ID).1, ad, cp⟩), .bool (expF kb x.ID).2.1, vi (expF kb x.ID).2.2]), .pred (fun v _ => ∃ ad cp, v = .tuple #[.agg (DP.cells ⟨(expF kb x.ID).1, ad, cp⟩), .bool (expF kb x.ID).2.1, vi (expF kb x.ID).2.2]), .pred (fun v _ => ∃ ad cp, v = .agg (DP.cells ⟨(expF kb x.ID).1, ad, cp⟩)), .eq (.bool (expF kb x.ID).2.1), .eq (vi (expF kb x.ID).2.2), .pred fun v _ => ∃ B, v = .pointer (some ⟨B, 0, none⟩), .eq undef, .eq (.bool (expF kb x.ID).2.1), .eq (vi (expF kb x.ID).2.2)] [6, 7] zeroValue48 sizeOf48 kQ rfl kQ kQ kQ kQ kQ kQ kQ rfl rfl ⟨_, _, _, rfl⟩ _ rfl ⟨_, _, _, rfl⟩ ⟨PhT.eq _ _, PhT.eq _ _, PhT.eq _ _, PhT.eq _ _, PhT.eq _ _, PhT.eq _ _, PhT.pred fun _ _ _ h _ => h, PhT.pred fun _ _ _ h _ => h, PhT.pred fun _ _ _ h _ => h, PhT.eq _ _, PhT.eq _ _, PhT.pred fun _ _ _ h _ => h, PhT.eq _ _, PhT.eq _ _, PhT.eq _ _, trivial⟩ rfl (fun v W h => let ⟨ad, cp, e⟩ := h; ⟨_, e, rfl, DP.one _⟩) (fun B W => ⟨B, rfl⟩) ?_ ?_)
  ·intro W hU0
   have hU := (Up.drew w3).trans hU0
   have hSW := hS.up hU
   have hEW := hE.up hSW.upd
   have hCW := BaseC.up hC hSW.upd
   refine aC (.inr ⟨rfl, TU.p (.move (.t rfl)) rfl⟩) (aC (.inr ⟨rfl, TU.p (.nilCheck (.t rfl)) rfl⟩) (aC (.inr ⟨rfl, TU.p (.fA 1 underlying80 rfl sizeOf32 rfl) rfl⟩) (aC (.inr ⟨rfl, TU.p (.loadA isAgg32 sizeOf32 hbc (.t rfl) (EC_known hEW)) rfl⟩) (aC (.inr ⟨rfl, TU.p (.fA 1 underlying24 rfl sizeOf3 rfl) rfl⟩) (aC (.inr ⟨rfl, TU.p (.ld isAgg3 rfl ((hSW.blk 1 rfl).celln rfl)) rfl⟩) (aC (.inr ⟨rfl, TU.c (eC (.u rfl rfl) (en22)) (Explain_any bc kb x.ID W hCW oQ oQ oQ oQ hV) (by rintro _ W1 ⟨v, rfl, ⟨ad, cp, rfl, _⟩, u⟩; exact ⟨u, ad, cp, rfl⟩)⟩) (aC (.inr ⟨rfl, TU.open (d := 27) rfl fun v hv => TU.p (.move (.t rfl)) hv⟩) (aC (.inr ⟨rfl, TU.open (d := 20) rfl fun v hv => by obtain ⟨ad, cp, rfl⟩ := hv; exact TU.p (.extract (.t rfl) rfl) ⟨ad, cp, rfl⟩⟩) (aC (.inr ⟨rfl, TU.open (d := 20) rfl fun v hv => by obtain ⟨ad, cp, rfl⟩ := hv; exact TU.p (.extract (.t rfl) rfl) rfl⟩) (aC (.inr ⟨rfl, TU.open (d := 20) rfl fun v hv => by obtain ⟨ad, cp, rfl⟩ := hv; exact TU.p (.extract (.t rfl) rfl) rfl⟩) (aC (.inl (.inl rfl)) (aC (.inl (.inr rfl)) (aC (.inr ⟨rfl, TU.p (.assign (.t rfl)) rfl⟩) (aC (.inr ⟨rfl, TU.p (.assign (.t rfl)) rfl⟩) ?_))))))))))))))
   exact allL.nil
  intro w4 B5 g hU0 zB5_ _ hg
  have hU := (Up.drew w3).trans hU0
  have e6 : g 6 = .bool (expF kb x.ID).2.1 := hg 13 _ 6 cQ rfl rfl
  have e7 : g 7 = vi (expF kb x.ID).2.2 := hg 14 _ 7 cQ rfl rfl
  change LW _ _ _ _ _ _ _ _ ((5, _) :: (6, .eq (g 6)) :: (7, .eq (g 7)) :: _) _
  rw [e6, e7]
  replace hS := hS.up hU
  refine LW.S (CW.region (LW.M rfl (LW.pp (.eql (.t rfl) (.const _)) (LW.M rfl (LW.g rfl rfl rfl rfl rfl rfl rfl (fun hc => PEv.move (.t rfl)) (LW.g rfl rfl rfl rfl rfl rfl rfl (fun hc => PEv.not vQ) (LW.pp (.pick_and (.t rfl) (fun hp => (by exact .cond rfl (by simp_all)))) (LW.T (CW.cond (.t rfl) (fun h36 => ?_) (fun h36 => ?_))))))))))
  ·replace h36 := dQ h36
   refine CW.region (LW.M rfl (LW.pp (.fA 1 underlying24 rfl sizeOf3 rfl) (LW.pp (.ld isAgg3 rfl ((hS.blk 1 rfl).celln rfl)) (LW.rr (.buildSlice (xs := [x.ID]) (enc := eInt) (mk := vi) underlying46 sizeOf3 zeroValue3 rfl cQ (fun _ => rfl) (fun _ => rfl) (.cons (.t rfl) .nil) rfl) rfl ?_))))
   rintro _ w5 ⟨B40, cB40, rfl, NB40, yB40, xB40⟩
   replace hS := hS.up NB40.up
   have hE40 := xB40
   refine LW.rr (.appendF (enc := eInt) (bytes := 8) (i := Tryz.t3) underlying46 kQ rfl rfl rfl rfl cQ (fun _ => rfl) eInt_one (.t rfl) (.t rfl) (hS.own 0 rfl) (Sl.of_els hE40) (by simp [maxLen]; omega) (by simp; omega)) rfl ?_
   intro v41 w6 Gw6
   replace hS := hS.stp 0 rfl Gw6
   refine LW.A rfl (LW.nil (KW.inBlock (KW.then (CW.region (LW.pp (.inc (.t rfl) oQ) (LW.M rfl (LW.nil (KW.round ?_))))))))
   exact ⟨(i + 1, v41), ⟨by show i + 1 ≤ _; omega, by rw [late_yes hx (by simpa [isLate] using h36)]; exact hS.take 1⟩, ⟨rfl, rfl, rfl, rfl, rfl, trivial⟩, by show kb.Processes.length - (i + 1) < kb.Processes.length - i; omega⟩
  replace h36 := dQ h36
  refine CW.skip (KW.inBlock (KW.then (CW.region (LW.pp (.inc (.t rfl) oQ) (LW.M rfl (LW.nil (KW.round ?_)))))))
  exact ⟨(i + 1, v), ⟨by show i + 1 ≤ _; omega, by rw [late_no hx (by simpa [isLate] using h36)]; exact hS.take 1⟩, ⟨rfl, rfl, rfl, rfl, rfl, trivial⟩, by show kb.Processes.length - (i + 1) < kb.Processes.length - i; omega⟩
 replace h17 := dQ h17
 refine CW.exit (KW.then_exit (KW.then_exit (KW.block_hit (KW.then (CW.seq ?_)))))
 have hie : i = kb.Processes.length := by omega
 rw [hie, List.take_length] at hS
 refine CW.region (LW.M rfl (LW.K (eC (.o rfl) (en53)) rfl (sortS_any _ _ _ (hS.own 0 rfl) (by have := late_len kb kb.Processes kb.Processes.length; rw [List.take_length] at this; omega)) ?_))
 rintro _ w7 ⟨rfl, uw7⟩
 replace hS := hS.stp 0 rfl uw7
 refine LW.S (CW.region (LW.M rfl (LW.A rfl (LW.T (CW.ret (KW.ret1 rfl rfl ⟨_, rfl, ?_⟩))))))
 exact ⟨(hS.own 0 rfl).rebase (fun i h => (hS.foot 0 rfl i h).resolve_left (fun h => h)), hS.upd⟩
end Go.Proofs.YtbbpkdlehlamlaaGreatDoor
end
section
namespace Go.Wx
theorem lookG_of {b : Base} {t c r : Int} : (∃ p ∈ b.Processes, gof p = ⟨t, c, r⟩) ∨ desF b t c r = [] := by
 by_cases h : ∃ p ∈ b.Processes, gof p = ⟨t, c, r⟩
 · exact .inl h
 exact .inr (des_none fun p hp e => h ⟨p, hp, e⟩)
end Go.Wx
namespace Go.Proofs.YtbbpkdlehlamlaaGreatDoor
open Go.Proofs.Tryz
open Go.Wx Go.RowKit
theorem lookD {D : List DE} {kb : Base} {bd : Nat} {w : World} (hM : Mk.IMap grpK w bd (D.map DE.kv)) (hDD : (aDD D).holds w) (hk : ∀ g, g ∈ D.map (·.g) ↔ ∃ p ∈ kb.Processes, gof p = g) (hd : ∀ e ∈ D, dk kb e) (t c r : Int) (ho : inI t ∧ inI c ∧ inI r) : ∃ ad cp L, (∀ (n : Nat) (ds : List Deferred) (l : Env) (d : Option Tmp) (ty : TypeId) (ps : String) (af : Array Edge) (g : Option (Nat × Bool)) (mo x : Operand), Val l mo (.map (some bd)) → Val l x (.agg (Grp.mk t c r).cells) → PEv Tryz.prog n ds l w ⟨d, .lookup 78 mo x false, ty, ps, af, g⟩ (.slice ad (List.length (α := DP) L) cp)) ∧ Els w ad 6 DP.cells L ∧ (∀ p ∈ L, Sl w p.uv 1 eInt p.dec.uses) ∧ L.map DP.dec = desF kb t c r := by
 by_cases h : (Grp.mk t c r) ∈ D.map (·.g)
 · obtain ⟨e, he, hg⟩ := List.mem_map.1 h
   have hA : (aDs e).holds w := hDD.1 _ (List.mem_map.2 ⟨e, he, rfl⟩)
   have hO : OwnS w 0 48 6 DP.cells e.v e.L := hA.1 _ List.mem_cons_self
   have hU : (aAnd (usesA 3 e.L)).holds w := hA.1 _ (List.mem_cons_of_mem _ List.mem_cons_self)
   obtain ⟨ad, cp, hv, hE⟩ := hO.sl (fun _ => rfl)
   refine ⟨ad, cp, e.L, fun n ds l d ty ps af g mo x hm hx => ?_, hE, usesA_get hU, ?_⟩
   · exact Mk.PEv.lookupYes (Q := grpK) (ok := false) (v := .slice ad e.L.length cp) underlying78 grpLaw (show grpK.ok (Grp.mk t c r) from ho) hm hx hM (List.mem_map.2 ⟨e, he, by unfold DE.kv; rw [hg, hv]⟩)
   have := hd e he
   unfold dk at this
   rw [hg] at this
   exact this
 refine ⟨none, 0, [], fun n ds l d ty ps af g mo x hm hx => ?_, fun i x hx => (by simp at hx), fun _ h => (by cases h), ?_⟩
 · exact Mk.PEv.lookupNo (Q := grpK) (ok := false) underlying78 grpLaw (show grpK.ok (Grp.mk t c r) from ho) zeroValue38 hm hx hM (by rw [kv_keys]; exact h)
 rcases lookG_of (b := kb) (t := t) (c := c) (r := r) with h1 | h1
 · exact absurd ((hk _).2 h1) h
 rw [h1]; rfl
theorem EDecs_any (E bf bd : Nat) (bc : Array Go.Value) (nw : Int) (D : List DE) (kb : Base) (t c r : Int) (w : World) (hbc : bc.size = 11) (ho : inI t ∧ inI c ∧ inI r) (hlP : kb.Processes.length ≤ 100) (hk : ∀ g, g ∈ D.map (·.g) ↔ ∃ p ∈ kb.Processes, gof p = g) (hd : ∀ e ∈ D, dk kb e) (hE : Blk w E (EC bf bc bd nw) 80) (hM : Mk.IMap grpK w bd (D.map DE.kv)) (hDD : (aDD D).holds w) : Ret Tryz.prog 17 #[.pointer (some ⟨E, 0, none⟩), vi t, vi c, vi r] w fun r0 w' => ∃ v L, r0 = v ∧ L.map DP.dec = desF kb t c r ∧ Wx.Sep no w w' [aOwn 48 6 DP.cells v L, aAnd (usesA 3 L)] := by
 obtain ⟨w0, rfl⟩ : ∃ w0, w0 = w := ⟨_, rfl⟩
 have hS := Sep.start no w0
 refine cS (n := 37) (m := 9) func17 rfl rfl rfl (CW.S (LW.C (LW.S (CW.S (LW.M rfl (LW.pp (.fa (PEv.eqlNil underlying28 (.t rfl)) (rfl)) (LW.T (CW.cond_false (.t rfl) (CW.skip (KW.then (CW.seq (CW.seq ?_))))))))))))
 obtain ⟨ad0, cp0, Ls, hlk, hEl, hUs, hdec⟩ := lookD (Mk.IMap.up hM hS.upd) ((aDD D).keep _ _ hDD (fun _ _ hl => hS.upd.block hl) hS.upd.size) hk hd t c r ho
 have hLn : Ls.length ≤ 100 := by have h1 := desF_len kb t c r; have h2 := rnsF_len kb t c r; rw [← hdec, List.length_map] at h1; omega
 have huse : ∀ x ∈ Ls, x.dec.uses.length ≤ 1000000000 := fun x hx => by have h1 := desF_uses kb t c r x.dec (by rw [← hdec]; exact List.mem_map.2 ⟨x, hx, rfl⟩); have h2 := rnsF_len kb t c r; omega
 replace hS := hS.add (Up.refl _) (A' := aOwn 48 6 DP.cells (.slice none 0 0) ([] : List DP)) (OwnS.nil _ _ _ _ _) (by intro i h; cases h)
 replace hS := hS.add (Up.refl _) (A' := aAnd (usesA 3 [])) ⟨by simp [usesA], by simp [usesA]⟩ (by rintro i ⟨A, hA, _⟩; simp [usesA] at hA)
 refine CW.region (LW.M rfl (LW.pp (.nilCheck (.t rfl)) (LW.pp (.fA 12 underlying80 rfl sizeOf78 rfl) (LW.pp (.ld isAgg78 rfl ((hE.up hS.upd).cell (EC_dec hbc))) (LW.M rfl (LW.M rfl (LW.M rfl (LW.pp (.build (cs := (Grp.mk t c r).cells) underlying96 zeroValue96 Tryz.places96 (.cons (.t rfl) (.cons (.t rfl) (.cons (.t rfl) .nil))) rfl) (LW.pp (hlk _ _ _ _ _ _ _ _ _ _ (.t rfl) (.t rfl)) (LW.pp (.lenS underlying38 (.t rfl)) (LW.pp (.move (.const _)) (LW.T (CW.block (CW.loopB (σ := Nat × Go.Value × List DP) (fun s w => (s.1 ≤ Ls.length) ∧ (s.2.2.map DP.dec = (Ls.take s.1).map DP.dec) ∧ (Wx.Sep no w0 w [aOwn 48 6 DP.cells s.2.1 s.2.2, aAnd (usesA 3 s.2.2)])) (fun s => [(23, .eq (vi (s.1 : Int))), (8, .eq (s.2.1))]) ([(21, .eq _), (22, .eq _)]) (fun s => Ls.length - s.1) (0, .slice none 0 0, []) ?_ ⟨rfl, rfl, rfl, rfl, trivial⟩ ?_))))))))))))))
 ·exact ⟨Nat.zero_le _, rfl, hS⟩
 rintro ⟨i, v, L⟩ w1 ⟨hi, hL, hS⟩
 dsimp only at hi hL hS
 have hLl : L.length ≤ i := by have h := congrArg List.length hL; rw [List.length_map, List.length_map, List.length_take] at h; omega
 change CW _ _ _ _ _ _ _ ([(23, .eq (vi (i : Int))), (8, .eq (v))] ++ _) _
 refine CW.S (LW.pp (.lss (.t rfl) (.t rfl)) (LW.S (CW.cond (.t rfl) (fun h24 => ?_) (fun h24 => ?_))))
 ·replace h24 := dQ h24
  refine CW.skip (KW.then (CW.seq (CW.block (CW.seq ?_))))
  have hil : i < Ls.length := by omega
  obtain ⟨x, hx⟩ : ∃ x, Ls[i]? = some x := ⟨_, List.getElem?_eq_getElem hil⟩
  obtain ⟨Bx, ox, ax, hcx⟩ := (Els.up hEl hS.upd) i x hx
  have hxm := List.mem_of_getElem? hx
  refine CW.region (LW.pp (.indexAddr' underlying38 sizeOf48 (j := i) (.t rfl) (.t rfl) oQ ax) (LW.pp (.la isAgg48 sizeOf48 rfl (hcx)) (LW.rr (.allocA zeroValue48) rfl ?_)))
  rintro _ w2 ⟨B10, rfl, MB10⟩
  refine LW.E (.storeA sizeOf48 rfl (.t rfl) (.t rfl) (DP.one _) MB10.blk rfl) ?_
  intro w3 LB10
  have NB10 := MB10.set LB10
  replace hS := hS.addB NB10
  refine LW.S (CW.region (LW.pp (.fA 5 underlying48 rfl sizeOf46 rfl) (LW.pp (.ld isAgg46 rfl ((hS.blk 2 rfl).celln rfl)) ?_)))
  have huL : x.dec.uses.length ≤ 1000000000 := huse x hxm
  refine LW.K (eC (.o rfl) (en45)) rfl (cloneI_any x.ad x.cp x.dec.uses _ (Els.up (sl_els (hUs x hxm)) hS.upd) huL) ?_
  rintro v29 w4 ⟨hO29, uw4⟩
  replace hS := hS.add uw4 (A' := aOwn 3 1 eInt v29 x.dec.uses) (hO29.mono (Nat.zero_le _)) (fun i h => (hO29.base i h))
  obtain ⟨ad29, cp29, rfl, _⟩ := hO29.sl (fun _ => rfl)
  refine LW.pp (.fA 5 underlying48 rfl sizeOf46 rfl) (LW.E (.store sizeOf46 (.t rfl) (.t rfl) rfl (hS.blk 2 rfl) (Nat.le_of_ble_eq_true rfl)) ?_)
  intro w5 Nw5
  replace hS := hS.putB 2 rfl (show Set_ _ w5 _ (DP.cells (⟨x.dec, ad29, cp29⟩ : DP)) _ from Nw5)
  refine LW.T (CW.region (LW.M rfl (LW.pp (.la isAgg48 sizeOf48 rfl ((hS.blk 2 rfl).agg)) (LW.rr (.buildSlice (xs := [(⟨x.dec, ad29, cp29⟩ : DP)]) (enc := DP.cells) (mk := fun p => .agg p.cells) underlying38 sizeOf48 zeroValue48 rfl cQ (fun _ => rfl) (fun _ => rfl) (.cons (.t rfl) .nil) rfl) rfl ?_))))
  rintro _ w6 ⟨B33, cB33, rfl, NB33, yB33, xB33⟩
  replace hS := hS.up NB33.up
  have hE33 := xB33
  refine LW.rr (.appendF (enc := DP.cells) (bytes := 64) (i := Tryz.t48) underlying38 kQ rfl rfl rfl rfl cQ (fun _ => rfl) DP.one (.t rfl) (.t rfl) (hS.own 0 rfl) (Sl.of_els hE33) (by simp [maxLen]; omega) (by simp; omega)) rfl ?_
  intro v34 w7 Gw7
  replace hS := hS.stp 0 rfl Gw7
  refine LW.A rfl (LW.nil (KW.inBlock (KW.then ?_)))
  have h9 := Sep.snocA (Bs := [_]) (hS.sub (.cons_cons _ (.cons_cons _ (.cons _ (.cons_cons _ .slnil)))))
  replace h9 : Wx.Sep no w0 w7 ([_] ++ [aAnd (usesA 3 L ++ [aOwn 3 1 eInt (DP.uv (⟨x.dec, ad29, cp29⟩ : DP)) (DP.dec (⟨x.dec, ad29, cp29⟩ : DP)).uses])]) := h9
  rw [usesA_snoc] at h9
  refine CW.region (LW.pp (.inc (.t rfl) oQ) (LW.M rfl (LW.nil (KW.round ?_))))
  exact ⟨(i + 1, v34, L ++ [(⟨x.dec, ad29, cp29⟩ : DP)]), ⟨by show i + 1 ≤ _; omega, by rw [List.map_append, hL, List.take_add_one, hx, List.map_append]; rfl, h9⟩, ⟨rfl, rfl, rfl, rfl, trivial⟩, by show Ls.length - (i + 1) < Ls.length - i; omega⟩
 replace h24 := dQ h24
 refine CW.exit (KW.then_exit (KW.then_exit (KW.block_hit (KW.then (CW.S (LW.M rfl (LW.A rfl (LW.T (CW.ret (KW.ret1 rfl rfl ⟨_, rfl, ?_⟩))))))))))
 have hie : i = Ls.length := by omega
 rw [hie, List.take_length] at hL
 exact ⟨_, L, rfl, hL.trans hdec, hS⟩
end Go.Proofs.YtbbpkdlehlamlaaGreatDoor
end
section
namespace Go.Wx
theorem take_eq_step {xs ys : List Int} {k : Nat} {x y : Int} (h : xs.take k = ys.take k) (hx : xs[k]? = some x) (hy : ys[k]? = some y) (e : x = y) : xs.take (k + 1) = ys.take (k + 1) := by rw [take_succ_of hx, take_succ_of hy, h, e]
theorem ne_of_at {xs ys : List Int} {k : Nat} {x y : Int} (hx : xs[k]? = some x) (hy : ys[k]? = some y) (e : ¬ x = y) : ¬ xs = ys := fun h => e (by subst h; rw [hx] at hy; cases hy; rfl)
def tgt21 (k : Int) : Fact := ⟨10, 0, 1, 0, false, 0, 0, 0, 0, 0, 0, 0, 0, 0, k, 0, 100, 0, ByteArray.empty⟩
def run21 (a b c : Int) : Fact := ⟨1, a, 1, 0, false, b, b, 1, 0, 0, 0, 4, 0, 0, 9, 1, c, 0, ByteArray.empty⟩
end Go.Wx
namespace Go.Proofs.YtbbpkdlehlamlaaGreatDoor
open Go.Proofs.Tryz
open Go.Wx Go.RowKit
theorem sameInts_any (v1 v2 : Value) (xs ys : List Int) (w : World) (h1 : Sl w v1 1 eInt xs) (h2 : Sl w v2 1 eInt ys) (hx0 : xs.length ≤ 1000000000) (hy0 : ys.length ≤ 1000000000) : Ret Tryz.prog 29 #[v1, v2] w fun r w' => r = .bool (decide (xs = ys)) ∧ Up w w' := by
 have hW := Up.refl w
 obtain ⟨w0, rfl⟩ : ∃ w0, w0 = w := ⟨_, rfl⟩
 obtain ⟨ad, cp, rfl, hE1⟩ := h1
 obtain ⟨ad', cp', rfl, hE2⟩ := h2
 refine cS (n := 26) (m := 9) func29 rfl rfl rfl (CW.S (LW.C (LW.S (CW.S (LW.M rfl (LW.pp (.lenS underlying46 (.t rfl)) (LW.M rfl (LW.pp (.lenS underlying46 (.t rfl)) (LW.pp (.neq (.t rfl) (.t rfl)) (LW.T (CW.cond (.t rfl) (fun h10 => ?_) (fun h10 => ?_))))))))))))
 ·replace h10 := dQ h10
  have hr : decide (xs = ys) = false := decide_eq_false (fun h => by subst h; simp at h10)
  refine CW.S (LW.C (LW.T (CW.ret (KW.then_ret (KW.ret1 rfl rfl ⟨_, rfl, ?_⟩)))))
  exact ⟨by rw [hr], hW⟩
 replace h10 := dQ h10
 have hlen : xs.length = ys.length := Int.ofNat.inj (show Int.ofNat _ = Int.ofNat _ from (by simpa using h10 : (xs.length : Int) = ys.length))
 refine CW.skip (KW.then (CW.seq (CW.S (LW.C (LW.T (CW.block (CW.loop (σ := Nat) (fun s w => (s ≤ xs.length ∧ xs.take s = ys.take s) ∧ Els w ad 1 eInt xs ∧ Els w ad' 1 eInt ys ∧ Up w0 w) (fun s => [(0, .eq (.slice ad xs.length cp)), (1, .eq (.slice ad' ys.length cp')), (5, .eq (vi (s : Int)))]) (fun s => xs.length - s) 0 ?_ ?_ ?_)))))))
 ·exact ⟨⟨Nat.zero_le _, rfl⟩, hE1, hE2, hW⟩
 ·exact ⟨rfl, rfl, rfl, trivial⟩
 rintro k w1 ⟨⟨hk, hT⟩, hE1, hE2, hW⟩
 refine CW.seq (CW.S (LW.M rfl (LW.M rfl (LW.pp (.lenS underlying46 (.t rfl)) (LW.pp (.lss (.t rfl) (.t rfl)) (LW.T (CW.cond (.t rfl) (fun h14 => ?_) (fun h14 => ?_))))))))
 ·replace h14 := dQ h14
  refine CW.skip (KW.then (CW.seq (CW.block (CW.seq ?_))))
  obtain ⟨x, hx⟩ := getElem?_of_lt (xs := xs) (i := k) oQ
  obtain ⟨y, hy⟩ := getElem?_of_lt (xs := ys) (i := k) oQ
  obtain ⟨B, o, had, hcell⟩ := hE1 k x hx
  obtain ⟨B', o', had', hcell'⟩ := hE2 k y hy
  refine CW.draws kQ kQ rfl rfl (HW.pp (.move (.t rfl)) (HW.pp (.move (.t rfl)) (HW.pp (.indexAddr' underlying46 sizeOf3 (.t rfl) (.t rfl) oQ had) (HW.pp (.ld isAgg3 rfl (hcell.nth (j := 0) rfl)) (HW.pp (.move (.t rfl)) (HW.pp (.move (.t rfl)) (HW.pp (.indexAddr' underlying46 sizeOf3 (.t rfl) (.t rfl) oQ had') (HW.pp (.ld isAgg3 rfl (hcell'.nth (j := 0) rfl)) (HW.pp (.neq (.t rfl) (.t rfl)) (HW.nil ?_))))))))))
  intro w2 uw2
  replace hE1 := hE1.up uw2
  replace hE2 := hE2.up uw2
  replace hW := hW.up uw2
  refine KW.then (CW.cond (.t rfl) (fun h25 => ?_) (fun h25 => ?_))
  ·replace h25 := dQ h25
   have hr : decide (xs = ys) = false := decide_eq_false (ne_of_at hx hy (by simpa using h25))
   refine CW.S (LW.C (LW.T (CW.ret (KW.block_ret (KW.then_ret (KW.then_ret (KW.block_ret (KW.then_ret (KW.ret1 rfl rfl ⟨_, rfl, ?_⟩)))))))))
   exact ⟨by rw [hr], hW⟩
  replace h25 := dQ h25
  refine CW.skip (KW.inBlock (KW.then (CW.region (LW.M rfl (LW.pp (.inc (.t rfl) oQ) (LW.A rfl (LW.nil (KW.round ?_))))))))
  exact ⟨k + 1, ⟨⟨by omega, take_eq_step hT hx hy (by simpa using h25)⟩, hE1, hE2, hW⟩, ⟨rfl, rfl, rfl, trivial⟩, by omega⟩
 replace h14 := dQ h14
 have hr : decide (xs = ys) = true := decide_eq_true (by have := hT; rw [show k = xs.length by omega, List.take_length, hlen, List.take_length] at this; exact this)
 refine CW.exit (KW.then_exit (KW.then_exit (KW.block_hit (KW.then (CW.S (LW.C (LW.T (CW.ret (KW.ret1 rfl rfl ⟨_, rfl, ?_⟩)))))))))
 exact ⟨by rw [hr], hW⟩
theorem target21_any (k : Int) (w : World) : Ret Tryz.prog 34 #[vi k] w fun r w' => r = .agg (tgt21 k).cells ∧ Up w w' := by
 obtain ⟨w0, rfl⟩ : ∃ w0, w0 = w := ⟨_, rfl⟩
 have hS := Sep.start no w0
 refine cS (n := 5) (m := 9) func34 rfl rfl rfl (CW.S (LW.rr (.allocA zeroValue24) rfl ?_))
 rintro _ w1 ⟨B2, rfl, NB2⟩
 replace hS := hS.addB NB2
 refine LW.S (CW.region (LW.M rfl (LW.pp (.build (cs := (tgt21 k).cells) underlying24 zeroValue24 Tryz.places24 (.cons (.const _) (.cons (.const _) (.cons (.t rfl) (.cons (.const _) .nil)))) kQ) (LW.E (.storeA sizeOf24 rfl (.t rfl) (.t rfl) (Fact.one _) (hS.blk 0 rfl) rfl) ?_))))
 intro w2 Nw2
 replace hS := hS.putB 0 rfl Nw2
 refine LW.T (CW.ret (KW.retA rfl rfl isAgg24 sizeOf24 rfl ((hS.blk 0 rfl).agg) ⟨_, rfl, ?_⟩))
 exact ⟨rfl, hS.upd⟩
theorem run21_any (a b c : Int) (w : World) : Ret Tryz.prog 35 #[vi a, vi b, vi c] w fun r w' => r = .agg (run21 a b c).cells ∧ Up w w' := by
 obtain ⟨w0, rfl⟩ : ∃ w0, w0 = w := ⟨_, rfl⟩
 have hS := Sep.start no w0
 refine cS (n := 12) (m := 9) func35 rfl rfl rfl (CW.S (LW.rr (.allocA zeroValue24) rfl ?_))
 rintro _ w1 ⟨B6, rfl, NB6⟩
 replace hS := hS.addB NB6
 refine LW.S (CW.region (LW.M rfl (LW.M rfl (LW.M rfl (LW.M rfl (LW.pp (.build (cs := (run21 a b c).cells) underlying24 zeroValue24 Tryz.places24 (.cons (.const _) (.cons (.const _) (.cons (.t rfl) (.cons (.const _) (.cons (.const _) (.cons (.const _) (.cons (.const _) (.cons (.t rfl) (.cons (.t rfl) (.cons (.t rfl) .nil)))))))))) kQ) (LW.E (.storeA sizeOf24 rfl (.t rfl) (.t rfl) (Fact.one _) (hS.blk 0 rfl) rfl) ?_)))))))
 intro w2 Nw2
 replace hS := hS.putB 0 rfl Nw2
 refine LW.T (CW.ret (KW.retA rfl rfl isAgg24 sizeOf24 rfl ((hS.blk 0 rfl).agg) ⟨_, rfl, ?_⟩))
 exact ⟨rfl, hS.upd⟩
theorem EDecsE_any (E bf bd : Nat) (bc : Array Go.Value) (nw : Int) (D : List DE) (kb : Base) (t c r : Int) (w : World) (ho : inI t ∧ inI c ∧ inI r) (hbc : bc.size = 11) (hk : ∀ g, g ∈ D.map (·.g) ↔ ∃ p ∈ kb.Processes, gof p = g) (hd : ∀ e ∈ D, dk kb e) (hlP : kb.Processes.length ≤ 100) (hE : Blk w E (EC bf bc bd nw) 80) (hM : Mk.IMap grpK w bd (D.map DE.kv)) (hDD : (aDD D).holds w) : Ret Tryz.prog 17 #[.pointer (some ⟨E, 0, none⟩), vi t, vi c, vi r] w fun r0 w' => DecsE w' r0 (desF kb t c r) ∧ Up w w' :=
 (EDecs_any E bf bd bc nw D kb t c r w hbc ho hlP hk hd hE hM hDD).mono fun r0 w' ⟨v, L, e, hm, hT⟩ => ⟨by rw [e]; exact decsE_of hT hm, hT.upd⟩
theorem same21_any (E bf bd : Nat) (bc : Array Go.Value) (nw : Int) (D : List DE) (kb : Base) (bcx : Array Go.Value) (w : World) (hbc : bc.size = 11) (hk : ∀ g, g ∈ D.map (·.g) ↔ ∃ p ∈ kb.Processes, gof p = g) (hd : ∀ e ∈ D, dk kb e) (hlP : kb.Processes.length ≤ 100) (hlM : kb.Measures.length ≤ 100) (hlR : kb.Resets.length ≤ 100) (hlT : kb.Targets.length ≤ 100) (hE : Blk w E (EC bf bc bd nw) 80) (hM : Mk.IMap grpK w bd (D.map DE.kv)) (hDD : (aDD D).holds w) (hX : BaseC w bcx kb) : Ret Tryz.prog 33 #[.pointer (some ⟨E, 0, none⟩), .agg bcx] w fun r w' => r = .bool true ∧ Up w w' := by
 obtain ⟨w0, rfl⟩ : ∃ w0, w0 = w := ⟨_, rfl⟩
 have hS := Sep.start no w0
 refine cS (n := 32) (m := 9) func33 rfl rfl rfl (CW.S (LW.rr (.boxA (.t rfl)) rfl ?_))
 rintro _ w1 ⟨B3, rfl, NB3⟩
 replace hS := hS.addB NB3
 refine LW.C (LW.S (CW.S (LW.C (LW.T (CW.block (CW.loopB (σ := Nat) (fun s w => (s ≤ 2) ∧ (Wx.Sep no w0 w [aBlk B3 bcx 32])) (fun s => [(5, .eq (vi (s : Int)))]) ([(0, .eq _), (3, .eq _)]) (fun s => 2 - s) 0 ?_ ⟨rfl, rfl, rfl, trivial⟩ ?_))))))
 ·exact ⟨by omega, hS⟩
 rintro t w2 ⟨ht, hS⟩
 refine CW.seq (CW.S (LW.M rfl (LW.pp (.lss (.t rfl) (.const _)) (LW.T (CW.cond (.t rfl) (fun h9 => ?_) (fun h9 => ?_))))))
 ·replace h9 := dQ h9
  refine CW.skip (KW.then (CW.seq (CW.block (CW.S (LW.C (LW.T (CW.block (CW.loopB (σ := Nat) (fun s w => (s ≤ 2) ∧ (Wx.Sep no w0 w [aBlk B3 bcx 32])) (fun s => [(6, .eq (vi (s : Int)))]) ([(0, .eq _), (3, .eq _), (5, .eq _)]) (fun s => 2 - s) 0 ?_ ⟨rfl, rfl, rfl, rfl, trivial⟩ ?_))))))))
  ·exact ⟨by omega, hS⟩
  rintro c w3 ⟨hc, hS⟩
  refine CW.seq (CW.S (LW.M rfl (LW.pp (.lss (.t rfl) (.const _)) (LW.T (CW.cond (.t rfl) (fun h13 => ?_) (fun h13 => ?_))))))
  ·replace h13 := dQ h13
   refine CW.skip (KW.then (CW.seq (CW.block (CW.S (LW.C (LW.T (CW.block (CW.loopB (σ := Nat) (fun s w => (s ≤ 3) ∧ (Wx.Sep no w0 w [aBlk B3 bcx 32])) (fun s => [(7, .eq (vi (s : Int)))]) ([(0, .eq _), (3, .eq _), (5, .eq _), (6, .eq _)]) (fun s => 3 - s) 1 ?_ ⟨rfl, rfl, rfl, rfl, rfl, trivial⟩ ?_))))))))
   ·exact ⟨by omega, hS⟩
   rintro r w4 ⟨hr, hS⟩
   refine CW.seq (CW.S (LW.M rfl (LW.pp (.leq (.t rfl) (.const _)) (LW.T (CW.cond (.t rfl) (fun h17 => ?_) (fun h17 => ?_))))))
   ·replace h17 := dQ h17
    refine CW.skip (KW.then (CW.seq (CW.block (CW.seq (CW.draws kQ kQ rfl rfl (HW.pp (.move (.t rfl)) (HW.pp (.move (.t rfl)) (HW.pp (.move (.t rfl)) (HW.pp (.move (.t rfl)) (HW.qc (ph := .pred fun v w => DecsE w v (desF kb (t : Int) (c : Int) (r : Int))) (fun _ _ _ h u => DecsE.up h u) rfl (fun a w hu ha => ⟨_, _, enter_call0 (.cons (.t rfl) (.cons (.t rfl) (.cons (.t rfl) (.cons (.t rfl) .nil)))) (en17) a ha, (EDecsE_any E bf bd bc nw D kb (t : Int) (c : Int) (r : Int) w ⟨by unfold inI; omega, by unfold inI; omega, by unfold inI; omega⟩ hbc hk hd hlP (hE.up (hS.up hu).upd) (Mk.IMap.up hM (hS.up hu).upd) ((aDD D).keep _ _ hDD (fun _ _ hl => (hS.up hu).upd.block hl) (hS.up hu).upd.size)).mono fun v w' h => ⟨h.2, h.1⟩⟩) rfl (HW.pp (.loadA isAgg32 sizeOf32 ((BaseC.size hX)) (.t rfl) ((hS.blk 0 rfl).agg)) (HW.pp (.move (.t rfl)) (HW.pp (.move (.t rfl)) (HW.pp (.move (.t rfl)) (HW.qc (ph := .pred fun v w => DecsE w v (desF kb (t : Int) (c : Int) (r : Int))) (fun _ _ _ h u => DecsE.up h u) rfl (fun a w hu ha => ⟨_, _, enter_call0 (.cons (.t rfl) (.cons (.t rfl) (.cons (.t rfl) (.cons (.t rfl) .nil)))) (en16) a ha, (DecisionsE_any bcx kb (t : Int) (c : Int) (r : Int) w (BaseC.up hX (hS.up hu).upd) oQ oQ oQ oQ).mono fun v w' h => ⟨h.2, h.1⟩⟩) rfl (HW.qc (ph := .eq (.bool true)) (phUp.eq _) rfl (fun a w hu ha => ⟨_, _, enter_any2 en18 a w, (sameList_any (a.eval (.tmp 24)) (a.eval (.tmp 29)) (desF kb (t : Int) (c : Int) (r : Int)) (desF kb (t : Int) (c : Int) (r : Int)) w (ha.known (p := fun v w => DecsE w v (desF kb (t : Int) (c : Int) (r : Int))) rfl) (ha.known (p := fun v w => DecsE w v (desF kb (t : Int) (c : Int) (r : Int))) rfl) (by rw [desF_len]; have := rnsF_len kb (t : Int) (c : Int) (r : Int); omega) (fun D0 hD0 => by have h1 := desF_uses kb (t : Int) (c : Int) (r : Int) D0 hD0; have h2 := rnsF_len kb (t : Int) (c : Int) (r : Int); omega)).mono fun _ _ h => ⟨h.2, h.1.trans (by rw [sameDs_self])⟩⟩) rfl (HW.pp (.fa (PEv.not (.t rfl)) (rfl)) (HW.nil ?_))))))))))))))))))
    intro w5 uw5
    replace hS := hS.up uw5
    refine KW.then (CW.cond_false (.t rfl) (CW.skip (KW.inBlock (KW.then (CW.region (LW.M rfl (LW.pp (.inc (.t rfl) oQ) (LW.A rfl (LW.nil (KW.round ?_))))))))))
    exact ⟨r + 1, ⟨by omega, hS⟩, ⟨rfl, rfl, rfl, rfl, rfl, trivial⟩, by omega⟩
   refine CW.exit (KW.then_exit (KW.then_exit (KW.block_hit (KW.inBlock (KW.then (CW.region (LW.M rfl (LW.pp (.inc (.t rfl) oQ) (LW.A rfl (LW.nil (KW.round ?_)))))))))))
   exact ⟨c + 1, ⟨by omega, hS⟩, ⟨rfl, rfl, rfl, rfl, trivial⟩, by omega⟩
  refine CW.exit (KW.then_exit (KW.then_exit (KW.block_hit (KW.inBlock (KW.then (CW.region (LW.M rfl (LW.pp (.inc (.t rfl) oQ) (LW.A rfl (LW.nil (KW.round ?_)))))))))))
  exact ⟨t + 1, ⟨by omega, hS⟩, ⟨rfl, rfl, rfl, trivial⟩, by omega⟩
 refine CW.exit (KW.then_exit (KW.then_exit (KW.block_hit (KW.then (CW.S (LW.C (LW.T (CW.ret (KW.ret1 rfl rfl ⟨_, rfl, ?_⟩)))))))))
 exact ⟨rfl, hS.upd⟩
end Go.Proofs.YtbbpkdlehlamlaaGreatDoor
end
section
namespace Go.Wx
def m21 : Fact := ⟨2, 1, 1, 0, false, 15, 0, 0, 0, 0, 0, 0, 0, 0, 0, 0, 108, 0, ByteArray.empty⟩
def la1 : List Fact := [] ++ [tgt21 9]
def la2 : List Fact := la1 ++ [run21 1 10 100000]
def la3 : List Fact := la2 ++ [run21 2 20 98000, run21 3 30 98000]
def la4 : List Fact := la3 ++ [m21]
def la5 : List Fact := la4 ++ [m21]
def la6 : List Fact := la5 ++ [tgt21 8]
theorem k21_1 : cntN [] [tgt21 9] = 0 := by kernel_rfl
theorem k21_2 : cntN la1 [run21 1 10 100000] = 1 := by kernel_rfl
theorem k21_3 : cntN la2 [run21 2 20 98000, run21 3 30 98000] = 1 := by kernel_rfl
theorem k21_4 : cntN la3 [m21] = 1 := by kernel_rfl
theorem k21_5 : cntN la4 [m21] = 0 := by kernel_rfl
theorem k21_6 : cntN la5 [tgt21 8] = 0 := by kernel_rfl
theorem l21_3 : lateP (ofB la3 100000) (ofB la3 100000).Processes = [2, 3] := by kernel_rfl
theorem l21_4 : lateP (ofB la4 100000) (ofB la4 100000).Processes = [] := by kernel_rfl
theorem late21_3 {z : Eng} (h : z.all = la3) : lateL z.kb = [2, 3] := by
 unfold lateL Eng.kb
 rw [h, l21_3]
 exact List.mergeSort_of_pairwise (by simp)
theorem late21_4 {z : Eng} (h : z.all = la4) : lateL z.kb = [] := by
 unfold lateL Eng.kb
 rw [h, l21_4]
 simp
theorem d21_6 : desF (ofB la6 100000) 4 0 9 = [⟨1, ⟨100, 1⟩, ⟨0, 1⟩, []⟩, ⟨2, ⟨98, 1⟩, ⟨2, 1⟩, [1]⟩, ⟨3, ⟨98, 1⟩, ⟨2, 1⟩, [1]⟩] := by kernel_rfl
theorem p21_6 : (ofB la6 100000).Processes.length = 3 := by kernel_rfl
theorem val_ok {al : List Fact} {d : Int} : ∀ p ∈ (ofB al d).Processes, inI p.Value := fun p hp => by
 have h := (lst_mem (j := 0) cQ).1 hp
 obtain ⟨h1, h2, _⟩ := valid_parts (eff_valid h.1)
 by_cases e : ∃ x ∈ fieldsOf p.Kind, x.off = 16
 · obtain ⟨x, hx, e⟩ := e
   have := h2 x hx
   rw [e] at this
   have h3 : inW p.Value := this
   unfold inW at h3
   unfold inI
   omega
 have h3 : p.Value = 0 := h1 16 cQ fun x hx e' => e ⟨x, hx, e'⟩
 rw [h3]
 exact ⟨by decide, by decide⟩
end Go.Wx
namespace Go.Proofs.YtbbpkdlehlamlaaGreatDoor
open Go.Proofs.Tryz
open Go.Wx Go.RowKit
set_option maxHeartbeats 4000000 in
theorem sane21_any (w : World) : Ret Tryz.prog 10 #[] w fun r w' => r = .bool true ∧ Up w w' := by
 obtain ⟨w0, rfl⟩ : ∃ w0, w0 = w := ⟨_, rfl⟩
 have hS := Sep.start no w0
 refine cS (n := 101) (m := 9) func10 rfl rfl rfl (CW.S (LW.C (LW.S (CW.region (LW.K (eC .nil (en12)) rfl (ENew_any _) ?_)))))
 rintro _ w1 ⟨z0, rfl, ha0, hn0, hz0, hN0⟩
 replace hS := hS.join hN0
 refine LW.A rfl (LW.S (CW.S (LW.M rfl (LW.pp (.fa (PEv.eqlNil underlying28 (.t rfl)) (rfl)) (LW.T (CW.cond_false (.t rfl) (CW.skip (KW.then (CW.S (LW.pp (.build (cs := m21.cells) underlying24 zeroValue24 Tryz.places24 (.cons (.const _) (.cons (.const _) (.cons (.const _) (.cons (.const _) (.cons (.const _) .nil))))) kQ) (LW.rr (.buildSlice (xs := [m21]) (enc := Fact.cells) (mk := fun f : Fact => .agg f.cells) underlying26 sizeOf24 zeroValue24 rfl cQ (fun _ => rfl) (fun _ => rfl) (.cons (.t rfl) .nil) rfl) rfl ?_)))))))))))
 intro v16 w2 hN16
 obtain ⟨u16, B16, rfl, e16, hO16⟩ := NewSl.own hN16 (fun _ => rfl) cQ (by simp [maxLen])
 replace hS := hS.add u16 (A' := aOwn 24 19 Fact.cells (.slice (some ⟨B16, 0, none⟩) 1 1) [m21]) hO16 (fun i h => by cases h; exact Nat.le_of_eq e16.symm)
 refine LW.A rfl (LW.S (CW.region (LW.M rfl (LW.K (eC (.cons (.const _) .nil) (en34)) rfl (target21_any _ _) ?_))))
 rintro _ w3 ⟨rfl, uw3⟩
 replace hS := hS.up uw3
 have hSp20 := fun i (h : footL z0.As i) => Sep.ltL (Sep.left (show Wx.Sep _ _ _ (z0.As ++ [_]) from hS)) h
 refine LW.rr (.buildSlice (xs := [tgt21 9]) (enc := Fact.cells) (mk := fun f : Fact => .agg f.cells) underlying26 sizeOf24 zeroValue24 rfl cQ (fun _ => rfl) (fun _ => rfl) (.cons (.t rfl) .nil) rfl) rfl ?_
 rintro _ w4 ⟨B19, cB19, rfl, NB19, yB19, xB19⟩
 have eB19 := NB19.at_
 replace hS := hS.up NB19.up
 have hE19 := xB19
 replace hS := hS.pull 0 rfl
 replace hS := hS.pull 0 rfl
 replace hS := hS.pull 0 rfl
 replace hS := hS.pull 0 rfl
 replace hS := hS.pull 0 rfl
 have hq_ := (show Wx.Sep _ _ _ ([_] ++ [_, _, _, _, _]) from hS)
 refine LW.K (eC (.u rfl rfl) (en13)) rfl (EAdd_any z0 0 (some ⟨B19, 0, none⟩) _ [tgt21 9] _ hz0 cQ (by rw [ha0]; decide) hE19 (fun _ B o e h => by cases e; have := hSp20 _ h; omega) hq_.right.self) ?_
 rintro _ w5 ⟨z1, rfl, hp1, ha1, hn1, hz1, uw5⟩
 replace hS := hq_.frame uw5
 have zw5 := uw5.fr.size
 rw [ha0, k21_1] at hn1
 rw [ha0, k21_1, ← hp1]
 replace ha1 : z1.all = la1 := by rw [ha1, ha0]; rfl
 rw [hn0] at hn1
 refine LW.A rfl (LW.S (CW.region (LW.M rfl (LW.K (eC (.cons (.const _) (.cons (.const _) (.cons (.const _) .nil))) (en35)) rfl (run21_any _ _ _ _) ?_))))
 rintro _ w6 ⟨rfl, uw6⟩
 replace hS := hS.up uw6
 have hSp24 := fun i (h : footL z1.As i) => Sep.ltL (Sep.right (show Wx.Sep _ _ _ ([_] ++ z1.As) from hS)) h
 refine LW.rr (.buildSlice (xs := [run21 1 10 100000]) (enc := Fact.cells) (mk := fun f : Fact => .agg f.cells) underlying26 sizeOf24 zeroValue24 rfl cQ (fun _ => rfl) (fun _ => rfl) (.cons (.t rfl) .nil) rfl) rfl ?_
 rintro _ w7 ⟨B23, cB23, rfl, NB23, yB23, xB23⟩
 have eB23 := NB23.at_
 replace hS := hS.up NB23.up
 have hE23 := xB23
 replace hS := hS.pull 1 rfl
 replace hS := hS.pull 1 rfl
 replace hS := hS.pull 1 rfl
 replace hS := hS.pull 1 rfl
 replace hS := hS.pull 1 rfl
 have hq_ := (show Wx.Sep _ _ _ ([_] ++ [_, _, _, _, _]) from hS)
 refine LW.K (eC (.u rfl rfl) (en13)) rfl (EAdd_any z1 1 (some ⟨B23, 0, none⟩) _ [run21 1 10 100000] _ hz1 cQ (by rw [ha1]; decide) hE23 (fun _ B o e h => by cases e; have := hSp24 _ h; omega) hq_.right.self) ?_
 rintro _ w8 ⟨z2, rfl, hp2, ha2, hn2, hz2, uw8⟩
 replace hS := hq_.frame uw8
 have zw8 := uw8.fr.size
 rw [ha1, k21_2] at hn2
 rw [ha1, k21_2, ← hp2]
 replace ha2 : z2.all = la2 := by rw [ha2, ha1]; rfl
 rw [hn1] at hn2
 refine LW.A rfl (LW.S (CW.region (LW.M rfl (LW.K (eC (.cons (.const _) (.cons (.const _) (.cons (.const _) .nil))) (en35)) rfl (run21_any _ _ _ _) ?_))))
 rintro _ w9 ⟨rfl, uw9⟩
 replace hS := hS.up uw9
 refine LW.K (eC (.cons (.const _) (.cons (.const _) (.cons (.const _) .nil))) (en35)) rfl (run21_any _ _ _ _) ?_
 rintro _ w10 ⟨rfl, uw10⟩
 replace hS := hS.up uw10
 have hSp29 := fun i (h : footL z2.As i) => Sep.ltL (Sep.right (show Wx.Sep _ _ _ ([_] ++ z2.As) from hS)) h
 refine LW.rr (.buildSlice (xs := [run21 2 20 98000, run21 3 30 98000]) (enc := Fact.cells) (mk := fun f : Fact => .agg f.cells) underlying26 sizeOf24 zeroValue24 rfl cQ (fun _ => rfl) (fun _ => rfl) (.cons (.t rfl) (.cons (.t rfl) .nil)) rfl) rfl ?_
 rintro _ w11 ⟨B28, cB28, rfl, NB28, yB28, xB28⟩
 have eB28 := NB28.at_
 replace hS := hS.up NB28.up
 have hE28 := xB28
 replace hS := hS.pull 1 rfl
 replace hS := hS.pull 1 rfl
 replace hS := hS.pull 1 rfl
 replace hS := hS.pull 1 rfl
 replace hS := hS.pull 1 rfl
 have hq_ := (show Wx.Sep _ _ _ ([_] ++ [_, _, _, _, _]) from hS)
 refine LW.K (eC (.u rfl rfl) (en13)) rfl (EAdd_any z2 2 (some ⟨B28, 0, none⟩) _ [run21 2 20 98000, run21 3 30 98000] _ hz2 cQ (by rw [ha2]; decide) hE28 (fun _ B o e h => by cases e; have := hSp29 _ h; omega) hq_.right.self) ?_
 rintro _ w12 ⟨z3, rfl, hp3, ha3, hn3, hz3, uw12⟩
 replace hS := hq_.frame uw12
 have zw12 := uw12.fr.size
 rw [ha2, k21_3] at hn3
 rw [ha2, k21_3, ← hp3]
 replace ha3 : z3.all = la3 := by rw [ha3, ha2]; rfl
 rw [hn2] at hn3
 refine LW.A rfl (LW.S (CW.region (LW.M rfl (LW.K (eC (.o rfl) (en21)) rfl (ELate_any z3.E z3.bf z3.bd z3.bc z3.n z3.kb _ hz3.hbc (hS.blk 1 rfl) (hS.get 3 rfl) (len_ok hz3).1 (len_ok hz3).2.1 (len_ok hz3).2.2.1 (len_ok hz3).2.2.2 val_ok) ?_))))
 rintro v31 w13 ⟨hO31, uw13⟩
 have zw13 := uw13.size
 replace hS := hS.add uw13 (A' := aOwn 3 1 eInt v31 [2, 3]) (by rw [late21_3 ha3] at hO31; exact hO31.mono (Nat.zero_le _)) (fun i h => hO31.base i h)
 obtain ⟨ad31, cp31, rfl, _⟩ := (hS.own 6 rfl).sl (fun _ => rfl)
 refine LW.A rfl (LW.S (CW.region (LW.M rfl (LW.M rfl ?_))))
 replace hS := hS.pull 1 rfl
 replace hS := hS.pull 1 rfl
 replace hS := hS.pull 1 rfl
 replace hS := hS.pull 1 rfl
 replace hS := hS.pull 1 rfl
 have hq_ := (show Wx.Sep _ _ _ ([_, _] ++ [_, _, _, _, _]) from hS)
 refine LW.K (eC (.u rfl rfl) (en13)) rfl (EAdd_any z3 3 (some ⟨B16, 0, none⟩) _ [m21] _ hz3 cQ (by rw [ha3]; decide) (OwnS.elsS (hq_.left.own 0 rfl) (fun _ => rfl)) (fun _ B o e h => hq_.dis ⟨_, List.mem_of_getElem? (i := 0) rfl, by cases e; rfl⟩ h) hq_.right.self) ?_
 rintro _ w14 ⟨z4, rfl, hp4, ha4, hn4, hz4, uw14⟩
 replace hS := hq_.frame uw14
 have zw14 := uw14.fr.size
 rw [ha3, k21_4] at hn4
 rw [ha3, k21_4, ← hp4]
 replace ha4 : z4.all = la4 := by rw [ha4, ha3]; rfl
 rw [hn3] at hn4
 refine LW.A rfl (LW.S (CW.region (LW.M rfl (LW.K (eC (.o rfl) (en21)) rfl (ELate_any z4.E z4.bf z4.bd z4.bc z4.n z4.kb _ hz4.hbc (hS.blk 2 rfl) (hS.get 4 rfl) (len_ok hz4).1 (len_ok hz4).2.1 (len_ok hz4).2.2.1 (len_ok hz4).2.2.2 val_ok) ?_))))
 rintro v36 w15 ⟨hO36, uw15⟩
 have zw15 := uw15.size
 replace hS := hS.add uw15 (A' := aOwn 3 1 eInt v36 ([] : List Int)) (by rw [late21_4 ha4] at hO36; exact hO36.mono (Nat.zero_le _)) (fun i h => hO36.base i h)
 obtain ⟨ad36, cp36, rfl, _⟩ := (hS.own 7 rfl).sl (fun _ => rfl)
 refine LW.A rfl (LW.S (CW.region (LW.M rfl (LW.M rfl ?_))))
 replace hS := hS.pull 2 rfl
 replace hS := hS.pull 2 rfl
 replace hS := hS.pull 2 rfl
 replace hS := hS.pull 2 rfl
 replace hS := hS.pull 2 rfl
 have hq_ := (show Wx.Sep _ _ _ ([_, _, _] ++ [_, _, _, _, _]) from hS)
 refine LW.K (eC (.u rfl rfl) (en13)) rfl (EAdd_any z4 4 (some ⟨B16, 0, none⟩) _ [m21] _ hz4 cQ (by rw [ha4]; decide) (OwnS.elsS (hq_.left.own 0 rfl) (fun _ => rfl)) (fun _ B o e h => hq_.dis ⟨_, List.mem_of_getElem? (i := 0) rfl, by cases e; rfl⟩ h) hq_.right.self) ?_
 rintro _ w16 ⟨z5, rfl, hp5, ha5, hn5, hz5, uw16⟩
 replace hS := hq_.frame uw16
 have zw16 := uw16.fr.size
 rw [ha4, k21_5] at hn5
 rw [ha4, k21_5, ← hp5]
 replace ha5 : z5.all = la5 := by rw [ha5, ha4]; rfl
 rw [hn4] at hn5
 refine LW.A rfl (LW.S (CW.region (LW.M rfl (LW.K (eC (.cons (.const _) .nil) (en34)) rfl (target21_any _ _) ?_))))
 rintro _ w17 ⟨rfl, uw17⟩
 replace hS := hS.up uw17
 have hSp43 := fun i (h : footL z5.As i) => Sep.ltL (Sep.right (show Wx.Sep _ _ _ ([_, _, _] ++ z5.As) from hS)) h
 refine LW.rr (.buildSlice (xs := [tgt21 8]) (enc := Fact.cells) (mk := fun f : Fact => .agg f.cells) underlying26 sizeOf24 zeroValue24 rfl cQ (fun _ => rfl) (fun _ => rfl) (.cons (.t rfl) .nil) rfl) rfl ?_
 rintro _ w18 ⟨B42, cB42, rfl, NB42, yB42, xB42⟩
 have eB42 := NB42.at_
 replace hS := hS.up NB42.up
 have hE42 := xB42
 replace hS := hS.pull 3 rfl
 replace hS := hS.pull 3 rfl
 replace hS := hS.pull 3 rfl
 replace hS := hS.pull 3 rfl
 replace hS := hS.pull 3 rfl
 have hq_ := (show Wx.Sep _ _ _ ([_, _, _] ++ [_, _, _, _, _]) from hS)
 refine LW.K (eC (.u rfl rfl) (en13)) rfl (EAdd_any z5 5 (some ⟨B42, 0, none⟩) _ [tgt21 8] _ hz5 cQ (by rw [ha5]; decide) hE42 (fun _ B o e h => by cases e; have := hSp43 _ h; omega) hq_.right.self) ?_
 rintro _ w19 ⟨z6, rfl, hp6, ha6, hn6, hz6, uw19⟩
 replace hS := hq_.frame uw19
 have zw19 := uw19.fr.size
 rw [ha5, k21_6] at hn6
 rw [ha5, k21_6, ← hp6]
 replace ha6 : z6.all = la6 := by rw [ha6, ha5]; rfl
 rw [hn5] at hn6
 refine LW.A rfl (LW.S (CW.region (LW.M rfl (LW.K (eC (.cons (.t rfl) (.cons (.const _) (.cons (.const _) (.cons (.const _) .nil)))) (en17)) rfl (EDecs_any z6.E z6.bf z6.bd z6.bc z6.n z6.D z6.kb 4 0 9 _ hz6.hbc ⟨by simp [inI], by simp [inI], by simp [inI]⟩ (len_ok hz6).1 hz6.keys hz6.dks (hS.blk 3 rfl) (hS.get 6 rfl) (hS.get 7 rfl)) ?_))))
 rintro v45 w20 ⟨_, L45, rfl, hm45, hT45⟩
 have hk6 : z6.kb = ofB la6 100000 := by unfold Eng.kb; rw [ha6]
 rw [hk6, d21_6] at hm45
 obtain ⟨a1, c1, a2, c2, a3, c3, rfl⟩ := dps3 hm45
 replace hS := hS.join hT45
 obtain ⟨ad45, cp45, rfl, _⟩ := (hS.own 8 rfl).sl (fun _ => rfl)
 obtain ⟨Bx, ox, ax, hpx, hqx, hrx⟩ := els_p ((hS.own 8 rfl).els (fun _ => rfl))
 refine LW.A rfl (LW.S (CW.S (LW.M rfl (LW.pp (.lenS underlying38 (.t rfl)) (LW.pp (.fa (PEv.neq (.t rfl) (.const _)) (rfl)) (LW.T (CW.cond_false (.t rfl) (CW.skip (KW.then (CW.S (LW.M rfl (LW.pp (.tr (PEv.eql (.t rfl) (.const _)) (rfl)) (LW.M rfl (LW.Y (LW.M rfl (LW.Y (LW.pp (.tr (PEv.eql (.t rfl) (.const _)) (rfl)) (LW.pp (.pick_and (.t rfl) (fun hp => (by exact .tmp rfl))) (LW.M rfl (LW.Y (LW.M rfl (LW.Y (LW.pp (.tr (PEv.eql (.t rfl) (.const _)) (rfl)) (LW.pp (.pick_and (.t rfl) (fun hp => (by exact .tmp rfl))) (LW.M rfl (LW.Y (LW.M rfl (LW.Y (LW.rr (.buildSlice (xs := [2, 3]) (enc := eInt) (mk := vi) underlying46 sizeOf3 zeroValue3 rfl cQ (fun _ => rfl) (fun _ => rfl) (.cons (.const _) (.cons (.const _) .nil)) rfl) rfl ?_)))))))))))))))))))))))))))))
 rintro _ w21 ⟨B61, cB61, rfl, NB61, yB61, xB61⟩
 replace hS := hS.up NB61.up
 replace hqx := hqx.up NB61.up
 have hE61 := xB61
 refine LW.Y (LW.K (eC (.u rfl rfl) (en29)) rfl (sameInts_any _ _ [2, 3] [2, 3] _ ((hS.own 1 rfl).sl (fun _ => rfl)) (Sl.of_els hE61) cQ cQ) ?_)
 rintro _ w22 ⟨rfl, uw22⟩
 replace hS := hS.up uw22
 replace hqx := hqx.up uw22
 rw [show decide (([2, 3] : List Int) = [2, 3]) = true from decide_eq_true rfl]
 refine LW.pp (.pick_and (.t rfl) (fun hp => (by exact .tmp rfl))) (LW.M rfl (LW.Y (LW.M rfl (LW.Y (LW.pp (.tr (PEv.eql (.t rfl) (.const _)) (rfl)) (LW.pp (.pick_and (.t rfl) (fun hp => (by exact .tmp rfl))) (LW.M rfl (LW.Y (LW.M rfl (LW.Y (LW.pp (.lenS underlying46 (.t rfl)) (LW.Y (LW.pp (.tr (PEv.eql (.t rfl) (.const _)) (rfl)) (LW.pp (.pick_and (.t rfl) (fun hp => (by exact .tmp rfl))) (LW.M rfl (LW.Y (LW.M rfl (LW.Y (LW.pp (.tr (PEv.eql (.t rfl) (.const _)) (rfl)) (LW.pp (.pick_and (.t rfl) (fun hp => (by exact .tmp rfl))) (LW.M rfl (LW.Y (LW.M rfl (LW.Y (LW.pp (.tr (PEv.eql (.t rfl) (.const _)) (rfl)) (LW.pp (.pick_and (.t rfl) (fun hp => (by exact .tmp rfl))) (LW.M rfl (LW.Y (LW.M rfl (LW.Y (LW.K (eC (.o rfl) (en26)) rfl (EWork_any z6.E z6.bf z6.bd z6.bc z6.n _ hz6.hbc (hS.blk 3 rfl)) ?_)))))))))))))))))))))))))))))))
 rintro _ w23 ⟨rfl, uw23⟩
 replace hS := hS.up uw23
 replace hqx := hqx.up uw23
 refine LW.Y (LW.pp (.tr (PEv.eql (.t rfl) (.const _)) (by rw [hn6]; rfl)) (LW.pp (.pick_and (.t rfl) (fun hp => (by exact .tmp rfl))) (LW.M rfl (LW.Y (LW.M rfl (LW.Y (LW.pp (.indexAddr' underlying38 sizeOf48 (j := 1) (.t rfl) (.const _) (Nat.le_of_ble_eq_true rfl) ax) (LW.Y (LW.pp (.fA 1 underlying48 rfl sizeOf45 rfl) (LW.Y (LW.pp (.la isAgg45 sizeOf45 rfl (dp_par hqx)) (LW.Y (LW.pp (.build (cs := (Rt.mk 98 1).cells) underlying45 zeroValue45 Tryz.places45 (.cons (.const _) (.cons (.const _) .nil)) kQ) (LW.Y (LW.pp (.tr (PEv.eqlA eqGuardType45 (Tryz.eqRt _ _) (.t rfl) (.t rfl)) (rtB_self _)) (LW.pp (.pick_and (.t rfl) (fun hp => (by exact .tmp rfl))) (LW.M rfl (LW.Y (LW.M rfl (LW.Y (LW.K (eC (.o rfl) (en14)) rfl (EBase_any z6.E z6.bf z6.bd z6.bc z6.n z6.all _ (hS.blk 3 rfl) (hS.get 4 rfl) (Nat.le_trans hz6.len cQ)) ?_)))))))))))))))))))))
 rintro _ w24 ⟨bc96, rfl, hC96, _, uw24⟩
 replace hS := hS.up uw24
 replace hqx := hqx.up uw24
 obtain ⟨v96, hv96, ad96, cp96, rfl, _⟩ := hC96.at_ (j := 0) cQ
 have hl96 : (lstOf (ofB z6.all 100000) 0).length = 3 := by rw [ha6]; exact p21_6
 rw [hl96] at hv96
 refine LW.Y (LW.pp (.field1 (off := 0) underlying32 rfl rfl isAgg26 (.t rfl) hv96) (LW.Y (LW.pp (.lenS underlying26 (.t rfl)) (LW.Y (LW.pp (.tr (PEv.eql (.t rfl) (.const _)) (rfl)) (LW.pp (.pick_and (.t rfl) (fun hp => (by exact .tmp rfl))) (LW.A rfl (LW.T (CW.ret (KW.ret1 rfl rfl ⟨_, rfl, ?_⟩))))))))))
 exact ⟨rfl, hS.upd⟩
end Go.Proofs.YtbbpkdlehlamlaaGreatDoor
end
section
namespace Go.Wx
end Go.Wx
namespace Go.Proofs.YtbbpkdlehlamlaaGreatDoor
open Go.Proofs.Tryz
open Go.Wx Go.RowKit
theorem sameBV (v1 v2 : Go.Value) (b : Base) (w : World) (h1 : BaseV w v1 b) (h2 : BaseV w v2 b) (hs : short b) : Ret Tryz.prog 27 #[v1, v2] w fun r w' => r = .bool true ∧ Up w w' := by
 obtain ⟨b1, rfl, hC1⟩ := h1
 obtain ⟨b2, rfl, hC2⟩ := h2
 exact (Same_any b1 b2 b b w hC1 hC2 hs).mono fun r w' h => ⟨h.1.trans (by rw [sameB_refl]), h.2⟩
end Go.Proofs.YtbbpkdlehlamlaaGreatDoor
end
section
namespace Go.Wx
theorem own_foot {e k : Nat} {enc : Fact → Array Go.Value} {ad : Option Addr} {n c B o : Nat} {xs : List Fact} (h : ad = some ⟨B, o, none⟩) : (aOwn e k enc (.slice ad n c) xs).foot B := by subst h; rfl
end Go.Wx
namespace Go.Proofs.YtbbpkdlehlamlaaGreatDoor
open Go.Proofs.Tryz
open Go.Wx Go.RowKit
end Go.Proofs.YtbbpkdlehlamlaaGreatDoor
end
section
namespace Go.Wx
theorem zb11_one : zb11.all (·.oneCell') = true := by simp [zb11, Value.oneCell']
def aUs (ti : TypeId) (U : List (Go.Value × List Int)) : Asr := aAnd (U.map fun u => aOwn ti 1 eInt u.1 u.2)
theorem usesU (ti : TypeId) (L : List DP) : aAnd (usesA ti L) = aUs ti (L.map fun p => (p.uv, p.dec.uses)) := by unfold aUs usesA; rw [List.map_map]; rfl
theorem aUs_get {ti : TypeId} {U : List (Go.Value × List Int)} {w : World} (h : (aUs ti U).holds w) {k : Nat} {u : Go.Value × List Int} (hu : U[k]? = some u) : OwnS w 0 ti 1 eInt u.1 u.2 := h.1 _ (List.mem_map.2 ⟨u, List.mem_of_getElem? hu, rfl⟩)
theorem aUs_stp {ti : TypeId} {U : List (Go.Value × List Int)} {w w' : World} {k : Nat} {v : Go.Value} {us us' : List Int} (h : (aUs ti (U.set k (v, us))).holds w) (hk : k < U.length) (G : Stp (aOwn ti 1 eInt v us) (aOwn ti 1 eInt v us') w w') : Stp (aUs ti (U.set k (v, us))) (aUs ti (U.set k (v, us'))) w w' := by
 have h2 := aAnd_stp h (j := k) (by rw [List.getElem?_map, List.getElem?_set_self (by exact hk)]; rfl) G
 rw [List.map_set, List.set_set] at h2
 unfold aUs
 rw [List.map_set, List.map_set]
 exact h2
theorem uv_set {M : List DP} {U : List (Go.Value × List Int)} {k : Nat} {z : DP} {v : Go.Value} {us : List Int} (h : U.map (·.1) = M.map DP.uv) (hz : z.uv = v) : (U.set k (v, us)).map (·.1) = (M.set k z).map DP.uv := by rw [List.map_set, List.map_set, h, hz]
theorem uv_get {M : List DP} {U : List (Go.Value × List Int)} {k : Nat} {y : DP} (h : U.map (·.1) = M.map DP.uv) (hy : M[k]? = some y) : ∃ us, U[k]? = some (y.uv, us) := by
 have h2 : (U.map (·.1))[k]? = some y.uv := by rw [h, List.getElem?_map, hy]; rfl
 rw [List.getElem?_map] at h2
 obtain ⟨u, hu, e⟩ := Option.map_eq_some_iff.1 h2
 exact ⟨u.2, by rw [hu, ← e]⟩
end Go.Wx
namespace Go.Proofs.YtbbpkdlehlamlaaGreatDoor
open Go.Proofs.Tryz
open Go.Wx Go.RowKit
theorem NAdd_any (v : Go.Value) (w : World) : Ret Tryz.prog 13 #[.pointer none, v] w fun r w' => r = vi 0 ∧ Up w w' := by
 obtain ⟨w0, rfl⟩ : ∃ w0, w0 = w := ⟨_, rfl⟩
 have hS := Sep.start no w0
 refine cS (n := 139) (m := 9) func13 rfl rfl rfl ?_
 refine CW.S (LW.C (LW.S (CW.S (LW.M rfl ?_))))
 refine LW.pp (.tr (PEv.eqlNil underlying28 (.t rfl)) (rfl)) ?_
 refine LW.T ?_
 refine CW.cond_true (.t rfl) ?_
 refine CW.S (LW.C (LW.T (CW.ret (KW.then_ret ?_))))
 refine KW.ret1 rfl rfl ⟨_, rfl, ?_⟩
 exact ⟨rfl, hS.upd⟩
theorem NLate_any (w : World) : Ret Tryz.prog 21 #[.pointer none] w fun r w' => r = .slice none 0 0 ∧ Up w w' := by
 obtain ⟨w0, rfl⟩ : ∃ w0, w0 = w := ⟨_, rfl⟩
 have hS := Sep.start no w0
 refine cS (n := 46) (m := 9) func21 rfl rfl rfl ?_
 refine CW.S (LW.C (LW.S (CW.S (LW.M rfl ?_))))
 refine LW.pp (.tr (PEv.eqlNil underlying28 (.t rfl)) (rfl)) ?_
 refine LW.T ?_
 refine CW.cond_true (.t rfl) ?_
 refine CW.S (LW.C (LW.T (CW.ret (KW.then_ret ?_))))
 refine KW.ret1 rfl rfl ⟨_, rfl, ?_⟩
 exact ⟨rfl, hS.upd⟩
theorem NWork_any (w : World) : Ret Tryz.prog 26 #[.pointer none] w fun r w' => r = vi 0 ∧ Up w w' := by
 obtain ⟨w0, rfl⟩ : ∃ w0, w0 = w := ⟨_, rfl⟩
 have hS := Sep.start no w0
 refine cS (n := 9) (m := 9) func26 rfl rfl rfl ?_
 refine CW.S (LW.C (LW.S (CW.S (LW.M rfl ?_))))
 refine LW.pp (.tr (PEv.eqlNil underlying28 (.t rfl)) (rfl)) ?_
 refine LW.T ?_
 refine CW.cond_true (.t rfl) ?_
 refine CW.S (LW.C (LW.T (CW.ret (KW.then_ret ?_))))
 refine KW.ret1 rfl rfl ⟨_, rfl, ?_⟩
 exact ⟨rfl, hS.upd⟩
theorem NDecs_any (t c q : Int) (w : World) : Ret Tryz.prog 17 #[.pointer none, vi t, vi c, vi q] w fun r w' => r = .slice none 0 0 ∧ Up w w' := by
 obtain ⟨w0, rfl⟩ : ∃ w0, w0 = w := ⟨_, rfl⟩
 have hS := Sep.start no w0
 refine cS (n := 37) (m := 9) func17 rfl rfl rfl ?_
 refine CW.S (LW.C (LW.S (CW.S (LW.M rfl ?_))))
 refine LW.pp (.tr (PEv.eqlNil underlying28 (.t rfl)) (rfl)) ?_
 refine LW.T ?_
 refine CW.cond_true (.t rfl) ?_
 refine CW.S (LW.C (LW.T (CW.ret (KW.then_ret ?_))))
 refine KW.ret1 rfl rfl ⟨_, rfl, ?_⟩
 exact ⟨rfl, hS.upd⟩
theorem NBase_any (w : World) : Ret Tryz.prog 14 #[.pointer none] w fun r w' => r = .agg zb11 ∧ Up w w' := by
 obtain ⟨w0, rfl⟩ : ∃ w0, w0 = w := ⟨_, rfl⟩
 have hS := Sep.start no w0
 refine cS (n := 13) (m := 9) func14 rfl rfl rfl ?_
 refine CW.S ?_
 refine LW.rr (.allocA zeroValue32) rfl ?_
 rintro _ w1 ⟨B2, rfl, NB2⟩
 have eB2 := NB2.at_
 have zB2 := NB2.size
 replace hS := hS.addB NB2
 change Wx.Sep _ _ _ [_] at hS
 refine LW.S (CW.S (LW.M rfl ?_))
 refine LW.pp (.tr (PEv.eqlNil underlying28 (.t rfl)) (rfl)) ?_
 refine LW.T ?_
 refine CW.cond_true (.t rfl) ?_
 refine CW.S ?_
 refine LW.pp (.build (cs := zb11) underlying32 zeroValue32 Tryz.places32 .nil kQ) ?_
 refine LW.E (.storeA sizeOf32 rfl (.t rfl) (.t rfl) zb11_one (hS.blk 0 rfl) rfl) ?_
 intro w2 Nw2
 have zw2 := Nw2.size
 replace hS := hS.putB 0 rfl (show Set_ _ w2 _ (zb11) _ from Nw2)
 change Wx.Sep _ _ _ [_] at hS
 refine LW.T (CW.ret (KW.then_ret ?_))
 refine KW.retA rfl rfl isAgg32 sizeOf32 rfl ((hS.blk 0 rfl).agg) ⟨_, rfl, ?_⟩
 exact ⟨rfl, hS.upd⟩
theorem EBaseL_any (E bf bd : Nat) (bc : Array Go.Value) (nw : Int) (all : List Fact) (w : World) (hE : Blk w E (EC bf bc bd nw) 80) (hM : Ms.IMap w bf (encM (bestL all 100000))) (hl : all.length ≤ 100000) : Ret Tryz.prog 14 #[.pointer (some ⟨E, 0, none⟩)] w fun r w' => ∃ bc', r = .agg bc' ∧ BaseC w' bc' (ofB all 100000) ∧ BaseB w.heap.size bc' ∧ (∃ v, bc'[0]? = some v ∧ OwnS w' 0 24 19 Fact.cells v (ofB all 100000).Processes) ∧ Up w w' := by
 have zE := hE.lt
 have zM := Ms.IMap.lt hM
 obtain ⟨w0, rfl⟩ : ∃ w0, w0 = w := ⟨_, rfl⟩
 have hS := Sep.start no w0
 refine cS (n := 13) (m := 9) func14 rfl rfl rfl ?_
 refine CW.S ?_
 refine LW.rr (.allocA zeroValue32) rfl ?_
 rintro _ w1 ⟨B2, rfl, NB2⟩
 have eB2 := NB2.at_
 have zB2 := NB2.size
 replace hE := hE.up NB2.up
 replace hM := hM.up NB2.up
 replace hS := hS.addB NB2
 change Wx.Sep _ _ _ [_] at hS
 refine LW.S (CW.S (LW.M rfl ?_))
 refine LW.pp (.fa (PEv.eqlNil underlying28 (.t rfl)) (rfl)) ?_
 refine LW.T ?_
 refine CW.cond_false (.t rfl) ?_
 refine CW.skip (KW.then (CW.S (LW.M rfl ?_)))
 refine LW.pp (.nilCheck (.t rfl)) ?_
 refine LW.pp (.fA 0 underlying80 rfl sizeOf77 rfl) ?_
 refine LW.pp (.ld isAgg77 rfl (hE.cell EC_facts)) ?_
 refine LW.K (eC (.o rfl) (en41)) rfl (valuesF_any bf _) ?_
 rintro _ w2 ⟨⟨BK, rfl, hBK, zK⟩, uw2⟩
 have zw2 := uw2.size
 replace hS := hS.up uw2
 replace hE := hE.up uw2
 replace hM := hM.up uw2
 have zBK := hBK.lt
 have hMk2 := hM
 refine LW.K (eC (.o rfl) (en40)) rfl (collectF_any _ _ _ _ _ _ en75 (fun W X Y u hX hY => valuesF_iter X Y BK bf (bestL all 100000) W (fun i h => (hY i h).2) (fun h => by have := hX _ h; omega) (fun h => by have := (hY _ h).1; omega) (best_ok 100000 all).1 (best_nodup all 100000) (hBK.up u) (Ms.IMap.up hMk2 u)) (by have := (best_ok 100000 all).2; omega)) ?_
 rintro v11 w3 ⟨ks, hks, hO, hOn, uw3⟩
 have zw3 := uw3.size
 replace hE := hE.up uw3
 replace hM := hM.up uw3
 replace hS := hS.add uw3 (A' := aOwn 24 19 Fact.cells v11 ks) (hO) (hOn)
 change Wx.Sep _ _ _ [_, _] at hS
 obtain ⟨ad, cp, rfl, _⟩ := (hS.own 1 rfl).sl (fun _ => rfl)
 have hkl : ks.length ≤ 100000 := by have := (best_ok 100000 all).2; have e := hks.length_eq; simp only [factsM, List.length_map] at e; omega
 refine LW.K (eC (.cons (.t rfl) (.cons (.const _) .nil)) (en32)) rfl (Of_lst ad cp ks 100000 _ ((hS.own 1 rfl).els (fun _ => rfl)) hkl) ?_
 rintro _ w4 ⟨bc', rfl, hC, hb, ⟨v0, h0, hO0⟩, uw4⟩
 have zw4 := uw4.size
 replace hE := hE.up uw4
 replace hM := hM.up uw4
 replace hS := hS.add uw4 (A' := aOwn 24 19 Fact.cells v0 (ofB ks 100000).Processes) (hO0) (fun i h => hb 0 v0 h0 i h)
 change Wx.Sep _ _ _ [_, _, _] at hS
 rw [ofB_facts hks] at hC hS
 refine LW.E (.storeA sizeOf32 hC.size (.t rfl) (.t rfl) hC.one (hS.blk 0 rfl) rfl) ?_
 intro w5 Nw5
 have zw5 := Nw5.size
 replace hS := hS.putB 0 rfl Nw5
 change Wx.Sep _ _ _ [_, _, _] at hS
 replace hE := hE.sto Nw5.sto oQ
 replace hM := hM.sto Nw5.sto oQ
 replace hC := hC.frB hb Nw5.sto.fr (fun i (e : i = B2) => by omega)
 refine LW.T (CW.ret ?_)
 refine KW.retA rfl rfl isAgg32 sizeOf32 hC.size ((hS.blk 0 rfl).agg) ⟨_, rfl, ?_⟩
 exact ⟨bc', rfl, hC, hb.mono oQ, ⟨v0, h0, hS.own 2 rfl⟩, hS.upd⟩
end Go.Proofs.YtbbpkdlehlamlaaGreatDoor
end
section
namespace Go.Proofs.YtbbpkdlehlamlaaGreatDoor
open Go.Proofs.Tryz
open Go.Wx Go.RowKit
set_option maxHeartbeats 8000000 in
theorem EngineOwns_any (ad : Option Addr) (cp : Nat) (xs : List I6) (w : World) (hE1 : Els w ad 6 I6.cells xs) : Ret Tryz.prog 9 #[.slice ad xs.length cp] w fun r w' => r = .bool true ∧ Up w w' := by
 obtain ⟨w0, rfl⟩ : ∃ w0, w0 = w := ⟨_, rfl⟩
 have hS := Sep.start no w0
 refine cS (n := 134) (m := 9) func9 rfl rfl rfl ?_
 refine CW.S (LW.C (LW.S (CW.region ?_)))
 refine LW.K (eC .nil (en10)) rfl (sane21_any _) ?_
 rintro _ w1 ⟨rfl, uw1⟩
 have zw1 := uw1.size
 replace hS := hS.up uw1
 refine LW.A rfl (LW.S (CW.region (LW.M rfl ?_)))
 refine LW.K (eC (.o rfl) (en11)) rfl (Some_any ad cp xs _ (Els.up hE1 hS.upd)) ?_
 rintro v19 w2 ⟨hO19, uw2⟩
 have zw2 := uw2.size
 replace hS := hS.add uw2 (A' := aOwn 24 19 Fact.cells v19 (soL xs)) (hO19.mono (Nat.zero_le _)) (fun i h => hO19.base i h)
 change Wx.Sep _ _ _ [_] at hS
 clear hO19
 obtain ⟨ad19, cp19, rfl, _⟩ := (hS.own 0 rfl).sl (fun _ => rfl)
 have hxl := soL_len xs
 refine LW.A rfl (LW.S (CW.region ?_))
 refine LW.K (eC .nil (en12)) rfl (ENew_any _) ?_
 rintro _ w3 ⟨z0, rfl, ha0, hn0, hz0, hN0⟩
 replace hS := hS.join hN0
 change Wx.Sep _ _ _ [_, _, _, _, _, _] at hS
 clear hN0
 refine LW.A rfl (LW.S (CW.region ?_))
 refine LW.K (eC .nil (en12)) rfl (ENew_any _) ?_
 rintro _ w4 ⟨y0, rfl, hya, hyn, hy0, hN0⟩
 replace hS := hS.join hN0
 change Wx.Sep _ _ _ [_, _, _, _, _, _, _, _, _, _, _] at hS
 clear hN0
 refine LW.A rfl (LW.S (CW.region (LW.M rfl (LW.M rfl ?_))))
 replace hS := hS.pull 1 rfl
 change Wx.Sep _ _ _ [_, _, _, _, _, _, _, _, _, _, _] at hS
 replace hS := hS.pull 1 rfl
 change Wx.Sep _ _ _ [_, _, _, _, _, _, _, _, _, _, _] at hS
 replace hS := hS.pull 1 rfl
 change Wx.Sep _ _ _ [_, _, _, _, _, _, _, _, _, _, _] at hS
 replace hS := hS.pull 1 rfl
 change Wx.Sep _ _ _ [_, _, _, _, _, _, _, _, _, _, _] at hS
 replace hS := hS.pull 1 rfl
 change Wx.Sep _ _ _ [_, _, _, _, _, _, _, _, _, _, _] at hS
 have hq_ := (show Wx.Sep _ _ _ ([_, _, _, _, _, _] ++ [_, _, _, _, _]) from hS)
 refine LW.K (eC (.u rfl rfl) (en13)) rfl (EAdd_any z0 0 ad19 cp19 (soL xs) _ hz0 cQ (by rw [ha0]; simp; omega) (OwnS.elsS (hq_.left.own 0 rfl) (fun _ => rfl)) (fun _ B o e h => hq_.dis ⟨_, List.mem_of_getElem? (i := 0) rfl, own_foot e⟩ h) hq_.right.self) ?_
 rintro _ w5 ⟨z1, rfl, hp1, ha1, hn1, hz1, uw5⟩
 replace hS := hq_.frame uw5
 change Wx.Sep _ _ _ [_, _, _, _, _, _, _, _, _, _, _] at hS
 have zw5 := uw5.fr.size
 clear hq_
 rw [← hp1]
 replace ha1 : z1.all = soL xs := by rw [ha1, ha0]; rfl
 refine LW.S ?_
 replace hS := hS
 refine CW.region (LW.M rfl ?_)
 refine LW.K (eC (.o rfl) (en14)) rfl (EBaseL_any z1.E z1.bf z1.bd z1.bc z1.n z1.all _ (hS.blk 6 rfl) (hS.get 7 rfl) (Nat.le_trans hz1.len cQ)) ?_
 rintro _ w6 ⟨bc26, rfl, hC26, hb26, ⟨v0, h0, hO26⟩, uw6⟩
 have zw6 := uw6.size
 replace hS := hS.add uw6 (A' := aOwn 24 19 Fact.cells v0 (z1.kb.Processes)) (hO26) (fun i h => hb26 0 v0 h0 i h)
 change Wx.Sep _ _ _ [_, _, _, _, _, _, _, _, _, _, _, _] at hS
 clear hO26
 obtain ⟨ad0, cp0, rfl, _⟩ := (hS.own 11 rfl).sl (fun _ => rfl)
 have hlP := (len_ok hz1).1
 refine LW.rr (.allocA zeroValue32) rfl ?_
 rintro _ w7 ⟨B7, rfl, MB7⟩
 refine LW.E (.storeA sizeOf32 (BaseC.size hC26) (.t rfl) (.t rfl) (BaseC.one hC26) MB7.blk rfl) ?_
 intro w8 LB7
 have NB7 := MB7.set LB7
 clear LB7 MB7
 have eB7 := NB7.at_
 have zB7 := NB7.size
 replace hS := hS.addB NB7
 change Wx.Sep _ _ _ [_, _, _, _, _, _, _, _, _, _, _, _, _] at hS
 refine LW.S (CW.seq ?_)
 change Wx.Sep _ _ _ [_, _, _, _, _, _, _, _, _, _, _, _, _] at hS
 refine CW.region (LW.C (LW.T (CW.block ?_)))
 refine CW.loopB (σ := Nat × List Fact) (fun s w => (s.1 ≤ z1.kb.Processes.length) ∧ (s.2.length = z1.kb.Processes.length) ∧ (Wx.Sep no w0 w ([aOwn 24 19 Fact.cells (.slice ad19 (soL xs).length cp19) (soL xs)] ++ Eng.As y0 ++ Eng.As z1 ++ [aOwn 24 19 Fact.cells (.slice ad0 z1.kb.Processes.length cp0) (s.2), aBlk B7 bc26 32]))) (fun s => [(8, .eq (vi (s.1 : Int)))]) ([(2, .eq _), (3, .eq _), (4, .eq _), (5, .eq _), (6, .eq _), (7, .eq _)]) (fun s => z1.kb.Processes.length - s.1) (0, z1.kb.Processes) ?_ ⟨rfl, rfl, rfl, rfl, rfl, rfl, rfl, trivial⟩ ?_
 ·exact ⟨Nat.zero_le _, rfl, hS⟩
 rintro ⟨i, Pl⟩ w9 ⟨hi, hPn, hS⟩
 dsimp only at hi hPn
 change Wx.Sep _ _ _ [_, _, _, _, _, _, _, _, _, _, _, _, _] at hS
 change CW _ _ _ _ _ _ _ ([(8, .eq (vi (i : Int)))] ++ _) _
 refine CW.seq (CW.S (LW.M rfl ?_))
 refine LW.pp (.fA 0 underlying32 rfl sizeOf26 rfl) ?_
 refine LW.pp (.ld isAgg26 rfl ((hS.blk 12 rfl).cell h0)) ?_
 refine LW.pp (.lenS underlying26 (.t rfl)) ?_
 refine LW.pp (.lss (.t rfl) (.t rfl)) ?_
 refine LW.T ?_
 refine CW.cond (.t rfl) (fun h31 => ?_) (fun h31 => ?_)
 ·replace h31 := dQ h31
  refine CW.skip (KW.then (CW.seq (CW.block (CW.seq ?_))))
  obtain ⟨x, hx⟩ : ∃ x, Pl[i]? = some x := ⟨_, List.getElem?_eq_getElem oQ⟩
  obtain ⟨g, rfl⟩ := (hS.own 11 rfl).adr (List.length_pos_of_mem (List.mem_of_getElem? hx))
  refine CW.region ?_
  refine LW.pp (.fA 0 underlying32 rfl sizeOf26 rfl) ?_
  refine LW.pp (.ld isAgg26 rfl ((hS.blk 12 rfl).cell h0)) ?_
  refine LW.M rfl ?_
  refine LW.pp (.indexAddr' underlying26 sizeOf24 (j := i) (.t rfl) (.t rfl) oQ rfl) ?_
  refine LW.pp (.fA 11 underlying24 rfl sizeOf3 rfl) ?_
  refine LW.E (.storeOwnF (enc := Fact.cells) (k := 19) (z := ({ x with Tool := 9 } : Fact)) (i := i) (j := 11) sizeOf3 (fun _ => rfl) rfl (.t rfl) (.const _) (hS.own 11 rfl) hx cQ rfl) ?_
  intro w10 Gw10
  have zw10 := Gw10.fr.size
  replace hS := hS.stp 11 rfl Gw10
  change Wx.Sep _ _ _ [_, _, _, _, _, _, _, _, _, _, _, _, _] at hS
  refine LW.S (CW.region (LW.M rfl ?_))
  refine LW.K (eC (.cons (.t rfl) (.cons (.const _) (.cons (.const _) (.cons (.const _) .nil)))) (en17)) rfl (EDecs_any z1.E z1.bf z1.bd z1.bc z1.n z1.D z1.kb 0 0 1 _ hz1.hbc ⟨by simp [inI], by simp [inI], by simp [inI]⟩ hlP hz1.keys hz1.dks (hS.blk 6 rfl) (hS.get 9 rfl) (hS.get 10 rfl)) ?_
  rintro v40 w11 ⟨_, D, rfl, hm40, hT40⟩
  replace hS := hS.join hT40
  change Wx.Sep _ _ _ [_, _, _, _, _, _, _, _, _, _, _, _, _, _, _] at hS
  clear hT40
  rw [usesU] at hS
  obtain ⟨ad9, cp9, rfl, _⟩ := (hS.own 13 rfl).sl (fun _ => rfl)
  have hDl : D.length ≤ 100 := by have h1 := congrArg List.length hm40; rw [List.length_map, desF_len] at h1; have h2 := rnsF_len z1.kb 0 0 1; omega
  have hDu : ∀ p ∈ D, p.dec.uses.length ≤ 100 := fun p hp => by have h1 := desF_uses z1.kb 0 0 1 p.dec (by rw [← hm40]; exact List.mem_map.2 ⟨p, hp, rfl⟩); have h2 := rnsF_len z1.kb 0 0 1; omega
  clear hm40
  refine LW.A rfl (LW.S (CW.region (LW.C (LW.T (CW.block ?_)))))
  refine CW.loopB (σ := Nat × List DP × List (Go.Value × List Int)) (fun s w => (s.1 ≤ D.length) ∧ (s.2.1.length = D.length) ∧ (∀ p ∈ s.2.1, p.dec.uses.length ≤ 100) ∧ (s.2.2.map (·.1) = s.2.1.map DP.uv) ∧ (Wx.Sep no w0 w ([aOwn 24 19 Fact.cells (.slice ad19 (soL xs).length cp19) (soL xs)] ++ Eng.As y0 ++ Eng.As z1 ++ [aOwn 24 19 Fact.cells (.slice (some ⟨g, 0, none⟩) z1.kb.Processes.length cp0) (Pl.set i ({ x with Tool := 9 } : Fact)), aBlk B7 bc26 32, aOwn 48 6 DP.cells (.slice ad9 D.length cp9) s.2.1, aUs 3 s.2.2]))) (fun s => [(10, .eq (vi (s.1 : Int)))]) ([(2, .eq _), (3, .eq _), (4, .eq _), (5, .eq _), (6, .eq _), (7, .eq _), (8, .eq _), (9, .eq _)]) (fun s => D.length - s.1) (0, D, D.map fun p => (p.uv, p.dec.uses)) ?_ ⟨rfl, rfl, rfl, rfl, rfl, rfl, rfl, rfl, rfl, trivial⟩ ?_
  ·exact ⟨Nat.zero_le _, rfl, hDu, by rw [List.map_map]; rfl, hS⟩
  rintro ⟨k, M, U⟩ w12 ⟨hk, hMl, hDM, hU, hS⟩
  dsimp only at hk hMl hDM hU
  change Wx.Sep _ _ _ [_, _, _, _, _, _, _, _, _, _, _, _, _, _, _] at hS
  change CW _ _ _ _ _ _ _ ([(10, .eq (vi (k : Int)))] ++ _) _
  refine CW.seq (CW.S (LW.M rfl (LW.M rfl ?_)))
  refine LW.pp (.lenS underlying38 (.t rfl)) ?_
  refine LW.pp (.lss (.t rfl) (.t rfl)) ?_
  refine LW.T ?_
  refine CW.cond (.t rfl) (fun h44 => ?_) (fun h44 => ?_)
  ·replace h44 := dQ h44
   refine CW.skip (KW.then (CW.seq (CW.block (CW.seq ?_))))
   obtain ⟨⟨xd, adx, cpx⟩, hy⟩ : ∃ y, M[k]? = some y := ⟨_, List.getElem?_eq_getElem oQ⟩
   obtain ⟨g9, rfl⟩ := (hS.own 13 rfl).adr (List.length_pos_of_mem (List.mem_of_getElem? hy))
   obtain ⟨us0, hu0⟩ := uv_get hU hy
   have hxu : xd.uses.length ≤ 100 := hDM _ (List.mem_of_getElem? hy)
   change U[k]? = some ((.slice adx xd.uses.length cpx), us0) at hu0
   have hkU : k < U.length := (List.getElem?_eq_some_iff.1 hu0).1
   refine CW.region (LW.M rfl (LW.M rfl ?_))
   refine LW.pp (.indexAddr' underlying38 sizeOf48 (j := k) (.t rfl) (.t rfl) oQ rfl) ?_
   refine LW.pp (.fA 0 underlying48 rfl sizeOf3 rfl) ?_
   refine LW.E (.storeOwnF (enc := DP.cells) (k := 6) (z := (⟨{ xd with run := 0 }, adx, cpx⟩ : DP)) (i := k) (j := 0) sizeOf3 (fun _ => rfl) rfl (.t rfl) (.const _) (hS.own 13 rfl) hy cQ rfl) ?_
   intro w13 Gw13
   have zw13 := Gw13.fr.size
   replace hS := hS.stp 13 rfl Gw13
   change Wx.Sep _ _ _ [_, _, _, _, _, _, _, _, _, _, _, _, _, _, _] at hS
   refine LW.S ?_
   have hS2 : us0.length = xd.uses.length := by
    obtain ⟨_, _, e, _⟩ := (aUs_get (hS.get 14 rfl) hu0).sl (fun _ => rfl)
    injection e with e1 e2 e3
    exact e2.symm
   rw [← set_same hu0] at hS
   refine CW.region (LW.C (LW.T (CW.block ?_)))
   refine CW.loopB (σ := Nat × List Int) (fun s w => (s.1 ≤ xd.uses.length) ∧ (s.2.length = xd.uses.length) ∧ (Wx.Sep no w0 w ([aOwn 24 19 Fact.cells (.slice ad19 (soL xs).length cp19) (soL xs)] ++ Eng.As y0 ++ Eng.As z1 ++ [aOwn 24 19 Fact.cells (.slice (some ⟨g, 0, none⟩) z1.kb.Processes.length cp0) (Pl.set i ({ x with Tool := 9 } : Fact)), aBlk B7 bc26 32, aOwn 48 6 DP.cells (.slice (some ⟨g9, 0, none⟩) D.length cp9) (M.set k (⟨{ xd with run := 0 }, adx, cpx⟩ : DP)), aUs 3 (U.set k ((.slice adx xd.uses.length cpx), s.2))]))) (fun s => [(11, .eq (vi (s.1 : Int)))]) ([(2, .eq _), (3, .eq _), (4, .eq _), (5, .eq _), (6, .eq _), (7, .eq _), (8, .eq _), (9, .eq _), (10, .eq _)]) (fun s => xd.uses.length - s.1) (0, us0) ?_ ⟨rfl, rfl, rfl, rfl, rfl, rfl, rfl, rfl, rfl, rfl, trivial⟩ ?_
   ·exact ⟨Nat.zero_le _, hS2, hS⟩
   rintro ⟨m, us⟩ w14 ⟨hm, hus, hS⟩
   dsimp only at hm hus
   change Wx.Sep _ _ _ [_, _, _, _, _, _, _, _, _, _, _, _, _, _, _] at hS
   change CW _ _ _ _ _ _ _ ([(11, .eq (vi (m : Int)))] ++ _) _
   refine CW.seq (CW.seq ?_)
   obtain ⟨By, oy, ay, hcz⟩ := (OwnS.elsS (hS.own 13 rfl) (fun _ => rfl)) k (⟨{ xd with run := 0 }, adx, cpx⟩ : DP) (List.getElem?_set_self oQ)
   refine CW.region (LW.M rfl (LW.M rfl (LW.M rfl ?_)))
   refine LW.pp (.indexAddr' underlying38 sizeOf48 (j := k) (.t rfl) (.t rfl) oQ ay) ?_
   refine LW.pp (.fA 5 underlying48 rfl sizeOf46 rfl) ?_
   refine LW.pp (.ld isAgg46 rfl (AggAt.nth (j := 5) (v := (.slice adx xd.uses.length cpx)) hcz rfl)) ?_
   refine LW.pp (.lenS underlying46 (.t rfl)) ?_
   refine LW.pp (.lss (.t rfl) (.t rfl)) ?_
   refine LW.T ?_
   refine CW.cond (.t rfl) (fun h58 => ?_) (fun h58 => ?_)
   ·replace h58 := dQ h58
    refine CW.skip (KW.then (CW.seq (CW.block ?_)))
    obtain ⟨By, oy, ay, hcz⟩ := (OwnS.elsS (hS.own 13 rfl) (fun _ => rfl)) k (⟨{ xd with run := 0 }, adx, cpx⟩ : DP) (List.getElem?_set_self oQ)
    obtain ⟨u, hum⟩ : ∃ u, us[m]? = some u := ⟨_, List.getElem?_eq_getElem oQ⟩
    have hOu : OwnS w14 0 3 1 eInt (.slice adx xd.uses.length cpx) us := aUs_get (hS.get 14 rfl) (List.getElem?_set_self hkU)
    obtain ⟨gu, rfl⟩ := hOu.adr (List.length_pos_of_mem (List.mem_of_getElem? hum))
    refine CW.region (LW.M rfl (LW.M rfl ?_))
    refine LW.pp (.indexAddr' underlying38 sizeOf48 (j := k) (.t rfl) (.t rfl) oQ ay) ?_
    refine LW.pp (.fA 5 underlying48 rfl sizeOf46 rfl) ?_
    refine LW.pp (.ld isAgg46 rfl (AggAt.nth (j := 5) (v := (.slice (some ⟨gu, 0, none⟩) xd.uses.length cpx)) hcz rfl)) ?_
    refine LW.M rfl ?_
    refine LW.pp (.indexAddr' underlying46 sizeOf3 (j := m) (.t rfl) (.t rfl) oQ rfl) ?_
    refine LW.E (.storeOwnF (enc := eInt) (k := 1) (z := (0 : Int)) (i := m) (j := 0) sizeOf3 (fun _ => rfl) rfl (.t rfl) (.const _) hOu hum cQ rfl) ?_
    intro w15 Gw15
    have zw15 := Gw15.fr.size
    replace hS := hS.stp 14 rfl (aUs_stp (hS.get 14 rfl) hkU Gw15)
    change Wx.Sep _ _ _ [_, _, _, _, _, _, _, _, _, _, _, _, _, _, _] at hS
    refine LW.nil (KW.inBlock (KW.then (CW.region (LW.M rfl ?_))))
    refine LW.pp (.inc (.t rfl) oQ) ?_
    refine LW.A rfl (LW.nil (KW.round ?_))
    exact ⟨(m + 1, us.set m 0), ⟨by show m + 1 ≤ _; omega, by show (us.set m _).length = _; rw [List.length_set]; exact hus, hS⟩, ⟨rfl, rfl, rfl, rfl, rfl, rfl, rfl, rfl, rfl, rfl, trivial⟩, by show xd.uses.length - (m + 1) < xd.uses.length - m; omega⟩
   replace h58 := dQ h58
   refine CW.exit (KW.then_exit (KW.then_exit (KW.block_hit (KW.inBlock (KW.then (CW.region (LW.M rfl ?_)))))))
   refine LW.pp (.inc (.t rfl) oQ) ?_
   refine LW.A rfl (LW.nil (KW.round ?_))
   exact ⟨(k + 1, M.set k (⟨{ xd with run := 0 }, adx, cpx⟩ : DP), U.set k ((.slice adx xd.uses.length cpx), us)), ⟨by show k + 1 ≤ _; omega, by show (M.set k _).length = _; rw [List.length_set]; exact hMl, fun p hp => (List.mem_or_eq_of_mem_set hp).elim (hDM p) fun e => by rw [e]; exact hxu, uv_set hU rfl, hS⟩, ⟨rfl, rfl, rfl, rfl, rfl, rfl, rfl, rfl, rfl, trivial⟩, by show D.length - (k + 1) < D.length - k; omega⟩
  replace h44 := dQ h44
  refine CW.exit (KW.then_exit (KW.then_exit (KW.block_hit (KW.inBlock (KW.then (CW.region (LW.M rfl ?_)))))))
  refine LW.pp (.inc (.t rfl) oQ) ?_
  refine LW.A rfl (LW.nil (KW.round ?_))
  exact ⟨(i + 1, Pl.set i ({ x with Tool := 9 } : Fact)), ⟨by show i + 1 ≤ _; omega, by show (Pl.set i _).length = _; rw [List.length_set]; exact hPn, hS.take 13⟩, ⟨rfl, rfl, rfl, rfl, rfl, rfl, rfl, trivial⟩, by show z1.kb.Processes.length - (i + 1) < z1.kb.Processes.length - i; omega⟩
 replace h31 := dQ h31
 refine CW.exit (KW.then_exit (KW.then_exit (KW.block_hit (KW.then (CW.S (LW.M rfl ?_))))))
 refine LW.K (eC (.o rfl) (en21)) rfl (ELate_any z1.E z1.bf z1.bd z1.bc z1.n z1.kb _ hz1.hbc (hS.blk 6 rfl) (hS.get 8 rfl) (len_ok hz1).1 (len_ok hz1).2.1 (len_ok hz1).2.2.1 (len_ok hz1).2.2.2 val_ok) ?_
 rintro v69 w16 ⟨hO69, uw16⟩
 have zw16 := uw16.size
 replace hS := hS.add uw16 (A' := aOwn 3 1 eInt v69 (lateL z1.kb)) (hO69.mono (Nat.zero_le _)) (fun i h => hO69.base i h)
 change Wx.Sep _ _ _ [_, _, _, _, _, _, _, _, _, _, _, _, _, _] at hS
 clear hO69
 obtain ⟨ad69, cp69, rfl, _⟩ := (hS.own 13 rfl).sl (fun _ => rfl)
 have hlL : (lateL z1.kb).length ≤ 100 := by have h1 := late_len z1.kb z1.kb.Processes z1.kb.Processes.length; rw [List.take_length] at h1; unfold lateL; rw [List.length_mergeSort]; omega
 refine LW.A rfl (LW.S (CW.S (LW.C (LW.T (CW.block ?_)))))
 refine CW.loopB (σ := Nat × List Int) (fun s w => (s.1 ≤ (lateL z1.kb).length) ∧ (s.2.length = (lateL z1.kb).length) ∧ (Wx.Sep no w0 w ([aOwn 24 19 Fact.cells (.slice ad19 (soL xs).length cp19) (soL xs)] ++ Eng.As y0 ++ Eng.As z1 ++ [aOwn 24 19 Fact.cells (.slice ad0 z1.kb.Processes.length cp0) (Pl), aBlk B7 bc26 32, aOwn 3 1 eInt (.slice ad69 (lateL z1.kb).length cp69) s.2]))) (fun s => [(13, .eq (vi (s.1 : Int)))]) ([(2, .eq _), (3, .eq _), (4, .eq _), (5, .eq _), (6, .eq _), (12, .eq _)]) (fun s => (lateL z1.kb).length - s.1) (0, (lateL z1.kb)) ?_ ⟨rfl, rfl, rfl, rfl, rfl, rfl, rfl, trivial⟩ ?_
 ·exact ⟨Nat.zero_le _, rfl, hS⟩
 rintro ⟨j, Q⟩ w17 ⟨hj, hQ, hS⟩
 dsimp only at hj hQ
 change Wx.Sep _ _ _ [_, _, _, _, _, _, _, _, _, _, _, _, _, _] at hS
 change CW _ _ _ _ _ _ _ ([(13, .eq (vi (j : Int)))] ++ _) _
 refine CW.seq (CW.S (LW.M rfl (LW.M rfl ?_)))
 refine LW.pp (.lenS underlying46 (.t rfl)) ?_
 refine LW.pp (.lss (.t rfl) (.t rfl)) ?_
 refine LW.T ?_
 refine CW.cond (.t rfl) (fun h73 => ?_) (fun h73 => ?_)
 ·replace h73 := dQ h73
  refine CW.skip (KW.then (CW.seq (CW.block ?_)))
  obtain ⟨y, hy⟩ : ∃ y, Q[j]? = some y := ⟨_, List.getElem?_eq_getElem oQ⟩
  obtain ⟨gl, rfl⟩ := (hS.own 13 rfl).adr (List.length_pos_of_mem (List.mem_of_getElem? hy))
  refine CW.region (LW.M rfl (LW.M rfl ?_))
  refine LW.pp (.indexAddr' underlying46 sizeOf3 (j := j) (.t rfl) (.t rfl) oQ rfl) ?_
  refine LW.E (.storeOwnF (enc := eInt) (k := 1) (z := (0 : Int)) (i := j) (j := 0) sizeOf3 (fun _ => rfl) rfl (.t rfl) (.const _) (hS.own 13 rfl) hy cQ rfl) ?_
  intro w18 Gw18
  have zw18 := Gw18.fr.size
  replace hS := hS.stp 13 rfl Gw18
  change Wx.Sep _ _ _ [_, _, _, _, _, _, _, _, _, _, _, _, _, _] at hS
  refine LW.nil (KW.inBlock (KW.then (CW.region (LW.M rfl ?_))))
  refine LW.pp (.inc (.t rfl) oQ) ?_
  refine LW.A rfl (LW.nil (KW.round ?_))
  exact ⟨(j + 1, Q.set j 0), ⟨by show j + 1 ≤ _; omega, by show (Q.set j _).length = _; rw [List.length_set]; exact hQ, hS⟩, ⟨rfl, rfl, rfl, rfl, rfl, rfl, rfl, trivial⟩, by show (lateL z1.kb).length - (j + 1) < (lateL z1.kb).length - j; omega⟩
 replace h73 := dQ h73
 refine CW.exit (KW.then_exit (KW.then_exit (KW.block_hit (KW.then (CW.S (LW.C (LW.S (CW.region (LW.M rfl ?_)))))))))
 refine LW.K (eC (.cons (.t rfl) (.cons (.const _) .nil)) (en32)) rfl (Of_own ad19 cp19 (soL xs) 100000 _ (OwnS.elsS (hS.own 0 rfl) (fun _ => rfl)) oQ) ?_
 rintro _ w19 ⟨bc80, rfl, hC80, hb80, uw19⟩
 have zw19 := uw19.size
 replace hS := hS.add uw19 (A' := aBase bc80 z1.kb) (by unfold Eng.kb; rw [ha1]; exact hC80) (aBase_low hb80)
 change Wx.Sep _ _ _ [_, _, _, _, _, _, _, _, _, _, _, _, _, _, _] at hS
 refine LW.rr (.allocA zeroValue32) rfl ?_
 rintro _ w20 ⟨B15, rfl, MB15⟩
 refine LW.E (.storeA sizeOf32 (BaseC.size hC80) (.t rfl) (.t rfl) (BaseC.one hC80) MB15.blk rfl) ?_
 intro w21 LB15
 have NB15 := MB15.set LB15
 clear LB15 MB15
 have eB15 := NB15.at_
 have zB15 := NB15.size
 replace hS := hS.addB NB15
 change Wx.Sep _ _ _ [_, _, _, _, _, _, _, _, _, _, _, _, _, _, _, _] at hS
 refine LW.S (CW.region (LW.M rfl (LW.M rfl ?_)))
 refine LW.K (eC (.u rfl rfl) (en13)) rfl (NAdd_any _ _) ?_
 rintro _ w22 ⟨rfl, uw22⟩
 have zw22 := uw22.size
 replace hS := hS.up uw22
 refine LW.pp (.tr (PEv.eql (.t rfl) (.const _)) (rfl)) ?_
 refine LW.M rfl ?_
 refine LW.Y ?_
 refine LW.M rfl ?_
 refine LW.Y ?_
 refine LW.K (eC (.o rfl) (en21)) rfl (NLate_any _) ?_
 rintro _ w23 ⟨rfl, uw23⟩
 have zw23 := uw23.size
 replace hS := hS.up uw23
 refine LW.Y ?_
 refine LW.pp (.lenS underlying46 (.t rfl)) ?_
 refine LW.Y ?_
 refine LW.pp (.tr (PEv.eql (.t rfl) (.const _)) (rfl)) ?_
 refine LW.pp (.pick_and (.t rfl) (fun hp => (by first | exact .const _ | exact .tmp rfl | exact .cond rfl (by first | assumption | (rw [hp]; rfl) | (rw [hc, hp]; rfl) | simp_all)))) ?_
 refine LW.M rfl ?_
 refine LW.Y ?_
 refine LW.M rfl ?_
 refine LW.Y ?_
 refine LW.K (eC (.o rfl) (en26)) rfl (NWork_any _) ?_
 rintro _ w24 ⟨rfl, uw24⟩
 have zw24 := uw24.size
 replace hS := hS.up uw24
 refine LW.Y ?_
 refine LW.pp (.tr (PEv.eql (.t rfl) (.const _)) (rfl)) ?_
 refine LW.pp (.pick_and (.t rfl) (fun hp => (by first | exact .const _ | exact .tmp rfl | exact .cond rfl (by first | assumption | (rw [hp]; rfl) | (rw [hc, hp]; rfl) | simp_all)))) ?_
 refine LW.M rfl ?_
 refine LW.Y ?_
 refine LW.M rfl ?_
 refine LW.Y ?_
 refine LW.K (eC (.cons (.t rfl) (.cons (.const _) (.cons (.const _) (.cons (.const _) .nil)))) (en17)) rfl (NDecs_any _ _ _ _) ?_
 rintro _ w25 ⟨rfl, uw25⟩
 have zw25 := uw25.size
 replace hS := hS.up uw25
 refine LW.Y ?_
 refine LW.pp (.lenS underlying38 (.t rfl)) ?_
 refine LW.Y ?_
 refine LW.pp (.tr (PEv.eql (.t rfl) (.const _)) (rfl)) ?_
 refine LW.pp (.pick_and (.t rfl) (fun hp => (by first | exact .const _ | exact .tmp rfl | exact .cond rfl (by first | assumption | (rw [hp]; rfl) | (rw [hc, hp]; rfl) | simp_all)))) ?_
 refine LW.M rfl ?_
 refine LW.Y ?_
 refine LW.M rfl ?_
 refine LW.Y ?_
 refine LW.K (eC (.o rfl) (en14)) rfl (NBase_any _) ?_
 rintro _ w26 ⟨rfl, uw26⟩
 have zw26 := uw26.size
 replace hS := hS.up uw26
 refine LW.Y ?_
 refine LW.pp (.build (cs := zb11) underlying32 zeroValue32 Tryz.places32 .nil kQ) ?_
 refine LW.Y ?_
 refine LW.K (eC (.u rfl rfl) (en27)) rfl (Same_any zb11 zb11 (ofB [] 0) (ofB [] 0) _ (zb_base _ 0) (zb_base _ 0) (ofB_short (Nat.zero_le _) _)) ?_
 rintro _ w27 ⟨rfl, uw27⟩
 have zw27 := uw27.size
 replace hS := hS.up uw27
 rw [sameB_refl]
 refine LW.pp (.pick_and (.t rfl) (fun hp => (by first | exact .const _ | exact .tmp rfl | exact .cond rfl (by first | assumption | (rw [hp]; rfl) | (rw [hc, hp]; rfl) | simp_all)))) ?_
 refine LW.A rfl (LW.S ?_)
 have hsh1 : short z1.kb := ofB_short (Nat.le_trans hz1.len cQ) _
 have hsh0 : short y0.kb := ofB_short (Nat.le_trans hy0.len cQ) _
 have hyk : y0.kb = ofB [] 100000 := by unfold Eng.kb; rw [hya]
 refine CW.draws kQ kQ rfl rfl ?_
 refine HW.pp (.move (.t rfl)) ?_
 refine HW.pp (.move (.t rfl)) ?_
 refine HW.yy (.move (.t rfl)) ?_
 refine HW.pp (.pick_and (.t rfl) (fun hp => (by first | exact .const _ | exact .tmp rfl | exact .cond rfl (by first | assumption | (rw [hp]; rfl) | (rw [hc, hp]; rfl) | simp_all)))) ?_
 refine HW.pp (.move (.t rfl)) ?_
 refine HW.yy (.move (.t rfl)) ?_
 refine HW.yqc (ph := .pred fun v w => BaseV w v z1.kb) (fun _ _ _ h u => BaseV.up h u) rfl rfl rfl rfl rfl (fun a w hu ha => ⟨_, _, enter_call0 (.cons (.t rfl) .nil) (en14) a ha, (EBase_any z1.E z1.bf z1.bd z1.bc z1.n z1.all w ((hS.up hu).blk 6 rfl) ((hS.up hu).get 7 rfl) (Nat.le_trans hz1.len cQ)).mono fun v w' h => (let ⟨bc1, e, hC, _, u⟩ := h; ⟨u, bc1, e, hC⟩)⟩) rfl ?_
 refine HW.yy (.loadA isAgg32 sizeOf32 ((BaseC.size (hS.get 14 rfl))) (.t rfl) ((hS.blk 15 rfl).agg)) ?_
 refine HW.yqc (ph := .eq (.bool true)) (phUp.eq _) rfl rfl rfl rfl rfl (fun a w hu ha => ⟨_, _, enter_any2 en27 a w, (sameBV (a.eval (.tmp 114)) (a.eval (.tmp 115)) z1.kb w (ha.known (p := fun v w => BaseV w v z1.kb) rfl) ⟨bc80, ha.ev (.t rfl), (hS.up hu).get 14 rfl⟩ hsh1).mono fun _ _ h => ⟨h.2, h.1⟩⟩) rfl ?_
 refine HW.pp (.pick_and (.t rfl) (fun hp => (by first | exact .const _ | exact .tmp rfl | exact .cond rfl (by first | assumption | (rw [hp]; rfl) | (rw [hc, hp]; rfl) | simp_all)))) ?_
 refine HW.pp (.move (.t rfl)) ?_
 refine HW.yy (.move (.t rfl)) ?_
 refine HW.yy (.loadA isAgg32 sizeOf32 ((BaseC.size (hS.get 14 rfl))) (.t rfl) ((hS.blk 15 rfl).agg)) ?_
 refine HW.yqc (ph := .eq (.bool true)) (phUp.eq _) rfl rfl rfl rfl rfl (fun a w hu ha => ⟨_, _, enter_call0 (.cons (.t rfl) (.cons (.t rfl) .nil)) (en33) a ha, (same21_any z1.E z1.bf z1.bd z1.bc z1.n z1.D z1.kb bc80 w hz1.hbc hz1.keys hz1.dks (len_ok hz1).1 (len_ok hz1).2.1 (len_ok hz1).2.2.1 (len_ok hz1).2.2.2 ((hS.up hu).blk 6 rfl) ((hS.up hu).get 9 rfl) ((hS.up hu).get 10 rfl) ((hS.up hu).get 14 rfl)).mono fun _ _ h => ⟨h.2, h.1⟩⟩) rfl ?_
 refine HW.pp (.pick_and (.t rfl) (fun hp => (by first | exact .const _ | exact .tmp rfl | exact .cond rfl (by first | assumption | (rw [hp]; rfl) | (rw [hc, hp]; rfl) | simp_all)))) ?_
 refine HW.pp (.move (.t rfl)) ?_
 refine HW.yy (.move (.t rfl)) ?_
 refine HW.yqc (ph := .pred fun v w => BaseV w v y0.kb) (fun _ _ _ h u => BaseV.up h u) rfl rfl rfl rfl rfl (fun a w hu ha => ⟨_, _, enter_call0 (.cons (.t rfl) .nil) (en14) a ha, (EBase_any y0.E y0.bf y0.bd y0.bc y0.n y0.all w ((hS.up hu).blk 1 rfl) ((hS.up hu).get 2 rfl) (Nat.le_trans hy0.len cQ)).mono fun v w' h => (let ⟨bc1, e, hC, _, u⟩ := h; ⟨u, bc1, e, hC⟩)⟩) rfl ?_
 refine HW.yy (.build (cs := zb11) underlying32 zeroValue32 Tryz.places32 .nil kQ) ?_
 refine HW.yqc (ph := .eq (.bool true)) (phUp.eq _) rfl rfl rfl rfl rfl (fun a w hu ha => ⟨_, _, enter_any2 en27 a w, (sameBV (a.eval (.tmp 125)) (a.eval (.tmp 126)) y0.kb w (ha.known (p := fun v w => BaseV w v y0.kb) rfl) ⟨zb11, ha.ev (.t rfl), by rw [hyk]; exact zb_base _ _⟩ hsh0).mono fun _ _ h => ⟨h.2, h.1⟩⟩) rfl ?_
 refine HW.pp (.pick_and (.t rfl) (fun hp => (by first | exact .const _ | exact .tmp rfl | exact .cond rfl (by first | assumption | (rw [hp]; rfl) | (rw [hc, hp]; rfl) | simp_all)))) ?_
 refine HW.pp (.move (.t rfl)) ?_
 refine HW.yy (.move (.t rfl)) ?_
 refine HW.yc rfl rfl rfl rfl rfl (fun a w _ ha => enter_call0 (.cons (.t rfl) .nil) (en26) a ha) rfl (fun w hu => EWork_any y0.E y0.bf y0.bd y0.bc y0.n w hy0.hbc ((hS.up hu).blk 1 rfl)) ?_
 refine HW.yy (.tr (PEv.eql (.t rfl) (.const _)) (decide_eq_true hyn)) ?_
 refine HW.pp (.pick_and (.t rfl) (fun hp => (by first | exact .const _ | exact .tmp rfl | exact .cond rfl (by first | assumption | (rw [hp]; rfl) | (rw [hc, hp]; rfl) | simp_all)))) ?_
 refine HW.pp (.assign (.t rfl)) ?_
 refine HW.nil ?_
 intro w28 uw28
 have zw28 := uw28.size
 replace hS := hS.up uw28
 refine KW.then (CW.ret ?_)
 refine KW.ret1 rfl rfl ⟨_, rfl, ?_⟩
 exact ⟨rfl, hS.upd⟩
end Go.Proofs.YtbbpkdlehlamlaaGreatDoor
end
