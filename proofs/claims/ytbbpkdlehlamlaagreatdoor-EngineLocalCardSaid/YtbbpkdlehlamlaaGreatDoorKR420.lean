import Derived.Test.YtbbpkdlehlamlaaGreatDoorKR419
import Derived.Sort.OwnSortedInts
section
namespace Go.Wx
theorem flat_int (ks : List Int) : ks.flatMap (fun x => (eInt x).toList) = ks.map vi := by
 induction ks with
 | nil => rfl
 | cons k ks ih => rw [List.flatMap_cons, ih]; rfl
def isLate (kb : Base) (id : Int) : Bool := decide ((expF kb id).2.2 = 0) && !(expF kb id).2.1
def lateP (kb : Base) (l : List Fact) : List Int := (l.filter fun p => isLate kb p.ID).map (·.ID)
def lateL (kb : Base) : List Int := (lateP kb kb.Processes).mergeSort fun x y => decide (x ≤ y)
theorem late_yes {kb : Base} {l : List Fact} {i : Nat} {x : Fact} (h : l[i]? = some x) (hx : isLate kb x.ID = true) : lateP kb (l.take (i + 1)) = lateP kb (l.take i) ++ [x.ID] := by
 unfold lateP
 rw [List.take_add_one, h, Option.toList_some, List.filter_append, List.map_append]
 simp [hx]
theorem late_no {kb : Base} {l : List Fact} {i : Nat} {x : Fact} (h : l[i]? = some x) (hx : isLate kb x.ID = false) : lateP kb (l.take (i + 1)) = lateP kb (l.take i) := by
 unfold lateP
 rw [List.take_add_one, h, Option.toList_some, List.filter_append, List.map_append]
 simp [hx]
theorem late_len (kb : Base) (l : List Fact) (i : Nat) : (lateP kb (l.take i)).length ≤ l.length := by
 unfold lateP
 rw [List.length_map]
 exact Nat.le_trans (List.length_filter_le _ _) (by rw [List.length_take]; omega)
theorem sl_els {α : Type} {w : World} {ad : Option Addr} {n c k : Nat} {enc : α → Array Go.Value} {xs : List α} (h : Sl w (.slice ad n c) k enc xs) : Els w ad k enc xs := by
 obtain ⟨a, c', e, he⟩ := h
 cases e
 exact he
theorem des_none {b : Base} {t c r : Int} (h : ∀ p ∈ b.Processes, gof p ≠ ⟨t, c, r⟩) : desF b t c r = [] := by
 have : rnsF b t c r = [] := List.eq_nil_iff_forall_not_mem.2 fun x hx => by
   obtain ⟨h1, h2, h3, h4⟩ := rns_mem.1 hx
   exact h x h1 (by unfold gof; rw [h2, h3, h4])
 unfold desF
 rw [this]
 rfl
end Go.Wx
namespace Go.Proofs.YtbbpkdlehlamlaaGreatDoor
open Go.Proofs.Tryz
open Go.Wx Go.RowKit
theorem sortS_any (v : Go.Value) (ks : List Int) (w : World) (h : OwnS w 0 3 1 eInt v ks) (hlen : ks.length < 4611686018427387904) : Ret prog 53 #[v] w fun r w' => r = .tuple #[] ∧ Stp (aOwn 3 1 eInt v ks) (aOwn 3 1 eInt v (ks.mergeSort fun x y => decide (x ≤ y))) w w' := by
 have h0 := h
 obtain ⟨h1, ⟨rfl, hn⟩ | ⟨g, cap, cur, rfl, hg, hb, h2, h3, h4, h5⟩⟩ := h
 · have hks : ks = [] := List.eq_nil_of_length_eq_zero hn
   subst hks
   refine Calls.mono (Tryz.slices_Sort_int_none none 0 w) ?_
   rintro e' w' ⟨rfl, rfl⟩
   exact ⟨_, rfl, rfl, Fr.refl _ _, show OwnS w' 0 3 1 eInt (.slice none 0 0) (List.mergeSort [] _) from by simpa using h0, fun _ h => .inl h⟩
 rw [flat_int] at h5
 have hl : g < w.heap.size := lt_of_block hb
 refine Calls.mono (Tryz.slices_Sort_int g 0 cap ks w (Go.holds_of_blockI hb (by simpa using h5)) hl hlen) ?_
 rintro e' w' ⟨rfl, n, os, rfl⟩
 have hg2 := Go.grownBy_sortedI (w := w) (g := g) (n := n) (os := os) (ks.mergeSort fun x y => decide (x ≤ y)).toArray
 have ho := Go.ownsRow_sortedI (w := w) (n := n) (os := os) (ss := ks) (ts := ks.mergeSort fun x y => decide (x ≤ y)) (by simp) hg hb h2 h3 h4
 refine ⟨_, rfl, rfl, ⟨hg2.os, hg2.tape, hg2.output, hg2.size, fun i hi hn => hg2.block i hi (fun e => hn (by cases e; rfl))⟩, ?_, fun _ h => .inl h⟩
 show World.ownsRow _ _ _ _ _ _ _
 rw [flat_int, List.length_mergeSort]
 exact ho
theorem cloneI_any (ad : Option Addr) (cp : Nat) (l : List Int) (w : World) (hE0 : Els w ad 1 eInt l) (hl : l.length ≤ 1000000000) : Ret prog 45 #[.slice ad l.length cp] w fun r w' => OwnS w' w.heap.size 3 1 eInt r l ∧ Up w w' := by
 obtain ⟨w0, rfl⟩ : ∃ w0, w0 = w := ⟨_, rfl⟩
 have hS := Sep.start no w0
 refine cS (n := 8) (m := 9) func45 rfl rfl rfl (CW.S (LW.C (LW.S (CW.S (LW.M rfl (LW.pp (.eqlNilS underlying46 (.t rfl)) (LW.T (CW.cond (.t rfl) (fun h4 => ?_) (fun h4 => ?_)))))))))
 ·have hnil : l = [] := by cases l with | nil => rfl | cons x r => (obtain ⟨B, o, e, _⟩ := hE0 0 x rfl; rw [e] at h4; cases h4)
  refine CW.S (LW.C (LW.T (CW.ret (KW.then_ret (KW.ret1 rfl rfl ⟨_, rfl, ?_⟩)))))
  (subst hnil; exact ⟨OwnS.nil _ _ _ _ _, hS.upd⟩)
 refine CW.skip (KW.then (CW.S (LW.rr (.buildSlice (xs := ([] : List Int)) (enc := eInt) (mk := vi) underlying46 sizeOf3 zeroValue3 rfl cQ (fun _ => rfl) (fun _ => rfl) .nil rfl) rfl ?_)))
 intro v5 w1 hN5
 obtain ⟨uw1, B5, rfl, hO5⟩ := NewSl.own0 hN5 (Nat.le_refl _)
 replace hS := hS.add uw1 (A' := aOwn 3 1 eInt (.slice (some ⟨B5, 0, none⟩) 0 0) ([] : List Int)) (hO5.mono (Nat.zero_le _)) (fun i h => hO5.base i h)
 refine LW.M rfl (LW.rr (.appendF (enc := eInt) (bytes := 8) (i := Tryz.t3) underlying46 kQ rfl rfl rfl rfl cQ (fun _ => rfl) eInt_one (.t rfl) (.t rfl) (hS.own 0 rfl) (Sl.of_els (Els.up hE0 hS.upd)) (by simp [maxLen]; omega) (by simp; omega)) rfl ?_)
 intro v7 w2 Gw2
 replace hS := hS.stp 0 rfl Gw2
 refine LW.A rfl (LW.T (CW.ret (KW.ret1 rfl rfl ⟨_, rfl, ?_⟩)))
 exact ⟨(hS.own 0 rfl).rebase (fun i h => (hS.foot 0 rfl i h).resolve_left (fun h => h)), hS.upd⟩
theorem ELate_any (E bf bd : Nat) (bc : Array Go.Value) (nw : Int) (kb : Base) (w : World) (hbc : bc.size = 11) (hE : Blk w E (EC bf bc bd nw) 80) (hC : BaseC w bc kb) (hlP : kb.Processes.length ≤ 100) (hlM : kb.Measures.length ≤ 100) (hlR : kb.Resets.length ≤ 100) (hlT : kb.Targets.length ≤ 100) (hV : ∀ f ∈ kb.Processes, inI f.Value) : Ret prog 21 #[.pointer (some ⟨E, 0, none⟩)] w fun r w' => OwnS w' w.heap.size 3 1 eInt r (lateL kb) ∧ Up w w' := by
 obtain ⟨w0, rfl⟩ : ∃ w0, w0 = w := ⟨_, rfl⟩
 have hS := Sep.start no w0
 refine cS (n := 46) (m := 9) func21 rfl rfl rfl (CW.S (LW.C (LW.S (CW.S (LW.M rfl (LW.pp (.fa (PEv.eqlNil underlying28 (.t rfl)) (rfl)) (LW.T (CW.cond_false (.t rfl) (CW.skip (KW.then (CW.seq (CW.seq ?_))))))))))))
 obtain ⟨_, hvp, adp, cpp, rfl, hEp0⟩ := BaseC.at_ hC (j := 0) cQ
 replace hvp : bc[0]? = some (.slice adp kb.Processes.length cpp) := hvp
 have hEp : Els _ adp 19 Fact.cells kb.Processes := hEp0
 replace hS := hS.addn (OwnS.nil _ 0 3 1 eInt)
 refine CW.region (LW.M rfl (LW.pp (.nilCheck (.t rfl)) (LW.pp (.fA 1 underlying80 rfl sizeOf32 rfl) (LW.pp (.fA 0 underlying32 rfl sizeOf26 rfl) (LW.pp (.ld isAgg26 rfl (EC_lst (hE.up hS.upd) hvp)) (LW.pp (.lenS underlying26 (.t rfl)) (LW.pp (.move (.const _)) (LW.T (CW.block (CW.loopB (σ := Nat × Go.Value) (fun s w => (s.1 ≤ kb.Processes.length) ∧ (Wx.Sep no w0 w [aOwn 3 1 eInt s.2 (lateP kb (kb.Processes.take s.1))])) (fun s => [(16, .eq (vi (s.1 : Int))), (2, .eq (s.2))]) ([(0, .eq _), (14, .eq _), (15, .eq _)]) (fun s => kb.Processes.length - s.1) (0, .slice none 0 0) ?_ ⟨rfl, rfl, rfl, rfl, rfl, trivial⟩ ?_))))))))))
 ·exact ⟨Nat.zero_le _, hS⟩
 rintro ⟨i, v⟩ w1 ⟨hi, hS⟩
 change CW _ _ _ _ _ _ _ ([(16, .eq (vi (i : Int))), (2, .eq (v))] ++ _) _
 refine CW.seq ?_
 skip
 refine CW.region (LW.pp (.lss (.t rfl) (.t rfl)) (LW.S (CW.cond (.t rfl) (fun h17 => ?_) (fun h17 => ?_))))
 ·replace h17 := dQ h17
  refine CW.skip (KW.then (CW.seq (CW.block (CW.seq ?_))))
  have hil : i < kb.Processes.length := by omega
  obtain ⟨x, hx⟩ : ∃ x, kb.Processes[i]? = some x := ⟨_, List.getElem?_eq_getElem hil⟩
  obtain ⟨Bx, ox, ax, hcx⟩ := (Els.up hEp hS.upd) i x hx
  have hll := late_len kb kb.Processes i
  refine CW.region (LW.pp (.indexAddr' underlying26 sizeOf24 (j := i) (.t rfl) (.t rfl) oQ ax) (LW.pp (.la isAgg24 sizeOf24 rfl (hcx)) (LW.rr (.allocA zeroValue24) rfl ?_)))
  rintro _ w2 ⟨B4, rfl, MB4⟩
  refine LW.E (.storeA sizeOf24 rfl (.t rfl) (.t rfl) (Fact.one _) MB4.blk rfl) ?_
  intro w3 LB4
  have NB4 := MB4.set LB4
  replace hS := hS.addB NB4
  refine LW.S (CW.boxU 15 11 12 8 5 28 (DP.cells ⟨dec0, none, 0⟩) [.eq (.pointer (some ⟨E, 0, none⟩)), .eq (.pointer (some ⟨E, 0, none⟩)), .eq (.pointer (some ⟨E, 1, none⟩)), .eq (.agg bc), .eq (.pointer (some ⟨B4, 1, none⟩)), .eq (vi x.ID), .pred (fun v _ => ∃ ad cp, v = .tuple #[.agg (DP.cells ⟨(expF kb x.ID).1, ad, cp⟩), .bool (expF kb x.ID).2.1, vi (expF kb x.ID).2.2]), .pred (fun v _ => ∃ ad cp, v = .tuple #[.agg (DP.cells ⟨(expF kb x.ID).1, ad, cp⟩), .bool (expF kb x.ID).2.1, vi (expF kb x.ID).2.2]), .pred (fun v _ => ∃ ad cp, v = .agg (DP.cells ⟨(expF kb x.ID).1, ad, cp⟩)), .eq (.bool (expF kb x.ID).2.1), .eq (vi (expF kb x.ID).2.2), .pred fun v _ => ∃ B, v = .pointer (some ⟨B, 0, none⟩), .eq undef, .eq (.bool (expF kb x.ID).2.1), .eq (vi (expF kb x.ID).2.2)] [6, 7] zeroValue48 sizeOf48 kQ rfl kQ kQ kQ kQ kQ kQ kQ rfl rfl ⟨_, _, _, rfl⟩ _ rfl ⟨_, _, _, rfl⟩ ⟨PhT.eq _ _, PhT.eq _ _, PhT.eq _ _, PhT.eq _ _, PhT.eq _ _, PhT.eq _ _, PhT.pred fun _ _ _ h _ => h, PhT.pred fun _ _ _ h _ => h, PhT.pred fun _ _ _ h _ => h, PhT.eq _ _, PhT.eq _ _, PhT.pred fun _ _ _ h _ => h, PhT.eq _ _, PhT.eq _ _, PhT.eq _ _, trivial⟩ rfl (fun v W h => let ⟨ad, cp, e⟩ := h; ⟨_, e, rfl, DP.one _⟩) (fun B W => ⟨B, rfl⟩) ?_ ?_)
  ·intro W hU0
   have hU := (Up.drew w3).trans hU0
   have hSW := hS.up hU
   have hEW := hE.up hSW.upd
   have hCW := BaseC.up hC hSW.upd
   refine aC (.inr ⟨rfl, TU.p (.move (.t rfl)) rfl⟩) (aC (.inr ⟨rfl, TU.p (.nilCheck (.t rfl)) rfl⟩) (aC (.inr ⟨rfl, TU.p (.fA 1 underlying80 rfl sizeOf32 rfl) rfl⟩) (aC (.inr ⟨rfl, TU.p (.loadA isAgg32 sizeOf32 hbc (.t rfl) (EC_known hEW)) rfl⟩) (aC (.inr ⟨rfl, TU.p (.fA 1 underlying24 rfl sizeOf3 rfl) rfl⟩) (aC (.inr ⟨rfl, TU.p (.ld isAgg3 rfl ((hSW.blk 1 rfl).celln rfl)) rfl⟩) (aC (.inr ⟨rfl, TU.c (eC (.u rfl rfl) (en22)) (Explain_any bc kb x.ID W hCW oQ oQ oQ oQ hV) (by rintro _ W1 ⟨v, rfl, ⟨ad, cp, rfl, _⟩, u⟩; exact ⟨u, ad, cp, rfl⟩)⟩) (aC (.inr ⟨rfl, TU.open (d := 27) rfl fun v hv => TU.p (.move (.t rfl)) hv⟩) (aC (.inr ⟨rfl, TU.open (d := 20) rfl fun v hv => by obtain ⟨ad, cp, rfl⟩ := hv; exact TU.p (.extract (.t rfl) rfl) ⟨ad, cp, rfl⟩⟩) (aC (.inr ⟨rfl, TU.open (d := 20) rfl fun v hv => by obtain ⟨ad, cp, rfl⟩ := hv; exact TU.p (.extract (.t rfl) rfl) rfl⟩) (aC (.inr ⟨rfl, TU.open (d := 20) rfl fun v hv => by obtain ⟨ad, cp, rfl⟩ := hv; exact TU.p (.extract (.t rfl) rfl) rfl⟩) (aC (.inl (.inl rfl)) (aC (.inl (.inr rfl)) (aC (.inr ⟨rfl, TU.p (.assign (.t rfl)) rfl⟩) (aC (.inr ⟨rfl, TU.p (.assign (.t rfl)) rfl⟩) ?_))))))))))))))
   exact allL.nil
  intro w4 B5 g hU0 zB5_ _ hg
  have hU := (Up.drew w3).trans hU0
  have e6 : g 6 = .bool (expF kb x.ID).2.1 := hg 13 _ 6 cQ rfl rfl
  have e7 : g 7 = vi (expF kb x.ID).2.2 := hg 14 _ 7 cQ rfl rfl
  change LW _ _ _ _ _ _ _ _ ((5, _) :: (6, .eq (g 6)) :: (7, .eq (g 7)) :: _) _
  rw [e6, e7]
  replace hS := hS.up hU
  refine LW.S (CW.region (LW.M rfl (LW.pp (.eql (.t rfl) (.const _)) (LW.M rfl (LW.g rfl rfl rfl rfl rfl rfl rfl (fun hc => PEv.move (.t rfl)) (LW.g rfl rfl rfl rfl rfl rfl rfl (fun hc => PEv.not vQ) (LW.pp (.pick_and (.t rfl) (fun hp => (by exact .cond rfl (by simp_all)))) (LW.T (CW.cond (.t rfl) (fun h36 => ?_) (fun h36 => ?_))))))))))
  ·replace h36 := dQ h36
   refine CW.region (LW.M rfl (LW.pp (.fA 1 underlying24 rfl sizeOf3 rfl) (LW.pp (.ld isAgg3 rfl ((hS.blk 1 rfl).celln rfl)) (LW.rr (.buildSlice (xs := [x.ID]) (enc := eInt) (mk := vi) underlying46 sizeOf3 zeroValue3 rfl cQ (fun _ => rfl) (fun _ => rfl) (.cons (.t rfl) .nil) rfl) rfl ?_))))
   rintro _ w5 ⟨B40, cB40, rfl, NB40, yB40, xB40⟩
   replace hS := hS.up NB40.up
   have hE40 := xB40
   refine LW.rr (.appendF (enc := eInt) (bytes := 8) (i := Tryz.t3) underlying46 kQ rfl rfl rfl rfl cQ (fun _ => rfl) eInt_one (.t rfl) (.t rfl) (hS.own 0 rfl) (Sl.of_els hE40) (by simp [maxLen]; omega) (by simp; omega)) rfl ?_
   intro v41 w6 Gw6
   replace hS := hS.stp 0 rfl Gw6
   refine LW.A rfl (LW.nil (KW.inBlock (KW.then (CW.region (LW.pp (.inc (.t rfl) oQ) (LW.M rfl (LW.nil (KW.round ?_))))))))
   exact ⟨(i + 1, v41), ⟨by show i + 1 ≤ _; omega, by rw [late_yes hx (by simpa [isLate] using h36)]; exact hS.take 1⟩, ⟨rfl, rfl, rfl, rfl, rfl, trivial⟩, by show kb.Processes.length - (i + 1) < kb.Processes.length - i; omega⟩
  replace h36 := dQ h36
  refine CW.skip (KW.inBlock (KW.then (CW.region (LW.pp (.inc (.t rfl) oQ) (LW.M rfl (LW.nil (KW.round ?_)))))))
  exact ⟨(i + 1, v), ⟨by show i + 1 ≤ _; omega, by rw [late_no hx (by simpa [isLate] using h36)]; exact hS.take 1⟩, ⟨rfl, rfl, rfl, rfl, rfl, trivial⟩, by show kb.Processes.length - (i + 1) < kb.Processes.length - i; omega⟩
 replace h17 := dQ h17
 refine CW.exit (KW.then_exit (KW.then_exit (KW.block_hit (KW.then (CW.seq ?_)))))
 have hie : i = kb.Processes.length := by omega
 rw [hie, List.take_length] at hS
 refine CW.region (LW.M rfl (LW.K (eC (.o rfl) (en53)) rfl (sortS_any _ _ _ (hS.own 0 rfl) (by have := late_len kb kb.Processes kb.Processes.length; rw [List.take_length] at this; omega)) ?_))
 rintro _ w7 ⟨rfl, uw7⟩
 replace hS := hS.stp 0 rfl uw7
 refine LW.S (CW.region (LW.M rfl (LW.A rfl (LW.T (CW.ret (KW.ret1 rfl rfl ⟨_, rfl, ?_⟩))))))
 exact ⟨(hS.own 0 rfl).rebase (fun i h => (hS.foot 0 rfl i h).resolve_left (fun h => h)), hS.upd⟩
end Go.Proofs.YtbbpkdlehlamlaaGreatDoor
end
section
namespace Go.Wx
theorem lookG_of {b : Base} {t c r : Int} : (∃ p ∈ b.Processes, gof p = ⟨t, c, r⟩) ∨ desF b t c r = [] := by
 by_cases h : ∃ p ∈ b.Processes, gof p = ⟨t, c, r⟩
 · exact .inl h
 exact .inr (des_none fun p hp e => h ⟨p, hp, e⟩)
end Go.Wx
namespace Go.Proofs.YtbbpkdlehlamlaaGreatDoor
open Go.Proofs.Tryz
open Go.Wx Go.RowKit
theorem lookD {D : List DE} {kb : Base} {bd : Nat} {w : World} (hM : Mk.IMap grpK w bd (D.map DE.kv)) (hDD : (aDD D).holds w) (hk : ∀ g, g ∈ D.map (·.g) ↔ ∃ p ∈ kb.Processes, gof p = g) (hd : ∀ e ∈ D, dk kb e) (t c r : Int) (ho : inI t ∧ inI c ∧ inI r) : ∃ ad cp L, (∀ (n : Nat) (ds : List Deferred) (l : Env) (d : Option Tmp) (ty : TypeId) (ps : String) (af : Array Edge) (g : Option (Nat × Bool)) (mo x : Operand), Val l mo (.map (some bd)) → Val l x (.agg (Grp.mk t c r).cells) → PEv prog n ds l w ⟨d, .lookup 78 mo x false, ty, ps, af, g⟩ (.slice ad (List.length (α := DP) L) cp)) ∧ Els w ad 6 DP.cells L ∧ (∀ p ∈ L, Sl w p.uv 1 eInt p.dec.uses) ∧ L.map DP.dec = desF kb t c r := by
 by_cases h : (Grp.mk t c r) ∈ D.map (·.g)
 · obtain ⟨e, he, hg⟩ := List.mem_map.1 h
   have hA : (aDs e).holds w := hDD.1 _ (List.mem_map.2 ⟨e, he, rfl⟩)
   have hO : OwnS w 0 48 6 DP.cells e.v e.L := hA.1 _ List.mem_cons_self
   have hU : (aAnd (usesA 3 e.L)).holds w := hA.1 _ (List.mem_cons_of_mem _ List.mem_cons_self)
   obtain ⟨ad, cp, hv, hE⟩ := hO.sl (fun _ => rfl)
   refine ⟨ad, cp, e.L, fun n ds l d ty ps af g mo x hm hx => ?_, hE, usesA_get hU, ?_⟩
   · exact Mk.PEv.lookupYes (Q := grpK) (ok := false) (v := .slice ad e.L.length cp) underlying78 grpLaw (show grpK.ok (Grp.mk t c r) from ho) hm hx hM (List.mem_map.2 ⟨e, he, by unfold DE.kv; rw [hg, hv]⟩)
   have := hd e he
   unfold dk at this
   rw [hg] at this
   exact this
 refine ⟨none, 0, [], fun n ds l d ty ps af g mo x hm hx => ?_, fun i x hx => (by simp at hx), fun _ h => (by cases h), ?_⟩
 · exact Mk.PEv.lookupNo (Q := grpK) (ok := false) underlying78 grpLaw (show grpK.ok (Grp.mk t c r) from ho) zeroValue38 hm hx hM (by rw [kv_keys]; exact h)
 rcases lookG_of (b := kb) (t := t) (c := c) (r := r) with h1 | h1
 · exact absurd ((hk _).2 h1) h
 rw [h1]; rfl
theorem EDecs_any (E bf bd : Nat) (bc : Array Go.Value) (nw : Int) (D : List DE) (kb : Base) (t c r : Int) (w : World) (hbc : bc.size = 11) (ho : inI t ∧ inI c ∧ inI r) (hlP : kb.Processes.length ≤ 100) (hk : ∀ g, g ∈ D.map (·.g) ↔ ∃ p ∈ kb.Processes, gof p = g) (hd : ∀ e ∈ D, dk kb e) (hE : Blk w E (EC bf bc bd nw) 80) (hM : Mk.IMap grpK w bd (D.map DE.kv)) (hDD : (aDD D).holds w) : Ret prog 17 #[.pointer (some ⟨E, 0, none⟩), vi t, vi c, vi r] w fun r0 w' => ∃ v L, r0 = v ∧ L.map DP.dec = desF kb t c r ∧ Wx.Sep no w w' [aOwn 48 6 DP.cells v L, aAnd (usesA 3 L)] := by
 obtain ⟨w0, rfl⟩ : ∃ w0, w0 = w := ⟨_, rfl⟩
 have hS := Sep.start no w0
 refine cS (n := 37) (m := 9) func17 rfl rfl rfl (CW.S (LW.C (LW.S (CW.S (LW.M rfl (LW.pp (.fa (PEv.eqlNil underlying28 (.t rfl)) (rfl)) (LW.T (CW.cond_false (.t rfl) (CW.skip (KW.then (CW.seq (CW.seq ?_))))))))))))
 obtain ⟨ad0, cp0, Ls, hlk, hEl, hUs, hdec⟩ := lookD (Mk.IMap.up hM hS.upd) ((aDD D).keep _ _ hDD (fun _ _ hl => hS.upd.block hl) hS.upd.size) hk hd t c r ho
 have hLn : Ls.length ≤ 100 := by have h1 := desF_len kb t c r; have h2 := rnsF_len kb t c r; rw [← hdec, List.length_map] at h1; omega
 have huse : ∀ x ∈ Ls, x.dec.uses.length ≤ 1000000000 := fun x hx => by have h1 := desF_uses kb t c r x.dec (by rw [← hdec]; exact List.mem_map.2 ⟨x, hx, rfl⟩); have h2 := rnsF_len kb t c r; omega
 replace hS := hS.add (Up.refl _) (A' := aOwn 48 6 DP.cells (.slice none 0 0) ([] : List DP)) (OwnS.nil _ _ _ _ _) (by intro i h; cases h)
 replace hS := hS.add (Up.refl _) (A' := aAnd (usesA 3 [])) ⟨by simp [usesA], by simp [usesA]⟩ (by rintro i ⟨A, hA, _⟩; simp [usesA] at hA)
 refine CW.region (LW.M rfl (LW.pp (.nilCheck (.t rfl)) (LW.pp (.fA 12 underlying80 rfl sizeOf78 rfl) (LW.pp (.ld isAgg78 rfl ((hE.up hS.upd).cell (EC_dec hbc))) (LW.M rfl (LW.M rfl (LW.M rfl (LW.pp (.build (cs := (Grp.mk t c r).cells) underlying96 zeroValue96 Tryz.places96 (.cons (.t rfl) (.cons (.t rfl) (.cons (.t rfl) .nil))) rfl) (LW.pp (hlk _ _ _ _ _ _ _ _ _ _ (.t rfl) (.t rfl)) (LW.pp (.lenS underlying38 (.t rfl)) (LW.pp (.move (.const _)) (LW.T (CW.block (CW.loopB (σ := Nat × Go.Value × List DP) (fun s w => (s.1 ≤ Ls.length) ∧ (s.2.2.map DP.dec = (Ls.take s.1).map DP.dec) ∧ (Wx.Sep no w0 w [aOwn 48 6 DP.cells s.2.1 s.2.2, aAnd (usesA 3 s.2.2)])) (fun s => [(23, .eq (vi (s.1 : Int))), (8, .eq (s.2.1))]) ([(21, .eq _), (22, .eq _)]) (fun s => Ls.length - s.1) (0, .slice none 0 0, []) ?_ ⟨rfl, rfl, rfl, rfl, trivial⟩ ?_))))))))))))))
 ·exact ⟨Nat.zero_le _, rfl, hS⟩
 rintro ⟨i, v, L⟩ w1 ⟨hi, hL, hS⟩
 dsimp only at hi hL hS
 have hLl : L.length ≤ i := by have h := congrArg List.length hL; rw [List.length_map, List.length_map, List.length_take] at h; omega
 change CW _ _ _ _ _ _ _ ([(23, .eq (vi (i : Int))), (8, .eq (v))] ++ _) _
 refine CW.S (LW.pp (.lss (.t rfl) (.t rfl)) (LW.S (CW.cond (.t rfl) (fun h24 => ?_) (fun h24 => ?_))))
 ·replace h24 := dQ h24
  refine CW.skip (KW.then (CW.seq (CW.block (CW.seq ?_))))
  have hil : i < Ls.length := by omega
  obtain ⟨x, hx⟩ : ∃ x, Ls[i]? = some x := ⟨_, List.getElem?_eq_getElem hil⟩
  obtain ⟨Bx, ox, ax, hcx⟩ := (Els.up hEl hS.upd) i x hx
  have hxm := List.mem_of_getElem? hx
  refine CW.region (LW.pp (.indexAddr' underlying38 sizeOf48 (j := i) (.t rfl) (.t rfl) oQ ax) (LW.pp (.la isAgg48 sizeOf48 rfl (hcx)) (LW.rr (.allocA zeroValue48) rfl ?_)))
  rintro _ w2 ⟨B10, rfl, MB10⟩
  refine LW.E (.storeA sizeOf48 rfl (.t rfl) (.t rfl) (DP.one _) MB10.blk rfl) ?_
  intro w3 LB10
  have NB10 := MB10.set LB10
  replace hS := hS.addB NB10
  refine LW.S (CW.region (LW.pp (.fA 5 underlying48 rfl sizeOf46 rfl) (LW.pp (.ld isAgg46 rfl ((hS.blk 2 rfl).celln rfl)) ?_)))
  have huL : x.dec.uses.length ≤ 1000000000 := huse x hxm
  refine LW.K (eC (.o rfl) (en45)) rfl (cloneI_any x.ad x.cp x.dec.uses _ (Els.up (sl_els (hUs x hxm)) hS.upd) huL) ?_
  rintro v29 w4 ⟨hO29, uw4⟩
  replace hS := hS.add uw4 (A' := aOwn 3 1 eInt v29 x.dec.uses) (hO29.mono (Nat.zero_le _)) (fun i h => (hO29.base i h))
  obtain ⟨ad29, cp29, rfl, _⟩ := hO29.sl (fun _ => rfl)
  refine LW.pp (.fA 5 underlying48 rfl sizeOf46 rfl) (LW.E (.store sizeOf46 (.t rfl) (.t rfl) rfl (hS.blk 2 rfl) (zQ rfl)) ?_)
  intro w5 Nw5
  replace hS := hS.putB 2 rfl (show Set_ _ w5 _ (DP.cells (⟨x.dec, ad29, cp29⟩ : DP)) _ from Nw5)
  refine LW.T (CW.region (LW.M rfl (LW.pp (.la isAgg48 sizeOf48 rfl ((hS.blk 2 rfl).agg)) (LW.rr (.buildSlice (xs := [(⟨x.dec, ad29, cp29⟩ : DP)]) (enc := DP.cells) (mk := fun p => .agg p.cells) underlying38 sizeOf48 zeroValue48 rfl cQ (fun _ => rfl) (fun _ => rfl) (.cons (.t rfl) .nil) rfl) rfl ?_))))
  rintro _ w6 ⟨B33, cB33, rfl, NB33, yB33, xB33⟩
  replace hS := hS.up NB33.up
  have hE33 := xB33
  refine LW.rr (.appendF (enc := DP.cells) (bytes := 64) (i := Tryz.t48) underlying38 kQ rfl rfl rfl rfl cQ (fun _ => rfl) DP.one (.t rfl) (.t rfl) (hS.own 0 rfl) (Sl.of_els hE33) (by simp [maxLen]; omega) (by simp; omega)) rfl ?_
  intro v34 w7 Gw7
  replace hS := hS.stp 0 rfl Gw7
  refine LW.A rfl (LW.nil (KW.inBlock (KW.then ?_)))
  have h9 := Sep.snocA (Bs := [_]) (hS.sub (.cons_cons _ (.cons_cons _ (.cons _ (.cons_cons _ .slnil)))))
  replace h9 : Wx.Sep no w0 w7 ([_] ++ [aAnd (usesA 3 L ++ [aOwn 3 1 eInt (DP.uv (⟨x.dec, ad29, cp29⟩ : DP)) (DP.dec (⟨x.dec, ad29, cp29⟩ : DP)).uses])]) := h9
  rw [usesA_snoc] at h9
  refine CW.region (LW.pp (.inc (.t rfl) oQ) (LW.M rfl (LW.nil (KW.round ?_))))
  exact ⟨(i + 1, v34, L ++ [(⟨x.dec, ad29, cp29⟩ : DP)]), ⟨by show i + 1 ≤ _; omega, by rw [List.map_append, hL, List.take_add_one, hx, List.map_append]; rfl, h9⟩, ⟨rfl, rfl, rfl, rfl, trivial⟩, by show Ls.length - (i + 1) < Ls.length - i; omega⟩
 replace h24 := dQ h24
 refine CW.exit (KW.then_exit (KW.then_exit (KW.block_hit (KW.then (CW.S (LW.M rfl (LW.A rfl (LW.T (CW.ret (KW.ret1 rfl rfl ⟨_, rfl, ?_⟩))))))))))
 have hie : i = Ls.length := by omega
 rw [hie, List.take_length] at hL
 exact ⟨_, L, rfl, hL.trans hdec, hS⟩
end Go.Proofs.YtbbpkdlehlamlaaGreatDoor
end
section
namespace Go.Wx
theorem take_eq_step {xs ys : List Int} {k : Nat} {x y : Int} (h : xs.take k = ys.take k) (hx : xs[k]? = some x) (hy : ys[k]? = some y) (e : x = y) : xs.take (k + 1) = ys.take (k + 1) := by rw [take_succ_of hx, take_succ_of hy, h, e]
theorem ne_of_at {xs ys : List Int} {k : Nat} {x y : Int} (hx : xs[k]? = some x) (hy : ys[k]? = some y) (e : ¬ x = y) : ¬ xs = ys := fun h => e (by subst h; rw [hx] at hy; cases hy; rfl)
def tgt21 (k : Int) : Fact := ⟨10, 0, 1, 0, false, 0, 0, 0, 0, 0, 0, 0, 0, 0, k, 0, 100, 0, ByteArray.empty⟩
def run21 (a b c : Int) : Fact := ⟨1, a, 1, 0, false, b, b, 1, 0, 0, 0, 4, 0, 0, 9, 1, c, 0, ByteArray.empty⟩
end Go.Wx
namespace Go.Proofs.YtbbpkdlehlamlaaGreatDoor
open Go.Proofs.Tryz
open Go.Wx Go.RowKit
theorem sameInts_any (v1 v2 : Value) (xs ys : List Int) (w : World) (h1 : Sl w v1 1 eInt xs) (h2 : Sl w v2 1 eInt ys) (hx0 : xs.length ≤ 1000000000) (hy0 : ys.length ≤ 1000000000) : Ret prog 29 #[v1, v2] w fun r w' => r = .bool (decide (xs = ys)) ∧ Up w w' := by
 have hW := Up.refl w
 obtain ⟨w0, rfl⟩ : ∃ w0, w0 = w := ⟨_, rfl⟩
 obtain ⟨ad, cp, rfl, hE1⟩ := h1
 obtain ⟨ad', cp', rfl, hE2⟩ := h2
 refine cS (n := 26) (m := 9) func29 rfl rfl rfl (CW.S (LW.C (LW.S (CW.S (LW.M rfl (LW.pp (.lenS underlying46 (.t rfl)) (LW.M rfl (LW.pp (.lenS underlying46 (.t rfl)) (LW.pp (.neq (.t rfl) (.t rfl)) (LW.T (CW.cond (.t rfl) (fun h10 => ?_) (fun h10 => ?_))))))))))))
 ·replace h10 := dQ h10
  have hr : decide (xs = ys) = false := decide_eq_false (fun h => by subst h; simp at h10)
  refine CW.S (LW.C (LW.T (CW.ret (KW.then_ret (KW.ret1 rfl rfl ⟨_, rfl, ?_⟩)))))
  exact ⟨by rw [hr], hW⟩
 replace h10 := dQ h10
 have hlen : xs.length = ys.length := Int.ofNat.inj (show Int.ofNat _ = Int.ofNat _ from (by simpa using h10 : (xs.length : Int) = ys.length))
 refine CW.skip (KW.then (CW.seq (CW.S (LW.C (LW.T (CW.block (CW.loop (σ := Nat) (fun s w => (s ≤ xs.length ∧ xs.take s = ys.take s) ∧ Els w ad 1 eInt xs ∧ Els w ad' 1 eInt ys ∧ Up w0 w) (fun s => [(0, .eq (.slice ad xs.length cp)), (1, .eq (.slice ad' ys.length cp')), (5, .eq (vi (s : Int)))]) (fun s => xs.length - s) 0 ?_ ?_ ?_)))))))
 ·exact ⟨⟨Nat.zero_le _, rfl⟩, hE1, hE2, hW⟩
 ·exact ⟨rfl, rfl, rfl, trivial⟩
 rintro k w1 ⟨⟨hk, hT⟩, hE1, hE2, hW⟩
 refine CW.seq (CW.S (LW.M rfl (LW.M rfl (LW.pp (.lenS underlying46 (.t rfl)) (LW.pp (.lss (.t rfl) (.t rfl)) (LW.T (CW.cond (.t rfl) (fun h14 => ?_) (fun h14 => ?_))))))))
 ·replace h14 := dQ h14
  refine CW.skip (KW.then (CW.seq (CW.block (CW.seq ?_))))
  obtain ⟨x, hx⟩ := getElem?_of_lt (xs := xs) (i := k) oQ
  obtain ⟨y, hy⟩ := getElem?_of_lt (xs := ys) (i := k) oQ
  obtain ⟨B, o, had, hcell⟩ := hE1 k x hx
  obtain ⟨B', o', had', hcell'⟩ := hE2 k y hy
  refine CW.draws kQ kQ rfl rfl (HW.pp (.move (.t rfl)) (HW.pp (.move (.t rfl)) (HW.pp (.indexAddr' underlying46 sizeOf3 (.t rfl) (.t rfl) oQ had) (HW.pp (.ld isAgg3 rfl (hcell.nth (j := 0) rfl)) (HW.pp (.move (.t rfl)) (HW.pp (.move (.t rfl)) (HW.pp (.indexAddr' underlying46 sizeOf3 (.t rfl) (.t rfl) oQ had') (HW.pp (.ld isAgg3 rfl (hcell'.nth (j := 0) rfl)) (HW.pp (.neq (.t rfl) (.t rfl)) (HW.nil ?_))))))))))
  intro w2 uw2
  replace hE1 := hE1.up uw2
  replace hE2 := hE2.up uw2
  replace hW := hW.up uw2
  refine KW.then (CW.cond (.t rfl) (fun h25 => ?_) (fun h25 => ?_))
  ·replace h25 := dQ h25
   have hr : decide (xs = ys) = false := decide_eq_false (ne_of_at hx hy (by simpa using h25))
   refine CW.S (LW.C (LW.T (CW.ret (KW.block_ret (KW.then_ret (KW.then_ret (KW.block_ret (KW.then_ret (KW.ret1 rfl rfl ⟨_, rfl, ?_⟩)))))))))
   exact ⟨by rw [hr], hW⟩
  replace h25 := dQ h25
  refine CW.skip (KW.inBlock (KW.then (CW.region (LW.M rfl (LW.pp (.inc (.t rfl) oQ) (LW.A rfl (LW.nil (KW.round ?_))))))))
  exact ⟨k + 1, ⟨⟨by omega, take_eq_step hT hx hy (by simpa using h25)⟩, hE1, hE2, hW⟩, ⟨rfl, rfl, rfl, trivial⟩, by omega⟩
 replace h14 := dQ h14
 have hr : decide (xs = ys) = true := decide_eq_true (by have := hT; rw [show k = xs.length by omega, List.take_length, hlen, List.take_length] at this; exact this)
 refine CW.exit (KW.then_exit (KW.then_exit (KW.block_hit (KW.then (CW.S (LW.C (LW.T (CW.ret (KW.ret1 rfl rfl ⟨_, rfl, ?_⟩)))))))))
 exact ⟨by rw [hr], hW⟩
theorem target21_any (k : Int) (w : World) : Ret prog 34 #[vi k] w fun r w' => r = .agg (tgt21 k).cells ∧ Up w w' := by
 obtain ⟨w0, rfl⟩ : ∃ w0, w0 = w := ⟨_, rfl⟩
 have hS := Sep.start no w0
 refine cS (n := 5) (m := 9) func34 rfl rfl rfl (CW.S (LW.rr (.allocA zeroValue24) rfl ?_))
 rintro _ w1 ⟨B2, rfl, NB2⟩
 replace hS := hS.addB NB2
 refine LW.S (CW.region (LW.M rfl (LW.pp (.build (cs := (tgt21 k).cells) underlying24 zeroValue24 Tryz.places24 (.cons (.const _) (.cons (.const _) (.cons (.t rfl) (.cons (.const _) .nil)))) kQ) (LW.E (.storeA sizeOf24 rfl (.t rfl) (.t rfl) (Fact.one _) (hS.blk 0 rfl) rfl) ?_))))
 intro w2 Nw2
 replace hS := hS.putB 0 rfl Nw2
 refine LW.T (CW.ret (KW.retA rfl rfl isAgg24 sizeOf24 rfl ((hS.blk 0 rfl).agg) ⟨_, rfl, ?_⟩))
 exact ⟨rfl, hS.upd⟩
theorem run21_any (a b c : Int) (w : World) : Ret prog 35 #[vi a, vi b, vi c] w fun r w' => r = .agg (run21 a b c).cells ∧ Up w w' := by
 obtain ⟨w0, rfl⟩ : ∃ w0, w0 = w := ⟨_, rfl⟩
 have hS := Sep.start no w0
 refine cS (n := 12) (m := 9) func35 rfl rfl rfl (CW.S (LW.rr (.allocA zeroValue24) rfl ?_))
 rintro _ w1 ⟨B6, rfl, NB6⟩
 replace hS := hS.addB NB6
 refine LW.S (CW.region (LW.M rfl (LW.M rfl (LW.M rfl (LW.M rfl (LW.pp (.build (cs := (run21 a b c).cells) underlying24 zeroValue24 Tryz.places24 (.cons (.const _) (.cons (.const _) (.cons (.t rfl) (.cons (.const _) (.cons (.const _) (.cons (.const _) (.cons (.const _) (.cons (.t rfl) (.cons (.t rfl) (.cons (.t rfl) .nil)))))))))) kQ) (LW.E (.storeA sizeOf24 rfl (.t rfl) (.t rfl) (Fact.one _) (hS.blk 0 rfl) rfl) ?_)))))))
 intro w2 Nw2
 replace hS := hS.putB 0 rfl Nw2
 refine LW.T (CW.ret (KW.retA rfl rfl isAgg24 sizeOf24 rfl ((hS.blk 0 rfl).agg) ⟨_, rfl, ?_⟩))
 exact ⟨rfl, hS.upd⟩
end Go.Proofs.YtbbpkdlehlamlaaGreatDoor
end
section
namespace Go.Wx
def m21 : Fact := ⟨2, 1, 1, 0, false, 15, 0, 0, 0, 0, 0, 0, 0, 0, 0, 0, 108, 0, ByteArray.empty⟩
def la1 : List Fact := [] ++ [tgt21 9]
def la2 : List Fact := la1 ++ [run21 1 10 100000]
def la3 : List Fact := la2 ++ [run21 2 20 98000, run21 3 30 98000]
def la4 : List Fact := la3 ++ [m21]
def la5 : List Fact := la4 ++ [m21]
def la6 : List Fact := la5 ++ [tgt21 8]
theorem k21_1 : cntN [] [tgt21 9] = 0 := by kernel_rfl
theorem k21_2 : cntN la1 [run21 1 10 100000] = 1 := by kernel_rfl
theorem k21_3 : cntN la2 [run21 2 20 98000, run21 3 30 98000] = 1 := by kernel_rfl
theorem k21_4 : cntN la3 [m21] = 1 := by kernel_rfl
theorem k21_5 : cntN la4 [m21] = 0 := by kernel_rfl
theorem k21_6 : cntN la5 [tgt21 8] = 0 := by kernel_rfl
theorem l21_3 : lateP (ofB la3 100000) (ofB la3 100000).Processes = [2, 3] := by kernel_rfl
theorem l21_4 : lateP (ofB la4 100000) (ofB la4 100000).Processes = [] := by kernel_rfl
theorem late21_3 {z : Eng} (h : z.all = la3) : lateL z.kb = [2, 3] := by
 unfold lateL Eng.kb
 rw [h, l21_3]
 exact List.mergeSort_of_pairwise (by simp)
theorem late21_4 {z : Eng} (h : z.all = la4) : lateL z.kb = [] := by
 unfold lateL Eng.kb
 rw [h, l21_4]
 simp
theorem d21_6 : desF (ofB la6 100000) 4 0 9 = [⟨1, ⟨100, 1⟩, ⟨0, 1⟩, []⟩, ⟨2, ⟨98, 1⟩, ⟨2, 1⟩, [1]⟩, ⟨3, ⟨98, 1⟩, ⟨2, 1⟩, [1]⟩] := by kernel_rfl
theorem p21_6 : (ofB la6 100000).Processes.length = 3 := by kernel_rfl
theorem val_ok {al : List Fact} {d : Int} : ∀ p ∈ (ofB al d).Processes, inI p.Value := fun p hp => by
 have h := (lst_mem (j := 0) cQ).1 hp
 obtain ⟨h1, h2, _⟩ := valid_parts (eff_valid h.1)
 by_cases e : ∃ x ∈ fieldsOf p.Kind, x.off = 16
 · obtain ⟨x, hx, e⟩ := e
   have := h2 x hx
   rw [e] at this
   have h3 : inW p.Value := this
   unfold inW at h3
   unfold inI
   omega
 have h3 : p.Value = 0 := h1 16 cQ fun x hx e' => e ⟨x, hx, e'⟩
 rw [h3]
 exact ⟨by decide, by decide⟩
end Go.Wx
namespace Go.Proofs.YtbbpkdlehlamlaaGreatDoor
open Go.Proofs.Tryz
open Go.Wx Go.RowKit
set_option maxHeartbeats 4000000 in
theorem sane21_any (w : World) : Ret prog 10 #[] w fun r w' => r = .bool true ∧ Up w w' := by
 obtain ⟨w0, rfl⟩ : ∃ w0, w0 = w := ⟨_, rfl⟩
 have hS := Sep.start no w0
 refine cS (n := 101) (m := 9) func10 rfl rfl rfl (CW.S (LW.C (LW.S (CW.region (LW.K (eC .nil (en12)) rfl (ENew_any _) ?_)))))
 rintro _ w1 ⟨z0, rfl, ha0, hn0, hz0, hN0⟩
 replace hS := hS.join hN0
 refine LW.A rfl (LW.S (CW.S (LW.M rfl (LW.pp (.fa (PEv.eqlNil underlying28 (.t rfl)) (rfl)) (LW.T (CW.cond_false (.t rfl) (CW.skip (KW.then (CW.S (LW.pp (.build (cs := m21.cells) underlying24 zeroValue24 Tryz.places24 (.cons (.const _) (.cons (.const _) (.cons (.const _) (.cons (.const _) (.cons (.const _) .nil))))) kQ) (LW.rr (.buildSlice (xs := [m21]) (enc := Fact.cells) (mk := fun f : Fact => .agg f.cells) underlying26 sizeOf24 zeroValue24 rfl cQ (fun _ => rfl) (fun _ => rfl) (.cons (.t rfl) .nil) rfl) rfl ?_)))))))))))
 intro v16 w2 hN16
 obtain ⟨u16, B16, rfl, e16, hO16⟩ := NewSl.own hN16 (fun _ => rfl) cQ (by simp [maxLen])
 replace hS := hS.add u16 (A' := aOwn 24 19 Fact.cells (.slice (some ⟨B16, 0, none⟩) 1 1) [m21]) hO16 (fun i h => by cases h; exact Nat.le_of_eq e16.symm)
 refine LW.A rfl (LW.S (CW.region (LW.M rfl (LW.K (eC (.cons (.const _) .nil) (en34)) rfl (target21_any _ _) ?_))))
 rintro _ w3 ⟨rfl, uw3⟩
 replace hS := hS.up uw3
 have hSp20 := fun i (h : footL z0.As i) => Sep.ltL (Sep.left (show Wx.Sep _ _ _ (z0.As ++ [_]) from hS)) h
 refine LW.rr (.buildSlice (xs := [tgt21 9]) (enc := Fact.cells) (mk := fun f : Fact => .agg f.cells) underlying26 sizeOf24 zeroValue24 rfl cQ (fun _ => rfl) (fun _ => rfl) (.cons (.t rfl) .nil) rfl) rfl ?_
 rintro _ w4 ⟨B19, cB19, rfl, NB19, yB19, xB19⟩
 have eB19 := NB19.at_
 replace hS := hS.up NB19.up
 have hE19 := xB19
 replace hS := hS.pull 0 rfl
 replace hS := hS.pull 0 rfl
 replace hS := hS.pull 0 rfl
 replace hS := hS.pull 0 rfl
 replace hS := hS.pull 0 rfl
 have hq_ := (show Wx.Sep _ _ _ ([_] ++ [_, _, _, _, _]) from hS)
 refine LW.K (eC (.u rfl rfl) (en13)) rfl (EAdd_any z0 0 (some ⟨B19, 0, none⟩) _ [tgt21 9] _ hz0 cQ (by rw [ha0]; decide) hE19 (fun _ B o e h => by cases e; have := hSp20 _ h; omega) hq_.right.self) ?_
 rintro _ w5 ⟨z1, rfl, hp1, ha1, hn1, hz1, uw5⟩
 replace hS := hq_.frame uw5
 have zw5 := uw5.fr.size
 rw [ha0, k21_1] at hn1
 rw [ha0, k21_1, ← hp1]
 replace ha1 : z1.all = la1 := by rw [ha1, ha0]; rfl
 rw [hn0] at hn1
 refine LW.A rfl (LW.S (CW.region (LW.M rfl (LW.K (eC (.cons (.const _) (.cons (.const _) (.cons (.const _) .nil))) (en35)) rfl (run21_any _ _ _ _) ?_))))
 rintro _ w6 ⟨rfl, uw6⟩
 replace hS := hS.up uw6
 have hSp24 := fun i (h : footL z1.As i) => Sep.ltL (Sep.right (show Wx.Sep _ _ _ ([_] ++ z1.As) from hS)) h
 refine LW.rr (.buildSlice (xs := [run21 1 10 100000]) (enc := Fact.cells) (mk := fun f : Fact => .agg f.cells) underlying26 sizeOf24 zeroValue24 rfl cQ (fun _ => rfl) (fun _ => rfl) (.cons (.t rfl) .nil) rfl) rfl ?_
 rintro _ w7 ⟨B23, cB23, rfl, NB23, yB23, xB23⟩
 have eB23 := NB23.at_
 replace hS := hS.up NB23.up
 have hE23 := xB23
 replace hS := hS.pull 1 rfl
 replace hS := hS.pull 1 rfl
 replace hS := hS.pull 1 rfl
 replace hS := hS.pull 1 rfl
 replace hS := hS.pull 1 rfl
 have hq_ := (show Wx.Sep _ _ _ ([_] ++ [_, _, _, _, _]) from hS)
 refine LW.K (eC (.u rfl rfl) (en13)) rfl (EAdd_any z1 1 (some ⟨B23, 0, none⟩) _ [run21 1 10 100000] _ hz1 cQ (by rw [ha1]; decide) hE23 (fun _ B o e h => by cases e; have := hSp24 _ h; omega) hq_.right.self) ?_
 rintro _ w8 ⟨z2, rfl, hp2, ha2, hn2, hz2, uw8⟩
 replace hS := hq_.frame uw8
 have zw8 := uw8.fr.size
 rw [ha1, k21_2] at hn2
 rw [ha1, k21_2, ← hp2]
 replace ha2 : z2.all = la2 := by rw [ha2, ha1]; rfl
 rw [hn1] at hn2
 refine LW.A rfl (LW.S (CW.region (LW.M rfl (LW.K (eC (.cons (.const _) (.cons (.const _) (.cons (.const _) .nil))) (en35)) rfl (run21_any _ _ _ _) ?_))))
 rintro _ w9 ⟨rfl, uw9⟩
 replace hS := hS.up uw9
 refine LW.K (eC (.cons (.const _) (.cons (.const _) (.cons (.const _) .nil))) (en35)) rfl (run21_any _ _ _ _) ?_
 rintro _ w10 ⟨rfl, uw10⟩
 replace hS := hS.up uw10
 have hSp29 := fun i (h : footL z2.As i) => Sep.ltL (Sep.right (show Wx.Sep _ _ _ ([_] ++ z2.As) from hS)) h
 refine LW.rr (.buildSlice (xs := [run21 2 20 98000, run21 3 30 98000]) (enc := Fact.cells) (mk := fun f : Fact => .agg f.cells) underlying26 sizeOf24 zeroValue24 rfl cQ (fun _ => rfl) (fun _ => rfl) (.cons (.t rfl) (.cons (.t rfl) .nil)) rfl) rfl ?_
 rintro _ w11 ⟨B28, cB28, rfl, NB28, yB28, xB28⟩
 have eB28 := NB28.at_
 replace hS := hS.up NB28.up
 have hE28 := xB28
 replace hS := hS.pull 1 rfl
 replace hS := hS.pull 1 rfl
 replace hS := hS.pull 1 rfl
 replace hS := hS.pull 1 rfl
 replace hS := hS.pull 1 rfl
 have hq_ := (show Wx.Sep _ _ _ ([_] ++ [_, _, _, _, _]) from hS)
 refine LW.K (eC (.u rfl rfl) (en13)) rfl (EAdd_any z2 2 (some ⟨B28, 0, none⟩) _ [run21 2 20 98000, run21 3 30 98000] _ hz2 cQ (by rw [ha2]; decide) hE28 (fun _ B o e h => by cases e; have := hSp29 _ h; omega) hq_.right.self) ?_
 rintro _ w12 ⟨z3, rfl, hp3, ha3, hn3, hz3, uw12⟩
 replace hS := hq_.frame uw12
 have zw12 := uw12.fr.size
 rw [ha2, k21_3] at hn3
 rw [ha2, k21_3, ← hp3]
 replace ha3 : z3.all = la3 := by rw [ha3, ha2]; rfl
 rw [hn2] at hn3
 refine LW.A rfl (LW.S (CW.region (LW.M rfl (LW.K (eC (.o rfl) (en21)) rfl (ELate_any z3.E z3.bf z3.bd z3.bc z3.n z3.kb _ hz3.hbc (hS.blk 1 rfl) (hS.get 3 rfl) (len_ok hz3).1 (len_ok hz3).2.1 (len_ok hz3).2.2.1 (len_ok hz3).2.2.2 val_ok) ?_))))
 rintro v31 w13 ⟨hO31, uw13⟩
 have zw13 := uw13.size
 replace hS := hS.add uw13 (A' := aOwn 3 1 eInt v31 [2, 3]) (by rw [late21_3 ha3] at hO31; exact hO31.mono (Nat.zero_le _)) (fun i h => hO31.base i h)
 obtain ⟨ad31, cp31, rfl, _⟩ := (hS.own 6 rfl).sl (fun _ => rfl)
 refine LW.A rfl (LW.S (CW.region (LW.M rfl (LW.M rfl ?_))))
 replace hS := hS.pull 1 rfl
 replace hS := hS.pull 1 rfl
 replace hS := hS.pull 1 rfl
 replace hS := hS.pull 1 rfl
 replace hS := hS.pull 1 rfl
 have hq_ := (show Wx.Sep _ _ _ ([_, _] ++ [_, _, _, _, _]) from hS)
 refine LW.K (eC (.u rfl rfl) (en13)) rfl (EAdd_any z3 3 (some ⟨B16, 0, none⟩) _ [m21] _ hz3 cQ (by rw [ha3]; decide) (OwnS.elsS (hq_.left.own 0 rfl) (fun _ => rfl)) (fun _ B o e h => hq_.dis ⟨_, List.mem_of_getElem? (i := 0) rfl, by cases e; rfl⟩ h) hq_.right.self) ?_
 rintro _ w14 ⟨z4, rfl, hp4, ha4, hn4, hz4, uw14⟩
 replace hS := hq_.frame uw14
 have zw14 := uw14.fr.size
 rw [ha3, k21_4] at hn4
 rw [ha3, k21_4, ← hp4]
 replace ha4 : z4.all = la4 := by rw [ha4, ha3]; rfl
 rw [hn3] at hn4
 refine LW.A rfl (LW.S (CW.region (LW.M rfl (LW.K (eC (.o rfl) (en21)) rfl (ELate_any z4.E z4.bf z4.bd z4.bc z4.n z4.kb _ hz4.hbc (hS.blk 2 rfl) (hS.get 4 rfl) (len_ok hz4).1 (len_ok hz4).2.1 (len_ok hz4).2.2.1 (len_ok hz4).2.2.2 val_ok) ?_))))
 rintro v36 w15 ⟨hO36, uw15⟩
 have zw15 := uw15.size
 replace hS := hS.add uw15 (A' := aOwn 3 1 eInt v36 ([] : List Int)) (by rw [late21_4 ha4] at hO36; exact hO36.mono (Nat.zero_le _)) (fun i h => hO36.base i h)
 obtain ⟨ad36, cp36, rfl, _⟩ := (hS.own 7 rfl).sl (fun _ => rfl)
 refine LW.A rfl (LW.S (CW.region (LW.M rfl (LW.M rfl ?_))))
 replace hS := hS.pull 2 rfl
 replace hS := hS.pull 2 rfl
 replace hS := hS.pull 2 rfl
 replace hS := hS.pull 2 rfl
 replace hS := hS.pull 2 rfl
 have hq_ := (show Wx.Sep _ _ _ ([_, _, _] ++ [_, _, _, _, _]) from hS)
 refine LW.K (eC (.u rfl rfl) (en13)) rfl (EAdd_any z4 4 (some ⟨B16, 0, none⟩) _ [m21] _ hz4 cQ (by rw [ha4]; decide) (OwnS.elsS (hq_.left.own 0 rfl) (fun _ => rfl)) (fun _ B o e h => hq_.dis ⟨_, List.mem_of_getElem? (i := 0) rfl, by cases e; rfl⟩ h) hq_.right.self) ?_
 rintro _ w16 ⟨z5, rfl, hp5, ha5, hn5, hz5, uw16⟩
 replace hS := hq_.frame uw16
 have zw16 := uw16.fr.size
 rw [ha4, k21_5] at hn5
 rw [ha4, k21_5, ← hp5]
 replace ha5 : z5.all = la5 := by rw [ha5, ha4]; rfl
 rw [hn4] at hn5
 refine LW.A rfl (LW.S (CW.region (LW.M rfl (LW.K (eC (.cons (.const _) .nil) (en34)) rfl (target21_any _ _) ?_))))
 rintro _ w17 ⟨rfl, uw17⟩
 replace hS := hS.up uw17
 have hSp43 := fun i (h : footL z5.As i) => Sep.ltL (Sep.right (show Wx.Sep _ _ _ ([_, _, _] ++ z5.As) from hS)) h
 refine LW.rr (.buildSlice (xs := [tgt21 8]) (enc := Fact.cells) (mk := fun f : Fact => .agg f.cells) underlying26 sizeOf24 zeroValue24 rfl cQ (fun _ => rfl) (fun _ => rfl) (.cons (.t rfl) .nil) rfl) rfl ?_
 rintro _ w18 ⟨B42, cB42, rfl, NB42, yB42, xB42⟩
 have eB42 := NB42.at_
 replace hS := hS.up NB42.up
 have hE42 := xB42
 replace hS := hS.pull 3 rfl
 replace hS := hS.pull 3 rfl
 replace hS := hS.pull 3 rfl
 replace hS := hS.pull 3 rfl
 replace hS := hS.pull 3 rfl
 have hq_ := (show Wx.Sep _ _ _ ([_, _, _] ++ [_, _, _, _, _]) from hS)
 refine LW.K (eC (.u rfl rfl) (en13)) rfl (EAdd_any z5 5 (some ⟨B42, 0, none⟩) _ [tgt21 8] _ hz5 cQ (by rw [ha5]; decide) hE42 (fun _ B o e h => by cases e; have := hSp43 _ h; omega) hq_.right.self) ?_
 rintro _ w19 ⟨z6, rfl, hp6, ha6, hn6, hz6, uw19⟩
 replace hS := hq_.frame uw19
 have zw19 := uw19.fr.size
 rw [ha5, k21_6] at hn6
 rw [ha5, k21_6, ← hp6]
 replace ha6 : z6.all = la6 := by rw [ha6, ha5]; rfl
 rw [hn5] at hn6
 refine LW.A rfl (LW.S (CW.region (LW.M rfl (LW.K (eC (.cons (.t rfl) (.cons (.const _) (.cons (.const _) (.cons (.const _) .nil)))) (en17)) rfl (EDecs_any z6.E z6.bf z6.bd z6.bc z6.n z6.D z6.kb 4 0 9 _ hz6.hbc ⟨by simp [inI], by simp [inI], by simp [inI]⟩ (len_ok hz6).1 hz6.keys hz6.dks (hS.blk 3 rfl) (hS.get 6 rfl) (hS.get 7 rfl)) ?_))))
 rintro v45 w20 ⟨_, L45, rfl, hm45, hT45⟩
 have hk6 : z6.kb = ofB la6 100000 := by unfold Eng.kb; rw [ha6]
 rw [hk6, d21_6] at hm45
 obtain ⟨a1, c1, a2, c2, a3, c3, rfl⟩ := dps3 hm45
 replace hS := hS.join hT45
 obtain ⟨ad45, cp45, rfl, _⟩ := (hS.own 8 rfl).sl (fun _ => rfl)
 obtain ⟨Bx, ox, ax, hpx, hqx, hrx⟩ := els_p ((hS.own 8 rfl).els (fun _ => rfl))
 refine LW.A rfl (LW.S (CW.S (LW.M rfl (LW.pp (.lenS underlying38 (.t rfl)) (LW.pp (.fa (PEv.neq (.t rfl) (.const _)) (rfl)) (LW.T (CW.cond_false (.t rfl) (CW.skip (KW.then (CW.S (LW.M rfl (LW.pp (.tr (PEv.eql (.t rfl) (.const _)) (rfl)) (LW.M rfl (LW.Y (LW.M rfl (LW.Y (LW.pp (.tr (PEv.eql (.t rfl) (.const _)) (rfl)) (LW.pp (.pick_and (.t rfl) (fun hp => (by exact .tmp rfl))) (LW.M rfl (LW.Y (LW.M rfl (LW.Y (LW.pp (.tr (PEv.eql (.t rfl) (.const _)) (rfl)) (LW.pp (.pick_and (.t rfl) (fun hp => (by exact .tmp rfl))) (LW.M rfl (LW.Y (LW.M rfl (LW.Y (LW.rr (.buildSlice (xs := [2, 3]) (enc := eInt) (mk := vi) underlying46 sizeOf3 zeroValue3 rfl cQ (fun _ => rfl) (fun _ => rfl) (.cons (.const _) (.cons (.const _) .nil)) rfl) rfl ?_)))))))))))))))))))))))))))))
 rintro _ w21 ⟨B61, cB61, rfl, NB61, yB61, xB61⟩
 replace hS := hS.up NB61.up
 replace hqx := hqx.up NB61.up
 have hE61 := xB61
 refine LW.Y (LW.K (eC (.u rfl rfl) (en29)) rfl (sameInts_any _ _ [2, 3] [2, 3] _ ((hS.own 1 rfl).sl (fun _ => rfl)) (Sl.of_els hE61) cQ cQ) ?_)
 rintro _ w22 ⟨rfl, uw22⟩
 replace hS := hS.up uw22
 replace hqx := hqx.up uw22
 rw [show decide (([2, 3] : List Int) = [2, 3]) = true from decide_eq_true rfl]
 refine LW.pp (.pick_and (.t rfl) (fun hp => (by exact .tmp rfl))) (LW.M rfl (LW.Y (LW.M rfl (LW.Y (LW.pp (.tr (PEv.eql (.t rfl) (.const _)) (rfl)) (LW.pp (.pick_and (.t rfl) (fun hp => (by exact .tmp rfl))) (LW.M rfl (LW.Y (LW.M rfl (LW.Y (LW.pp (.lenS underlying46 (.t rfl)) (LW.Y (LW.pp (.tr (PEv.eql (.t rfl) (.const _)) (rfl)) (LW.pp (.pick_and (.t rfl) (fun hp => (by exact .tmp rfl))) (LW.M rfl (LW.Y (LW.M rfl (LW.Y (LW.pp (.tr (PEv.eql (.t rfl) (.const _)) (rfl)) (LW.pp (.pick_and (.t rfl) (fun hp => (by exact .tmp rfl))) (LW.M rfl (LW.Y (LW.M rfl (LW.Y (LW.pp (.tr (PEv.eql (.t rfl) (.const _)) (rfl)) (LW.pp (.pick_and (.t rfl) (fun hp => (by exact .tmp rfl))) (LW.M rfl (LW.Y (LW.M rfl (LW.Y (LW.K (eC (.o rfl) (en26)) rfl (EWork_any z6.E z6.bf z6.bd z6.bc z6.n _ hz6.hbc (hS.blk 3 rfl)) ?_)))))))))))))))))))))))))))))))
 rintro _ w23 ⟨rfl, uw23⟩
 replace hS := hS.up uw23
 replace hqx := hqx.up uw23
 refine LW.Y (LW.pp (.tr (PEv.eql (.t rfl) (.const _)) (by rw [hn6]; rfl)) (LW.pp (.pick_and (.t rfl) (fun hp => (by exact .tmp rfl))) (LW.M rfl (LW.Y (LW.M rfl (LW.Y (LW.pp (.indexAddr' underlying38 sizeOf48 (j := 1) (.t rfl) (.const _) (zQ rfl) ax) (LW.Y (LW.pp (.fA 1 underlying48 rfl sizeOf45 rfl) (LW.Y (LW.pp (.la isAgg45 sizeOf45 rfl (dp_par hqx)) (LW.Y (LW.pp (.build (cs := (Rt.mk 98 1).cells) underlying45 zeroValue45 Tryz.places45 (.cons (.const _) (.cons (.const _) .nil)) kQ) (LW.Y (LW.pp (.tr (PEv.eqlA eqGuardType45 (Tryz.eqRt _ _) (.t rfl) (.t rfl)) (rtB_self _)) (LW.pp (.pick_and (.t rfl) (fun hp => (by exact .tmp rfl))) (LW.M rfl (LW.Y (LW.M rfl (LW.Y (LW.K (eC (.o rfl) (en14)) rfl (EBase_any z6.E z6.bf z6.bd z6.bc z6.n z6.all _ (hS.blk 3 rfl) (hS.get 4 rfl) (Nat.le_trans hz6.len cQ)) ?_)))))))))))))))))))))
 rintro _ w24 ⟨bc96, rfl, hC96, _, uw24⟩
 replace hS := hS.up uw24
 replace hqx := hqx.up uw24
 obtain ⟨v96, hv96, ad96, cp96, rfl, _⟩ := hC96.at_ (j := 0) cQ
 have hl96 : (lstOf (ofB z6.all 100000) 0).length = 3 := by rw [ha6]; exact p21_6
 rw [hl96] at hv96
 refine LW.Y (LW.pp (.field1 (off := 0) underlying32 rfl rfl isAgg26 (.t rfl) hv96) (LW.Y (LW.pp (.lenS underlying26 (.t rfl)) (LW.Y (LW.pp (.tr (PEv.eql (.t rfl) (.const _)) (rfl)) (LW.pp (.pick_and (.t rfl) (fun hp => (by exact .tmp rfl))) (LW.A rfl (LW.T (CW.ret (KW.ret1 rfl rfl ⟨_, rfl, ?_⟩))))))))))
 exact ⟨rfl, hS.upd⟩
end Go.Proofs.YtbbpkdlehlamlaaGreatDoor
end
section
namespace Go.Wx
theorem own_foot {e k : Nat} {enc : Fact → Array Go.Value} {ad : Option Addr} {n c B o : Nat} {xs : List Fact} (h : ad = some ⟨B, o, none⟩) : (aOwn e k enc (.slice ad n c) xs).foot B := by subst h; rfl
end Go.Wx
namespace Go.Proofs.YtbbpkdlehlamlaaGreatDoor
open Go.Proofs.Tryz
open Go.Wx Go.RowKit
end Go.Proofs.YtbbpkdlehlamlaaGreatDoor
end
section
namespace Go.Wx
theorem touch_one (m : FMap) (f : Fact) : (addR m [f]).2 = if chgB m f = true then [keyB f] else [] := by
 show (addS (m, []) f).2 = _
 unfold addS addK
 split <;> simp
theorem chg_key {m : FMap} {f : Fact} (h : chgB m f = true) : keyB f ≠ [] := fun e => by rw [(put_empty e).1] at h; cases h
theorem chg_set {m : FMap} {f : Fact} (h : chgB m f = true) : bestStep 100000 m f = fset m (keyB f) f := by
 have hk := chg_key h
 cases hg : fget m (keyB f) with
 | none => exact (put_new hk hg).2
 | some old => cases hp : prevB f old with
   | false => rw [(put_old hk hg hp).1] at h; cases h
   | true => exact (put_over hk hg hp).2
theorem fgz_eff {l : List Fact} {k : List UInt8} (h : (fgz (bestL l 100000) k).Kind ≠ 0) : eff l 100000 (fgz (bestL l 100000) k) ∧ keyB (fgz (bestL l 100000) k) = k := by
 unfold fgz at h ⊢
 cases hg : fget (bestL l 100000) k with
 | none => rw [hg] at h; exact absurd rfl h
 | some x =>
   have hk : keyB x = k := by
     have hg2 := hg
     unfold fget at hg2
     obtain ⟨q, hq, hqy⟩ := Option.map_eq_some_iff.1 hg2
     have hq1 := List.mem_of_find?_eq_some hq
     have hq2 : (q.1 == k) = true := List.find?_some (p := fun p : List UInt8 × Fact => p.1 == k) hq
     have := ((best_inv l 100000).ok q hq1).1
     rw [← hqy, ← this]; simpa using hq2
   exact ⟨eff_get.2 (by rw [Option.getD_some, hk]; exact hg), hk⟩
theorem conc_cases {kb : Base} {x : Fact} {g : Grp} (h : concB kb x g = true) : x.Gone = false ∧ ((x.Kind = 1 ∧ g = gof x) ∨ (x.Kind = 2 ∧ mgB kb x g = true) ∨ (x.Kind = 9 ∧ g.t = x.Tool ∧ g.c = x.Chamber) ∨ (x.Kind = 10 ∧ g.r = x.Recipe)) := by
 unfold concB at h
 rw [Bool.and_eq_true] at h
 obtain ⟨h1, h2⟩ := h
 refine ⟨by simpa using h1, ?_⟩
 split at h2
 · rename_i e; exact .inl ⟨e, of_decide_eq_true h2⟩
 split at h2
 · rename_i e; exact .inr (.inl ⟨e, h2⟩)
 split at h2
 · rename_i e; rw [Bool.and_eq_true] at h2; exact .inr (.inr (.inl ⟨e, of_decide_eq_true h2.1, of_decide_eq_true h2.2⟩))
 split at h2
 · rename_i e; exact .inr (.inr (.inr ⟨e, of_decide_eq_true h2⟩))
 cases h2
theorem one_marks {all : List Fact} {f : Fact} {kb : Base} {g : Grp} (h : ∃ k ∈ (addR (bestL all 100000) [f]).2, stB (bestL all 100000) (bestL (all ++ [f]) 100000) kb k g = true) :
   validB f = true ∧ ∃ x, (x = f ∨ (x = fgz (bestL all 100000) (keyB f) ∧ eff all 100000 x ∧ keyB x = keyB f)) ∧ concB kb x g = true := by
 obtain ⟨k, hk, h⟩ := h
 rw [touch_one] at hk
 split at hk
 · rename_i hc
   rw [List.mem_singleton] at hk
   subst hk
   have e1 : bestL (all ++ [f]) 100000 = fset (bestL all 100000) (keyB f) f := by rw [← chg_set hc]; unfold bestL; rw [List.foldl_append]; rfl
   have e2 : fgz (bestL (all ++ [f]) 100000) (keyB f) = f := by unfold fgz; rw [e1, fget_set, if_pos rfl]; rfl
   refine ⟨keyB_valid (chg_key hc), ?_⟩
   unfold stB at h
   rw [Bool.and_eq_true, Bool.or_eq_true, e2] at h
   rcases h.2 with h3 | h3
   · have hkd : (fgz (bestL all 100000) (keyB f)).Kind ≠ 0 := by
       rcases (conc_cases h3).2 with e | e | e | e <;> rw [e.1] <;> decide
     obtain ⟨h4, h5⟩ := fgz_eff hkd
     exact ⟨_, .inr ⟨rfl, h4, h5⟩, h3⟩
   exact ⟨f, .inl rfl, h3⟩
 cases hk
def wasF (f : Fact) (l : List Fact) : Fact := l.foldl (fun w x => if x.ID = f.ID then x else w) f
theorem was_next {f : Fact} {l : List Fact} {i : Nat} {x : Fact} (h : l[i]? = some x) : wasF f (l.take (i + 1)) = if x.ID = f.ID then x else wasF f (l.take i) := by
 unfold wasF; rw [take_succ_of h, List.foldl_append]; rfl
theorem was_one {f x : Fact} {l : List Fact} (hx : x ∈ l) (hid : x.ID = f.ID) (hu : ∀ y ∈ l, y.ID = f.ID → y = x) : wasF f l = x := by
 have key : ∀ (l : List Fact) (w : Fact), (∀ y ∈ l, y.ID = f.ID → y = x) → (x ∈ l ∨ w = x) → l.foldl (fun w x => if x.ID = f.ID then x else w) w = x := by
   intro l
   induction l with
   | nil => intro w _ h; exact h.elim (fun h => by cases h) id
   | cons y l ih =>
     intro w h1 h2
     rw [List.foldl_cons]
     refine ih _ (fun z hz => h1 z (List.mem_cons_of_mem _ hz)) ?_
     by_cases e : y.ID = f.ID
     · rw [if_pos e]; exact .inr (h1 y List.mem_cons_self e)
     rw [if_neg e]
     rcases h2 with h2 | h2
     · rcases List.mem_cons.1 h2 with h3 | h3
       · subst h3; exact absurd hid e
       exact .inl h3
     exact .inr h2
 exact key l f hu (.inl hx)
def hereG (f w : Fact) (g : Grp) : Bool := (decide (f.Tool = g.t) && decide (f.Chamber = g.c)) || (decide (w.Tool = g.t) && decide (w.Chamber = g.c))
def mostG (f w : Fact) (g : Grp) : Bool := (decide (f.Kind = 9) && hereG f w g) || (decide (f.Kind = 10) && decide (f.Recipe = g.r))
def mostN (f w : Fact) (gs : List Grp) : Nat := if f.Kind = 1 then 2 else if f.Kind = 2 then 1 else (gs.filter (mostG f w)).length
theorem key_id {f g : Fact} (hf : validB f = true) (hg : validB g = true) (hk : g.Kind = 1 ∨ g.Kind = 2 ∨ g.Kind = 9) (h : keyB f = keyB g) : f.ID = g.ID := by
 have e := key_vals hf hg h
 have e2 := e.2
 rcases hk with hk | hk | hk <;> rw [e.1.trans hk] at e2 <;> (replace e2 : [f.ID] = [g.ID] := e2) <;> simpa using e2
theorem key_rec {f g : Fact} (hf : validB f = true) (hg : validB g = true) (hk : g.Kind = 10) (h : keyB f = keyB g) : f.Recipe = g.Recipe := by
 have e := key_vals hf hg h
 have e2 := e.2
 rw [e.1.trans hk] at e2
 replace e2 : [f.Recipe, f.Time] = [g.Recipe, g.Time] := e2
 exact (List.cons.inj e2).1
theorem local_n (all : List Fact) (f : Fact) : cntN all [f] ≤ mostN f (wasF f (ofB all 100000).Resets) (grpsL (ofB (all ++ [f]) 100000).Processes) := by
 unfold cntN
 generalize hkb : ofB (all ++ [f]) 100000 = kb
 have hnd : ((grpsL kb.Processes).filter fun g => (addR (bestL all 100000) [f]).2.any fun k => stB (bestL all 100000) (bestL (all ++ [f]) 100000) kb k g).Nodup := (grpsL_nodup _).sublist List.filter_sublist
 have hin : ∀ g, g ∈ ((grpsL kb.Processes).filter fun g => (addR (bestL all 100000) [f]).2.any fun k => stB (bestL all 100000) (bestL (all ++ [f]) 100000) kb k g) → g ∈ grpsL kb.Processes ∧ validB f = true ∧ ∃ x, (x = f ∨ (x = fgz (bestL all 100000) (keyB f) ∧ eff all 100000 x ∧ keyB x = keyB f)) ∧ concB kb x g = true := fun g hg => by
   rw [List.mem_filter, List.any_eq_true] at hg
   exact ⟨hg.1, one_marks hg.2⟩
 revert hnd hin
 generalize ((grpsL kb.Processes).filter fun g => (addR (bestL all 100000) [f]).2.any fun k => stB (bestL all 100000) (bestL (all ++ [f]) 100000) kb k g) = L
 intro hnd hin
 have hkd : ∀ x, validB f = true → (x = f ∨ (x = fgz (bestL all 100000) (keyB f) ∧ eff all 100000 x ∧ keyB x = keyB f)) → x.Kind = f.Kind := fun x hv h => h.elim (fun e => by rw [e]) fun h => key_kind (eff_valid h.2.1) hv h.2.2
 unfold mostN
 by_cases h1 : f.Kind = 1
 · rw [if_pos h1]
   refine hnd.length_le_of_subset (l₂ := [gof f, gof (fgz (bestL all 100000) (keyB f))]) fun g hg => ?_
   obtain ⟨_, hv, x, hx, hc⟩ := hin g hg
   have hk := hkd x hv hx
   rcases (conc_cases hc).2 with e | e | e | e
   · rcases hx with rfl | hx
     · simp [e.2]
     rw [e.2, hx.1]; simp
   all_goals (have := e.1; omega)
 rw [if_neg h1]
 by_cases h2 : f.Kind = 2
 · rw [if_pos h2]
   refine Nat.le_trans (hnd.length_le_of_subset (l₂ := (procB kb f.ID).toList.map gof) fun g hg => ?_) (by rw [List.length_map]; cases procB kb f.ID <;> simp)
   obtain ⟨_, hv, x, hx, hc⟩ := hin g hg
   have hk := hkd x hv hx
   rcases (conc_cases hc).2 with e | e | e | e
   · have := e.1; omega
   · have hid : x.ID = f.ID := hx.elim (fun e => by rw [e]) fun h => key_id (eff_valid h.2.1) hv (.inr (.inl h2)) h.2.2
     have h3 := e.2
     unfold mgB at h3
     rw [hid] at h3
     cases hp : procB kb f.ID with
     | none => rw [hp] at h3; cases h3
     | some p => rw [hp] at h3; have h4 : g = gof p := of_decide_eq_true h3; simp [h4]
   all_goals (have := e.1; omega)
 rw [if_neg h2]
 refine hnd.length_le_of_subset fun g hg => ?_
 obtain ⟨hm, hv, x, hx, hc⟩ := hin g hg
 have hk := hkd x hv hx
 rw [List.mem_filter]
 refine ⟨hm, ?_⟩
 unfold mostG
 rw [Bool.or_eq_true, Bool.and_eq_true, Bool.and_eq_true]
 obtain ⟨hg0, hcs⟩ := conc_cases hc
 rcases hcs with e | e | e | e
 · have := e.1; omega
 · have := e.1; omega
 · left
   have hk9 : f.Kind = 9 := by rw [← hk]; exact e.1
   refine ⟨decide_eq_true hk9, ?_⟩
   unfold hereG
   rw [Bool.or_eq_true, Bool.and_eq_true, Bool.and_eq_true]
   rcases hx with rfl | hx
   · exact .inl ⟨decide_eq_true e.2.1.symm, decide_eq_true e.2.2.symm⟩
   right
   have hid : x.ID = f.ID := key_id (eff_valid hx.2.1) hv (.inr (.inr hk9)) hx.2.2
   have hw : wasF f (ofB all 100000).Resets = x := was_one ((lst_mem (j := 8) cQ).2 ⟨hx.2.1, hg0, e.1⟩) hid fun y hy he => by
     have hy2 := (lst_mem (j := 8) cQ).1 (show y ∈ lstOf (ofB all 100000) 8 from hy)
     exact eff_key hy2.1 hx.2.1 (key_of_ord (k := 9) (eff_valid hy2.1) (eff_valid hx.2.1) hy2.2.2 e.1 (by show (y.ID, (0 : Int)) = (x.ID, 0); rw [he, hid]))
   rw [hw]
   exact ⟨decide_eq_true e.2.1.symm, decide_eq_true e.2.2.symm⟩
 right
 have hk10 : f.Kind = 10 := by rw [← hk]; exact e.1
 refine ⟨decide_eq_true hk10, decide_eq_true ?_⟩
 rw [e.2]
 exact hx.elim (fun e => by rw [e]) fun h => (key_rec (eff_valid h.2.1) hv hk10 h.2.2).symm
theorem local_len (all l : List Fact) : cntN all l ≤ (grpsL (ofB (all ++ l) 100000).Processes).length := List.length_filter_le _ _
theorem local_quiet {all l : List Fact} (h : cntN all l = 0) {g : Grp} (hg : g ∈ grpsL (ofB (all ++ l) 100000).Processes) : desF (ofB all 100000) g.t g.c g.r = desF (ofB (all ++ l) 100000) g.t g.c g.r := des_quiet fun hk => by
 have h1 := List.eq_nil_of_length_eq_zero h
 have : g ∈ ([] : List Grp) := by
   rw [← h1, List.mem_filter, List.any_eq_true]
   exact ⟨hg, st_T.2 hk⟩
 cases this
theorem grpsL_len (l : List Fact) (i : Nat) : (grpsL (l.take i)).length ≤ i := by
 have h := (grpsL_nodup (l.take i)).length_le_of_subset (l₂ := (l.take i).map gof) fun g hg => by
   obtain ⟨p, hp, e⟩ := (grpsL_mem _ g).1 hg
   exact List.mem_map.2 ⟨p, hp, e⟩
 rw [List.length_map, List.length_take] at h
 omega
theorem seen_yes {L : List Grp} {g : Grp} {k : Nat} (h : true = decide (g ∈ L.take k)) : true = decide (g ∈ L.take (k + 1)) := by
 have h1 := of_decide_eq_true h.symm
 refine (decide_eq_true ?_).symm
 rw [List.take_add_one]
 exact List.mem_append_left _ h1
theorem seen_no {L : List Grp} {g x : Grp} {k : Nat} (hx : L[k]? = some x) (h : false = decide (g ∈ L.take k)) : decide (x = g) = decide (g ∈ L.take (k + 1)) := by
 have h1 := of_decide_eq_false h.symm
 rw [List.take_add_one, hx, Option.toList_some]
 by_cases e : x = g
 · rw [decide_eq_true e, decide_eq_true (List.mem_append_right _ (List.mem_singleton.2 e.symm))]
 rw [decide_eq_false e, decide_eq_false fun hm => (List.mem_append.1 hm).elim h1 fun hm => e (List.mem_singleton.1 hm).symm]
theorem seen_or {L : List Grp} {g x : Grp} {k : Nat} {b : Bool} (hx : L[k]? = some x) (h : b = decide (g ∈ L.take k)) : (b || decide (x = g)) = decide (g ∈ L.take (k + 1)) := by
 cases b with
 | true => exact seen_yes h
 | false => exact seen_no hx h
end Go.Wx
namespace Go.Proofs.YtbbpkdlehlamlaaGreatDoor
open Go.Proofs.Tryz
open Go.Wx Go.RowKit
theorem itemStep {P : Program} {d : Nat} {e : TypeId} {c : Nat} {xs ys : Array Go.Value} {i : Nat} {is : List Nat} {w : World} {a b : Go.Value} {r q : Bool} (hs : ∀ w, (isAgg e).run P w = .ok false w) (hx : xs[i * c]? = some a) (hy : ys[i * c]? = some b) (he : (Op.equalIn d e a b).run P w = .ok r w) (hq : (Op.eqItems d e c xs ys is).run P w = .ok q w) : (Op.eqItems d e c xs ys (i :: is)).run P w = .ok (r && q) w := by
 have h1 : (part e xs (i * c)).run P w = .ok a w := by simp [part, hs, hx, Result.andThen]
 have h2 : (part e ys (i * c)).run P w = .ok b w := by simp [part, hs, hy, Result.andThen]
 simp only [Op.eqItems, Sem.run_bind, h1, h2, he, Result.andThen_ok]
 cases r <;> simp [hq]
set_option maxRecDepth 4000 in
theorem eqGr3 (a b : Grp) (w : World) : (Op.equalIn 10000 37 (.agg a.cells) (.agg b.cells)).run prog w = .ok (decide (a = b)) w := by
 have hc := cellsOfI
 have h : (Op.eqItems 9999 3 (prog.cellsOf 3) a.cells b.cells [0, 1, 2]).run prog w = .ok (grpEqB a b) w := by
   rw [hc]
   iterate 3 (refine itemStep isAgg3 rfl rfl (run_equalIn_int w 9998 _ _ _ _ _ underlying3) ?_)
   rfl
 obtain ⟨i, hi⟩ := Option.isSome_iff_exists.1 (show (prog.info? 3).isSome = true by kernel_rfl)
 rw [← grpEqB_eq, ← h]
 exact run_equalIn_array (w := w) 9999 a.cells b.cells underlying37 hi
set_option maxHeartbeats 4000000 in
theorem refgrp_any (bc : Array Go.Value) (b : Base) (w : World) (hC : BaseC w bc b) (hl : b.Processes.length ≤ 100000) : Ret prog 15 #[.agg bc] w fun r w' => OwnS w' w.heap.size 37 3 Grp.cells r (grpsL b.Processes) ∧ Up w w' := by
 obtain ⟨w0, rfl⟩ : ∃ w0, w0 = w := ⟨_, rfl⟩
 have hS := Sep.start no w0
 refine cS (n := 50) (m := 9) func15 rfl rfl rfl ?_
 refine CW.S ?_
 refine LW.rr (.boxA (.t rfl)) rfl ?_
 rintro _ w1 ⟨B1, rfl, NB1⟩
 have eB1 := NB1.at_
 have zB1 := NB1.size
 replace hS := hS.addB NB1
 change Wx.Sep _ _ _ [_] at hS
 refine LW.C (LW.S ?_)
 obtain ⟨v0, h0, hs0⟩ := hC.at_ (j := 0) cQ
 obtain ⟨ad0, cp0, rfl, hE0⟩ := (show Sl w0 v0 19 Fact.cells b.Processes from hs0)
 refine CW.region (LW.C (LW.S (CW.seq ?_)))
 replace hS := hS.addn (OwnS.nil _ 0 37 3 Grp.cells)
 change Wx.Sep _ _ _ [_, _] at hS
 refine CW.region (LW.C (LW.T (CW.block ?_)))
 refine CW.loopB (σ := Nat × Go.Value) (fun s w => (s.1 ≤ b.Processes.length) ∧ (Wx.Sep no w0 w [aBlk B1 bc 32, aOwn 37 3 Grp.cells s.2 (grpsL (b.Processes.take s.1))])) (fun s => [(4, .eq (vi (s.1 : Int))), (3, .eq (s.2))]) ([(1, .eq _), (2, .eq _)]) (fun s => b.Processes.length - s.1) (0, .slice none 0 0) ?_ ⟨rfl, rfl, rfl, rfl, trivial⟩ ?_
 ·exact ⟨Nat.zero_le _, hS⟩
 rintro ⟨i, v⟩ w2 ⟨hi, hS⟩
 dsimp only at hi hS
 change CW _ _ _ _ _ _ _ ([(4, .eq (vi (i : Int))), (3, .eq (v))] ++ _) _
 refine CW.seq (CW.S (LW.M rfl ?_))
 refine LW.pp (.fA 0 underlying32 rfl sizeOf26 rfl) ?_
 refine LW.pp (.ld isAgg26 rfl ((hS.blk 0 rfl).cell h0)) ?_
 refine LW.pp (.lenS underlying26 (.t rfl)) ?_
 refine LW.pp (.lss (.t rfl) (.t rfl)) ?_
 refine LW.T ?_
 refine CW.cond (.t rfl) (fun h13 => ?_) (fun h13 => ?_)
 ·replace h13 := dQ h13
  refine CW.skip (KW.then (CW.seq (CW.block (CW.seq ?_))))
  obtain ⟨x, hx⟩ := getElem?_of_lt (xs := b.Processes) (i := i) oQ
  obtain ⟨Bx, ox, ax, hcx⟩ := (Els.up hE0 hS.upd) i x hx
  have hLl : (grpsL (b.Processes.take i)).length ≤ i := grpsL_len _ _
  obtain ⟨ad3, cp3, rfl, _⟩ := (hS.own 1 rfl).sl (fun _ => rfl)
  refine CW.region ?_
  refine LW.pp (.fA 0 underlying32 rfl sizeOf26 rfl) ?_
  refine LW.pp (.ld isAgg26 rfl ((hS.blk 0 rfl).cell h0)) ?_
  refine LW.M rfl ?_
  refine LW.pp (.indexAddr' underlying26 sizeOf24 (.t rfl) (.t rfl) oQ ax) ?_
  refine LW.pp (.la isAgg24 sizeOf24 rfl (hcx)) ?_
  refine LW.rr (.allocA zeroValue24) rfl ?_
  rintro _ w3 ⟨B5, rfl, MB5⟩
  refine LW.E (.storeA sizeOf24 rfl (.t rfl) (.t rfl) (Fact.one _) MB5.blk rfl) ?_
  intro w4 LB5
  have NB5 := MB5.set LB5
  clear LB5 MB5
  have eB5 := NB5.at_
  have zB5 := NB5.size
  replace hS := hS.addB NB5
  change Wx.Sep _ _ _ [_, _, _] at hS
  refine LW.S (CW.region ?_)
  refine LW.pp (.fA 11 underlying24 rfl sizeOf3 rfl) ?_
  refine LW.pp (.ld isAgg3 rfl ((hS.blk 2 rfl).celln rfl)) ?_
  refine LW.pp (.fA 12 underlying24 rfl sizeOf3 rfl) ?_
  refine LW.pp (.ld isAgg3 rfl ((hS.blk 2 rfl).celln rfl)) ?_
  refine LW.pp (.fA 14 underlying24 rfl sizeOf3 rfl) ?_
  refine LW.pp (.ld isAgg3 rfl ((hS.blk 2 rfl).celln rfl)) ?_
  refine LW.pp (.buildArr (cs := (gof x).cells) underlying37 zeroValue37 sizeOf3 (.cons (.t rfl) (.cons (.t rfl) (.cons (.t rfl) .nil))) rfl) ?_
  refine LW.rr (.allocA zeroValue37) rfl ?_
  rintro _ w5 ⟨B6, rfl, MB6⟩
  refine LW.E (.storeA sizeOf37 rfl (.t rfl) (.t rfl) (Grp.one _) MB6.blk rfl) ?_
  intro w6 LB6
  have NB6 := MB6.set LB6
  clear LB6 MB6
  have eB6 := NB6.at_
  have zB6 := NB6.size
  replace hS := hS.addB NB6
  change Wx.Sep _ _ _ [_, _, _, _] at hS
  refine LW.S (CW.region (LW.C (LW.S (CW.S (LW.C (LW.T (CW.block ?_)))))))
  refine CW.loopB (σ := Nat × Bool) (fun s w => (s.1 ≤ (grpsL (b.Processes.take i)).length) ∧ (s.2 = decide (gof x ∈ (grpsL (b.Processes.take i)).take s.1)) ∧ (Up w6 w)) (fun s => [(8, .eq (vi (s.1 : Int))), (7, .eq (.bool s.2))]) ([(1, .eq _), (2, .eq _), (3, .eq _), (4, .eq _), (6, .eq _)]) (fun s => (grpsL (b.Processes.take i)).length - s.1) (0, false) ?_ ⟨rfl, rfl, rfl, rfl, rfl, rfl, rfl, trivial⟩ ?_
  ·exact ⟨Nat.zero_le _, by simp, Up.refl _⟩
  rintro ⟨k, kn⟩ w7 ⟨hk, hkn, hL2⟩
  dsimp only at hk hkn
  change CW _ _ _ _ _ _ _ ([(8, .eq (vi (k : Int))), (7, .eq (.bool kn))] ++ _) _
  have zzw7 := hL2.size
  replace hS := hS.up hL2
  refine CW.seq (CW.S (LW.M rfl (LW.M rfl ?_)))
  refine LW.pp (.lenS underlying34 (.t rfl)) ?_
  refine LW.pp (.lss (.t rfl) (.t rfl)) ?_
  refine LW.T ?_
  refine CW.cond (.t rfl) (fun h31 => ?_) (fun h31 => ?_)
  ·replace h31 := dQ h31
   refine CW.skip (KW.then (CW.seq (CW.block ?_)))
   obtain ⟨y, hy⟩ := getElem?_of_lt (xs := (grpsL (b.Processes.take i))) (i := k) oQ
   obtain ⟨By, oy, ay, hcy⟩ := (OwnS.elsS (hS.own 1 rfl) (fun _ => rfl)) k y hy
   refine CW.draws_then 9 kQ kQ kQ kQ kQ rfl rfl ?_
   refine HW.pp (.move (.t rfl)) ?_
   refine HW.pp (.move (.t rfl)) ?_
   refine HW.g rfl rfl rfl rfl rfl rfl (fun hc => PEv.move (.t rfl)) ?_
   refine HW.g rfl rfl rfl rfl rfl rfl (fun hc => PEv.move (.t rfl)) ?_
   refine HW.g rfl rfl rfl rfl rfl rfl (fun hc => PEv.indexAddr' underlying34 sizeOf37 (j := k) (k := (grpsL (b.Processes.take i)).length) vQ vQ oQ ay) ?_
   refine HW.g rfl rfl rfl rfl rfl rfl (fun hc => PEv.loadA isAgg37 sizeOf37 rfl vQ (hcy)) ?_
   refine HW.g rfl rfl rfl rfl rfl rfl (fun hc => PEv.la isAgg37 sizeOf37 rfl ((hS.blk 3 rfl).agg)) ?_
   refine HW.g rfl rfl rfl rfl rfl rfl (fun hc => PEv.eqlA eqGuardType37 (eqGr3 _ _) vQ vQ) ?_
   refine HW.pp (.pick_or (.t rfl) (fun hp => (by first | exact .const _ | exact .tmp rfl | exact .cond rfl (by first | assumption | (rw [hp]; rfl) | (rw [hc, hp]; rfl) | simp_all)))) ?_
   refine HW.nil ?_
   intro w8 uw8
   have zw8 := uw8.size
   replace hS := hS.up uw8
   replace hL2 := hL2.up uw8
   refine LW.A rfl (LW.nil (KW.inBlock (KW.then (CW.region (LW.M rfl ?_)))))
   refine LW.pp (.inc (.t rfl) oQ) ?_
   refine LW.A rfl (LW.nil (KW.round ?_))
   exact ⟨(k + 1, kn || decide (y = gof x)), ⟨by show k + 1 ≤ _; omega, seen_or hy hkn, hL2⟩, ⟨rfl, rfl, rfl, rfl, rfl, rfl, rfl, trivial⟩, by show (grpsL (b.Processes.take i)).length - (k + 1) < (grpsL (b.Processes.take i)).length - k; omega⟩
  replace h31 := dQ h31
  refine CW.exit (KW.then_exit (KW.then_exit (KW.block_hit (KW.then (CW.seq ?_)))))
  have hkn2 : kn = decide (gof x ∈ (grpsL (b.Processes.take i))) := by rw [hkn, List.take_of_length_le (by omega)]
  refine CW.region (LW.M rfl ?_)
  refine LW.pp (.not (.t rfl)) ?_
  refine LW.T ?_
  refine CW.cond (.t rfl) (fun h44 => ?_) (fun h44 => ?_)
  ·replace h44 := dQ h44
   have hgn : gof x ∉ (grpsL (b.Processes.take i)) := by have h5 := h44; rw [hkn2] at h5; simpa using h5
   refine CW.region (LW.M rfl ?_)
   refine LW.pp (.la isAgg37 sizeOf37 rfl ((hS.blk 3 rfl).agg)) ?_
   refine LW.rr (.buildSlice (xs := [gof x]) (enc := Grp.cells) (mk := fun g : Grp => .agg g.cells) underlying34 sizeOf37 zeroValue37 rfl cQ (fun _ => rfl) (fun _ => rfl) (.cons (.t rfl) .nil) rfl) rfl ?_
   rintro _ w9 ⟨B47, cB47, rfl, NB47, yB47, xB47⟩
   have eB47 := NB47.at_
   have zB47 := NB47.size
   replace hS := hS.up NB47.up
   replace hL2 := hL2.up NB47.up
   have hE47 := xB47
   refine LW.rr (.appendF (enc := Grp.cells) (bytes := 24) (i := Tryz.t37) underlying34 kQ rfl rfl rfl rfl cQ (fun _ => rfl) Grp.one (.t rfl) (.t rfl) (hS.own 1 rfl) (Sl.of_els hE47) (by simp only [maxLen, List.length_cons, List.length_nil]; omega) (by simp only [List.length_cons, List.length_nil]; omega)) rfl ?_
   intro v48 w10 Gw10
   have zw10 := Gw10.fr.size
   replace hS := hS.stp 1 rfl Gw10
   change Wx.Sep _ _ _ [_, _, _, _] at hS
   refine LW.A rfl (LW.nil (KW.inBlock (KW.then (CW.region (LW.M rfl ?_)))))
   refine LW.pp (.inc (.t rfl) oQ) ?_
   refine LW.A rfl (LW.nil (KW.round ?_))
   first | exact ⟨(i + 1, v48), ⟨by show i + 1 ≤ _; omega, by rw [grpsL_next hx]; first | (rw [show addG (grpsL (b.Processes.take i)) (gof x) = (grpsL (b.Processes.take i)) ++ [gof x] from if_neg hgn]; exact hS.take 2) | (rw [show addG (grpsL (b.Processes.take i)) (gof x) = (grpsL (b.Processes.take i)) from if_pos hgn]; exact hS.take 2)⟩, ⟨rfl, rfl, rfl, rfl, trivial⟩, by show b.Processes.length - (i + 1) < b.Processes.length - i; omega⟩ | exact ⟨(i + 1, .slice ad3 (grpsL (b.Processes.take i)).length cp3), ⟨by show i + 1 ≤ _; omega, by rw [grpsL_next hx]; first | (rw [show addG (grpsL (b.Processes.take i)) (gof x) = (grpsL (b.Processes.take i)) ++ [gof x] from if_neg hgn]; exact hS.take 2) | (rw [show addG (grpsL (b.Processes.take i)) (gof x) = (grpsL (b.Processes.take i)) from if_pos hgn]; exact hS.take 2)⟩, ⟨rfl, rfl, rfl, rfl, trivial⟩, by show b.Processes.length - (i + 1) < b.Processes.length - i; omega⟩
  replace h44 := dQ h44
  have hgn : gof x ∈ (grpsL (b.Processes.take i)) := by have h5 := h44; rw [hkn2] at h5; simpa using h5
  refine CW.skip (KW.inBlock (KW.then (CW.region (LW.M rfl ?_))))
  refine LW.pp (.inc (.t rfl) oQ) ?_
  refine LW.A rfl (LW.nil (KW.round ?_))
  first | exact ⟨(i + 1, v48), ⟨by show i + 1 ≤ _; omega, by rw [grpsL_next hx]; first | (rw [show addG (grpsL (b.Processes.take i)) (gof x) = (grpsL (b.Processes.take i)) ++ [gof x] from if_neg hgn]; exact hS.take 2) | (rw [show addG (grpsL (b.Processes.take i)) (gof x) = (grpsL (b.Processes.take i)) from if_pos hgn]; exact hS.take 2)⟩, ⟨rfl, rfl, rfl, rfl, trivial⟩, by show b.Processes.length - (i + 1) < b.Processes.length - i; omega⟩ | exact ⟨(i + 1, .slice ad3 (grpsL (b.Processes.take i)).length cp3), ⟨by show i + 1 ≤ _; omega, by rw [grpsL_next hx]; first | (rw [show addG (grpsL (b.Processes.take i)) (gof x) = (grpsL (b.Processes.take i)) ++ [gof x] from if_neg hgn]; exact hS.take 2) | (rw [show addG (grpsL (b.Processes.take i)) (gof x) = (grpsL (b.Processes.take i)) from if_pos hgn]; exact hS.take 2)⟩, ⟨rfl, rfl, rfl, rfl, trivial⟩, by show b.Processes.length - (i + 1) < b.Processes.length - i; omega⟩
 replace h13 := dQ h13
 refine CW.exit (KW.then_exit (KW.then_exit (KW.block_hit (KW.then (CW.S (LW.M rfl (LW.A rfl (LW.T (CW.ret ?_)))))))))
 refine KW.ret1 rfl rfl ⟨_, rfl, ?_⟩
 rw [show i = b.Processes.length by omega, List.take_length] at hS
 exact ⟨(hS.own 1 rfl).rebase (fun i hi => (hS.foot 1 rfl i hi).resolve_left fun h => h), hS.upd⟩
end Go.Proofs.YtbbpkdlehlamlaaGreatDoor
end
section
namespace Go.Wx
def cut21 (f : Fact) : Fact := { f with Text := f.Text.extract 0 (if (50 : Int) < f.Text.size then (50 : Int) else f.Text.size).toNat }
def pickF : Bool → Fact → Fact → Fact
 | true, f, _ => f
 | false, _, g => g
theorem BaseC.els {w : World} {bc : Array Go.Value} {b : Base} (h : BaseC w bc b) {j : Nat} (hj : j < 11) {ad : Option Addr} {n cp : Nat} (hv : bc[j]? = some (.slice ad n cp)) : Els w ad 19 Fact.cells (lstOf b j) := by
 obtain ⟨v, hv', ad', c', e, hE⟩ := h.at_ hj
 rw [hv] at hv'
 cases hv'
 injection e with e1 e2 e3
 rw [e1]
 exact hE
theorem grp_ok {al : List Fact} {d : Int} {g : Grp} (h : g ∈ grpsL (ofB al d).Processes) : inI g.t ∧ inI g.c ∧ inI g.r := by
 obtain ⟨p, hp, e⟩ := (grpsL_mem _ g).1 h
 exact e ▸ proc_ok p hp
theorem most_yes {f w : Fact} {L : List Grp} {k : Nat} {y : Grp} (hy : L[k]? = some y) (h : mostG f w y = true) : ((L.take (k + 1)).filter (mostG f w)).length = ((L.take k).filter (mostG f w)).length + 1 := by
 rw [List.take_add_one, hy, Option.toList_some, List.filter_append, List.filter_cons_of_pos h, List.length_append]; rfl
theorem most_no {f w : Fact} {L : List Grp} {k : Nat} {y : Grp} (hy : L[k]? = some y) (h : mostG f w y = false) : ((L.take (k + 1)).filter (mostG f w)).length = ((L.take k).filter (mostG f w)).length := by
 rw [List.take_add_one, hy, Option.toList_some, List.filter_append, List.filter_cons_of_neg (by rw [h]; exact Bool.false_ne_true), List.length_append]; rfl
end Go.Wx
namespace Go.Proofs.YtbbpkdlehlamlaaGreatDoor
open Go.Proofs.Tryz
open Go.Wx Go.RowKit
set_option maxHeartbeats 8000000 in
theorem EngineLocal_any (ad : Option Addr) (cp : Nat) (xs : List I6) (raw : Fact) (arb : Bool) (w : World) (hE1 : Els w ad 6 I6.cells xs) : Ret prog 3 #[.slice ad xs.length cp, .agg raw.cells, .bool arb] w fun r w' => r = .bool true ∧ Up w w' := by
 obtain ⟨w0, rfl⟩ : ∃ w0, w0 = w := ⟨_, rfl⟩
 have hS := Sep.start no w0
 refine cS (n := 188) (m := 9) func3 rfl rfl rfl ?_
 refine CW.S ?_
 refine LW.rr (.boxA (.t rfl)) rfl ?_
 rintro _ w1 ⟨B4, rfl, NB4⟩
 have eB4 := NB4.at_
 have zB4 := NB4.size
 replace hS := hS.addB NB4
 change Wx.Sep _ _ _ [_] at hS
 refine LW.C (LW.S (CW.region ?_))
 refine LW.K (eC .nil (en10)) rfl (sane21_any _) ?_
 rintro _ w2 ⟨rfl, uw2⟩
 have zw2 := uw2.size
 replace hS := hS.up uw2
 refine LW.A rfl (LW.S (CW.region (LW.M rfl ?_)))
 refine LW.K (eC (.o rfl) (en11)) rfl (Some_any ad cp xs _ (Els.up hE1 hS.upd)) ?_
 rintro v25 w3 ⟨hO25, uw3⟩
 have zw3 := uw3.size
 replace hS := hS.add uw3 (A' := aOwn 24 19 Fact.cells v25 (soL xs)) (hO25.mono (Nat.zero_le _)) (fun i h => hO25.base i h)
 change Wx.Sep _ _ _ [_, _] at hS
 clear hO25
 obtain ⟨ad25, cp25, rfl, _⟩ := (hS.own 1 rfl).sl (fun _ => rfl)
 have hxl := soL_len xs
 have hcp25 := own_cap (hS.own 1 rfl)
 refine LW.A rfl (LW.S (CW.S (LW.M rfl ?_)))
 refine LW.pp (.lenS underlying26 (.t rfl)) ?_
 refine LW.pp (.eql (.t rfl) (.const _)) ?_
 refine LW.T ?_
 refine CW.cond (.t rfl) (fun h28 => ?_) (fun h28 => ?_)
 ·replace h28 := dQ h28
  refine CW.S (LW.M rfl (LW.A rfl (LW.T (CW.ret (KW.then_ret ?_)))))
  refine KW.ret1 rfl rfl ⟨_, rfl, ?_⟩
  exact ⟨rfl, hS.upd⟩
 replace h28 := dQ h28
 obtain ⟨m, hm⟩ : ∃ m, (soL xs).length = m + 1 := ⟨(soL xs).length - 1, by have h5 := h28; simp at h5; have := List.length_pos_iff.2 h5; omega⟩
 refine CW.skip (KW.then (CW.seq ?_))
 obtain ⟨x, hx⟩ : ∃ x, (soL xs)[m]? = some x := ⟨_, List.getElem?_eq_getElem oQ⟩
 obtain ⟨Bx, ox, ax, hcx⟩ := (OwnS.elsS (hS.own 1 rfl) (fun _ => rfl)) m x hx
 refine CW.region (LW.M rfl (LW.M rfl ?_))
 refine LW.pp (.lenS underlying26 (.t rfl)) ?_
 refine LW.pp (.val (v' := vi ((m : Nat) : Int)) (PEv.sub (.t rfl) (.const _) oQ oQ) (by congr 1; omega)) ?_
 refine LW.pp (.indexAddr' underlying26 sizeOf24 (j := m) (.t rfl) (.t rfl) oQ ax) ?_
 refine LW.pp (.la isAgg24 sizeOf24 rfl (hcx)) ?_
 refine LW.rr (.allocA zeroValue24) rfl ?_
 rintro _ w4 ⟨B9, rfl, MB9⟩
 refine LW.E (.storeA sizeOf24 rfl (.t rfl) (.t rfl) (Fact.one _) MB9.blk rfl) ?_
 intro w5 LB9
 have NB9 := MB9.set LB9
 clear LB9 MB9
 have eB9 := NB9.at_
 have zB9 := NB9.size
 replace hS := hS.addB NB9
 change Wx.Sep _ _ _ [_, _, _] at hS
 refine LW.T ?_
 refine CW.seq_mid (fun a1 W => Ag 188 [] ([(7, .eq (.bool true)), (8, .eq (.slice ad25 (soL xs).length cp25)), (9, .eq (.pointer (some ⟨B9, 0, none⟩)))]) a1 W ∧ Wx.Sep no w0 W [aOwn 24 19 Fact.cells (.slice ad25 (soL xs).length cp25) (soL xs), aBlk B9 (pickF arb (cut21 raw) x).cells 24]) ?_ ?_
 ·skip
  refine CW.S (LW.M rfl (LW.T ?_))
  refine CW.cond (.t rfl) (fun h36 => ?_) (fun h36 => ?_)
  ·replace h36 := dQ h36
   refine CW.S ?_
   refine LW.pp (.la isAgg24 sizeOf24 rfl ((hS.blk 0 rfl).agg)) ?_
   refine LW.E (.storeA sizeOf24 rfl (.t rfl) (.t rfl) (Fact.one _) (hS.blk 2 rfl) rfl) ?_
   intro w6 Nw6
   have zw6 := Nw6.size
   replace hS := hS.putB 2 rfl Nw6
   change Wx.Sep _ _ _ [_, _, _] at hS
   refine LW.T (CW.region ?_)
   refine LW.pp (.fA 18 underlying24 rfl sizeOf9 rfl) ?_
   refine LW.pp (.ld isAgg9 rfl ((hS.blk 2 rfl).celln rfl)) ?_
   refine LW.pp (.fA 18 underlying24 rfl sizeOf9 rfl) ?_
   refine LW.pp (.ld isAgg9 rfl ((hS.blk 2 rfl).celln rfl)) ?_
   refine LW.pp (.lenStr underlying9 (.t rfl)) ?_
   refine LW.pp (.min2 (.t rfl) (.const _)) ?_
   refine LW.pp (.strTo underlying9 (.t rfl) (.t rfl) (by split <;> omega) (by split <;> omega)) ?_
   refine LW.pp (.fA 18 underlying24 rfl sizeOf9 rfl) ?_
   refine LW.E (.store sizeOf9 (.t rfl) (.t rfl) rfl (hS.blk 2 rfl) (zQ rfl)) ?_
   intro w7 Nw7
   have zw7 := Nw7.size
   replace hS := hS.putB 2 rfl (show Set_ _ w7 _ ((cut21 raw).cells) _ from Nw7)
   change Wx.Sep _ _ _ [_, _, _] at hS
   refine LW.nil ?_
   replace hS := hS.pull 0 rfl
   replace hS := hS.take 2
   exact fun a ha => ⟨ha.sub ⟨rfl, rfl, rfl, trivial⟩, by rw [h36]; exact hS⟩
  replace h36 := dQ h36
  refine CW.skip ?_
  replace hS := hS.pull 0 rfl
  replace hS := hS.take 2
  exact fun a ha => ⟨ha.sub ⟨rfl, rfl, rfl, trivial⟩, by rw [h36]; exact hS⟩
 rintro a1 w8 ⟨ha, hS⟩
 revert a1
 show CW none _ _ _ _ _ _ _ _
 refine CW.seq ?_
 obtain ⟨f, hf⟩ : ∃ f, f = pickF arb (cut21 raw) x := ⟨_, rfl⟩
 rw [← hf] at hS
 refine CW.region ?_
 refine LW.K (eC .nil (en12)) rfl (ENew_any _) ?_
 rintro _ w9 ⟨z0, rfl, ha0, hn0, hz0, hN0⟩
 replace hS := hS.join hN0
 change Wx.Sep _ _ _ [_, _, _, _, _, _, _] at hS
 clear hN0
 refine LW.A rfl (LW.S (CW.region (LW.M rfl (LW.M rfl (LW.M rfl ?_)))))
 refine LW.pp (.lenS underlying26 (.t rfl)) ?_
 refine LW.pp (.val (v' := vi ((m : Nat) : Int)) (PEv.sub (.t rfl) (.const _) oQ oQ) (by congr 1; omega)) ?_
 refine LW.pp (.val (v' := .slice ad25 ((soL xs).take m).length cp25) (PEv.sliceHi (j := m) underlying26 sizeOf24 (.t rfl) (.t rfl) oQ) (by congr 1; rw [List.length_take]; omega)) ?_
 replace hS := hS.pull 2 rfl
 change Wx.Sep _ _ _ [_, _, _, _, _, _, _] at hS
 replace hS := hS.pull 2 rfl
 change Wx.Sep _ _ _ [_, _, _, _, _, _, _] at hS
 replace hS := hS.pull 2 rfl
 change Wx.Sep _ _ _ [_, _, _, _, _, _, _] at hS
 replace hS := hS.pull 2 rfl
 change Wx.Sep _ _ _ [_, _, _, _, _, _, _] at hS
 replace hS := hS.pull 2 rfl
 change Wx.Sep _ _ _ [_, _, _, _, _, _, _] at hS
 have hq_ := (show Wx.Sep _ _ _ ([_, _] ++ [_, _, _, _, _]) from hS)
 refine LW.K (eC (.u rfl rfl) (en13)) rfl (EAdd_any z0 0 ad25 cp25 ((soL xs).take m) _ hz0 cQ (by rw [ha0]; simp; omega) (Els.take (OwnS.elsS (hq_.left.own 0 rfl) (fun _ => rfl))) (fun _ B o e h => hq_.dis ⟨_, List.mem_of_getElem? (i := 0) rfl, own_foot e⟩ h) hq_.right.self) ?_
 rintro _ w10 ⟨z1, rfl, hp1, ha1, hn1, hz1, uw10⟩
 replace hS := hq_.frame uw10
 change Wx.Sep _ _ _ [_, _, _, _, _, _, _] at hS
 have zw10 := uw10.fr.size
 clear hq_
 rw [← hp1]
 replace ha1 : z1.all = ((soL xs).take m) := by rw [ha1, ha0]; rfl
 refine LW.S (CW.region (LW.M rfl ?_))
 refine LW.K (eC (.o rfl) (en14)) rfl (EBase_any z1.E z1.bf z1.bd z1.bc z1.n z1.all _ (hS.blk 2 rfl) (hS.get 3 rfl) (Nat.le_trans hz1.len cQ)) ?_
 rintro _ w11 ⟨bc55, rfl, hC55, hb55, uw11⟩
 have zw11 := uw11.size
 replace hS := hS.add uw11 (A' := aBase bc55 z1.kb) (hC55) (aBase_low hb55)
 change Wx.Sep _ _ _ [_, _, _, _, _, _, _, _] at hS
 refine LW.rr (.allocA zeroValue32) rfl ?_
 rintro _ w12 ⟨B11, rfl, MB11⟩
 refine LW.E (.storeA sizeOf32 (BaseC.size hC55) (.t rfl) (.t rfl) (BaseC.one hC55) MB11.blk rfl) ?_
 intro w13 LB11
 have NB11 := MB11.set LB11
 clear LB11 MB11
 have eB11 := NB11.at_
 have zB11 := NB11.size
 replace hS := hS.addB NB11
 change Wx.Sep _ _ _ [_, _, _, _, _, _, _, _, _] at hS
 refine LW.S ?_
 replace hS := hS.pull 2 rfl
 replace hS := hS.pull 2 rfl
 replace hS := hS.pull 2 rfl
 replace hS := hS.pull 2 rfl
 replace hS := hS.pull 2 rfl
 change Wx.Sep _ _ _ [_, _, _, _, _, _, _, _, _] at hS
 refine CW.region (LW.M rfl ?_)
 refine LW.pp (.la isAgg24 sizeOf24 rfl ((hS.blk 1 rfl).agg)) ?_
 have hSp59 := fun i (h : footL z1.As i) => Sep.ltL (Sep.right (show Wx.Sep _ _ _ ([_, _, _, _] ++ z1.As) from hS)) h
 refine LW.rr (.buildSlice (xs := [f]) (enc := Fact.cells) (mk := fun f : Fact => .agg f.cells) underlying26 sizeOf24 zeroValue24 rfl cQ (fun _ => rfl) (fun _ => rfl) (.cons (.t rfl) .nil) rfl) rfl ?_
 rintro _ w14 ⟨B58, cB58, rfl, NB58, yB58, xB58⟩
 have eB58 := NB58.at_
 have zB58 := NB58.size
 replace hS := hS.up NB58.up
 have hE58 := xB58
 replace hS := hS.pull 4 rfl
 change Wx.Sep _ _ _ [_, _, _, _, _, _, _, _, _] at hS
 replace hS := hS.pull 4 rfl
 change Wx.Sep _ _ _ [_, _, _, _, _, _, _, _, _] at hS
 replace hS := hS.pull 4 rfl
 change Wx.Sep _ _ _ [_, _, _, _, _, _, _, _, _] at hS
 replace hS := hS.pull 4 rfl
 change Wx.Sep _ _ _ [_, _, _, _, _, _, _, _, _] at hS
 replace hS := hS.pull 4 rfl
 change Wx.Sep _ _ _ [_, _, _, _, _, _, _, _, _] at hS
 have hq_ := (show Wx.Sep _ _ _ ([_, _, _, _] ++ [_, _, _, _, _]) from hS)
 refine LW.K (eC (.u rfl rfl) (en13)) rfl (EAdd_any z1 1 (some ⟨B58, 0, none⟩) _ [f] _ hz1 cQ (by rw [ha1]; simp; omega) hE58 (fun _ B o e h => by cases e; have := hSp59 _ h; omega) hq_.right.self) ?_
 rintro _ w15 ⟨z2, rfl, hp2, ha2, hn2, hz2, uw15⟩
 replace hS := hq_.frame uw15
 change Wx.Sep _ _ _ [_, _, _, _, _, _, _, _, _] at hS
 have zw15 := uw15.fr.size
 clear hq_
 rw [← hp2]
 obtain ⟨N, hN⟩ : ∃ N, N = cntN z1.all [f] := ⟨_, rfl⟩
 rw [← hN] at hn2 ⊢
 refine LW.A rfl (LW.S (CW.region (LW.M rfl ?_)))
 refine LW.K (eC (.o rfl) (en14)) rfl (EBase_any z2.E z2.bf z2.bd z2.bc z2.n z2.all _ (hS.blk 4 rfl) (hS.get 5 rfl) (Nat.le_trans hz2.len cQ)) ?_
 rintro _ w16 ⟨bc61, rfl, hC61, hb61, uw16⟩
 have zw16 := uw16.size
 replace hS := hS.add uw16 (A' := aBase bc61 z2.kb) (hC61) (aBase_low hb61)
 change Wx.Sep _ _ _ [_, _, _, _, _, _, _, _, _, _] at hS
 refine LW.rr (.allocA zeroValue32) rfl ?_
 rintro _ w17 ⟨B13, rfl, MB13⟩
 refine LW.E (.storeA sizeOf32 (BaseC.size hC61) (.t rfl) (.t rfl) (BaseC.one hC61) MB13.blk rfl) ?_
 intro w18 LB13
 have NB13 := MB13.set LB13
 clear LB13 MB13
 have eB13 := NB13.at_
 have zB13 := NB13.size
 replace hS := hS.addB NB13
 change Wx.Sep _ _ _ [_, _, _, _, _, _, _, _, _, _, _] at hS
 refine LW.S (CW.region ?_)
 refine LW.pp (.loadA isAgg32 sizeOf32 ((BaseC.size hC61)) (.t rfl) ((hS.blk 10 rfl).agg)) ?_
 refine LW.K (eC (.o rfl) (en15)) rfl (refgrp_any bc61 z2.kb _ (hS.get 9 rfl) (Nat.le_trans (len_ok hz2).1 cQ)) ?_
 rintro v63 w19 ⟨hO63, uw19⟩
 have zw19 := uw19.size
 replace hS := hS.add uw19 (A' := aOwn 37 3 Grp.cells v63 (grpsL z2.kb.Processes)) (hO63.mono (Nat.zero_le _)) (fun i h => hO63.base i h)
 change Wx.Sep _ _ _ [_, _, _, _, _, _, _, _, _, _, _, _] at hS
 clear hO63
 obtain ⟨ad63, cp63, rfl, _⟩ := (hS.own 11 rfl).sl (fun _ => rfl)
 refine LW.A rfl (LW.S (CW.region ?_))
 refine LW.pp (.la isAgg24 sizeOf24 rfl ((hS.blk 1 rfl).agg)) ?_
 refine LW.rr (.allocA zeroValue24) rfl ?_
 rintro _ w20 ⟨B15, rfl, MB15⟩
 refine LW.E (.storeA sizeOf24 rfl (.t rfl) (.t rfl) (Fact.one _) MB15.blk rfl) ?_
 intro w21 LB15
 have NB15 := MB15.set LB15
 clear LB15 MB15
 have eB15 := NB15.at_
 have zB15 := NB15.size
 replace hS := hS.addB NB15
 change Wx.Sep _ _ _ [_, _, _, _, _, _, _, _, _, _, _, _, _] at hS
 refine LW.S (CW.seq ?_)
 replace hS := hS.pull 4 rfl
 replace hS := hS.pull 4 rfl
 replace hS := hS.pull 4 rfl
 replace hS := hS.pull 4 rfl
 replace hS := hS.pull 4 rfl
 change Wx.Sep _ _ _ [_, _, _, _, _, _, _, _, _, _, _, _, _] at hS
 have hloc := local_n z1.all f
 have hkk : ofB (z1.all ++ [f]) 100000 = z2.kb := by unfold Eng.kb; rw [ha2]
 rw [hkk, ← hN] at hloc
 change N ≤ mostN f (wasF f z1.kb.Resets) (grpsL z2.kb.Processes) at hloc
 have hlen2 : N ≤ (grpsL z2.kb.Processes).length := by have h5 := local_len z1.all [f]; rw [hkk, ← hN] at h5; exact h5
 have hqt : N = 0 → ∀ g ∈ (grpsL z2.kb.Processes), desF z1.kb g.t g.c g.r = desF z2.kb g.t g.c g.r := fun h0 g hg => by
  have h5 := local_quiet (all := z1.all) (l := [f]) (hN.symm.trans h0) (g := g) (by rw [hkk]; exact hg)
  rw [hkk] at h5
  exact h5
 obtain ⟨v8, h8, hs8⟩ := (show BaseC w21 bc55 z1.kb from hS.get 2 rfl).at_ (j := 8) cQ
 obtain ⟨ad8, cp8, rfl, _⟩ := (show Sl w21 v8 19 Fact.cells z1.kb.Resets from hs8)
 clear hs8
 have hlR := (len_ok hz1).2.2.1
 have hGl : (grpsL z2.kb.Processes).length ≤ 100 := by have h5 := grpsL_len z2.kb.Processes z2.kb.Processes.length; rw [List.take_length] at h5; have h6 := (len_ok hz2).1; omega
 refine CW.region (LW.C (LW.T (CW.block ?_)))
 refine CW.loopB (σ := Nat) (fun s w => (s ≤ z1.kb.Resets.length) ∧ (Wx.Sep no w0 w ([aOwn 24 19 Fact.cells (.slice ad25 (soL xs).length cp25) (soL xs), aBlk B9 f.cells 24, aBase bc55 z1.kb, aBlk B11 bc55 32, aBase bc61 z2.kb, aBlk B13 bc61 32, aOwn 37 3 Grp.cells (.slice ad63 (grpsL z2.kb.Processes).length cp63) (grpsL z2.kb.Processes), aBlk B15 (wasF f (z1.kb.Resets.take s)).cells 24] ++ Eng.As z2))) (fun s => [(16, .eq (vi (s : Int)))]) ([(7, .eq _), (9, .eq _), (10, .eq _), (11, .eq _), (12, .eq _), (14, .eq _), (15, .eq _)]) (fun s => z1.kb.Resets.length - s) 0 ?_ ⟨rfl, rfl, rfl, rfl, rfl, rfl, rfl, rfl, trivial⟩ ?_
 ·exact ⟨Nat.zero_le _, hS⟩
 rintro j w22 ⟨hj, hS⟩
 change Wx.Sep _ _ _ [_, _, _, _, _, _, _, _, _, _, _, _, _] at hS
 refine CW.seq (CW.S (LW.M rfl ?_))
 refine LW.pp (.fA 8 underlying32 rfl sizeOf26 rfl) ?_
 refine LW.pp (.ld isAgg26 rfl ((hS.blk 3 rfl).cell h8)) ?_
 refine LW.pp (.lenS underlying26 (.t rfl)) ?_
 refine LW.pp (.lss (.t rfl) (.t rfl)) ?_
 refine LW.T ?_
 refine CW.cond (.t rfl) (fun h69 => ?_) (fun h69 => ?_)
 ·replace h69 := dQ h69
  refine CW.skip (KW.then (CW.seq (CW.block (CW.seq ?_))))
  obtain ⟨y, hy⟩ : ∃ y, z1.kb.Resets[j]? = some y := ⟨_, List.getElem?_eq_getElem oQ⟩
  obtain ⟨By, oy, ay, hcy⟩ := (BaseC.els (show BaseC w22 bc55 z1.kb from hS.get 2 rfl) (j := 8) cQ h8) j y hy
  refine CW.draws kQ kQ rfl rfl ?_
  refine HW.pp (.fA 8 underlying32 rfl sizeOf26 rfl) ?_
  refine HW.pp (.ld isAgg26 rfl ((hS.blk 3 rfl).cell h8)) ?_
  refine HW.pp (.move (.t rfl)) ?_
  refine HW.pp (.indexAddr' underlying26 sizeOf24 (j := j) (.t rfl) (.t rfl) oQ ay) ?_
  refine HW.pp (.fA 1 underlying24 rfl sizeOf3 rfl) ?_
  refine HW.pp (.ld isAgg3 rfl (hcy.nth (j := 1) rfl)) ?_
  refine HW.pp (.fA 1 underlying24 rfl sizeOf3 rfl) ?_
  refine HW.pp (.ld isAgg3 rfl ((hS.blk 1 rfl).celln rfl)) ?_
  refine HW.pp (.eql (.t rfl) (.t rfl)) ?_
  refine HW.nil ?_
  intro w23 uw23
  have zw23 := uw23.size
  replace hS := hS.up uw23
  refine KW.then ?_
  refine CW.cond (.t rfl) (fun h80 => ?_) (fun h80 => ?_)
  ·replace h80 := dQ h80
   have hid : y.ID = f.ID := by simpa using h80
   obtain ⟨By, oy, ay, hcy⟩ := (BaseC.els (show BaseC w23 bc55 z1.kb from hS.get 2 rfl) (j := 8) cQ h8) j y hy
   refine CW.region ?_
   refine LW.pp (.fA 8 underlying32 rfl sizeOf26 rfl) ?_
   refine LW.pp (.ld isAgg26 rfl ((hS.blk 3 rfl).cell h8)) ?_
   refine LW.M rfl ?_
   refine LW.pp (.indexAddr' underlying26 sizeOf24 (j := j) (.t rfl) (.t rfl) oQ ay) ?_
   refine LW.pp (.la isAgg24 sizeOf24 rfl (hcy)) ?_
   refine LW.E (.storeA sizeOf24 rfl (.t rfl) (.t rfl) (Fact.one _) (hS.blk 7 rfl) rfl) ?_
   intro w24 Nw24
   have zw24 := Nw24.size
   replace hS := hS.putB 7 rfl Nw24
   change Wx.Sep _ _ _ [_, _, _, _, _, _, _, _, _, _, _, _, _] at hS
   refine LW.nil (KW.inBlock (KW.then (CW.region (LW.M rfl ?_))))
   refine LW.pp (.inc (.t rfl) oQ) ?_
   refine LW.A rfl (LW.nil (KW.round ?_))
   exact ⟨j + 1, ⟨by omega, by rw [was_next hy]; first | (rw [if_pos hid]; exact hS) | (rw [if_neg hid]; exact hS)⟩, ⟨rfl, rfl, rfl, rfl, rfl, rfl, rfl, rfl, trivial⟩, by first | omega | (dsimp only; omega)⟩
  replace h80 := dQ h80
  have hid : ¬ y.ID = f.ID := by simpa using h80
  refine CW.skip (KW.inBlock (KW.then (CW.region (LW.M rfl ?_))))
  refine LW.pp (.inc (.t rfl) oQ) ?_
  refine LW.A rfl (LW.nil (KW.round ?_))
  exact ⟨j + 1, ⟨by omega, by rw [was_next hy]; first | (rw [if_pos hid]; exact hS) | (rw [if_neg hid]; exact hS)⟩, ⟨rfl, rfl, rfl, rfl, rfl, rfl, rfl, rfl, trivial⟩, by first | omega | (dsimp only; omega)⟩
 replace h69 := dQ h69
 refine CW.exit (KW.then_exit (KW.then_exit (KW.block_hit (KW.then (CW.seq ?_)))))
 rw [show j = z1.kb.Resets.length by omega, List.take_length] at hS
 obtain ⟨ws, hws⟩ : ∃ ws, ws = wasF f z1.kb.Resets := ⟨_, rfl⟩
 rw [← hws] at hS hloc
 refine CW.region (LW.C (LW.S (CW.S (LW.C (LW.T (CW.block ?_))))))
 refine CW.loopB (σ := Nat × Nat) (fun s w => (s.1 ≤ (grpsL z2.kb.Processes).length) ∧ (s.2 = (((grpsL z2.kb.Processes).take s.1).filter (mostG f ws)).length) ∧ (Wx.Sep no w0 w ([aOwn 24 19 Fact.cells (.slice ad25 (soL xs).length cp25) (soL xs), aBlk B9 f.cells 24, aBase bc55 z1.kb, aBlk B11 bc55 32, aBase bc61 z2.kb, aBlk B13 bc61 32, aOwn 37 3 Grp.cells (.slice ad63 (grpsL z2.kb.Processes).length cp63) (grpsL z2.kb.Processes), aBlk B15 ws.cells 24] ++ Eng.As z2))) (fun s => [(18, .eq (vi (s.1 : Int))), (17, .eq (vi (s.2 : Int)))]) ([(7, .eq _), (9, .eq _), (10, .eq _), (11, .eq _), (12, .eq _), (14, .eq _), (15, .eq _)]) (fun s => (grpsL z2.kb.Processes).length - s.1) (0, 0) ?_ ⟨rfl, rfl, rfl, rfl, rfl, rfl, rfl, rfl, rfl, trivial⟩ ?_
 ·exact ⟨Nat.zero_le _, by simp, hS⟩
 rintro ⟨k, mo⟩ w25 ⟨hk, hmo, hS⟩
 dsimp only at hk hmo
 change Wx.Sep _ _ _ [_, _, _, _, _, _, _, _, _, _, _, _, _] at hS
 change CW _ _ _ _ _ _ _ ([(18, .eq (vi (k : Int))), (17, .eq (vi (mo : Int)))] ++ _) _
 refine CW.seq (CW.S (LW.M rfl (LW.M rfl ?_)))
 refine LW.pp (.lenS underlying34 (.t rfl)) ?_
 refine LW.pp (.lss (.t rfl) (.t rfl)) ?_
 refine LW.T ?_
 refine CW.cond (.t rfl) (fun h89 => ?_) (fun h89 => ?_)
 ·replace h89 := dQ h89
  refine CW.skip (KW.then (CW.seq (CW.block (CW.seq ?_))))
  obtain ⟨y, hy⟩ : ∃ y, (grpsL z2.kb.Processes)[k]? = some y := ⟨_, List.getElem?_eq_getElem oQ⟩
  obtain ⟨By, oy, ay, hcy⟩ := (OwnS.elsS (hS.own 6 rfl) (fun _ => rfl)) k y hy
  have hyk := grp_ok (List.mem_of_getElem? hy)
  have hmok : mo ≤ k := by rw [hmo]; exact Nat.le_trans (List.length_filter_le _ _) (by rw [List.length_take]; omega)
  refine CW.region (LW.M rfl (LW.M rfl ?_))
  refine LW.pp (.indexAddr' underlying34 sizeOf37 (j := k) (.t rfl) (.t rfl) oQ ay) ?_
  refine LW.pp (.la isAgg37 sizeOf37 rfl (hcy)) ?_
  refine LW.rr (.allocA zeroValue37) rfl ?_
  rintro _ w26 ⟨B19, rfl, MB19⟩
  refine LW.E (.storeA sizeOf37 rfl (.t rfl) (.t rfl) (Grp.one _) MB19.blk rfl) ?_
  intro w27 LB19
  have NB19 := MB19.set LB19
  clear LB19 MB19
  have eB19 := NB19.at_
  have zB19 := NB19.size
  replace hS := hS.addB NB19
  change Wx.Sep _ _ _ [_, _, _, _, _, _, _, _, _, _, _, _, _, _] at hS
  refine LW.S (CW.region ?_)
  refine LW.pp (.fA 11 underlying24 rfl sizeOf3 rfl) ?_
  refine LW.pp (.ld isAgg3 rfl ((hS.blk 1 rfl).celln rfl)) ?_
  refine LW.pp (.indexArr (j := 0) underlying37 sizeOf3 (.t rfl) (.const _) cQ) ?_
  refine LW.pp (.ld isAgg3 rfl ((hS.blk 13 rfl).celln rfl)) ?_
  refine LW.pp (.eql (.t rfl) (.t rfl)) ?_
  refine LW.M rfl ?_
  refine LW.g rfl rfl rfl rfl rfl rfl rfl (fun hc => PEv.fA 12 underlying24 rfl sizeOf3 rfl) ?_
  refine LW.g rfl rfl rfl rfl rfl rfl rfl (fun hc => PEv.load isAgg3 vQ ((hS.blk 1 rfl).celln rfl)) ?_
  refine LW.g rfl rfl rfl rfl rfl rfl rfl (fun hc => PEv.indexArr (j := 1) underlying37 sizeOf3 (.t rfl) (.const _) cQ) ?_
  refine LW.g rfl rfl rfl rfl rfl rfl rfl (fun hc => PEv.load isAgg3 vQ ((hS.blk 13 rfl).celln rfl)) ?_
  refine LW.g rfl rfl rfl rfl rfl rfl rfl (fun hc => PEv.eql vQ vQ) ?_
  refine LW.pp (.pick_and (.t rfl) (fun hp => (by first | exact .const _ | exact .tmp rfl | exact .cond rfl (by first | assumption | (rw [hp]; rfl) | (rw [hc, hp]; rfl) | simp_all)))) ?_
  refine LW.M rfl ?_
  refine LW.g rfl rfl rfl rfl rfl rfl rfl (fun hc => PEv.fA 11 underlying24 rfl sizeOf3 rfl) ?_
  refine LW.g rfl rfl rfl rfl rfl rfl rfl (fun hc => PEv.load isAgg3 vQ ((hS.blk 7 rfl).celln rfl)) ?_
  refine LW.g rfl rfl rfl rfl rfl rfl rfl (fun hc => PEv.indexArr (j := 0) underlying37 sizeOf3 (.t rfl) (.const _) cQ) ?_
  refine LW.g rfl rfl rfl rfl rfl rfl rfl (fun hc => PEv.load isAgg3 vQ ((hS.blk 13 rfl).celln rfl)) ?_
  refine LW.g rfl rfl rfl rfl rfl rfl rfl (fun hc => PEv.eql vQ vQ) ?_
  refine LW.g rfl rfl rfl rfl rfl rfl rfl (fun hc => PEv.move vQ) ?_
  refine LW.gg rfl rfl rfl rfl rfl rfl rfl (fun hc => PEv.fA 12 underlying24 rfl sizeOf3 rfl) ?_
  refine LW.gg rfl rfl rfl rfl rfl rfl rfl (fun hc => PEv.load isAgg3 vQ ((hS.blk 7 rfl).celln rfl)) ?_
  refine LW.gg rfl rfl rfl rfl rfl rfl rfl (fun hc => PEv.indexArr (j := 1) underlying37 sizeOf3 (.t rfl) (.const _) cQ) ?_
  refine LW.gg rfl rfl rfl rfl rfl rfl rfl (fun hc => PEv.load isAgg3 vQ ((hS.blk 13 rfl).celln rfl)) ?_
  refine LW.gg rfl rfl rfl rfl rfl rfl rfl (fun hc => PEv.eql vQ vQ) ?_
  refine LW.g rfl rfl rfl rfl rfl rfl rfl (fun hc => PEv.pick_and vQ (fun hp => (by first | exact .const _ | exact .tmp rfl | exact .cond rfl (by first | assumption | (rw [hp]; rfl) | (rw [hc, hp]; rfl) | simp_all)))) ?_
  refine LW.pp (.pick_or (.t rfl) (fun hp => (by first | exact .const _ | exact .tmp rfl | exact .cond rfl (by first | assumption | (rw [hp]; rfl) | (rw [hc, hp]; rfl) | simp_all)))) ?_
  refine LW.A rfl (LW.S (CW.S ?_))
  refine LW.pp (.fA 0 underlying24 rfl sizeOf3 rfl) ?_
  refine LW.pp (.ld isAgg3 rfl ((hS.blk 1 rfl).celln rfl)) ?_
  refine LW.pp (.eql (.t rfl) (.const _)) ?_
  refine LW.M rfl ?_
  refine LW.g rfl rfl rfl rfl rfl rfl rfl (fun hc => PEv.move (.t rfl)) ?_
  refine LW.pp (.pick_and (.t rfl) (fun hp => (by first | exact .const _ | exact .tmp rfl | exact .cond rfl (by first | assumption | (rw [hp]; rfl) | (rw [hc, hp]; rfl) | simp_all)))) ?_
  refine LW.M rfl ?_
  refine LW.g rfl rfl rfl rfl rfl rfl rfl (fun hc => PEv.fA 0 underlying24 rfl sizeOf3 rfl) ?_
  refine LW.g rfl rfl rfl rfl rfl rfl rfl (fun hc => PEv.load isAgg3 vQ ((hS.blk 1 rfl).celln rfl)) ?_
  refine LW.g rfl rfl rfl rfl rfl rfl rfl (fun hc => PEv.eql vQ (.const _)) ?_
  refine LW.g rfl rfl rfl rfl rfl rfl rfl (fun hc => PEv.move vQ) ?_
  refine LW.gg rfl rfl rfl rfl rfl rfl rfl (fun hc => PEv.fA 14 underlying24 rfl sizeOf3 rfl) ?_
  refine LW.gg rfl rfl rfl rfl rfl rfl rfl (fun hc => PEv.load isAgg3 vQ ((hS.blk 1 rfl).celln rfl)) ?_
  refine LW.gg rfl rfl rfl rfl rfl rfl rfl (fun hc => PEv.indexArr (j := 2) underlying37 sizeOf3 (.t rfl) (.const _) cQ) ?_
  refine LW.gg rfl rfl rfl rfl rfl rfl rfl (fun hc => PEv.load isAgg3 vQ ((hS.blk 13 rfl).celln rfl)) ?_
  refine LW.gg rfl rfl rfl rfl rfl rfl rfl (fun hc => PEv.eql vQ vQ) ?_
  refine LW.g rfl rfl rfl rfl rfl rfl rfl (fun hc => PEv.pick_and vQ (fun hp => (by first | exact .const _ | exact .tmp rfl | exact .cond rfl (by first | assumption | (rw [hp]; rfl) | (rw [hc, hp]; rfl) | simp_all)))) ?_
  refine LW.pp (.pick_or (.t rfl) (fun hp => (by first | exact .const _ | exact .tmp rfl | exact .cond rfl (by first | assumption | (rw [hp]; rfl) | (rw [hc, hp]; rfl) | simp_all)))) ?_
  refine LW.T ?_
  refine CW.cond (.t rfl) (fun h139 => ?_) (fun h139 => ?_)
  ·replace h139 := dQ h139
   have hmy : mostG f ws y = true := by have h5 := h139; unfold mostG hereG; simp at h5 ⊢; simp_all
   refine CW.region (LW.M rfl ?_)
   refine LW.pp (.inc (.t rfl) oQ) ?_
   refine LW.A rfl (LW.S (CW.region ?_))
   refine LW.pp (.loadA isAgg32 sizeOf32 ((BaseC.size hC55)) (.t rfl) ((hS.blk 3 rfl).agg)) ?_
   refine LW.pp (.indexArr (j := 0) underlying37 sizeOf3 (.t rfl) (.const _) cQ) ?_
   refine LW.pp (.ld isAgg3 rfl ((hS.blk 13 rfl).celln rfl)) ?_
   refine LW.pp (.indexArr (j := 1) underlying37 sizeOf3 (.t rfl) (.const _) cQ) ?_
   refine LW.pp (.ld isAgg3 rfl ((hS.blk 13 rfl).celln rfl)) ?_
   refine LW.pp (.indexArr (j := 2) underlying37 sizeOf3 (.t rfl) (.const _) cQ) ?_
   refine LW.pp (.ld isAgg3 rfl ((hS.blk 13 rfl).celln rfl)) ?_
   refine LW.K (eC (.cons (.t rfl) (.cons (.t rfl) (.cons (.t rfl) (.cons (.t rfl) .nil)))) (en16)) rfl (Decisions_any bc55 z1.kb y.t y.c y.r _ (hS.get 2 rfl) (Nat.le_trans (len_ok hz1).1 cQ) (Nat.le_trans (len_ok hz1).2.2.1 cQ) (Nat.le_trans (len_ok hz1).2.1 cQ) (Nat.le_trans (len_ok hz1).2.2.2 cQ)) ?_
   rintro v149 w28 ⟨_, L149, rfl, hm149, hT149⟩
   replace hS := hS.join hT149
   change Wx.Sep _ _ _ [_, _, _, _, _, _, _, _, _, _, _, _, _, _, _, _] at hS
   clear hT149
   refine LW.A rfl (LW.S (CW.region (LW.M rfl ?_)))
   refine LW.pp (.indexArr (j := 0) underlying37 sizeOf3 (.t rfl) (.const _) cQ) ?_
   refine LW.pp (.ld isAgg3 rfl ((hS.blk 13 rfl).celln rfl)) ?_
   refine LW.pp (.indexArr (j := 1) underlying37 sizeOf3 (.t rfl) (.const _) cQ) ?_
   refine LW.pp (.ld isAgg3 rfl ((hS.blk 13 rfl).celln rfl)) ?_
   refine LW.pp (.indexArr (j := 2) underlying37 sizeOf3 (.t rfl) (.const _) cQ) ?_
   refine LW.pp (.ld isAgg3 rfl ((hS.blk 13 rfl).celln rfl)) ?_
   refine LW.K (eC (.cons (.t rfl) (.cons (.t rfl) (.cons (.t rfl) (.cons (.t rfl) .nil)))) (en17)) rfl (EDecs_any z2.E z2.bf z2.bd z2.bc z2.n z2.D z2.kb y.t y.c y.r _ hz2.hbc hyk (len_ok hz2).1 hz2.keys hz2.dks (hS.blk 8 rfl) (hS.get 11 rfl) (hS.get 12 rfl)) ?_
   rintro v157 w29 ⟨_, L157, rfl, hm157, hT157⟩
   replace hS := hS.join hT157
   change Wx.Sep _ _ _ [_, _, _, _, _, _, _, _, _, _, _, _, _, _, _, _, _, _] at hS
   clear hT157
   refine LW.A rfl (LW.S ?_)
   cases hq31 : decide (N = 0) with
   | true =>
    refine CW.region (LW.M rfl ?_)
    refine LW.pp (.tr (PEv.eql (.t rfl) (.const _)) (decide_eq_true (by have h5 := of_decide_eq_true hq31; omega))) ?_
    refine LW.M rfl ?_
    refine LW.Y ?_
    refine LW.M rfl ?_
    refine LW.Y ?_
    refine LW.M rfl ?_
    refine LW.Y ?_
    refine LW.K (eC (.u rfl rfl) (en18)) rfl (sameList_any v149 v157 (desF z1.kb y.t y.c y.r) (desF z2.kb y.t y.c y.r) _ ⟨L149, (hS.own 14 rfl).sl (fun _ => rfl), usesA_get (hS.get 15 rfl), hm149⟩ ⟨L157, (hS.own 16 rfl).sl (fun _ => rfl), usesA_get (hS.get 17 rfl), hm157⟩ (by rw [desF_len]; have h2 := rnsF_len z1.kb y.t y.c y.r; have h3 := (len_ok hz1).1; omega) (fun D hD => by have h1 := desF_uses _ _ _ _ D hD; have h2 := rnsF_len z1.kb y.t y.c y.r; have h3 := (len_ok hz1).1; omega)) ?_
    rintro _ w30 ⟨rfl, uw30⟩
    have zw30 := uw30.size
    replace hS := hS.up uw30
    rw [show sameDs (desF z1.kb y.t y.c y.r) (desF z2.kb y.t y.c y.r) = true by rw [hqt (of_decide_eq_true hq31) y (List.mem_of_getElem? hy)]; exact sameDs_self _]
    refine LW.Y ?_
    refine LW.pp (.not (.t rfl)) ?_
    refine LW.pp (.fa (PEv.pick_and (.t rfl) (fun hp => (by first | exact .const _ | exact .tmp rfl | exact .cond rfl (by first | assumption | (rw [hp]; rfl) | (rw [hc, hp]; rfl) | simp_all)))) (rfl)) ?_
    refine LW.T ?_
    refine CW.cond_false (.t rfl) ?_
    refine CW.skip (KW.inBlock (KW.then (CW.region (LW.M rfl ?_))))
    refine LW.pp (.inc (.t rfl) oQ) ?_
    refine LW.A rfl (LW.nil (KW.round ?_))
    first | exact ⟨(k + 1, mo + 1), ⟨by show k + 1 ≤ _; omega, by show mo + 1 = _; rw [most_yes hy hmy, ← hmo], hS.take 13⟩, ⟨rfl, rfl, rfl, rfl, rfl, rfl, rfl, rfl, rfl, trivial⟩, by show (grpsL z2.kb.Processes).length - (k + 1) < (grpsL z2.kb.Processes).length - k; omega⟩ | exact ⟨(k + 1, mo), ⟨by show k + 1 ≤ _; omega, by show mo = _; rw [most_no hy hmy, ← hmo], hS.take 13⟩, ⟨rfl, rfl, rfl, rfl, rfl, rfl, rfl, rfl, rfl, trivial⟩, by show (grpsL z2.kb.Processes).length - (k + 1) < (grpsL z2.kb.Processes).length - k; omega⟩
   | false =>
    refine CW.region (LW.M rfl ?_)
    refine LW.pp (.fa (PEv.eql (.t rfl) (.const _)) (decide_eq_false (by have h5 := of_decide_eq_false hq31; omega))) ?_
    refine LW.M rfl ?_
    refine LW.N ?_
    refine LW.N ?_
    refine LW.N ?_
    refine LW.N ?_
    refine LW.pp (.fa (PEv.pick_and (b := false) (.t rfl) (fun hp => absurd (show false = true from hp) cQ)) (rfl)) ?_
    refine LW.T ?_
    refine CW.cond_false (.t rfl) ?_
    refine CW.skip (KW.inBlock (KW.then (CW.region (LW.M rfl ?_))))
    refine LW.pp (.inc (.t rfl) oQ) ?_
    refine LW.A rfl (LW.nil (KW.round ?_))
    first | exact ⟨(k + 1, mo + 1), ⟨by show k + 1 ≤ _; omega, by show mo + 1 = _; rw [most_yes hy hmy, ← hmo], hS.take 13⟩, ⟨rfl, rfl, rfl, rfl, rfl, rfl, rfl, rfl, rfl, trivial⟩, by show (grpsL z2.kb.Processes).length - (k + 1) < (grpsL z2.kb.Processes).length - k; omega⟩ | exact ⟨(k + 1, mo), ⟨by show k + 1 ≤ _; omega, by show mo = _; rw [most_no hy hmy, ← hmo], hS.take 13⟩, ⟨rfl, rfl, rfl, rfl, rfl, rfl, rfl, rfl, rfl, trivial⟩, by show (grpsL z2.kb.Processes).length - (k + 1) < (grpsL z2.kb.Processes).length - k; omega⟩
  replace h139 := dQ h139
  have hmy : mostG f ws y = false := by have h5 := h139; unfold mostG hereG; simp at h5 ⊢; simp_all
  refine CW.skip (KW.then (CW.S ?_))
  refine LW.pp (.loadA isAgg32 sizeOf32 ((BaseC.size hC55)) (.t rfl) ((hS.blk 3 rfl).agg)) ?_
  refine LW.pp (.indexArr (j := 0) underlying37 sizeOf3 (.t rfl) (.const _) cQ) ?_
  refine LW.pp (.ld isAgg3 rfl ((hS.blk 13 rfl).celln rfl)) ?_
  refine LW.pp (.indexArr (j := 1) underlying37 sizeOf3 (.t rfl) (.const _) cQ) ?_
  refine LW.pp (.ld isAgg3 rfl ((hS.blk 13 rfl).celln rfl)) ?_
  refine LW.pp (.indexArr (j := 2) underlying37 sizeOf3 (.t rfl) (.const _) cQ) ?_
  refine LW.pp (.ld isAgg3 rfl ((hS.blk 13 rfl).celln rfl)) ?_
  refine LW.K (eC (.cons (.t rfl) (.cons (.t rfl) (.cons (.t rfl) (.cons (.t rfl) .nil)))) (en16)) rfl (Decisions_any bc55 z1.kb y.t y.c y.r _ (hS.get 2 rfl) (Nat.le_trans (len_ok hz1).1 cQ) (Nat.le_trans (len_ok hz1).2.2.1 cQ) (Nat.le_trans (len_ok hz1).2.1 cQ) (Nat.le_trans (len_ok hz1).2.2.2 cQ)) ?_
  rintro v149 w31 ⟨_, L149, rfl, hm149, hT149⟩
  replace hS := hS.join hT149
  change Wx.Sep _ _ _ [_, _, _, _, _, _, _, _, _, _, _, _, _, _, _, _] at hS
  clear hT149
  refine LW.A rfl (LW.S (CW.region (LW.M rfl ?_)))
  refine LW.pp (.indexArr (j := 0) underlying37 sizeOf3 (.t rfl) (.const _) cQ) ?_
  refine LW.pp (.ld isAgg3 rfl ((hS.blk 13 rfl).celln rfl)) ?_
  refine LW.pp (.indexArr (j := 1) underlying37 sizeOf3 (.t rfl) (.const _) cQ) ?_
  refine LW.pp (.ld isAgg3 rfl ((hS.blk 13 rfl).celln rfl)) ?_
  refine LW.pp (.indexArr (j := 2) underlying37 sizeOf3 (.t rfl) (.const _) cQ) ?_
  refine LW.pp (.ld isAgg3 rfl ((hS.blk 13 rfl).celln rfl)) ?_
  refine LW.K (eC (.cons (.t rfl) (.cons (.t rfl) (.cons (.t rfl) (.cons (.t rfl) .nil)))) (en17)) rfl (EDecs_any z2.E z2.bf z2.bd z2.bc z2.n z2.D z2.kb y.t y.c y.r _ hz2.hbc hyk (len_ok hz2).1 hz2.keys hz2.dks (hS.blk 8 rfl) (hS.get 11 rfl) (hS.get 12 rfl)) ?_
  rintro v157 w32 ⟨_, L157, rfl, hm157, hT157⟩
  replace hS := hS.join hT157
  change Wx.Sep _ _ _ [_, _, _, _, _, _, _, _, _, _, _, _, _, _, _, _, _, _] at hS
  clear hT157
  refine LW.A rfl (LW.S ?_)
  cases hq31 : decide (N = 0) with
  | true =>
   refine CW.region (LW.M rfl ?_)
   refine LW.pp (.tr (PEv.eql (.t rfl) (.const _)) (decide_eq_true (by have h5 := of_decide_eq_true hq31; omega))) ?_
   refine LW.M rfl ?_
   refine LW.Y ?_
   refine LW.M rfl ?_
   refine LW.Y ?_
   refine LW.M rfl ?_
   refine LW.Y ?_
   refine LW.K (eC (.u rfl rfl) (en18)) rfl (sameList_any v149 v157 (desF z1.kb y.t y.c y.r) (desF z2.kb y.t y.c y.r) _ ⟨L149, (hS.own 14 rfl).sl (fun _ => rfl), usesA_get (hS.get 15 rfl), hm149⟩ ⟨L157, (hS.own 16 rfl).sl (fun _ => rfl), usesA_get (hS.get 17 rfl), hm157⟩ (by rw [desF_len]; have h2 := rnsF_len z1.kb y.t y.c y.r; have h3 := (len_ok hz1).1; omega) (fun D hD => by have h1 := desF_uses _ _ _ _ D hD; have h2 := rnsF_len z1.kb y.t y.c y.r; have h3 := (len_ok hz1).1; omega)) ?_
   rintro _ w33 ⟨rfl, uw33⟩
   have zw33 := uw33.size
   replace hS := hS.up uw33
   rw [show sameDs (desF z1.kb y.t y.c y.r) (desF z2.kb y.t y.c y.r) = true by rw [hqt (of_decide_eq_true hq31) y (List.mem_of_getElem? hy)]; exact sameDs_self _]
   refine LW.Y ?_
   refine LW.pp (.not (.t rfl)) ?_
   refine LW.pp (.fa (PEv.pick_and (.t rfl) (fun hp => (by first | exact .const _ | exact .tmp rfl | exact .cond rfl (by first | assumption | (rw [hp]; rfl) | (rw [hc, hp]; rfl) | simp_all)))) (rfl)) ?_
   refine LW.T ?_
   refine CW.cond_false (.t rfl) ?_
   refine CW.skip (KW.inBlock (KW.then (CW.region (LW.M rfl ?_))))
   refine LW.pp (.inc (.t rfl) oQ) ?_
   refine LW.A rfl (LW.nil (KW.round ?_))
   first | exact ⟨(k + 1, mo + 1), ⟨by show k + 1 ≤ _; omega, by show mo + 1 = _; rw [most_yes hy hmy, ← hmo], hS.take 13⟩, ⟨rfl, rfl, rfl, rfl, rfl, rfl, rfl, rfl, rfl, trivial⟩, by show (grpsL z2.kb.Processes).length - (k + 1) < (grpsL z2.kb.Processes).length - k; omega⟩ | exact ⟨(k + 1, mo), ⟨by show k + 1 ≤ _; omega, by show mo = _; rw [most_no hy hmy, ← hmo], hS.take 13⟩, ⟨rfl, rfl, rfl, rfl, rfl, rfl, rfl, rfl, rfl, trivial⟩, by show (grpsL z2.kb.Processes).length - (k + 1) < (grpsL z2.kb.Processes).length - k; omega⟩
  | false =>
   refine CW.region (LW.M rfl ?_)
   refine LW.pp (.fa (PEv.eql (.t rfl) (.const _)) (decide_eq_false (by have h5 := of_decide_eq_false hq31; omega))) ?_
   refine LW.M rfl ?_
   refine LW.N ?_
   refine LW.N ?_
   refine LW.N ?_
   refine LW.N ?_
   refine LW.pp (.fa (PEv.pick_and (b := false) (.t rfl) (fun hp => absurd (show false = true from hp) cQ)) (rfl)) ?_
   refine LW.T ?_
   refine CW.cond_false (.t rfl) ?_
   refine CW.skip (KW.inBlock (KW.then (CW.region (LW.M rfl ?_))))
   refine LW.pp (.inc (.t rfl) oQ) ?_
   refine LW.A rfl (LW.nil (KW.round ?_))
   first | exact ⟨(k + 1, mo + 1), ⟨by show k + 1 ≤ _; omega, by show mo + 1 = _; rw [most_yes hy hmy, ← hmo], hS.take 13⟩, ⟨rfl, rfl, rfl, rfl, rfl, rfl, rfl, rfl, rfl, trivial⟩, by show (grpsL z2.kb.Processes).length - (k + 1) < (grpsL z2.kb.Processes).length - k; omega⟩ | exact ⟨(k + 1, mo), ⟨by show k + 1 ≤ _; omega, by show mo = _; rw [most_no hy hmy, ← hmo], hS.take 13⟩, ⟨rfl, rfl, rfl, rfl, rfl, rfl, rfl, rfl, rfl, trivial⟩, by show (grpsL z2.kb.Processes).length - (k + 1) < (grpsL z2.kb.Processes).length - k; omega⟩
 replace h89 := dQ h89
 refine CW.exit (KW.then_exit (KW.then_exit (KW.block_hit (KW.then (CW.seq (CW.seq ?_))))))
 have hkl : k = (grpsL z2.kb.Processes).length := by omega
 rw [hkl, List.take_length] at hmo
 refine CW.region ?_
 refine LW.pp (.fA 0 underlying24 rfl sizeOf3 rfl) ?_
 refine LW.pp (.ld isAgg3 rfl ((hS.blk 1 rfl).celln rfl)) ?_
 refine LW.T (CW.block (CW.S ?_))
 refine LW.pp (.eql (.t rfl) (.const _)) ?_
 refine LW.A rfl (LW.T ?_)
 refine CW.cond (.t rfl) (fun h168 => ?_) (fun h168 => ?_)
 ·replace h168 := dQ h168
  have hmx : N ≤ 2 := by have h5 : f.Kind = 1 := h168; have h6 := hloc; unfold mostN at h6; rwa [if_pos h5] at h6
  refine CW.region (LW.C (LW.nil (KW.inBlock (KW.then (CW.S (LW.M rfl (LW.M rfl ?_)))))))
  refine LW.g rfl rfl rfl rfl rfl rfl rfl (fun hc => PEv.move (.t rfl)) ?_
  refine LW.g rfl rfl rfl rfl rfl rfl rfl (fun hc => PEv.tr (PEv.geq vQ (.const _)) (decide_eq_true oQ)) ?_
  refine LW.pp (.pick_and (.t rfl) (fun hp => (by first | exact .const _ | exact .tmp rfl | exact .cond rfl (by first | assumption | (rw [hp]; rfl) | (rw [hc, hp]; rfl) | simp_all)))) ?_
  refine LW.M rfl ?_
  refine LW.g rfl rfl rfl rfl rfl rfl rfl (fun hc => PEv.move (.t rfl)) ?_
  refine LW.g rfl rfl rfl rfl rfl rfl rfl (fun hc => PEv.move (.t rfl)) ?_
  refine LW.g rfl rfl rfl rfl rfl rfl rfl (fun hc => PEv.tr (PEv.leq vQ vQ) (decide_eq_true oQ)) ?_
  refine LW.pp (.pick_and (.t rfl) (fun hp => (by first | exact .const _ | exact .tmp rfl | exact .cond rfl (by first | assumption | (rw [hp]; rfl) | (rw [hc, hp]; rfl) | simp_all)))) ?_
  refine LW.M rfl ?_
  refine LW.g rfl rfl rfl rfl rfl rfl rfl (fun hc => PEv.move (.t rfl)) ?_
  refine LW.g rfl rfl rfl rfl rfl rfl rfl (fun hc => PEv.move (.t rfl)) ?_
  refine LW.g rfl rfl rfl rfl rfl rfl rfl (fun hc => PEv.lenS underlying34 vQ) ?_
  refine LW.g rfl rfl rfl rfl rfl rfl rfl (fun hc => PEv.tr (PEv.leq vQ vQ) (decide_eq_true oQ)) ?_
  refine LW.pp (.pick_and (.t rfl) (fun hp => (by first | exact .const _ | exact .tmp rfl | exact .cond rfl (by first | assumption | (rw [hp]; rfl) | (rw [hc, hp]; rfl) | simp_all)))) ?_
  refine LW.A rfl (LW.T (CW.ret ?_))
  refine KW.ret1 rfl rfl ⟨_, rfl, ?_⟩
  exact ⟨rfl, hS.upd⟩
 replace h168 := dQ h168
 refine CW.S ?_
 refine LW.pp (.eql (.t rfl) (.const _)) ?_
 refine LW.A rfl (LW.T ?_)
 refine CW.cond (.t rfl) (fun h170 => ?_) (fun h170 => ?_)
 ·replace h170 := dQ h170
  have hmx : N ≤ 1 := by have h4 : ¬ f.Kind = 1 := h168; have h5 : f.Kind = 2 := h170; have h6 := hloc; unfold mostN at h6; rwa [if_neg h4, if_pos h5] at h6
  refine CW.region (LW.C (LW.nil (KW.inBlock (KW.then (CW.S (LW.M rfl (LW.M rfl ?_)))))))
  refine LW.g rfl rfl rfl rfl rfl rfl rfl (fun hc => PEv.move (.t rfl)) ?_
  refine LW.g rfl rfl rfl rfl rfl rfl rfl (fun hc => PEv.tr (PEv.geq vQ (.const _)) (decide_eq_true oQ)) ?_
  refine LW.pp (.pick_and (.t rfl) (fun hp => (by first | exact .const _ | exact .tmp rfl | exact .cond rfl (by first | assumption | (rw [hp]; rfl) | (rw [hc, hp]; rfl) | simp_all)))) ?_
  refine LW.M rfl ?_
  refine LW.g rfl rfl rfl rfl rfl rfl rfl (fun hc => PEv.move (.t rfl)) ?_
  refine LW.g rfl rfl rfl rfl rfl rfl rfl (fun hc => PEv.move (.t rfl)) ?_
  refine LW.g rfl rfl rfl rfl rfl rfl rfl (fun hc => PEv.tr (PEv.leq vQ vQ) (decide_eq_true oQ)) ?_
  refine LW.pp (.pick_and (.t rfl) (fun hp => (by first | exact .const _ | exact .tmp rfl | exact .cond rfl (by first | assumption | (rw [hp]; rfl) | (rw [hc, hp]; rfl) | simp_all)))) ?_
  refine LW.M rfl ?_
  refine LW.g rfl rfl rfl rfl rfl rfl rfl (fun hc => PEv.move (.t rfl)) ?_
  refine LW.g rfl rfl rfl rfl rfl rfl rfl (fun hc => PEv.move (.t rfl)) ?_
  refine LW.g rfl rfl rfl rfl rfl rfl rfl (fun hc => PEv.lenS underlying34 vQ) ?_
  refine LW.g rfl rfl rfl rfl rfl rfl rfl (fun hc => PEv.tr (PEv.leq vQ vQ) (decide_eq_true oQ)) ?_
  refine LW.pp (.pick_and (.t rfl) (fun hp => (by first | exact .const _ | exact .tmp rfl | exact .cond rfl (by first | assumption | (rw [hp]; rfl) | (rw [hc, hp]; rfl) | simp_all)))) ?_
  refine LW.A rfl (LW.T (CW.ret ?_))
  refine KW.ret1 rfl rfl ⟨_, rfl, ?_⟩
  exact ⟨rfl, hS.upd⟩
 replace h170 := dQ h170
 have hmx : N ≤ mo := by have h4 : ¬ f.Kind = 1 := h168; have h5 : ¬ f.Kind = 2 := h170; have h6 := hloc; unfold mostN at h6; rwa [if_neg h4, if_neg h5, ← hmo] at h6
 refine CW.skip (KW.inBlock (KW.then (CW.S (LW.M rfl (LW.M rfl ?_)))))
 refine LW.g rfl rfl rfl rfl rfl rfl rfl (fun hc => PEv.move (.t rfl)) ?_
 refine LW.g rfl rfl rfl rfl rfl rfl rfl (fun hc => PEv.tr (PEv.geq vQ (.const _)) (decide_eq_true oQ)) ?_
 refine LW.pp (.pick_and (.t rfl) (fun hp => (by first | exact .const _ | exact .tmp rfl | exact .cond rfl (by first | assumption | (rw [hp]; rfl) | (rw [hc, hp]; rfl) | simp_all)))) ?_
 refine LW.M rfl ?_
 refine LW.g rfl rfl rfl rfl rfl rfl rfl (fun hc => PEv.move (.t rfl)) ?_
 refine LW.g rfl rfl rfl rfl rfl rfl rfl (fun hc => PEv.move (.t rfl)) ?_
 refine LW.g rfl rfl rfl rfl rfl rfl rfl (fun hc => PEv.tr (PEv.leq vQ vQ) (decide_eq_true oQ)) ?_
 refine LW.pp (.pick_and (.t rfl) (fun hp => (by first | exact .const _ | exact .tmp rfl | exact .cond rfl (by first | assumption | (rw [hp]; rfl) | (rw [hc, hp]; rfl) | simp_all)))) ?_
 refine LW.M rfl ?_
 refine LW.g rfl rfl rfl rfl rfl rfl rfl (fun hc => PEv.move (.t rfl)) ?_
 refine LW.g rfl rfl rfl rfl rfl rfl rfl (fun hc => PEv.move (.t rfl)) ?_
 refine LW.g rfl rfl rfl rfl rfl rfl rfl (fun hc => PEv.lenS underlying34 vQ) ?_
 refine LW.g rfl rfl rfl rfl rfl rfl rfl (fun hc => PEv.tr (PEv.leq vQ vQ) (decide_eq_true oQ)) ?_
 refine LW.pp (.pick_and (.t rfl) (fun hp => (by first | exact .const _ | exact .tmp rfl | exact .cond rfl (by first | assumption | (rw [hp]; rfl) | (rw [hc, hp]; rfl) | simp_all)))) ?_
 refine LW.A rfl (LW.T (CW.ret ?_))
 refine KW.ret1 rfl rfl ⟨_, rfl, ?_⟩
 exact ⟨rfl, hS.upd⟩
end Go.Proofs.YtbbpkdlehlamlaaGreatDoor
end
