import Derived.Test.YtbbpkdlehlamlaaGreatDoorKR219
import Derived.Sort.OwnSortedInts
section
namespace Go.Wx
theorem flat_int (ks : List Int) : ks.flatMap (fun x => (eInt x).toList) = ks.map vi := by
 induction ks with
 | nil => rfl
 | cons k ks ih => rw [List.flatMap_cons, ih]; rfl
def isLate (kb : Base) (id : Int) : Bool := decide ((expF kb id).2.2 = 0) && !(expF kb id).2.1
def lateP (kb : Base) (l : List Fact) : List Int := (l.filter fun p => isLate kb p.ID).map (·.ID)
def lateL (kb : Base) : List Int := (lateP kb kb.Processes).mergeSort fun x y => decide (x ≤ y)
theorem late_yes {kb : Base} {l : List Fact} {i : Nat} {x : Fact} (h : l[i]? = some x) (hx : isLate kb x.ID = true) : lateP kb (l.take (i + 1)) = lateP kb (l.take i) ++ [x.ID] := by
 unfold lateP
 rw [List.take_add_one, h, Option.toList_some, List.filter_append, List.map_append]
 simp [hx]
theorem late_no {kb : Base} {l : List Fact} {i : Nat} {x : Fact} (h : l[i]? = some x) (hx : isLate kb x.ID = false) : lateP kb (l.take (i + 1)) = lateP kb (l.take i) := by
 unfold lateP
 rw [List.take_add_one, h, Option.toList_some, List.filter_append, List.map_append]
 simp [hx]
theorem late_len (kb : Base) (l : List Fact) (i : Nat) : (lateP kb (l.take i)).length ≤ l.length := by
 unfold lateP
 rw [List.length_map]
 exact Nat.le_trans (List.length_filter_le _ _) (by rw [List.length_take]; omega)
theorem sl_els {α : Type} {w : World} {ad : Option Addr} {n c k : Nat} {enc : α → Array Go.Value} {xs : List α} (h : Sl w (.slice ad n c) k enc xs) : Els w ad k enc xs := by
 obtain ⟨a, c', e, he⟩ := h
 cases e
 exact he
theorem des_none {b : Base} {t c r : Int} (h : ∀ p ∈ b.Processes, gof p ≠ ⟨t, c, r⟩) : desF b t c r = [] := by
 have : rnsF b t c r = [] := List.eq_nil_iff_forall_not_mem.2 fun x hx => by
   obtain ⟨h1, h2, h3, h4⟩ := rns_mem.1 hx
   exact h x h1 (by unfold gof; rw [h2, h3, h4])
 unfold desF
 rw [this]
 rfl
end Go.Wx
namespace Go.Proofs.YtbbpkdlehlamlaaGreatDoor
open Go.Proofs.Tryz
open Go.Wx Go.RowKit
theorem sortS_any (v : Go.Value) (ks : List Int) (w : World) (h : OwnS w 0 3 1 eInt v ks) (hlen : ks.length < 4611686018427387904) : Ret Tryz.prog 53 #[v] w fun r w' => r = .tuple #[] ∧ Stp (aOwn 3 1 eInt v ks) (aOwn 3 1 eInt v (ks.mergeSort fun x y => decide (x ≤ y))) w w' := by
 have h0 := h
 obtain ⟨h1, ⟨rfl, hn⟩ | ⟨g, cap, cur, rfl, hg, hb, h2, h3, h4, h5⟩⟩ := h
 · have hks : ks = [] := List.eq_nil_of_length_eq_zero hn
   subst hks
   refine Calls.mono (Tryz.slices_Sort_int_none none 0 w) ?_
   rintro e' w' ⟨rfl, rfl⟩
   exact ⟨_, rfl, rfl, Fr.refl _ _, show OwnS w' 0 3 1 eInt (.slice none 0 0) (List.mergeSort [] _) from by simpa using h0, fun _ h => .inl h⟩
 rw [flat_int] at h5
 have hl : g < w.heap.size := lt_of_block hb
 refine Calls.mono (Tryz.slices_Sort_int g 0 cap ks w (Go.holds_of_blockI hb (by simpa using h5)) hl hlen) ?_
 rintro e' w' ⟨rfl, n, os, rfl⟩
 have hg2 := Go.grownBy_sortedI (w := w) (g := g) (n := n) (os := os) (ks.mergeSort fun x y => decide (x ≤ y)).toArray
 have ho := Go.ownsRow_sortedI (w := w) (n := n) (os := os) (ss := ks) (ts := ks.mergeSort fun x y => decide (x ≤ y)) (by simp) hg hb h2 h3 h4
 refine ⟨_, rfl, rfl, ⟨hg2.os, hg2.tape, hg2.output, hg2.size, fun i hi hn => hg2.block i hi (fun e => hn (by cases e; rfl))⟩, ?_, fun _ h => .inl h⟩
 show World.ownsRow _ _ _ _ _ _ _
 rw [flat_int, List.length_mergeSort]
 exact ho
theorem cloneI_any (ad : Option Addr) (cp : Nat) (l : List Int) (w : World) (hE0 : Els w ad 1 eInt l) (hl : l.length ≤ 1000000000) : Ret Tryz.prog 45 #[.slice ad l.length cp] w fun r w' => OwnS w' w.heap.size 3 1 eInt r l ∧ Up w w' := by
 obtain ⟨w0, rfl⟩ : ∃ w0, w0 = w := ⟨_, rfl⟩
 have hS := Sep.start no w0
 refine cS (n := 8) (m := 9) func45 rfl rfl rfl (CW.S (LW.C (LW.S (CW.S (LW.M rfl (LW.pp (.eqlNilS underlying46 (.t rfl)) (LW.T (CW.cond (.t rfl) (fun h4 => ?_) (fun h4 => ?_)))))))))
 ·have hnil : l = [] := by cases l with | nil => rfl | cons x r => (obtain ⟨B, o, e, _⟩ := hE0 0 x rfl; rw [e] at h4; cases h4)
  refine CW.S (LW.C (LW.T (CW.ret (KW.then_ret (KW.ret1 rfl rfl ⟨_, rfl, ?_⟩)))))
  (subst hnil; exact ⟨OwnS.nil _ _ _ _ _, hS.upd⟩)
 refine CW.skip (KW.then (CW.S (LW.rr (.buildSlice (xs := ([] : List Int)) (enc := eInt) (mk := vi) underlying46 sizeOf3 zeroValue3 rfl cQ (fun _ => rfl) (fun _ => rfl) .nil rfl) rfl ?_)))
 intro v5 w1 hN5
 obtain ⟨uw1, B5, rfl, hO5⟩ := NewSl.own0 hN5 (Nat.le_refl _)
 replace hS := hS.add uw1 (A' := aOwn 3 1 eInt (.slice (some ⟨B5, 0, none⟩) 0 0) ([] : List Int)) (hO5.mono (Nat.zero_le _)) (fun i h => hO5.base i h)
 refine LW.M rfl (LW.rr (.appendF (enc := eInt) (bytes := 8) (i := Tryz.t3) underlying46 kQ rfl rfl rfl rfl cQ (fun _ => rfl) eInt_one (.t rfl) (.t rfl) (hS.own 0 rfl) (Sl.of_els (Els.up hE0 hS.upd)) (by simp [maxLen]; omega) (by simp; omega)) rfl ?_)
 intro v7 w2 Gw2
 replace hS := hS.stp 0 rfl Gw2
 refine LW.A rfl (LW.T (CW.ret (KW.ret1 rfl rfl ⟨_, rfl, ?_⟩)))
 exact ⟨(hS.own 0 rfl).rebase (fun i h => (hS.foot 0 rfl i h).resolve_left (fun h => h)), hS.upd⟩
theorem ELate_any (E bf bd : Nat) (bc : Array Go.Value) (nw : Int) (kb : Base) (w : World) (hbc : bc.size = 11) (hE : Blk w E (EC bf bc bd nw) 80) (hC : BaseC w bc kb) (hlP : kb.Processes.length ≤ 100) (hlM : kb.Measures.length ≤ 100) (hlR : kb.Resets.length ≤ 100) (hlT : kb.Targets.length ≤ 100) (hV : ∀ f ∈ kb.Processes, inI f.Value) : Ret Tryz.prog 21 #[.pointer (some ⟨E, 0, none⟩)] w fun r w' => OwnS w' w.heap.size 3 1 eInt r (lateL kb) ∧ Up w w' := by
 obtain ⟨w0, rfl⟩ : ∃ w0, w0 = w := ⟨_, rfl⟩
 have hS := Sep.start no w0
 refine cS (n := 46) (m := 9) func21 rfl rfl rfl (CW.S (LW.C (LW.S (CW.S (LW.M rfl (LW.pp (.fa (PEv.eqlNil underlying28 (.t rfl)) (rfl)) (LW.T (CW.cond_false (.t rfl) (CW.skip (KW.then (CW.seq (CW.seq ?_))))))))))))
 obtain ⟨_, hvp, adp, cpp, rfl, hEp0⟩ := BaseC.at_ hC (j := 0) cQ
 replace hvp : bc[0]? = some (.slice adp kb.Processes.length cpp) := hvp
 have hEp : Els _ adp 19 Fact.cells kb.Processes := hEp0
 replace hS := hS.addn (OwnS.nil _ 0 3 1 eInt)
 refine CW.region (LW.M rfl (LW.pp (.nilCheck (.t rfl)) (LW.pp (.fA 1 underlying80 rfl sizeOf32 rfl) (LW.pp (.fA 0 underlying32 rfl sizeOf26 rfl) (LW.pp (.ld isAgg26 rfl (EC_lst (hE.up hS.upd) hvp)) (LW.pp (.lenS underlying26 (.t rfl)) (LW.pp (.move (.const _)) (LW.T (CW.block (CW.loopB (σ := Nat × Go.Value) (fun s w => (s.1 ≤ kb.Processes.length) ∧ (Wx.Sep no w0 w [aOwn 3 1 eInt s.2 (lateP kb (kb.Processes.take s.1))])) (fun s => [(16, .eq (vi (s.1 : Int))), (2, .eq (s.2))]) ([(0, .eq _), (14, .eq _), (15, .eq _)]) (fun s => kb.Processes.length - s.1) (0, .slice none 0 0) ?_ ⟨rfl, rfl, rfl, rfl, rfl, trivial⟩ ?_))))))))))
 ·exact ⟨Nat.zero_le _, hS⟩
 rintro ⟨i, v⟩ w1 ⟨hi, hS⟩
 change CW _ _ _ _ _ _ _ ([(16, .eq (vi (i : Int))), (2, .eq (v))] ++ _) _
 refine CW.seq ?_
 skip
 refine CW.region (LW.pp (.lss (.t rfl) (.t rfl)) (LW.S (CW.cond (.t rfl) (fun h17 => ?_) (fun h17 => ?_))))
 ·replace h17 := dQ h17
  refine CW.skip (KW.then (CW.seq (CW.block (CW.seq ?_))))
  have hil : i < kb.Processes.length := by omega
  obtain ⟨x, hx⟩ : ∃ x, kb.Processes[i]? = some x := ⟨_, List.getElem?_eq_getElem hil⟩
  obtain ⟨Bx, ox, ax, hcx⟩ := (Els.up hEp hS.upd) i x hx
  have hll := late_len kb kb.Processes i
  refine CW.region (LW.pp (.indexAddr' underlying26 sizeOf24 (j := i) (.t rfl) (.t rfl) oQ ax) (LW.pp (.la isAgg24 sizeOf24 rfl (hcx)) (LW.rr (.allocA zeroValue24) rfl ?_)))
  rintro _ w2 ⟨B4, rfl, MB4⟩
  refine LW.E (.storeA sizeOf24 rfl (.t rfl) (.t rfl) (Fact.one _) MB4.blk rfl) ?_
  intro w3 LB4
  have NB4 := MB4.set LB4
  replace hS := hS.addB NB4
  refine LW.S (CW.boxU 15 11 12 8 5 28 (DP.cells ⟨dec0, none, 0⟩) [.eq (.pointer (some ⟨E, 0, none⟩)), .eq (.pointer (some ⟨E, 0, none⟩)), .eq (.pointer (some ⟨E, 1, none⟩)), .eq (.agg bc), .eq (.pointer (some ⟨B4, 1, none⟩)), .eq (vi x.ID), .pred (fun v _ => ∃ ad cp, v = .tuple #[.agg (DP.cells ⟨(expF kb x.ID).1, ad, cp⟩), .bool (expF kb x.ID).2.1, vi (expF kb x.ID).2.2]), .pred (fun v _ => ∃ ad cp, v = .tuple #[.agg (DP.cells ⟨(expF kb x.ID).1, ad, cp⟩), .bool (expF kb x.ID).2.1, vi (expF kb x.ID).2.2]), .pred (fun v _ => ∃ ad cp, v = .agg (DP.cells ⟨(expF kb x.ID).1, ad, cp⟩)), .eq (.bool (expF kb x.ID).2.1), .eq (vi (expF kb x.ID).2.2), .pred fun v _ => ∃ B, v = .pointer (some ⟨B, 0, none⟩), .eq undef, .eq (.bool (expF kb x.ID).2.1), .eq (vi (expF kb x.ID).2.2)] [6, 7] zeroValue48 sizeOf48 kQ rfl kQ kQ kQ kQ kQ kQ kQ rfl rfl ⟨_, _, _, rfl⟩ _ rfl ⟨_, _, _, rfl⟩ ⟨PhT.eq _ _, PhT.eq _ _, PhT.eq _ _, PhT.eq _ _, PhT.eq _ _, PhT.eq _ _, PhT.pred fun _ _ _ h _ => h, PhT.pred fun _ _ _ h _ => h, PhT.pred fun _ _ _ h _ => h, PhT.eq _ _, PhT.eq _ _, PhT.pred fun _ _ _ h _ => h, PhT.eq _ _, PhT.eq _ _, PhT.eq _ _, trivial⟩ rfl (fun v W h => let ⟨ad, cp, e⟩ := h; ⟨_, e, rfl, DP.one _⟩) (fun B W => ⟨B, rfl⟩) ?_ ?_)
  ·intro W hU0
   have hU := (Up.drew w3).trans hU0
   have hSW := hS.up hU
   have hEW := hE.up hSW.upd
   have hCW := BaseC.up hC hSW.upd
   refine aC (.inr ⟨rfl, TU.p (.move (.t rfl)) rfl⟩) (aC (.inr ⟨rfl, TU.p (.nilCheck (.t rfl)) rfl⟩) (aC (.inr ⟨rfl, TU.p (.fA 1 underlying80 rfl sizeOf32 rfl) rfl⟩) (aC (.inr ⟨rfl, TU.p (.loadA isAgg32 sizeOf32 hbc (.t rfl) (EC_known hEW)) rfl⟩) (aC (.inr ⟨rfl, TU.p (.fA 1 underlying24 rfl sizeOf3 rfl) rfl⟩) (aC (.inr ⟨rfl, TU.p (.ld isAgg3 rfl ((hSW.blk 1 rfl).celln rfl)) rfl⟩) (aC (.inr ⟨rfl, TU.c (eC (.u rfl rfl) (en22)) (Explain_any bc kb x.ID W hCW oQ oQ oQ oQ hV) (by rintro _ W1 ⟨v, rfl, ⟨ad, cp, rfl, _⟩, u⟩; exact ⟨u, ad, cp, rfl⟩)⟩) (aC (.inr ⟨rfl, TU.open (d := 27) rfl fun v hv => TU.p (.move (.t rfl)) hv⟩) (aC (.inr ⟨rfl, TU.open (d := 20) rfl fun v hv => by obtain ⟨ad, cp, rfl⟩ := hv; exact TU.p (.extract (.t rfl) rfl) ⟨ad, cp, rfl⟩⟩) (aC (.inr ⟨rfl, TU.open (d := 20) rfl fun v hv => by obtain ⟨ad, cp, rfl⟩ := hv; exact TU.p (.extract (.t rfl) rfl) rfl⟩) (aC (.inr ⟨rfl, TU.open (d := 20) rfl fun v hv => by obtain ⟨ad, cp, rfl⟩ := hv; exact TU.p (.extract (.t rfl) rfl) rfl⟩) (aC (.inl (.inl rfl)) (aC (.inl (.inr rfl)) (aC (.inr ⟨rfl, TU.p (.assign (.t rfl)) rfl⟩) (aC (.inr ⟨rfl, TU.p (.assign (.t rfl)) rfl⟩) ?_))))))))))))))
   exact allL.nil
  intro w4 B5 g hU0 zB5_ _ hg
  have hU := (Up.drew w3).trans hU0
  have e6 : g 6 = .bool (expF kb x.ID).2.1 := hg 13 _ 6 cQ rfl rfl
  have e7 : g 7 = vi (expF kb x.ID).2.2 := hg 14 _ 7 cQ rfl rfl
  change LW _ _ _ _ _ _ _ _ ((5, _) :: (6, .eq (g 6)) :: (7, .eq (g 7)) :: _) _
  rw [e6, e7]
  replace hS := hS.up hU
  refine LW.S (CW.region (LW.M rfl (LW.pp (.eql (.t rfl) (.const _)) (LW.M rfl (LW.g rfl rfl rfl rfl rfl rfl rfl (fun hc => PEv.move (.t rfl)) (LW.g rfl rfl rfl rfl rfl rfl rfl (fun hc => PEv.not vQ) (LW.pp (.pick_and (.t rfl) (fun hp => (by exact .cond rfl (by simp_all)))) (LW.T (CW.cond (.t rfl) (fun h36 => ?_) (fun h36 => ?_))))))))))
  ·replace h36 := dQ h36
   refine CW.region (LW.M rfl (LW.pp (.fA 1 underlying24 rfl sizeOf3 rfl) (LW.pp (.ld isAgg3 rfl ((hS.blk 1 rfl).celln rfl)) (LW.rr (.buildSlice (xs := [x.ID]) (enc := eInt) (mk := vi) underlying46 sizeOf3 zeroValue3 rfl cQ (fun _ => rfl) (fun _ => rfl) (.cons (.t rfl) .nil) rfl) rfl ?_))))
   rintro _ w5 ⟨B40, cB40, rfl, NB40, yB40, xB40⟩
   replace hS := hS.up NB40.up
   have hE40 := xB40
   refine LW.rr (.appendF (enc := eInt) (bytes := 8) (i := Tryz.t3) underlying46 kQ rfl rfl rfl rfl cQ (fun _ => rfl) eInt_one (.t rfl) (.t rfl) (hS.own 0 rfl) (Sl.of_els hE40) (by simp [maxLen]; omega) (by simp; omega)) rfl ?_
   intro v41 w6 Gw6
   replace hS := hS.stp 0 rfl Gw6
   refine LW.A rfl (LW.nil (KW.inBlock (KW.then (CW.region (LW.pp (.inc (.t rfl) oQ) (LW.M rfl (LW.nil (KW.round ?_))))))))
   exact ⟨(i + 1, v41), ⟨by show i + 1 ≤ _; omega, by rw [late_yes hx (by simpa [isLate] using h36)]; exact hS.take 1⟩, ⟨rfl, rfl, rfl, rfl, rfl, trivial⟩, by show kb.Processes.length - (i + 1) < kb.Processes.length - i; omega⟩
  replace h36 := dQ h36
  refine CW.skip (KW.inBlock (KW.then (CW.region (LW.pp (.inc (.t rfl) oQ) (LW.M rfl (LW.nil (KW.round ?_)))))))
  exact ⟨(i + 1, v), ⟨by show i + 1 ≤ _; omega, by rw [late_no hx (by simpa [isLate] using h36)]; exact hS.take 1⟩, ⟨rfl, rfl, rfl, rfl, rfl, trivial⟩, by show kb.Processes.length - (i + 1) < kb.Processes.length - i; omega⟩
 replace h17 := dQ h17
 refine CW.exit (KW.then_exit (KW.then_exit (KW.block_hit (KW.then (CW.seq ?_)))))
 have hie : i = kb.Processes.length := by omega
 rw [hie, List.take_length] at hS
 refine CW.region (LW.M rfl (LW.K (eC (.o rfl) (en53)) rfl (sortS_any _ _ _ (hS.own 0 rfl) (by have := late_len kb kb.Processes kb.Processes.length; rw [List.take_length] at this; omega)) ?_))
 rintro _ w7 ⟨rfl, uw7⟩
 replace hS := hS.stp 0 rfl uw7
 refine LW.S (CW.region (LW.M rfl (LW.A rfl (LW.T (CW.ret (KW.ret1 rfl rfl ⟨_, rfl, ?_⟩))))))
 exact ⟨(hS.own 0 rfl).rebase (fun i h => (hS.foot 0 rfl i h).resolve_left (fun h => h)), hS.upd⟩
end Go.Proofs.YtbbpkdlehlamlaaGreatDoor
end
section
namespace Go.Wx
theorem lookG_of {b : Base} {t c r : Int} : (∃ p ∈ b.Processes, gof p = ⟨t, c, r⟩) ∨ desF b t c r = [] := by
 by_cases h : ∃ p ∈ b.Processes, gof p = ⟨t, c, r⟩
 · exact .inl h
 exact .inr (des_none fun p hp e => h ⟨p, hp, e⟩)
end Go.Wx
namespace Go.Proofs.YtbbpkdlehlamlaaGreatDoor
open Go.Proofs.Tryz
open Go.Wx Go.RowKit
theorem lookD {D : List DE} {kb : Base} {bd : Nat} {w : World} (hM : Mk.IMap grpK w bd (D.map DE.kv)) (hDD : (aDD D).holds w) (hk : ∀ g, g ∈ D.map (·.g) ↔ ∃ p ∈ kb.Processes, gof p = g) (hd : ∀ e ∈ D, dk kb e) (t c r : Int) (ho : inI t ∧ inI c ∧ inI r) : ∃ ad cp L, (∀ (n : Nat) (ds : List Deferred) (l : Env) (d : Option Tmp) (ty : TypeId) (ps : String) (af : Array Edge) (g : Option (Nat × Bool)) (mo x : Operand), Val l mo (.map (some bd)) → Val l x (.agg (Grp.mk t c r).cells) → PEv Tryz.prog n ds l w ⟨d, .lookup 78 mo x false, ty, ps, af, g⟩ (.slice ad (List.length (α := DP) L) cp)) ∧ Els w ad 6 DP.cells L ∧ (∀ p ∈ L, Sl w p.uv 1 eInt p.dec.uses) ∧ L.map DP.dec = desF kb t c r := by
 by_cases h : (Grp.mk t c r) ∈ D.map (·.g)
 · obtain ⟨e, he, hg⟩ := List.mem_map.1 h
   have hA : (aDs e).holds w := hDD.1 _ (List.mem_map.2 ⟨e, he, rfl⟩)
   have hO : OwnS w 0 48 6 DP.cells e.v e.L := hA.1 _ List.mem_cons_self
   have hU : (aAnd (usesA 3 e.L)).holds w := hA.1 _ (List.mem_cons_of_mem _ List.mem_cons_self)
   obtain ⟨ad, cp, hv, hE⟩ := hO.sl (fun _ => rfl)
   refine ⟨ad, cp, e.L, fun n ds l d ty ps af g mo x hm hx => ?_, hE, usesA_get hU, ?_⟩
   · exact Mk.PEv.lookupYes (Q := grpK) (ok := false) (v := .slice ad e.L.length cp) underlying78 grpLaw (show grpK.ok (Grp.mk t c r) from ho) hm hx hM (List.mem_map.2 ⟨e, he, by unfold DE.kv; rw [hg, hv]⟩)
   have := hd e he
   unfold dk at this
   rw [hg] at this
   exact this
 refine ⟨none, 0, [], fun n ds l d ty ps af g mo x hm hx => ?_, fun i x hx => (by simp at hx), fun _ h => (by cases h), ?_⟩
 · exact Mk.PEv.lookupNo (Q := grpK) (ok := false) underlying78 grpLaw (show grpK.ok (Grp.mk t c r) from ho) zeroValue38 hm hx hM (by rw [kv_keys]; exact h)
 rcases lookG_of (b := kb) (t := t) (c := c) (r := r) with h1 | h1
 · exact absurd ((hk _).2 h1) h
 rw [h1]; rfl
theorem EDecs_any (E bf bd : Nat) (bc : Array Go.Value) (nw : Int) (D : List DE) (kb : Base) (t c r : Int) (w : World) (hbc : bc.size = 11) (ho : inI t ∧ inI c ∧ inI r) (hlP : kb.Processes.length ≤ 100) (hk : ∀ g, g ∈ D.map (·.g) ↔ ∃ p ∈ kb.Processes, gof p = g) (hd : ∀ e ∈ D, dk kb e) (hE : Blk w E (EC bf bc bd nw) 80) (hM : Mk.IMap grpK w bd (D.map DE.kv)) (hDD : (aDD D).holds w) : Ret Tryz.prog 17 #[.pointer (some ⟨E, 0, none⟩), vi t, vi c, vi r] w fun r0 w' => ∃ v L, r0 = v ∧ L.map DP.dec = desF kb t c r ∧ Wx.Sep no w w' [aOwn 48 6 DP.cells v L, aAnd (usesA 3 L)] := by
 obtain ⟨w0, rfl⟩ : ∃ w0, w0 = w := ⟨_, rfl⟩
 have hS := Sep.start no w0
 refine cS (n := 37) (m := 9) func17 rfl rfl rfl (CW.S (LW.C (LW.S (CW.S (LW.M rfl (LW.pp (.fa (PEv.eqlNil underlying28 (.t rfl)) (rfl)) (LW.T (CW.cond_false (.t rfl) (CW.skip (KW.then (CW.seq (CW.seq ?_))))))))))))
 obtain ⟨ad0, cp0, Ls, hlk, hEl, hUs, hdec⟩ := lookD (Mk.IMap.up hM hS.upd) ((aDD D).keep _ _ hDD (fun _ _ hl => hS.upd.block hl) hS.upd.size) hk hd t c r ho
 have hLn : Ls.length ≤ 100 := by have h1 := desF_len kb t c r; have h2 := rnsF_len kb t c r; rw [← hdec, List.length_map] at h1; omega
 have huse : ∀ x ∈ Ls, x.dec.uses.length ≤ 1000000000 := fun x hx => by have h1 := desF_uses kb t c r x.dec (by rw [← hdec]; exact List.mem_map.2 ⟨x, hx, rfl⟩); have h2 := rnsF_len kb t c r; omega
 replace hS := hS.add (Up.refl _) (A' := aOwn 48 6 DP.cells (.slice none 0 0) ([] : List DP)) (OwnS.nil _ _ _ _ _) (by intro i h; cases h)
 replace hS := hS.add (Up.refl _) (A' := aAnd (usesA 3 [])) ⟨by simp [usesA], by simp [usesA]⟩ (by rintro i ⟨A, hA, _⟩; simp [usesA] at hA)
 refine CW.region (LW.M rfl (LW.pp (.nilCheck (.t rfl)) (LW.pp (.fA 12 underlying80 rfl sizeOf78 rfl) (LW.pp (.ld isAgg78 rfl ((hE.up hS.upd).cell (EC_dec hbc))) (LW.M rfl (LW.M rfl (LW.M rfl (LW.pp (.build (cs := (Grp.mk t c r).cells) underlying96 zeroValue96 Tryz.places96 (.cons (.t rfl) (.cons (.t rfl) (.cons (.t rfl) .nil))) rfl) (LW.pp (hlk _ _ _ _ _ _ _ _ _ _ (.t rfl) (.t rfl)) (LW.pp (.lenS underlying38 (.t rfl)) (LW.pp (.move (.const _)) (LW.T (CW.block (CW.loopB (σ := Nat × Go.Value × List DP) (fun s w => (s.1 ≤ Ls.length) ∧ (s.2.2.map DP.dec = (Ls.take s.1).map DP.dec) ∧ (Wx.Sep no w0 w [aOwn 48 6 DP.cells s.2.1 s.2.2, aAnd (usesA 3 s.2.2)])) (fun s => [(23, .eq (vi (s.1 : Int))), (8, .eq (s.2.1))]) ([(21, .eq _), (22, .eq _)]) (fun s => Ls.length - s.1) (0, .slice none 0 0, []) ?_ ⟨rfl, rfl, rfl, rfl, trivial⟩ ?_))))))))))))))
 ·exact ⟨Nat.zero_le _, rfl, hS⟩
 rintro ⟨i, v, L⟩ w1 ⟨hi, hL, hS⟩
 dsimp only at hi hL hS
 have hLl : L.length ≤ i := by have h := congrArg List.length hL; rw [List.length_map, List.length_map, List.length_take] at h; omega
 change CW _ _ _ _ _ _ _ ([(23, .eq (vi (i : Int))), (8, .eq (v))] ++ _) _
 refine CW.S (LW.pp (.lss (.t rfl) (.t rfl)) (LW.S (CW.cond (.t rfl) (fun h24 => ?_) (fun h24 => ?_))))
 ·replace h24 := dQ h24
  refine CW.skip (KW.then (CW.seq (CW.block (CW.seq ?_))))
  have hil : i < Ls.length := by omega
  obtain ⟨x, hx⟩ : ∃ x, Ls[i]? = some x := ⟨_, List.getElem?_eq_getElem hil⟩
  obtain ⟨Bx, ox, ax, hcx⟩ := (Els.up hEl hS.upd) i x hx
  have hxm := List.mem_of_getElem? hx
  refine CW.region (LW.pp (.indexAddr' underlying38 sizeOf48 (j := i) (.t rfl) (.t rfl) oQ ax) (LW.pp (.la isAgg48 sizeOf48 rfl (hcx)) (LW.rr (.allocA zeroValue48) rfl ?_)))
  rintro _ w2 ⟨B10, rfl, MB10⟩
  refine LW.E (.storeA sizeOf48 rfl (.t rfl) (.t rfl) (DP.one _) MB10.blk rfl) ?_
  intro w3 LB10
  have NB10 := MB10.set LB10
  replace hS := hS.addB NB10
  refine LW.S (CW.region (LW.pp (.fA 5 underlying48 rfl sizeOf46 rfl) (LW.pp (.ld isAgg46 rfl ((hS.blk 2 rfl).celln rfl)) ?_)))
  have huL : x.dec.uses.length ≤ 1000000000 := huse x hxm
  refine LW.K (eC (.o rfl) (en45)) rfl (cloneI_any x.ad x.cp x.dec.uses _ (Els.up (sl_els (hUs x hxm)) hS.upd) huL) ?_
  rintro v29 w4 ⟨hO29, uw4⟩
  replace hS := hS.add uw4 (A' := aOwn 3 1 eInt v29 x.dec.uses) (hO29.mono (Nat.zero_le _)) (fun i h => (hO29.base i h))
  obtain ⟨ad29, cp29, rfl, _⟩ := hO29.sl (fun _ => rfl)
  refine LW.pp (.fA 5 underlying48 rfl sizeOf46 rfl) (LW.E (.store sizeOf46 (.t rfl) (.t rfl) rfl (hS.blk 2 rfl) (Nat.le_of_ble_eq_true rfl)) ?_)
  intro w5 Nw5
  replace hS := hS.putB 2 rfl (show Set_ _ w5 _ (DP.cells (⟨x.dec, ad29, cp29⟩ : DP)) _ from Nw5)
  refine LW.T (CW.region (LW.M rfl (LW.pp (.la isAgg48 sizeOf48 rfl ((hS.blk 2 rfl).agg)) (LW.rr (.buildSlice (xs := [(⟨x.dec, ad29, cp29⟩ : DP)]) (enc := DP.cells) (mk := fun p => .agg p.cells) underlying38 sizeOf48 zeroValue48 rfl cQ (fun _ => rfl) (fun _ => rfl) (.cons (.t rfl) .nil) rfl) rfl ?_))))
  rintro _ w6 ⟨B33, cB33, rfl, NB33, yB33, xB33⟩
  replace hS := hS.up NB33.up
  have hE33 := xB33
  refine LW.rr (.appendF (enc := DP.cells) (bytes := 64) (i := Tryz.t48) underlying38 kQ rfl rfl rfl rfl cQ (fun _ => rfl) DP.one (.t rfl) (.t rfl) (hS.own 0 rfl) (Sl.of_els hE33) (by simp [maxLen]; omega) (by simp; omega)) rfl ?_
  intro v34 w7 Gw7
  replace hS := hS.stp 0 rfl Gw7
  refine LW.A rfl (LW.nil (KW.inBlock (KW.then ?_)))
  have h9 := Sep.snocA (Bs := [_]) (hS.sub (.cons_cons _ (.cons_cons _ (.cons _ (.cons_cons _ .slnil)))))
  replace h9 : Wx.Sep no w0 w7 ([_] ++ [aAnd (usesA 3 L ++ [aOwn 3 1 eInt (DP.uv (⟨x.dec, ad29, cp29⟩ : DP)) (DP.dec (⟨x.dec, ad29, cp29⟩ : DP)).uses])]) := h9
  rw [usesA_snoc] at h9
  refine CW.region (LW.pp (.inc (.t rfl) oQ) (LW.M rfl (LW.nil (KW.round ?_))))
  exact ⟨(i + 1, v34, L ++ [(⟨x.dec, ad29, cp29⟩ : DP)]), ⟨by show i + 1 ≤ _; omega, by rw [List.map_append, hL, List.take_add_one, hx, List.map_append]; rfl, h9⟩, ⟨rfl, rfl, rfl, rfl, trivial⟩, by show Ls.length - (i + 1) < Ls.length - i; omega⟩
 replace h24 := dQ h24
 refine CW.exit (KW.then_exit (KW.then_exit (KW.block_hit (KW.then (CW.S (LW.M rfl (LW.A rfl (LW.T (CW.ret (KW.ret1 rfl rfl ⟨_, rfl, ?_⟩))))))))))
 have hie : i = Ls.length := by omega
 rw [hie, List.take_length] at hL
 exact ⟨_, L, rfl, hL.trans hdec, hS⟩
end Go.Proofs.YtbbpkdlehlamlaaGreatDoor
end
section
namespace Go.Wx
theorem take_eq_step {xs ys : List Int} {k : Nat} {x y : Int} (h : xs.take k = ys.take k) (hx : xs[k]? = some x) (hy : ys[k]? = some y) (e : x = y) : xs.take (k + 1) = ys.take (k + 1) := by rw [take_succ_of hx, take_succ_of hy, h, e]
theorem ne_of_at {xs ys : List Int} {k : Nat} {x y : Int} (hx : xs[k]? = some x) (hy : ys[k]? = some y) (e : ¬ x = y) : ¬ xs = ys := fun h => e (by subst h; rw [hx] at hy; cases hy; rfl)
def tgt21 (k : Int) : Fact := ⟨10, 0, 1, 0, false, 0, 0, 0, 0, 0, 0, 0, 0, 0, k, 0, 100, 0, ByteArray.empty⟩
def run21 (a b c : Int) : Fact := ⟨1, a, 1, 0, false, b, b, 1, 0, 0, 0, 4, 0, 0, 9, 1, c, 0, ByteArray.empty⟩
end Go.Wx
namespace Go.Proofs.YtbbpkdlehlamlaaGreatDoor
open Go.Proofs.Tryz
open Go.Wx Go.RowKit
theorem sameInts_any (v1 v2 : Value) (xs ys : List Int) (w : World) (h1 : Sl w v1 1 eInt xs) (h2 : Sl w v2 1 eInt ys) (hx0 : xs.length ≤ 1000000000) (hy0 : ys.length ≤ 1000000000) : Ret Tryz.prog 29 #[v1, v2] w fun r w' => r = .bool (decide (xs = ys)) ∧ Up w w' := by
 have hW := Up.refl w
 obtain ⟨w0, rfl⟩ : ∃ w0, w0 = w := ⟨_, rfl⟩
 obtain ⟨ad, cp, rfl, hE1⟩ := h1
 obtain ⟨ad', cp', rfl, hE2⟩ := h2
 refine cS (n := 26) (m := 9) func29 rfl rfl rfl (CW.S (LW.C (LW.S (CW.S (LW.M rfl (LW.pp (.lenS underlying46 (.t rfl)) (LW.M rfl (LW.pp (.lenS underlying46 (.t rfl)) (LW.pp (.neq (.t rfl) (.t rfl)) (LW.T (CW.cond (.t rfl) (fun h10 => ?_) (fun h10 => ?_))))))))))))
 ·replace h10 := dQ h10
  have hr : decide (xs = ys) = false := decide_eq_false (fun h => by subst h; simp at h10)
  refine CW.S (LW.C (LW.T (CW.ret (KW.then_ret (KW.ret1 rfl rfl ⟨_, rfl, ?_⟩)))))
  exact ⟨by rw [hr], hW⟩
 replace h10 := dQ h10
 have hlen : xs.length = ys.length := Int.ofNat.inj (show Int.ofNat _ = Int.ofNat _ from (by simpa using h10 : (xs.length : Int) = ys.length))
 refine CW.skip (KW.then (CW.seq (CW.S (LW.C (LW.T (CW.block (CW.loop (σ := Nat) (fun s w => (s ≤ xs.length ∧ xs.take s = ys.take s) ∧ Els w ad 1 eInt xs ∧ Els w ad' 1 eInt ys ∧ Up w0 w) (fun s => [(0, .eq (.slice ad xs.length cp)), (1, .eq (.slice ad' ys.length cp')), (5, .eq (vi (s : Int)))]) (fun s => xs.length - s) 0 ?_ ?_ ?_)))))))
 ·exact ⟨⟨Nat.zero_le _, rfl⟩, hE1, hE2, hW⟩
 ·exact ⟨rfl, rfl, rfl, trivial⟩
 rintro k w1 ⟨⟨hk, hT⟩, hE1, hE2, hW⟩
 refine CW.seq (CW.S (LW.M rfl (LW.M rfl (LW.pp (.lenS underlying46 (.t rfl)) (LW.pp (.lss (.t rfl) (.t rfl)) (LW.T (CW.cond (.t rfl) (fun h14 => ?_) (fun h14 => ?_))))))))
 ·replace h14 := dQ h14
  refine CW.skip (KW.then (CW.seq (CW.block (CW.seq ?_))))
  obtain ⟨x, hx⟩ := getElem?_of_lt (xs := xs) (i := k) oQ
  obtain ⟨y, hy⟩ := getElem?_of_lt (xs := ys) (i := k) oQ
  obtain ⟨B, o, had, hcell⟩ := hE1 k x hx
  obtain ⟨B', o', had', hcell'⟩ := hE2 k y hy
  refine CW.draws kQ kQ rfl rfl (HW.pp (.move (.t rfl)) (HW.pp (.move (.t rfl)) (HW.pp (.indexAddr' underlying46 sizeOf3 (.t rfl) (.t rfl) oQ had) (HW.pp (.ld isAgg3 rfl (hcell.nth (j := 0) rfl)) (HW.pp (.move (.t rfl)) (HW.pp (.move (.t rfl)) (HW.pp (.indexAddr' underlying46 sizeOf3 (.t rfl) (.t rfl) oQ had') (HW.pp (.ld isAgg3 rfl (hcell'.nth (j := 0) rfl)) (HW.pp (.neq (.t rfl) (.t rfl)) (HW.nil ?_))))))))))
  intro w2 uw2
  replace hE1 := hE1.up uw2
  replace hE2 := hE2.up uw2
  replace hW := hW.up uw2
  refine KW.then (CW.cond (.t rfl) (fun h25 => ?_) (fun h25 => ?_))
  ·replace h25 := dQ h25
   have hr : decide (xs = ys) = false := decide_eq_false (ne_of_at hx hy (by simpa using h25))
   refine CW.S (LW.C (LW.T (CW.ret (KW.block_ret (KW.then_ret (KW.then_ret (KW.block_ret (KW.then_ret (KW.ret1 rfl rfl ⟨_, rfl, ?_⟩)))))))))
   exact ⟨by rw [hr], hW⟩
  replace h25 := dQ h25
  refine CW.skip (KW.inBlock (KW.then (CW.region (LW.M rfl (LW.pp (.inc (.t rfl) oQ) (LW.A rfl (LW.nil (KW.round ?_))))))))
  exact ⟨k + 1, ⟨⟨by omega, take_eq_step hT hx hy (by simpa using h25)⟩, hE1, hE2, hW⟩, ⟨rfl, rfl, rfl, trivial⟩, by omega⟩
 replace h14 := dQ h14
 have hr : decide (xs = ys) = true := decide_eq_true (by have := hT; rw [show k = xs.length by omega, List.take_length, hlen, List.take_length] at this; exact this)
 refine CW.exit (KW.then_exit (KW.then_exit (KW.block_hit (KW.then (CW.S (LW.C (LW.T (CW.ret (KW.ret1 rfl rfl ⟨_, rfl, ?_⟩)))))))))
 exact ⟨by rw [hr], hW⟩
theorem pick21_any (c n : Int) (w : World) (hn : n ≠ 0) : Ret Tryz.prog 19 #[vi c, vi n] w fun r w' => r = vi (pickI c n) ∧ Up w w' := by
 have hW := Up.refl w
 refine cS (n := 13) (m := 9) func19 rfl rfl rfl (CW.S (LW.C (LW.S (CW.S (LW.M rfl (LW.pp (.lss (.t rfl) (.const _)) (LW.T (CW.cond (.t rfl) (fun h6 => ?_) (fun h6 => ?_)))))))))
 ·replace h6 := dQ h6
  refine CW.region (LW.M rfl (LW.pp (.add_w (.t rfl) (.const _)) (LW.pp (.neg underlying3 (.t rfl)) (LW.A rfl (LW.S (CW.region (LW.M rfl (LW.M rfl (LW.pp (.rem (.t rfl) (.t rfl) oQ) (LW.A rfl (LW.T (CW.ret (KW.ret1 rfl rfl ⟨_, rfl, ?_⟩)))))))))))))
  exact ⟨by (rw [pickI, if_pos h6]), hW⟩
 replace h6 := dQ h6
 refine CW.skip (KW.then (CW.S (LW.M rfl (LW.M rfl (LW.pp (.rem (.t rfl) (.t rfl) oQ) (LW.A rfl (LW.T (CW.ret (KW.ret1 rfl rfl ⟨_, rfl, ?_⟩)))))))))
 exact ⟨by (rw [pickI, if_neg (by omega)]), hW⟩
theorem target21_any (k : Int) (w : World) : Ret Tryz.prog 34 #[vi k] w fun r w' => r = .agg (tgt21 k).cells ∧ Up w w' := by
 obtain ⟨w0, rfl⟩ : ∃ w0, w0 = w := ⟨_, rfl⟩
 have hS := Sep.start no w0
 refine cS (n := 5) (m := 9) func34 rfl rfl rfl (CW.S (LW.rr (.allocA zeroValue24) rfl ?_))
 rintro _ w1 ⟨B2, rfl, NB2⟩
 replace hS := hS.addB NB2
 refine LW.S (CW.region (LW.M rfl (LW.pp (.build (cs := (tgt21 k).cells) underlying24 zeroValue24 Tryz.places24 (.cons (.const _) (.cons (.const _) (.cons (.t rfl) (.cons (.const _) .nil)))) kQ) (LW.E (.storeA sizeOf24 rfl (.t rfl) (.t rfl) (Fact.one _) (hS.blk 0 rfl) rfl) ?_))))
 intro w2 Nw2
 replace hS := hS.putB 0 rfl Nw2
 refine LW.T (CW.ret (KW.retA rfl rfl isAgg24 sizeOf24 rfl ((hS.blk 0 rfl).agg) ⟨_, rfl, ?_⟩))
 exact ⟨rfl, hS.upd⟩
theorem run21_any (a b c : Int) (w : World) : Ret Tryz.prog 35 #[vi a, vi b, vi c] w fun r w' => r = .agg (run21 a b c).cells ∧ Up w w' := by
 obtain ⟨w0, rfl⟩ : ∃ w0, w0 = w := ⟨_, rfl⟩
 have hS := Sep.start no w0
 refine cS (n := 12) (m := 9) func35 rfl rfl rfl (CW.S (LW.rr (.allocA zeroValue24) rfl ?_))
 rintro _ w1 ⟨B6, rfl, NB6⟩
 replace hS := hS.addB NB6
 refine LW.S (CW.region (LW.M rfl (LW.M rfl (LW.M rfl (LW.M rfl (LW.pp (.build (cs := (run21 a b c).cells) underlying24 zeroValue24 Tryz.places24 (.cons (.const _) (.cons (.const _) (.cons (.t rfl) (.cons (.const _) (.cons (.const _) (.cons (.const _) (.cons (.const _) (.cons (.t rfl) (.cons (.t rfl) (.cons (.t rfl) .nil)))))))))) kQ) (LW.E (.storeA sizeOf24 rfl (.t rfl) (.t rfl) (Fact.one _) (hS.blk 0 rfl) rfl) ?_)))))))
 intro w2 Nw2
 replace hS := hS.putB 0 rfl Nw2
 refine LW.T (CW.ret (KW.retA rfl rfl isAgg24 sizeOf24 rfl ((hS.blk 0 rfl).agg) ⟨_, rfl, ?_⟩))
 exact ⟨rfl, hS.upd⟩
theorem EDecsE_any (E bf bd : Nat) (bc : Array Go.Value) (nw : Int) (D : List DE) (kb : Base) (t c r : Int) (w : World) (ho : inI t ∧ inI c ∧ inI r) (hbc : bc.size = 11) (hk : ∀ g, g ∈ D.map (·.g) ↔ ∃ p ∈ kb.Processes, gof p = g) (hd : ∀ e ∈ D, dk kb e) (hlP : kb.Processes.length ≤ 100) (hE : Blk w E (EC bf bc bd nw) 80) (hM : Mk.IMap grpK w bd (D.map DE.kv)) (hDD : (aDD D).holds w) : Ret Tryz.prog 17 #[.pointer (some ⟨E, 0, none⟩), vi t, vi c, vi r] w fun r0 w' => DecsE w' r0 (desF kb t c r) ∧ Up w w' :=
 (EDecs_any E bf bd bc nw D kb t c r w hbc ho hlP hk hd hE hM hDD).mono fun r0 w' ⟨v, L, e, hm, hT⟩ => ⟨by rw [e]; exact decsE_of hT hm, hT.upd⟩
theorem same21_any (E bf bd : Nat) (bc : Array Go.Value) (nw : Int) (D : List DE) (kb : Base) (bcx : Array Go.Value) (w : World) (hbc : bc.size = 11) (hk : ∀ g, g ∈ D.map (·.g) ↔ ∃ p ∈ kb.Processes, gof p = g) (hd : ∀ e ∈ D, dk kb e) (hlP : kb.Processes.length ≤ 100) (hlM : kb.Measures.length ≤ 100) (hlR : kb.Resets.length ≤ 100) (hlT : kb.Targets.length ≤ 100) (hE : Blk w E (EC bf bc bd nw) 80) (hM : Mk.IMap grpK w bd (D.map DE.kv)) (hDD : (aDD D).holds w) (hX : BaseC w bcx kb) : Ret Tryz.prog 33 #[.pointer (some ⟨E, 0, none⟩), .agg bcx] w fun r w' => r = .bool true ∧ Up w w' := by
 obtain ⟨w0, rfl⟩ : ∃ w0, w0 = w := ⟨_, rfl⟩
 have hS := Sep.start no w0
 refine cS (n := 32) (m := 9) func33 rfl rfl rfl (CW.S (LW.rr (.boxA (.t rfl)) rfl ?_))
 rintro _ w1 ⟨B3, rfl, NB3⟩
 replace hS := hS.addB NB3
 refine LW.C (LW.S (CW.S (LW.C (LW.T (CW.block (CW.loopB (σ := Nat) (fun s w => (s ≤ 2) ∧ (Wx.Sep no w0 w [aBlk B3 bcx 32])) (fun s => [(5, .eq (vi (s : Int)))]) ([(0, .eq _), (3, .eq _)]) (fun s => 2 - s) 0 ?_ ⟨rfl, rfl, rfl, trivial⟩ ?_))))))
 ·exact ⟨by omega, hS⟩
 rintro t w2 ⟨ht, hS⟩
 refine CW.seq (CW.S (LW.M rfl (LW.pp (.lss (.t rfl) (.const _)) (LW.T (CW.cond (.t rfl) (fun h9 => ?_) (fun h9 => ?_))))))
 ·replace h9 := dQ h9
  refine CW.skip (KW.then (CW.seq (CW.block (CW.S (LW.C (LW.T (CW.block (CW.loopB (σ := Nat) (fun s w => (s ≤ 2) ∧ (Wx.Sep no w0 w [aBlk B3 bcx 32])) (fun s => [(6, .eq (vi (s : Int)))]) ([(0, .eq _), (3, .eq _), (5, .eq _)]) (fun s => 2 - s) 0 ?_ ⟨rfl, rfl, rfl, rfl, trivial⟩ ?_))))))))
  ·exact ⟨by omega, hS⟩
  rintro c w3 ⟨hc, hS⟩
  refine CW.seq (CW.S (LW.M rfl (LW.pp (.lss (.t rfl) (.const _)) (LW.T (CW.cond (.t rfl) (fun h13 => ?_) (fun h13 => ?_))))))
  ·replace h13 := dQ h13
   refine CW.skip (KW.then (CW.seq (CW.block (CW.S (LW.C (LW.T (CW.block (CW.loopB (σ := Nat) (fun s w => (s ≤ 3) ∧ (Wx.Sep no w0 w [aBlk B3 bcx 32])) (fun s => [(7, .eq (vi (s : Int)))]) ([(0, .eq _), (3, .eq _), (5, .eq _), (6, .eq _)]) (fun s => 3 - s) 1 ?_ ⟨rfl, rfl, rfl, rfl, rfl, trivial⟩ ?_))))))))
   ·exact ⟨by omega, hS⟩
   rintro r w4 ⟨hr, hS⟩
   refine CW.seq (CW.S (LW.M rfl (LW.pp (.leq (.t rfl) (.const _)) (LW.T (CW.cond (.t rfl) (fun h17 => ?_) (fun h17 => ?_))))))
   ·replace h17 := dQ h17
    refine CW.skip (KW.then (CW.seq (CW.block (CW.seq (CW.draws kQ kQ rfl rfl (HW.pp (.move (.t rfl)) (HW.pp (.move (.t rfl)) (HW.pp (.move (.t rfl)) (HW.pp (.move (.t rfl)) (HW.qc (ph := .pred fun v w => DecsE w v (desF kb (t : Int) (c : Int) (r : Int))) (fun _ _ _ h u => DecsE.up h u) rfl (fun a w hu ha => ⟨_, _, enter_call0 (.cons (.t rfl) (.cons (.t rfl) (.cons (.t rfl) (.cons (.t rfl) .nil)))) (en17) a ha, (EDecsE_any E bf bd bc nw D kb (t : Int) (c : Int) (r : Int) w ⟨by unfold inI; omega, by unfold inI; omega, by unfold inI; omega⟩ hbc hk hd hlP (hE.up (hS.up hu).upd) (Mk.IMap.up hM (hS.up hu).upd) ((aDD D).keep _ _ hDD (fun _ _ hl => (hS.up hu).upd.block hl) (hS.up hu).upd.size)).mono fun v w' h => ⟨h.2, h.1⟩⟩) rfl (HW.pp (.loadA isAgg32 sizeOf32 ((BaseC.size hX)) (.t rfl) ((hS.blk 0 rfl).agg)) (HW.pp (.move (.t rfl)) (HW.pp (.move (.t rfl)) (HW.pp (.move (.t rfl)) (HW.qc (ph := .pred fun v w => DecsE w v (desF kb (t : Int) (c : Int) (r : Int))) (fun _ _ _ h u => DecsE.up h u) rfl (fun a w hu ha => ⟨_, _, enter_call0 (.cons (.t rfl) (.cons (.t rfl) (.cons (.t rfl) (.cons (.t rfl) .nil)))) (en16) a ha, (DecisionsE_any bcx kb (t : Int) (c : Int) (r : Int) w (BaseC.up hX (hS.up hu).upd) oQ oQ oQ oQ).mono fun v w' h => ⟨h.2, h.1⟩⟩) rfl (HW.qc (ph := .eq (.bool true)) (phUp.eq _) rfl (fun a w hu ha => ⟨_, _, enter_any2 en18 a w, (sameList_any (a.eval (.tmp 24)) (a.eval (.tmp 29)) (desF kb (t : Int) (c : Int) (r : Int)) (desF kb (t : Int) (c : Int) (r : Int)) w (ha.known (p := fun v w => DecsE w v (desF kb (t : Int) (c : Int) (r : Int))) rfl) (ha.known (p := fun v w => DecsE w v (desF kb (t : Int) (c : Int) (r : Int))) rfl) (by rw [desF_len]; have := rnsF_len kb (t : Int) (c : Int) (r : Int); omega) (fun D0 hD0 => by have h1 := desF_uses kb (t : Int) (c : Int) (r : Int) D0 hD0; have h2 := rnsF_len kb (t : Int) (c : Int) (r : Int); omega)).mono fun _ _ h => ⟨h.2, h.1.trans (by rw [sameDs_self])⟩⟩) rfl (HW.pp (.fa (PEv.not (.t rfl)) (rfl)) (HW.nil ?_))))))))))))))))))
    intro w5 uw5
    replace hS := hS.up uw5
    refine KW.then (CW.cond_false (.t rfl) (CW.skip (KW.inBlock (KW.then (CW.region (LW.M rfl (LW.pp (.inc (.t rfl) oQ) (LW.A rfl (LW.nil (KW.round ?_))))))))))
    exact ⟨r + 1, ⟨by omega, hS⟩, ⟨rfl, rfl, rfl, rfl, rfl, trivial⟩, by omega⟩
   refine CW.exit (KW.then_exit (KW.then_exit (KW.block_hit (KW.inBlock (KW.then (CW.region (LW.M rfl (LW.pp (.inc (.t rfl) oQ) (LW.A rfl (LW.nil (KW.round ?_)))))))))))
   exact ⟨c + 1, ⟨by omega, hS⟩, ⟨rfl, rfl, rfl, rfl, trivial⟩, by omega⟩
  refine CW.exit (KW.then_exit (KW.then_exit (KW.block_hit (KW.inBlock (KW.then (CW.region (LW.M rfl (LW.pp (.inc (.t rfl) oQ) (LW.A rfl (LW.nil (KW.round ?_)))))))))))
  exact ⟨t + 1, ⟨by omega, hS⟩, ⟨rfl, rfl, rfl, trivial⟩, by omega⟩
 refine CW.exit (KW.then_exit (KW.then_exit (KW.block_hit (KW.then (CW.S (LW.C (LW.T (CW.ret (KW.ret1 rfl rfl ⟨_, rfl, ?_⟩)))))))))
 exact ⟨rfl, hS.upd⟩
end Go.Proofs.YtbbpkdlehlamlaaGreatDoor
end
section
namespace Go.Wx
def m21 : Fact := ⟨2, 1, 1, 0, false, 15, 0, 0, 0, 0, 0, 0, 0, 0, 0, 0, 108, 0, ByteArray.empty⟩
def la1 : List Fact := [] ++ [tgt21 9]
def la2 : List Fact := la1 ++ [run21 1 10 100000]
def la3 : List Fact := la2 ++ [run21 2 20 98000, run21 3 30 98000]
def la4 : List Fact := la3 ++ [m21]
def la5 : List Fact := la4 ++ [m21]
def la6 : List Fact := la5 ++ [tgt21 8]
theorem k21_1 : cntN [] [tgt21 9] = 0 := by kernel_rfl
theorem k21_2 : cntN la1 [run21 1 10 100000] = 1 := by kernel_rfl
theorem k21_3 : cntN la2 [run21 2 20 98000, run21 3 30 98000] = 1 := by kernel_rfl
theorem k21_4 : cntN la3 [m21] = 1 := by kernel_rfl
theorem k21_5 : cntN la4 [m21] = 0 := by kernel_rfl
theorem k21_6 : cntN la5 [tgt21 8] = 0 := by kernel_rfl
theorem l21_3 : lateP (ofB la3 100000) (ofB la3 100000).Processes = [2, 3] := by kernel_rfl
theorem l21_4 : lateP (ofB la4 100000) (ofB la4 100000).Processes = [] := by kernel_rfl
theorem late21_3 {z : Eng} (h : z.all = la3) : lateL z.kb = [2, 3] := by
 unfold lateL Eng.kb
 rw [h, l21_3]
 exact List.mergeSort_of_pairwise (by simp)
theorem late21_4 {z : Eng} (h : z.all = la4) : lateL z.kb = [] := by
 unfold lateL Eng.kb
 rw [h, l21_4]
 simp
theorem d21_6 : desF (ofB la6 100000) 4 0 9 = [⟨1, ⟨100, 1⟩, ⟨0, 1⟩, []⟩, ⟨2, ⟨98, 1⟩, ⟨2, 1⟩, [1]⟩, ⟨3, ⟨98, 1⟩, ⟨2, 1⟩, [1]⟩] := by kernel_rfl
theorem p21_6 : (ofB la6 100000).Processes.length = 3 := by kernel_rfl
theorem val_ok {al : List Fact} {d : Int} : ∀ p ∈ (ofB al d).Processes, inI p.Value := fun p hp => by
 have h := (lst_mem (j := 0) cQ).1 hp
 obtain ⟨h1, h2, _⟩ := valid_parts (eff_valid h.1)
 by_cases e : ∃ x ∈ fieldsOf p.Kind, x.off = 16
 · obtain ⟨x, hx, e⟩ := e
   have := h2 x hx
   rw [e] at this
   have h3 : inW p.Value := this
   unfold inW at h3
   unfold inI
   omega
 have h3 : p.Value = 0 := h1 16 cQ fun x hx e' => e ⟨x, hx, e'⟩
 rw [h3]
 exact ⟨by decide, by decide⟩
end Go.Wx
namespace Go.Proofs.YtbbpkdlehlamlaaGreatDoor
open Go.Proofs.Tryz
open Go.Wx Go.RowKit
set_option maxHeartbeats 4000000 in
theorem sane21_any (w : World) : Ret Tryz.prog 10 #[] w fun r w' => r = .bool true ∧ Up w w' := by
 obtain ⟨w0, rfl⟩ : ∃ w0, w0 = w := ⟨_, rfl⟩
 have hS := Sep.start no w0
 refine cS (n := 101) (m := 9) func10 rfl rfl rfl (CW.S (LW.C (LW.S (CW.region (LW.K (eC .nil (en12)) rfl (ENew_any _) ?_)))))
 rintro _ w1 ⟨z0, rfl, ha0, hn0, hz0, hN0⟩
 replace hS := hS.join hN0
 refine LW.A rfl (LW.S (CW.S (LW.M rfl (LW.pp (.fa (PEv.eqlNil underlying28 (.t rfl)) (rfl)) (LW.T (CW.cond_false (.t rfl) (CW.skip (KW.then (CW.S (LW.pp (.build (cs := m21.cells) underlying24 zeroValue24 Tryz.places24 (.cons (.const _) (.cons (.const _) (.cons (.const _) (.cons (.const _) (.cons (.const _) .nil))))) kQ) (LW.rr (.buildSlice (xs := [m21]) (enc := Fact.cells) (mk := fun f : Fact => .agg f.cells) underlying26 sizeOf24 zeroValue24 rfl cQ (fun _ => rfl) (fun _ => rfl) (.cons (.t rfl) .nil) rfl) rfl ?_)))))))))))
 intro v16 w2 hN16
 obtain ⟨u16, B16, rfl, e16, hO16⟩ := NewSl.own hN16 (fun _ => rfl) cQ (by simp [maxLen])
 replace hS := hS.add u16 (A' := aOwn 24 19 Fact.cells (.slice (some ⟨B16, 0, none⟩) 1 1) [m21]) hO16 (fun i h => by cases h; exact Nat.le_of_eq e16.symm)
 refine LW.A rfl (LW.S (CW.region (LW.M rfl (LW.K (eC (.cons (.const _) .nil) (en34)) rfl (target21_any _ _) ?_))))
 rintro _ w3 ⟨rfl, uw3⟩
 replace hS := hS.up uw3
 have hSp20 := fun i (h : footL z0.As i) => Sep.ltL (Sep.left (show Wx.Sep _ _ _ (z0.As ++ [_]) from hS)) h
 refine LW.rr (.buildSlice (xs := [tgt21 9]) (enc := Fact.cells) (mk := fun f : Fact => .agg f.cells) underlying26 sizeOf24 zeroValue24 rfl cQ (fun _ => rfl) (fun _ => rfl) (.cons (.t rfl) .nil) rfl) rfl ?_
 rintro _ w4 ⟨B19, cB19, rfl, NB19, yB19, xB19⟩
 have eB19 := NB19.at_
 replace hS := hS.up NB19.up
 have hE19 := xB19
 replace hS := hS.pull 0 rfl
 replace hS := hS.pull 0 rfl
 replace hS := hS.pull 0 rfl
 replace hS := hS.pull 0 rfl
 replace hS := hS.pull 0 rfl
 have hq_ := (show Wx.Sep _ _ _ ([_] ++ [_, _, _, _, _]) from hS)
 refine LW.K (eC (.u rfl rfl) (en13)) rfl (EAdd_any z0 0 (some ⟨B19, 0, none⟩) _ [tgt21 9] _ hz0 cQ (by rw [ha0]; decide) hE19 (fun _ B o e h => by cases e; have := hSp20 _ h; omega) hq_.right.self) ?_
 rintro _ w5 ⟨z1, rfl, hp1, ha1, hn1, hz1, uw5⟩
 replace hS := hq_.frame uw5
 have zw5 := uw5.fr.size
 rw [ha0, k21_1] at hn1
 rw [ha0, k21_1, ← hp1]
 replace ha1 : z1.all = la1 := by rw [ha1, ha0]; rfl
 rw [hn0] at hn1
 refine LW.A rfl (LW.S (CW.region (LW.M rfl (LW.K (eC (.cons (.const _) (.cons (.const _) (.cons (.const _) .nil))) (en35)) rfl (run21_any _ _ _ _) ?_))))
 rintro _ w6 ⟨rfl, uw6⟩
 replace hS := hS.up uw6
 have hSp24 := fun i (h : footL z1.As i) => Sep.ltL (Sep.right (show Wx.Sep _ _ _ ([_] ++ z1.As) from hS)) h
 refine LW.rr (.buildSlice (xs := [run21 1 10 100000]) (enc := Fact.cells) (mk := fun f : Fact => .agg f.cells) underlying26 sizeOf24 zeroValue24 rfl cQ (fun _ => rfl) (fun _ => rfl) (.cons (.t rfl) .nil) rfl) rfl ?_
 rintro _ w7 ⟨B23, cB23, rfl, NB23, yB23, xB23⟩
 have eB23 := NB23.at_
 replace hS := hS.up NB23.up
 have hE23 := xB23
 replace hS := hS.pull 1 rfl
 replace hS := hS.pull 1 rfl
 replace hS := hS.pull 1 rfl
 replace hS := hS.pull 1 rfl
 replace hS := hS.pull 1 rfl
 have hq_ := (show Wx.Sep _ _ _ ([_] ++ [_, _, _, _, _]) from hS)
 refine LW.K (eC (.u rfl rfl) (en13)) rfl (EAdd_any z1 1 (some ⟨B23, 0, none⟩) _ [run21 1 10 100000] _ hz1 cQ (by rw [ha1]; decide) hE23 (fun _ B o e h => by cases e; have := hSp24 _ h; omega) hq_.right.self) ?_
 rintro _ w8 ⟨z2, rfl, hp2, ha2, hn2, hz2, uw8⟩
 replace hS := hq_.frame uw8
 have zw8 := uw8.fr.size
 rw [ha1, k21_2] at hn2
 rw [ha1, k21_2, ← hp2]
 replace ha2 : z2.all = la2 := by rw [ha2, ha1]; rfl
 rw [hn1] at hn2
 refine LW.A rfl (LW.S (CW.region (LW.M rfl (LW.K (eC (.cons (.const _) (.cons (.const _) (.cons (.const _) .nil))) (en35)) rfl (run21_any _ _ _ _) ?_))))
 rintro _ w9 ⟨rfl, uw9⟩
 replace hS := hS.up uw9
 refine LW.K (eC (.cons (.const _) (.cons (.const _) (.cons (.const _) .nil))) (en35)) rfl (run21_any _ _ _ _) ?_
 rintro _ w10 ⟨rfl, uw10⟩
 replace hS := hS.up uw10
 have hSp29 := fun i (h : footL z2.As i) => Sep.ltL (Sep.right (show Wx.Sep _ _ _ ([_] ++ z2.As) from hS)) h
 refine LW.rr (.buildSlice (xs := [run21 2 20 98000, run21 3 30 98000]) (enc := Fact.cells) (mk := fun f : Fact => .agg f.cells) underlying26 sizeOf24 zeroValue24 rfl cQ (fun _ => rfl) (fun _ => rfl) (.cons (.t rfl) (.cons (.t rfl) .nil)) rfl) rfl ?_
 rintro _ w11 ⟨B28, cB28, rfl, NB28, yB28, xB28⟩
 have eB28 := NB28.at_
 replace hS := hS.up NB28.up
 have hE28 := xB28
 replace hS := hS.pull 1 rfl
 replace hS := hS.pull 1 rfl
 replace hS := hS.pull 1 rfl
 replace hS := hS.pull 1 rfl
 replace hS := hS.pull 1 rfl
 have hq_ := (show Wx.Sep _ _ _ ([_] ++ [_, _, _, _, _]) from hS)
 refine LW.K (eC (.u rfl rfl) (en13)) rfl (EAdd_any z2 2 (some ⟨B28, 0, none⟩) _ [run21 2 20 98000, run21 3 30 98000] _ hz2 cQ (by rw [ha2]; decide) hE28 (fun _ B o e h => by cases e; have := hSp29 _ h; omega) hq_.right.self) ?_
 rintro _ w12 ⟨z3, rfl, hp3, ha3, hn3, hz3, uw12⟩
 replace hS := hq_.frame uw12
 have zw12 := uw12.fr.size
 rw [ha2, k21_3] at hn3
 rw [ha2, k21_3, ← hp3]
 replace ha3 : z3.all = la3 := by rw [ha3, ha2]; rfl
 rw [hn2] at hn3
 refine LW.A rfl (LW.S (CW.region (LW.M rfl (LW.K (eC (.o rfl) (en21)) rfl (ELate_any z3.E z3.bf z3.bd z3.bc z3.n z3.kb _ hz3.hbc (hS.blk 1 rfl) (hS.get 3 rfl) (len_ok hz3).1 (len_ok hz3).2.1 (len_ok hz3).2.2.1 (len_ok hz3).2.2.2 val_ok) ?_))))
 rintro v31 w13 ⟨hO31, uw13⟩
 have zw13 := uw13.size
 replace hS := hS.add uw13 (A' := aOwn 3 1 eInt v31 [2, 3]) (by rw [late21_3 ha3] at hO31; exact hO31.mono (Nat.zero_le _)) (fun i h => hO31.base i h)
 obtain ⟨ad31, cp31, rfl, _⟩ := (hS.own 6 rfl).sl (fun _ => rfl)
 refine LW.A rfl (LW.S (CW.region (LW.M rfl (LW.M rfl ?_))))
 replace hS := hS.pull 1 rfl
 replace hS := hS.pull 1 rfl
 replace hS := hS.pull 1 rfl
 replace hS := hS.pull 1 rfl
 replace hS := hS.pull 1 rfl
 have hq_ := (show Wx.Sep _ _ _ ([_, _] ++ [_, _, _, _, _]) from hS)
 refine LW.K (eC (.u rfl rfl) (en13)) rfl (EAdd_any z3 3 (some ⟨B16, 0, none⟩) _ [m21] _ hz3 cQ (by rw [ha3]; decide) (OwnS.elsS (hq_.left.own 0 rfl) (fun _ => rfl)) (fun _ B o e h => hq_.dis ⟨_, List.mem_of_getElem? (i := 0) rfl, by cases e; rfl⟩ h) hq_.right.self) ?_
 rintro _ w14 ⟨z4, rfl, hp4, ha4, hn4, hz4, uw14⟩
 replace hS := hq_.frame uw14
 have zw14 := uw14.fr.size
 rw [ha3, k21_4] at hn4
 rw [ha3, k21_4, ← hp4]
 replace ha4 : z4.all = la4 := by rw [ha4, ha3]; rfl
 rw [hn3] at hn4
 refine LW.A rfl (LW.S (CW.region (LW.M rfl (LW.K (eC (.o rfl) (en21)) rfl (ELate_any z4.E z4.bf z4.bd z4.bc z4.n z4.kb _ hz4.hbc (hS.blk 2 rfl) (hS.get 4 rfl) (len_ok hz4).1 (len_ok hz4).2.1 (len_ok hz4).2.2.1 (len_ok hz4).2.2.2 val_ok) ?_))))
 rintro v36 w15 ⟨hO36, uw15⟩
 have zw15 := uw15.size
 replace hS := hS.add uw15 (A' := aOwn 3 1 eInt v36 ([] : List Int)) (by rw [late21_4 ha4] at hO36; exact hO36.mono (Nat.zero_le _)) (fun i h => hO36.base i h)
 obtain ⟨ad36, cp36, rfl, _⟩ := (hS.own 7 rfl).sl (fun _ => rfl)
 refine LW.A rfl (LW.S (CW.region (LW.M rfl (LW.M rfl ?_))))
 replace hS := hS.pull 2 rfl
 replace hS := hS.pull 2 rfl
 replace hS := hS.pull 2 rfl
 replace hS := hS.pull 2 rfl
 replace hS := hS.pull 2 rfl
 have hq_ := (show Wx.Sep _ _ _ ([_, _, _] ++ [_, _, _, _, _]) from hS)
 refine LW.K (eC (.u rfl rfl) (en13)) rfl (EAdd_any z4 4 (some ⟨B16, 0, none⟩) _ [m21] _ hz4 cQ (by rw [ha4]; decide) (OwnS.elsS (hq_.left.own 0 rfl) (fun _ => rfl)) (fun _ B o e h => hq_.dis ⟨_, List.mem_of_getElem? (i := 0) rfl, by cases e; rfl⟩ h) hq_.right.self) ?_
 rintro _ w16 ⟨z5, rfl, hp5, ha5, hn5, hz5, uw16⟩
 replace hS := hq_.frame uw16
 have zw16 := uw16.fr.size
 rw [ha4, k21_5] at hn5
 rw [ha4, k21_5, ← hp5]
 replace ha5 : z5.all = la5 := by rw [ha5, ha4]; rfl
 rw [hn4] at hn5
 refine LW.A rfl (LW.S (CW.region (LW.M rfl (LW.K (eC (.cons (.const _) .nil) (en34)) rfl (target21_any _ _) ?_))))
 rintro _ w17 ⟨rfl, uw17⟩
 replace hS := hS.up uw17
 have hSp43 := fun i (h : footL z5.As i) => Sep.ltL (Sep.right (show Wx.Sep _ _ _ ([_, _, _] ++ z5.As) from hS)) h
 refine LW.rr (.buildSlice (xs := [tgt21 8]) (enc := Fact.cells) (mk := fun f : Fact => .agg f.cells) underlying26 sizeOf24 zeroValue24 rfl cQ (fun _ => rfl) (fun _ => rfl) (.cons (.t rfl) .nil) rfl) rfl ?_
 rintro _ w18 ⟨B42, cB42, rfl, NB42, yB42, xB42⟩
 have eB42 := NB42.at_
 replace hS := hS.up NB42.up
 have hE42 := xB42
 replace hS := hS.pull 3 rfl
 replace hS := hS.pull 3 rfl
 replace hS := hS.pull 3 rfl
 replace hS := hS.pull 3 rfl
 replace hS := hS.pull 3 rfl
 have hq_ := (show Wx.Sep _ _ _ ([_, _, _] ++ [_, _, _, _, _]) from hS)
 refine LW.K (eC (.u rfl rfl) (en13)) rfl (EAdd_any z5 5 (some ⟨B42, 0, none⟩) _ [tgt21 8] _ hz5 cQ (by rw [ha5]; decide) hE42 (fun _ B o e h => by cases e; have := hSp43 _ h; omega) hq_.right.self) ?_
 rintro _ w19 ⟨z6, rfl, hp6, ha6, hn6, hz6, uw19⟩
 replace hS := hq_.frame uw19
 have zw19 := uw19.fr.size
 rw [ha5, k21_6] at hn6
 rw [ha5, k21_6, ← hp6]
 replace ha6 : z6.all = la6 := by rw [ha6, ha5]; rfl
 rw [hn5] at hn6
 refine LW.A rfl (LW.S (CW.region (LW.M rfl (LW.K (eC (.cons (.t rfl) (.cons (.const _) (.cons (.const _) (.cons (.const _) .nil)))) (en17)) rfl (EDecs_any z6.E z6.bf z6.bd z6.bc z6.n z6.D z6.kb 4 0 9 _ hz6.hbc ⟨by simp [inI], by simp [inI], by simp [inI]⟩ (len_ok hz6).1 hz6.keys hz6.dks (hS.blk 3 rfl) (hS.get 6 rfl) (hS.get 7 rfl)) ?_))))
 rintro v45 w20 ⟨_, L45, rfl, hm45, hT45⟩
 have hk6 : z6.kb = ofB la6 100000 := by unfold Eng.kb; rw [ha6]
 rw [hk6, d21_6] at hm45
 obtain ⟨a1, c1, a2, c2, a3, c3, rfl⟩ := dps3 hm45
 replace hS := hS.join hT45
 obtain ⟨ad45, cp45, rfl, _⟩ := (hS.own 8 rfl).sl (fun _ => rfl)
 obtain ⟨Bx, ox, ax, hpx, hqx, hrx⟩ := els_p ((hS.own 8 rfl).els (fun _ => rfl))
 refine LW.A rfl (LW.S (CW.S (LW.M rfl (LW.pp (.lenS underlying38 (.t rfl)) (LW.pp (.fa (PEv.neq (.t rfl) (.const _)) (rfl)) (LW.T (CW.cond_false (.t rfl) (CW.skip (KW.then (CW.S (LW.M rfl (LW.pp (.tr (PEv.eql (.t rfl) (.const _)) (rfl)) (LW.M rfl (LW.Y (LW.M rfl (LW.Y (LW.pp (.tr (PEv.eql (.t rfl) (.const _)) (rfl)) (LW.pp (.pick_and (.t rfl) (fun hp => (by exact .tmp rfl))) (LW.M rfl (LW.Y (LW.M rfl (LW.Y (LW.pp (.tr (PEv.eql (.t rfl) (.const _)) (rfl)) (LW.pp (.pick_and (.t rfl) (fun hp => (by exact .tmp rfl))) (LW.M rfl (LW.Y (LW.M rfl (LW.Y (LW.rr (.buildSlice (xs := [2, 3]) (enc := eInt) (mk := vi) underlying46 sizeOf3 zeroValue3 rfl cQ (fun _ => rfl) (fun _ => rfl) (.cons (.const _) (.cons (.const _) .nil)) rfl) rfl ?_)))))))))))))))))))))))))))))
 rintro _ w21 ⟨B61, cB61, rfl, NB61, yB61, xB61⟩
 replace hS := hS.up NB61.up
 replace hqx := hqx.up NB61.up
 have hE61 := xB61
 refine LW.Y (LW.K (eC (.u rfl rfl) (en29)) rfl (sameInts_any _ _ [2, 3] [2, 3] _ ((hS.own 1 rfl).sl (fun _ => rfl)) (Sl.of_els hE61) cQ cQ) ?_)
 rintro _ w22 ⟨rfl, uw22⟩
 replace hS := hS.up uw22
 replace hqx := hqx.up uw22
 rw [show decide (([2, 3] : List Int) = [2, 3]) = true from decide_eq_true rfl]
 refine LW.pp (.pick_and (.t rfl) (fun hp => (by exact .tmp rfl))) (LW.M rfl (LW.Y (LW.M rfl (LW.Y (LW.pp (.tr (PEv.eql (.t rfl) (.const _)) (rfl)) (LW.pp (.pick_and (.t rfl) (fun hp => (by exact .tmp rfl))) (LW.M rfl (LW.Y (LW.M rfl (LW.Y (LW.pp (.lenS underlying46 (.t rfl)) (LW.Y (LW.pp (.tr (PEv.eql (.t rfl) (.const _)) (rfl)) (LW.pp (.pick_and (.t rfl) (fun hp => (by exact .tmp rfl))) (LW.M rfl (LW.Y (LW.M rfl (LW.Y (LW.pp (.tr (PEv.eql (.t rfl) (.const _)) (rfl)) (LW.pp (.pick_and (.t rfl) (fun hp => (by exact .tmp rfl))) (LW.M rfl (LW.Y (LW.M rfl (LW.Y (LW.pp (.tr (PEv.eql (.t rfl) (.const _)) (rfl)) (LW.pp (.pick_and (.t rfl) (fun hp => (by exact .tmp rfl))) (LW.M rfl (LW.Y (LW.M rfl (LW.Y (LW.K (eC (.o rfl) (en26)) rfl (EWork_any z6.E z6.bf z6.bd z6.bc z6.n _ hz6.hbc (hS.blk 3 rfl)) ?_)))))))))))))))))))))))))))))))
 rintro _ w23 ⟨rfl, uw23⟩
 replace hS := hS.up uw23
 replace hqx := hqx.up uw23
 refine LW.Y (LW.pp (.tr (PEv.eql (.t rfl) (.const _)) (by rw [hn6]; rfl)) (LW.pp (.pick_and (.t rfl) (fun hp => (by exact .tmp rfl))) (LW.M rfl (LW.Y (LW.M rfl (LW.Y (LW.pp (.indexAddr' underlying38 sizeOf48 (j := 1) (.t rfl) (.const _) (Nat.le_of_ble_eq_true rfl) ax) (LW.Y (LW.pp (.fA 1 underlying48 rfl sizeOf45 rfl) (LW.Y (LW.pp (.la isAgg45 sizeOf45 rfl (dp_par hqx)) (LW.Y (LW.pp (.build (cs := (Rt.mk 98 1).cells) underlying45 zeroValue45 Tryz.places45 (.cons (.const _) (.cons (.const _) .nil)) kQ) (LW.Y (LW.pp (.tr (PEv.eqlA eqGuardType45 (Tryz.eqRt _ _) (.t rfl) (.t rfl)) (rtB_self _)) (LW.pp (.pick_and (.t rfl) (fun hp => (by exact .tmp rfl))) (LW.M rfl (LW.Y (LW.M rfl (LW.Y (LW.K (eC (.o rfl) (en14)) rfl (EBase_any z6.E z6.bf z6.bd z6.bc z6.n z6.all _ (hS.blk 3 rfl) (hS.get 4 rfl) (Nat.le_trans hz6.len cQ)) ?_)))))))))))))))))))))
 rintro _ w24 ⟨bc96, rfl, hC96, _, uw24⟩
 replace hS := hS.up uw24
 replace hqx := hqx.up uw24
 obtain ⟨v96, hv96, ad96, cp96, rfl, _⟩ := hC96.at_ (j := 0) cQ
 have hl96 : (lstOf (ofB z6.all 100000) 0).length = 3 := by rw [ha6]; exact p21_6
 rw [hl96] at hv96
 refine LW.Y (LW.pp (.field1 (off := 0) underlying32 rfl rfl isAgg26 (.t rfl) hv96) (LW.Y (LW.pp (.lenS underlying26 (.t rfl)) (LW.Y (LW.pp (.tr (PEv.eql (.t rfl) (.const _)) (rfl)) (LW.pp (.pick_and (.t rfl) (fun hp => (by exact .tmp rfl))) (LW.A rfl (LW.T (CW.ret (KW.ret1 rfl rfl ⟨_, rfl, ?_⟩))))))))))
 exact ⟨rfl, hS.upd⟩
end Go.Proofs.YtbbpkdlehlamlaaGreatDoor
end
section
namespace Go.Wx
end Go.Wx
namespace Go.Proofs.YtbbpkdlehlamlaaGreatDoor
open Go.Proofs.Tryz
open Go.Wx Go.RowKit
theorem sameBV (v1 v2 : Go.Value) (b : Base) (w : World) (h1 : BaseV w v1 b) (h2 : BaseV w v2 b) (hs : short b) : Ret Tryz.prog 27 #[v1, v2] w fun r w' => r = .bool true ∧ Up w w' := by
 obtain ⟨b1, rfl, hC1⟩ := h1
 obtain ⟨b2, rfl, hC2⟩ := h2
 exact (Same_any b1 b2 b b w hC1 hC2 hs).mono fun r w' h => ⟨h.1.trans (by rw [sameB_refl]), h.2⟩
end Go.Proofs.YtbbpkdlehlamlaaGreatDoor
end
section
namespace Go.Wx
theorem bad_key {f : Fact} (h : f.Version < 1) : keyB f = [] := by
 by_cases hk : keyB f = []
 · exact hk
 have := valid_pre (keyB_valid hk)
 unfold preB at this
 rw [decide_eq_true h] at this
 cases this
theorem again_quiet {all l : List Fact} (h : ∀ f ∈ l, f ∈ all ∨ keyB f = []) : (addR (bestL all 100000) l).2 = [] := by
 have step : ∀ f, f ∈ all ∨ keyB f = [] → ∀ T, addS (bestL all 100000, T) f = (bestL all 100000, T) := fun f hf T => by
   have key : chgB (bestL all 100000) f = false ∧ bestStep 100000 (bestL all 100000) f = bestL all 100000 := by
     by_cases hk : keyB f = []
     · exact put_empty hk
     have hfa := hf.resolve_right hk
     have hv := keyB_valid hk
     have hin := (best_inv all 100000).all f hfa hk (valid_day hv)
     cases hg : fget (bestL all 100000) (keyB f) with
     | none => exact absurd (by rw [encM_keys]; exact hin) (fget_none hg)
     | some old =>
       have hm : old ∈ factsM (bestL all 100000) := by
         obtain ⟨p, hp, e⟩ := List.mem_map.1 (fget_some hg)
         have e2 : p.1 = keyB f := by injection e
         unfold fget at hg
         obtain ⟨q, hq, hqy⟩ := Option.map_eq_some_iff.1 hg
         exact List.mem_map.2 ⟨q, List.mem_of_find?_eq_some hq, hqy⟩
       have he := best_eff.1 hm
       exact put_old hk hg (he.2.2.2 f hfa (valid_day hv))
   rw [addS_no key.1]
   exact congrArg (fun m => (m, T)) key.2
 have all_ : ∀ (l : List Fact), (∀ f ∈ l, f ∈ all ∨ keyB f = []) → ∀ T, l.foldl addS (bestL all 100000, T) = (bestL all 100000, T) := by
   intro l
   induction l with
   | nil => exact fun _ _ => rfl
   | cons x l ih => exact fun h T => by rw [List.foldl_cons, step x (h x List.mem_cons_self) T]; exact ih (fun f hf => h f (List.mem_cons_of_mem _ hf)) T
 unfold addR
 rw [all_ l h []]
theorem own_foot {e k : Nat} {enc : Fact → Array Go.Value} {ad : Option Addr} {n c B o : Nat} {xs : List Fact} (h : ad = some ⟨B, o, none⟩) : (aOwn e k enc (.slice ad n c) xs).foot B := by subst h; rfl
end Go.Wx
namespace Go.Proofs.YtbbpkdlehlamlaaGreatDoor
open Go.Proofs.Tryz
open Go.Wx Go.RowKit
set_option maxHeartbeats 4000000 in
theorem EngineTwice_any (ad as_ : Option Addr) (cp cs : Nat) (xs : List I6) (zs : List Int) (raw : Fact) (w : World) (hE1 : Els w ad 6 I6.cells xs) (hZ1 : Els w as_ 1 eInt zs) (hz : ∀ z ∈ zs, inI z) : Ret Tryz.prog 8 #[.slice ad xs.length cp, .slice as_ zs.length cs, .agg raw.cells] w fun r w' => r = .bool true ∧ Up w w' := by
 obtain ⟨w0, rfl⟩ : ∃ w0, w0 = w := ⟨_, rfl⟩
 have hS := Sep.start no w0
 refine cS (n := 93) (m := 9) func8 rfl rfl rfl ?_
 refine CW.S ?_
 refine LW.rr (.boxA (.t rfl)) rfl ?_
 rintro _ w1 ⟨B5, rfl, NB5⟩
 have eB5 := NB5.at_
 have zB5 := NB5.size
 replace hS := hS.addB NB5
 change Wx.Sep _ _ _ [_] at hS
 refine LW.C (LW.S (CW.region ?_))
 refine LW.K (eC .nil (en10)) rfl (sane21_any _) ?_
 rintro _ w2 ⟨rfl, uw2⟩
 have zw2 := uw2.size
 replace hS := hS.up uw2
 refine LW.A rfl (LW.S (CW.region (LW.M rfl ?_)))
 refine LW.K (eC (.o rfl) (en11)) rfl (Some_any ad cp xs _ (Els.up hE1 hS.upd)) ?_
 rintro v18 w3 ⟨hO18, uw3⟩
 have zw3 := uw3.size
 replace hS := hS.add uw3 (A' := aOwn 24 19 Fact.cells v18 (soL xs)) (hO18.mono (Nat.zero_le _)) (fun i h => hO18.base i h)
 change Wx.Sep _ _ _ [_, _] at hS
 clear hO18
 obtain ⟨ad18, cp18, rfl, _⟩ := (hS.own 1 rfl).sl (fun _ => rfl)
 have hxl := soL_len xs
 refine LW.A rfl (LW.S (CW.region ?_))
 refine LW.K (eC .nil (en12)) rfl (ENew_any _) ?_
 rintro _ w4 ⟨z0, rfl, ha0, hn0, hz0, hN0⟩
 replace hS := hS.join hN0
 change Wx.Sep _ _ _ [_, _, _, _, _, _, _] at hS
 clear hN0
 refine LW.A rfl (LW.S (CW.region (LW.M rfl (LW.M rfl ?_))))
 replace hS := hS.pull 2 rfl
 change Wx.Sep _ _ _ [_, _, _, _, _, _, _] at hS
 replace hS := hS.pull 2 rfl
 change Wx.Sep _ _ _ [_, _, _, _, _, _, _] at hS
 replace hS := hS.pull 2 rfl
 change Wx.Sep _ _ _ [_, _, _, _, _, _, _] at hS
 replace hS := hS.pull 2 rfl
 change Wx.Sep _ _ _ [_, _, _, _, _, _, _] at hS
 replace hS := hS.pull 2 rfl
 change Wx.Sep _ _ _ [_, _, _, _, _, _, _] at hS
 have hq_ := (show Wx.Sep _ _ _ ([_, _] ++ [_, _, _, _, _]) from hS)
 refine LW.K (eC (.u rfl rfl) (en13)) rfl (EAdd_any z0 0 ad18 cp18 (soL xs) _ hz0 cQ (by rw [ha0]; simp; omega) (OwnS.elsS (hq_.left.own 1 rfl) (fun _ => rfl)) (fun _ B o e h => hq_.dis ⟨_, List.mem_of_getElem? (i := 1) rfl, own_foot e⟩ h) hq_.right.self) ?_
 rintro _ w5 ⟨z1, rfl, hp1, ha1, hn1, hz1, uw5⟩
 replace hS := hq_.frame uw5
 change Wx.Sep _ _ _ [_, _, _, _, _, _, _] at hS
 have zw5 := uw5.fr.size
 clear hq_
 rw [← hp1]
 replace ha1 : z1.all = soL xs := by rw [ha1, ha0]; rfl
 refine LW.S (CW.region (LW.M rfl ?_))
 refine LW.K (eC (.o rfl) (en26)) rfl (EWork_any z1.E z1.bf z1.bd z1.bc z1.n _ hz1.hbc (hS.blk 2 rfl)) ?_
 rintro _ w6 ⟨rfl, uw6⟩
 have zw6 := uw6.size
 replace hS := hS.up uw6
 refine LW.A rfl (LW.S (CW.region (LW.M rfl ?_)))
 refine LW.K (eC (.o rfl) (en21)) rfl (ELate_any z1.E z1.bf z1.bd z1.bc z1.n z1.kb _ hz1.hbc (hS.blk 2 rfl) (hS.get 4 rfl) (len_ok hz1).1 (len_ok hz1).2.1 (len_ok hz1).2.2.1 (len_ok hz1).2.2.2 val_ok) ?_
 rintro v26 w7 ⟨hO26, uw7⟩
 have zw7 := uw7.size
 replace hS := hS.add uw7 (A' := aOwn 3 1 eInt v26 (lateL z1.kb)) (hO26.mono (Nat.zero_le _)) (fun i h => hO26.base i h)
 change Wx.Sep _ _ _ [_, _, _, _, _, _, _, _] at hS
 clear hO26
 obtain ⟨ad26, cp26, rfl, _⟩ := (hS.own 7 rfl).sl (fun _ => rfl)
 refine LW.A rfl (LW.S (CW.region (LW.M rfl ?_)))
 refine LW.K (eC (.o rfl) (en14)) rfl (EBase_any z1.E z1.bf z1.bd z1.bc z1.n z1.all _ (hS.blk 2 rfl) (hS.get 3 rfl) (Nat.le_trans hz1.len cQ)) ?_
 rintro _ w8 ⟨bc28, rfl, hC28, hb28, uw8⟩
 have zw8 := uw8.size
 replace hS := hS.add uw8 (A' := aBase bc28 z1.kb) (hC28) (aBase_low hb28)
 change Wx.Sep _ _ _ [_, _, _, _, _, _, _, _, _] at hS
 refine LW.rr (.allocA zeroValue32) rfl ?_
 rintro _ w9 ⟨B12, rfl, MB12⟩
 refine LW.E (.storeA sizeOf32 (BaseC.size hC28) (.t rfl) (.t rfl) (BaseC.one (hC28)) MB12.blk rfl) ?_
 intro w10 LB12
 have NB12 := MB12.set LB12
 clear LB12 MB12
 have eB12 := NB12.at_
 have zB12 := NB12.size
 replace hS := hS.addB NB12
 change Wx.Sep _ _ _ [_, _, _, _, _, _, _, _, _, _] at hS
 refine LW.S (CW.region (LW.C (LW.S (CW.seq ?_))))
 replace hS := hS.addn (OwnS.nil _ 0 24 19 Fact.cells)
 replace hS := hS.pull 2 rfl
 replace hS := hS.pull 2 rfl
 replace hS := hS.pull 2 rfl
 replace hS := hS.pull 2 rfl
 replace hS := hS.pull 2 rfl
 change Wx.Sep _ _ _ [_, _, _, _, _, _, _, _, _, _, _] at hS
 refine CW.region (LW.C (LW.T (CW.block ?_)))
 refine CW.loopB (σ := Nat × Go.Value × List Fact) (fun s w => (s.1 ≤ 30) ∧ (s.2.2.length ≤ s.1) ∧ (∀ f ∈ s.2.2, f ∈ soL xs) ∧ (Wx.Sep no w0 w ([aBlk B5 raw.cells 24, aOwn 24 19 Fact.cells (.slice ad18 (soL xs).length cp18) (soL xs), aOwn 3 1 eInt (.slice ad26 (lateL z1.kb).length cp26) (lateL z1.kb), aBase bc28 z1.kb, aBlk B12 bc28 32, aOwn 24 19 Fact.cells s.2.1 (s.2.2)] ++ Eng.As z1))) (fun s => [(14, .eq (vi (s.1 : Int))), (13, .eq (s.2.1))]) ([(1, .eq _), (5, .eq _), (6, .eq _), (7, .eq _), (8, .eq _), (9, .eq _), (10, .eq _), (11, .eq _), (12, .eq _)]) (fun s => 30 - s.1) (0, .slice none 0 0, []) ?_ ⟨rfl, rfl, rfl, rfl, rfl, rfl, rfl, rfl, rfl, rfl, rfl, trivial⟩ ?_
 ·exact ⟨Nat.zero_le _, Nat.le_refl _, fun _ h => (by cases h), hS⟩
 rintro ⟨i, v, M⟩ w11 ⟨hi, hMl, hMm, hS⟩
 dsimp only at hi hMl hMm hS
 change Wx.Sep _ _ _ [_, _, _, _, _, _, _, _, _, _, _] at hS
 change CW _ _ _ _ _ _ _ ([(14, .eq (vi (i : Int))), (13, .eq (v))] ++ _) _
 refine CW.seq (CW.S (LW.M rfl (LW.M rfl ?_)))
 refine LW.pp (.lenS underlying46 (.t rfl)) ?_
 refine LW.pp (.lss (.t rfl) (.t rfl)) ?_
 refine LW.M rfl ?_
 refine LW.g rfl rfl rfl rfl rfl rfl rfl (fun hc => PEv.move (.t rfl)) ?_
 refine LW.g rfl rfl rfl rfl rfl rfl rfl (fun hc => PEv.lss vQ (.const _)) ?_
 refine LW.pp (.pick_and (.t rfl) (fun hp => (by first | exact .const _ | exact .tmp rfl | exact .cond rfl (by first | assumption | (rw [hp]; rfl) | (rw [hc, hp]; rfl) | simp_all)))) ?_
 refine LW.M rfl ?_
 refine LW.g rfl rfl rfl rfl rfl rfl rfl (fun hc => PEv.move (.t rfl)) ?_
 refine LW.g rfl rfl rfl rfl rfl rfl rfl (fun hc => PEv.lenS underlying26 vQ) ?_
 refine LW.g rfl rfl rfl rfl rfl rfl rfl (fun hc => PEv.gtr vQ (.const _)) ?_
 refine LW.pp (.pick_and (.t rfl) (fun hp => (by first | exact .const _ | exact .tmp rfl | exact .cond rfl (by first | assumption | (rw [hp]; rfl) | (rw [hc, hp]; rfl) | simp_all)))) ?_
 refine LW.T ?_
 refine CW.cond (.t rfl) (fun h41 => ?_) (fun h41 => ?_)
 ·replace h41 := dQ h41
  refine CW.skip (KW.then (CW.seq (CW.block ?_)))
  have h41b : (i < zs.length ∧ i < 30) ∧ 0 < (soL xs).length := by have h5 := h41; simp at h5; omega
  obtain ⟨z, hzx⟩ : ∃ z, zs[i]? = some z := ⟨_, List.getElem?_eq_getElem h41b.1.1⟩
  obtain ⟨Bz, oz, az, hcz⟩ := (Els.up hZ1 hS.upd) i z hzx
  have hzi := hz z (List.mem_of_getElem? hzx)
  refine CW.region (LW.M rfl (LW.M rfl (LW.M rfl (LW.M rfl ?_))))
  refine LW.pp (.indexAddr' underlying46 sizeOf3 (j := i) (.t rfl) (.t rfl) oQ az) ?_
  refine LW.pp (.ld isAgg3 rfl (hcz.nth (j := 0) rfl)) ?_
  refine LW.M rfl ?_
  refine LW.pp (.lenS underlying26 (.t rfl)) ?_
  refine LW.K (eC (.u rfl rfl) (en19)) rfl (pick21_any z _ _ oQ) ?_
  rintro _ w12 ⟨rfl, uw12⟩
  have zw12 := uw12.size
  replace hS := hS.up uw12
  have hpr := pick_range (c := z) (n := ((soL xs).length : Int)) hzi oQ
  obtain ⟨j, hj⟩ : ∃ j : Nat, pickI z ((soL xs).length : Int) = j := ⟨(pickI z ((soL xs).length : Int)).toNat, by omega⟩
  rw [hj] at hpr ⊢
  have hjl : j < (soL xs).length := by omega
  obtain ⟨y, hy⟩ : ∃ y, (soL xs)[j]? = some y := ⟨_, List.getElem?_eq_getElem hjl⟩
  obtain ⟨By, oy, ay, hcy⟩ := (OwnS.elsS (hS.own 1 rfl) (fun _ => rfl)) j y hy
  refine LW.pp (.indexAddr' underlying26 sizeOf24 (j := j) (.t rfl) (.t rfl) oQ ay) ?_
  refine LW.pp (.la isAgg24 sizeOf24 rfl (hcy)) ?_
  refine LW.rr (.buildSlice (xs := [y]) (enc := Fact.cells) (mk := fun f : Fact => .agg f.cells) underlying26 sizeOf24 zeroValue24 rfl cQ (fun _ => rfl) (fun _ => rfl) (.cons (.t rfl) .nil) rfl) rfl ?_
  rintro _ w13 ⟨B55, cB55, rfl, NB55, yB55, xB55⟩
  have eB55 := NB55.at_
  have zB55 := NB55.size
  replace hS := hS.up NB55.up
  have hE55 := xB55
  refine LW.rr (.appendF (enc := Fact.cells) (bytes := 160) (i := Tryz.t24) underlying26 kQ rfl rfl rfl rfl cQ (fun _ => rfl) Fact.one (.t rfl) (.t rfl) (hS.own 5 rfl) (Sl.of_els hE55) (by simp only [maxLen, List.length_cons, List.length_nil]; omega) (by simp only [List.length_cons, List.length_nil]; omega)) rfl ?_
  intro v56 w14 Gw14
  have zw14 := Gw14.fr.size
  replace hS := hS.stp 5 rfl Gw14
  change Wx.Sep _ _ _ [_, _, _, _, _, _, _, _, _, _, _] at hS
  refine LW.A rfl (LW.nil (KW.inBlock (KW.then (CW.region (LW.M rfl ?_)))))
  refine LW.pp (.inc (.t rfl) oQ) ?_
  refine LW.A rfl (LW.nil (KW.round ?_))
  exact ⟨(i + 1, v56, M ++ [y]), ⟨by show i + 1 ≤ 30; omega, by rw [List.length_append, List.length_singleton]; show M.length + 1 ≤ i + 1; omega, fun f hf => (List.mem_append.1 hf).elim (hMm f) (fun h => by rw [List.mem_singleton.1 h]; exact List.mem_of_getElem? hy), hS⟩, ⟨rfl, rfl, rfl, rfl, rfl, rfl, rfl, rfl, rfl, rfl, rfl, trivial⟩, by show 30 - (i + 1) < 30 - i; omega⟩
 replace h41 := dQ h41
 refine CW.exit (KW.then_exit (KW.then_exit (KW.block_hit (KW.then (CW.S ?_)))))
 refine LW.pp (.fA 2 underlying24 rfl sizeOf3 rfl) ?_
 refine LW.E (.store sizeOf3 (.t rfl) (.const _) rfl (hS.blk 0 rfl) (Nat.le_of_ble_eq_true rfl)) ?_
 intro w15 Nw15
 have zw15 := Nw15.size
 replace hS := hS.putB 0 rfl (show Set_ _ w15 _ (({ raw with Version := 0 } : Fact).cells) _ from Nw15)
 change Wx.Sep _ _ _ [_, _, _, _, _, _, _, _, _, _, _] at hS
 refine LW.S (CW.region (LW.M rfl ?_))
 refine LW.pp (.la isAgg24 sizeOf24 rfl ((hS.blk 0 rfl).agg)) ?_
 refine LW.rr (.buildSlice (xs := [({ raw with Version := 0 } : Fact)]) (enc := Fact.cells) (mk := fun f : Fact => .agg f.cells) underlying26 sizeOf24 zeroValue24 rfl cQ (fun _ => rfl) (fun _ => rfl) (.cons (.t rfl) .nil) rfl) rfl ?_
 rintro _ w16 ⟨B60, cB60, rfl, NB60, yB60, xB60⟩
 have eB60 := NB60.at_
 have zB60 := NB60.size
 replace hS := hS.up NB60.up
 have hE60 := xB60
 refine LW.rr (.appendF (enc := Fact.cells) (bytes := 160) (i := Tryz.t24) underlying26 kQ rfl rfl rfl rfl cQ (fun _ => rfl) Fact.one (.t rfl) (.t rfl) (hS.own 5 rfl) (Sl.of_els hE60) (by simp only [maxLen, List.length_cons, List.length_nil]; omega) (by simp only [List.length_cons, List.length_nil]; omega)) rfl ?_
 intro v61 w17 Gw17
 have zw17 := Gw17.fr.size
 replace hS := hS.stp 5 rfl Gw17
 change Wx.Sep _ _ _ [_, _, _, _, _, _, _, _, _, _, _] at hS
 refine LW.A rfl (LW.S ?_)
 obtain ⟨adm, cpm, rfl, _⟩ := (hS.own 5 rfl).sl (fun _ => rfl)
 refine CW.region (LW.M rfl (LW.M rfl ?_))
 replace hS := hS.pull 6 rfl
 change Wx.Sep _ _ _ [_, _, _, _, _, _, _, _, _, _, _] at hS
 replace hS := hS.pull 6 rfl
 change Wx.Sep _ _ _ [_, _, _, _, _, _, _, _, _, _, _] at hS
 replace hS := hS.pull 6 rfl
 change Wx.Sep _ _ _ [_, _, _, _, _, _, _, _, _, _, _] at hS
 replace hS := hS.pull 6 rfl
 change Wx.Sep _ _ _ [_, _, _, _, _, _, _, _, _, _, _] at hS
 replace hS := hS.pull 6 rfl
 change Wx.Sep _ _ _ [_, _, _, _, _, _, _, _, _, _, _] at hS
 have hq_ := (show Wx.Sep _ _ _ ([_, _, _, _, _, _] ++ [_, _, _, _, _]) from hS)
 refine LW.K (eC (.u rfl rfl) (en13)) rfl (EAdd_any z1 1 adm cpm (M ++ [({ raw with Version := 0 } : Fact)]) _ hz1 cQ (by rw [ha1]; simp; omega) (OwnS.elsS (hq_.left.own 5 rfl) (fun _ => rfl)) (fun _ B o e h => hq_.dis ⟨_, List.mem_of_getElem? (i := 5) rfl, own_foot e⟩ h) hq_.right.self) ?_
 rintro _ w18 ⟨z2, rfl, hp2, ha2, hn2, hz2, uw18⟩
 replace hS := hq_.frame uw18
 change Wx.Sep _ _ _ [_, _, _, _, _, _, _, _, _, _, _] at hS
 have zw18 := uw18.fr.size
 clear hq_
 have hq2 := again_quiet (all := z1.all) (l := M ++ [({ raw with Version := 0 } : Fact)]) (fun f hf => (List.mem_append.1 hf).elim (fun h => .inl (by rw [ha1]; exact hMm f h)) (fun h => .inr (by rw [List.mem_singleton.1 h]; exact bad_key (by show (0 : Int) < 1; decide))))
 rw [cnt_zero hq2] at hn2
 rw [cnt_zero hq2, ← hp2]
 have hkb : z2.kb = z1.kb := by unfold Eng.kb; rw [ha2]; exact (ofB_quiet hq2).symm
 have hnw : z2.n = z1.n := by rw [hn2]; simp
 have hsh2 : short z2.kb := ofB_short (Nat.le_trans hz2.len cQ) _
 have hll : (lateL z2.kb).length ≤ 1000000000 := by have h1 := late_len z2.kb z2.kb.Processes z2.kb.Processes.length; rw [List.take_length] at h1; have h2 := (len_ok hz2).1; unfold lateL; rw [List.length_mergeSort]; omega
 refine LW.A rfl (LW.S ?_)
 refine CW.draws kQ kQ rfl rfl ?_
 refine HW.pp (.move (.t rfl)) ?_
 refine HW.pp (.move (.t rfl)) ?_
 refine HW.yy (.move (.t rfl)) ?_
 refine HW.yy (.tr (PEv.eql (.t rfl) (.const _)) (rfl)) ?_
 refine HW.pp (.pick_and (.t rfl) (fun hp => (by first | exact .const _ | exact .tmp rfl | exact .cond rfl (by first | assumption | (rw [hp]; rfl) | (rw [hc, hp]; rfl) | simp_all)))) ?_
 refine HW.pp (.move (.t rfl)) ?_
 refine HW.yy (.move (.t rfl)) ?_
 refine HW.yc rfl rfl rfl rfl rfl (fun a w _ ha => enter_call0 (.cons (.t rfl) .nil) (en26) a ha) rfl (fun w hu => EWork_any z2.E z2.bf z2.bd z2.bc z2.n w hz2.hbc ((hS.up hu).blk 6 rfl)) ?_
 refine HW.yy (.move (.t rfl)) ?_
 refine HW.yy (.tr (PEv.eql (.t rfl) (.t rfl)) (decide_eq_true hnw)) ?_
 refine HW.pp (.pick_and (.t rfl) (fun hp => (by first | exact .const _ | exact .tmp rfl | exact .cond rfl (by first | assumption | (rw [hp]; rfl) | (rw [hc, hp]; rfl) | simp_all)))) ?_
 refine HW.pp (.move (.t rfl)) ?_
 refine HW.yy (.move (.t rfl)) ?_
 refine HW.yqc (ph := .pred fun v w => BaseV w v z2.kb) (fun _ _ _ h u => BaseV.up h u) rfl rfl rfl rfl rfl (fun a w hu ha => ⟨_, _, enter_call0 (.cons (.t rfl) .nil) (en14) a ha, (EBase_any z2.E z2.bf z2.bd z2.bc z2.n z2.all w ((hS.up hu).blk 6 rfl) ((hS.up hu).get 7 rfl) (Nat.le_trans hz2.len cQ)).mono fun v w' h => (let ⟨bc1, e, hC, _, u⟩ := h; ⟨u, bc1, e, hC⟩)⟩) rfl ?_
 refine HW.yy (.loadA isAgg32 sizeOf32 ((BaseC.size (hS.get 3 rfl))) (.t rfl) ((hS.blk 4 rfl).agg)) ?_
 refine HW.yqc (ph := .eq (.bool true)) (phUp.eq _) rfl rfl rfl rfl rfl (fun a w hu ha => ⟨_, _, enter_any2 en27 a w, (sameBV (a.eval (.tmp 78)) (a.eval (.tmp 79)) z2.kb w (ha.known (p := fun v w => BaseV w v z2.kb) rfl) ⟨bc28, ha.ev (.t rfl), by rw [hkb]; exact (hS.up hu).get 3 rfl⟩ hsh2).mono fun _ _ h => ⟨h.2, h.1⟩⟩) rfl ?_
 refine HW.pp (.pick_and (.t rfl) (fun hp => (by first | exact .const _ | exact .tmp rfl | exact .cond rfl (by first | assumption | (rw [hp]; rfl) | (rw [hc, hp]; rfl) | simp_all)))) ?_
 refine HW.pp (.move (.t rfl)) ?_
 refine HW.yy (.move (.t rfl)) ?_
 refine HW.yqc (ph := .pred fun v w => Sl w v 1 eInt (lateL z2.kb)) (fun _ _ _ h u => Sl.up h u) rfl rfl rfl rfl rfl (fun a w hu ha => ⟨_, _, enter_call0 (.cons (.t rfl) .nil) (en21) a ha, (ELate_any z2.E z2.bf z2.bd z2.bc z2.n z2.kb w hz2.hbc ((hS.up hu).blk 6 rfl) ((hS.up hu).get 8 rfl) (len_ok hz2).1 (len_ok hz2).2.1 (len_ok hz2).2.2.1 (len_ok hz2).2.2.2 val_ok).mono fun v w' h => ⟨h.2, h.1.sl (fun _ => rfl)⟩⟩) rfl ?_
 refine HW.yy (.move (.t rfl)) ?_
 refine HW.yqc (ph := .eq (.bool true)) (phUp.eq _) rfl rfl rfl rfl rfl (fun a w hu ha => ⟨_, _, enter_any2 en29 a w, (sameInts_any (a.eval (.tmp 84)) (a.eval (.tmp 85)) (lateL z2.kb) (lateL z2.kb) w (ha.known (p := fun v w => Sl w v 1 eInt (lateL z2.kb)) rfl) (by rw [ha.ev (x := .tmp 85) (.t rfl), hkb]; exact ((hS.up hu).own 2 rfl).sl (fun _ => rfl)) hll hll).mono fun _ _ h => ⟨h.2, h.1.trans (by rw [decide_eq_true rfl])⟩⟩) rfl ?_
 refine HW.pp (.pick_and (.t rfl) (fun hp => (by first | exact .const _ | exact .tmp rfl | exact .cond rfl (by first | assumption | (rw [hp]; rfl) | (rw [hc, hp]; rfl) | simp_all)))) ?_
 refine HW.pp (.move (.t rfl)) ?_
 refine HW.yy (.move (.t rfl)) ?_
 refine HW.yy (.loadA isAgg32 sizeOf32 ((BaseC.size (hS.get 3 rfl))) (.t rfl) ((hS.blk 4 rfl).agg)) ?_
 refine HW.yc rfl rfl rfl rfl rfl (fun a w _ ha => enter_call0 (.cons (.t rfl) (.cons (.t rfl) .nil)) (en33) a ha) rfl (fun w hu => same21_any z2.E z2.bf z2.bd z2.bc z2.n z2.D z2.kb bc28 w hz2.hbc hz2.keys hz2.dks (len_ok hz2).1 (len_ok hz2).2.1 (len_ok hz2).2.2.1 (len_ok hz2).2.2.2 ((hS.up hu).blk 6 rfl) ((hS.up hu).get 9 rfl) ((hS.up hu).get 10 rfl) (by rw [hkb]; exact (hS.up hu).get 3 rfl)) ?_
 refine HW.pp (.pick_and (.t rfl) (fun hp => (by first | exact .const _ | exact .tmp rfl | exact .cond rfl (by first | assumption | (rw [hp]; rfl) | (rw [hc, hp]; rfl) | simp_all)))) ?_
 refine HW.pp (.assign (.t rfl)) ?_
 refine HW.nil ?_
 intro w19 uw19
 have zw19 := uw19.size
 replace hS := hS.up uw19
 refine KW.then (CW.ret ?_)
 refine KW.ret1 rfl rfl ⟨_, rfl, ?_⟩
 exact ⟨rfl, hS.upd⟩
end Go.Proofs.YtbbpkdlehlamlaaGreatDoor
end
