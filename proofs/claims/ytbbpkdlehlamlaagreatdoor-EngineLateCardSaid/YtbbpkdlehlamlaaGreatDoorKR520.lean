import Derived.Test.YtbbpkdlehlamlaaGreatDoorKR519
import Derived.Sort.OwnSortedInts
section
namespace Go.Wx
theorem flat_int (ks : List Int) : ks.flatMap (fun x => (eInt x).toList) = ks.map vi := by
 induction ks with
 | nil => rfl
 | cons k ks ih => rw [List.flatMap_cons, ih]; rfl
def isLate (kb : Base) (id : Int) : Bool := decide ((expF kb id).2.2 = 0) && !(expF kb id).2.1
def lateP (kb : Base) (l : List Fact) : List Int := (l.filter fun p => isLate kb p.ID).map (·.ID)
def lateL (kb : Base) : List Int := (lateP kb kb.Processes).mergeSort fun x y => decide (x ≤ y)
theorem late_yes {kb : Base} {l : List Fact} {i : Nat} {x : Fact} (h : l[i]? = some x) (hx : isLate kb x.ID = true) : lateP kb (l.take (i + 1)) = lateP kb (l.take i) ++ [x.ID] := by
 unfold lateP
 rw [List.take_add_one, h, Option.toList_some, List.filter_append, List.map_append]
 simp [hx]
theorem late_no {kb : Base} {l : List Fact} {i : Nat} {x : Fact} (h : l[i]? = some x) (hx : isLate kb x.ID = false) : lateP kb (l.take (i + 1)) = lateP kb (l.take i) := by
 unfold lateP
 rw [List.take_add_one, h, Option.toList_some, List.filter_append, List.map_append]
 simp [hx]
theorem late_len (kb : Base) (l : List Fact) (i : Nat) : (lateP kb (l.take i)).length ≤ l.length := by
 unfold lateP
 rw [List.length_map]
 exact Nat.le_trans (List.length_filter_le _ _) (by rw [List.length_take]; omega)
theorem sl_els {α : Type} {w : World} {ad : Option Addr} {n c k : Nat} {enc : α → Array Go.Value} {xs : List α} (h : Sl w (.slice ad n c) k enc xs) : Els w ad k enc xs := by
 obtain ⟨a, c', e, he⟩ := h
 cases e
 exact he
theorem des_none {b : Base} {t c r : Int} (h : ∀ p ∈ b.Processes, gof p ≠ ⟨t, c, r⟩) : desF b t c r = [] := by
 have : rnsF b t c r = [] := List.eq_nil_iff_forall_not_mem.2 fun x hx => by
   obtain ⟨h1, h2, h3, h4⟩ := rns_mem.1 hx
   exact h x h1 (by unfold gof; rw [h2, h3, h4])
 unfold desF
 rw [this]
 rfl
end Go.Wx
namespace Go.Proofs.YtbbpkdlehlamlaaGreatDoor
open Go.Proofs.Tryz
open Go.Wx Go.RowKit
theorem sortS_any (v : Go.Value) (ks : List Int) (w : World) (h : OwnS w 0 3 1 eInt v ks) (hlen : ks.length < 4611686018427387904) : Ret Tryz.prog 53 #[v] w fun r w' => r = .tuple #[] ∧ Stp (aOwn 3 1 eInt v ks) (aOwn 3 1 eInt v (ks.mergeSort fun x y => decide (x ≤ y))) w w' := by
 have h0 := h
 obtain ⟨h1, ⟨rfl, hn⟩ | ⟨g, cap, cur, rfl, hg, hb, h2, h3, h4, h5⟩⟩ := h
 · have hks : ks = [] := List.eq_nil_of_length_eq_zero hn
   subst hks
   refine Calls.mono (Tryz.slices_Sort_int_none none 0 w) ?_
   rintro e' w' ⟨rfl, rfl⟩
   exact ⟨_, rfl, rfl, Fr.refl _ _, show OwnS w' 0 3 1 eInt (.slice none 0 0) (List.mergeSort [] _) from by simpa using h0, fun _ h => .inl h⟩
 rw [flat_int] at h5
 have hl : g < w.heap.size := lt_of_block hb
 refine Calls.mono (Tryz.slices_Sort_int g 0 cap ks w (Go.holds_of_blockI hb (by simpa using h5)) hl hlen) ?_
 rintro e' w' ⟨rfl, n, os, rfl⟩
 have hg2 := Go.grownBy_sortedI (w := w) (g := g) (n := n) (os := os) (ks.mergeSort fun x y => decide (x ≤ y)).toArray
 have ho := Go.ownsRow_sortedI (w := w) (n := n) (os := os) (ss := ks) (ts := ks.mergeSort fun x y => decide (x ≤ y)) (by simp) hg hb h2 h3 h4
 refine ⟨_, rfl, rfl, ⟨hg2.os, hg2.tape, hg2.output, hg2.size, fun i hi hn => hg2.block i hi (fun e => hn (by cases e; rfl))⟩, ?_, fun _ h => .inl h⟩
 show World.ownsRow _ _ _ _ _ _ _
 rw [flat_int, List.length_mergeSort]
 exact ho
theorem cloneI_any (ad : Option Addr) (cp : Nat) (l : List Int) (w : World) (hE0 : Els w ad 1 eInt l) (hl : l.length ≤ 1000000000) : Ret Tryz.prog 45 #[.slice ad l.length cp] w fun r w' => OwnS w' w.heap.size 3 1 eInt r l ∧ Up w w' := by
 obtain ⟨w0, rfl⟩ : ∃ w0, w0 = w := ⟨_, rfl⟩
 have hS := Sep.start no w0
 refine cS (n := 8) (m := 9) func45 rfl rfl rfl (CW.S (LW.C (LW.S (CW.S (LW.M rfl (LW.pp (.eqlNilS underlying46 (.t rfl)) (LW.T (CW.cond (.t rfl) (fun h4 => ?_) (fun h4 => ?_)))))))))
 ·have hnil : l = [] := by cases l with | nil => rfl | cons x r => (obtain ⟨B, o, e, _⟩ := hE0 0 x rfl; rw [e] at h4; cases h4)
  refine CW.S (LW.C (LW.T (CW.ret (KW.then_ret (KW.ret1 rfl rfl ⟨_, rfl, ?_⟩)))))
  (subst hnil; exact ⟨OwnS.nil _ _ _ _ _, hS.upd⟩)
 refine CW.skip (KW.then (CW.S (LW.rr (.buildSlice (xs := ([] : List Int)) (enc := eInt) (mk := vi) underlying46 sizeOf3 zeroValue3 rfl cQ (fun _ => rfl) (fun _ => rfl) .nil rfl) rfl ?_)))
 intro v5 w1 hN5
 obtain ⟨uw1, B5, rfl, hO5⟩ := NewSl.own0 hN5 (Nat.le_refl _)
 replace hS := hS.add uw1 (A' := aOwn 3 1 eInt (.slice (some ⟨B5, 0, none⟩) 0 0) ([] : List Int)) (hO5.mono (Nat.zero_le _)) (fun i h => hO5.base i h)
 refine LW.M rfl (LW.rr (.appendF (enc := eInt) (bytes := 8) (i := Tryz.t3) underlying46 kQ rfl rfl rfl rfl cQ (fun _ => rfl) eInt_one (.t rfl) (.t rfl) (hS.own 0 rfl) (Sl.of_els (Els.up hE0 hS.upd)) (by simp [maxLen]; omega) (by simp; omega)) rfl ?_)
 intro v7 w2 Gw2
 replace hS := hS.stp 0 rfl Gw2
 refine LW.A rfl (LW.T (CW.ret (KW.ret1 rfl rfl ⟨_, rfl, ?_⟩)))
 exact ⟨(hS.own 0 rfl).rebase (fun i h => (hS.foot 0 rfl i h).resolve_left (fun h => h)), hS.upd⟩
theorem ELate_any (E bf bd : Nat) (bc : Array Go.Value) (nw : Int) (kb : Base) (w : World) (hbc : bc.size = 11) (hE : Blk w E (EC bf bc bd nw) 80) (hC : BaseC w bc kb) (hlP : kb.Processes.length ≤ 100) (hlM : kb.Measures.length ≤ 100) (hlR : kb.Resets.length ≤ 100) (hlT : kb.Targets.length ≤ 100) (hV : ∀ f ∈ kb.Processes, inI f.Value) : Ret Tryz.prog 21 #[.pointer (some ⟨E, 0, none⟩)] w fun r w' => OwnS w' w.heap.size 3 1 eInt r (lateL kb) ∧ Up w w' := by
 obtain ⟨w0, rfl⟩ : ∃ w0, w0 = w := ⟨_, rfl⟩
 have hS := Sep.start no w0
 refine cS (n := 46) (m := 9) func21 rfl rfl rfl (CW.S (LW.C (LW.S (CW.S (LW.M rfl (LW.pp (.fa (PEv.eqlNil underlying28 (.t rfl)) (rfl)) (LW.T (CW.cond_false (.t rfl) (CW.skip (KW.then (CW.seq (CW.seq ?_))))))))))))
 obtain ⟨_, hvp, adp, cpp, rfl, hEp0⟩ := BaseC.at_ hC (j := 0) cQ
 replace hvp : bc[0]? = some (.slice adp kb.Processes.length cpp) := hvp
 have hEp : Els _ adp 19 Fact.cells kb.Processes := hEp0
 replace hS := hS.addn (OwnS.nil _ 0 3 1 eInt)
 refine CW.region (LW.M rfl (LW.pp (.nilCheck (.t rfl)) (LW.pp (.fA 1 underlying80 rfl sizeOf32 rfl) (LW.pp (.fA 0 underlying32 rfl sizeOf26 rfl) (LW.pp (.ld isAgg26 rfl (EC_lst (hE.up hS.upd) hvp)) (LW.pp (.lenS underlying26 (.t rfl)) (LW.pp (.move (.const _)) (LW.T (CW.block (CW.loopB (σ := Nat × Go.Value) (fun s w => (s.1 ≤ kb.Processes.length) ∧ (Wx.Sep no w0 w [aOwn 3 1 eInt s.2 (lateP kb (kb.Processes.take s.1))])) (fun s => [(16, .eq (vi (s.1 : Int))), (2, .eq (s.2))]) ([(0, .eq _), (14, .eq _), (15, .eq _)]) (fun s => kb.Processes.length - s.1) (0, .slice none 0 0) ?_ ⟨rfl, rfl, rfl, rfl, rfl, trivial⟩ ?_))))))))))
 ·exact ⟨Nat.zero_le _, hS⟩
 rintro ⟨i, v⟩ w1 ⟨hi, hS⟩
 change CW _ _ _ _ _ _ _ ([(16, .eq (vi (i : Int))), (2, .eq (v))] ++ _) _
 refine CW.seq ?_
 skip
 refine CW.region (LW.pp (.lss (.t rfl) (.t rfl)) (LW.S (CW.cond (.t rfl) (fun h17 => ?_) (fun h17 => ?_))))
 ·replace h17 := dQ h17
  refine CW.skip (KW.then (CW.seq (CW.block (CW.seq ?_))))
  have hil : i < kb.Processes.length := by omega
  obtain ⟨x, hx⟩ : ∃ x, kb.Processes[i]? = some x := ⟨_, List.getElem?_eq_getElem hil⟩
  obtain ⟨Bx, ox, ax, hcx⟩ := (Els.up hEp hS.upd) i x hx
  have hll := late_len kb kb.Processes i
  refine CW.region (LW.pp (.indexAddr' underlying26 sizeOf24 (j := i) (.t rfl) (.t rfl) oQ ax) (LW.pp (.la isAgg24 sizeOf24 rfl (hcx)) (LW.rr (.allocA zeroValue24) rfl ?_)))
  rintro _ w2 ⟨B4, rfl, MB4⟩
  refine LW.E (.storeA sizeOf24 rfl (.t rfl) (.t rfl) (Fact.one _) MB4.blk rfl) ?_
  intro w3 LB4
  have NB4 := MB4.set LB4
  replace hS := hS.addB NB4
  refine LW.S (CW.boxU 15 11 12 8 5 28 (DP.cells ⟨dec0, none, 0⟩) [.eq (.pointer (some ⟨E, 0, none⟩)), .eq (.pointer (some ⟨E, 0, none⟩)), .eq (.pointer (some ⟨E, 1, none⟩)), .eq (.agg bc), .eq (.pointer (some ⟨B4, 1, none⟩)), .eq (vi x.ID), .pred (fun v _ => ∃ ad cp, v = .tuple #[.agg (DP.cells ⟨(expF kb x.ID).1, ad, cp⟩), .bool (expF kb x.ID).2.1, vi (expF kb x.ID).2.2]), .pred (fun v _ => ∃ ad cp, v = .tuple #[.agg (DP.cells ⟨(expF kb x.ID).1, ad, cp⟩), .bool (expF kb x.ID).2.1, vi (expF kb x.ID).2.2]), .pred (fun v _ => ∃ ad cp, v = .agg (DP.cells ⟨(expF kb x.ID).1, ad, cp⟩)), .eq (.bool (expF kb x.ID).2.1), .eq (vi (expF kb x.ID).2.2), .pred fun v _ => ∃ B, v = .pointer (some ⟨B, 0, none⟩), .eq undef, .eq (.bool (expF kb x.ID).2.1), .eq (vi (expF kb x.ID).2.2)] [6, 7] zeroValue48 sizeOf48 kQ rfl kQ kQ kQ kQ kQ kQ kQ rfl rfl ⟨_, _, _, rfl⟩ _ rfl ⟨_, _, _, rfl⟩ ⟨PhT.eq _ _, PhT.eq _ _, PhT.eq _ _, PhT.eq _ _, PhT.eq _ _, PhT.eq _ _, PhT.pred fun _ _ _ h _ => h, PhT.pred fun _ _ _ h _ => h, PhT.pred fun _ _ _ h _ => h, PhT.eq _ _, PhT.eq _ _, PhT.pred fun _ _ _ h _ => h, PhT.eq _ _, PhT.eq _ _, PhT.eq _ _, trivial⟩ rfl (fun v W h => let ⟨ad, cp, e⟩ := h; ⟨_, e, rfl, DP.one _⟩) (fun B W => ⟨B, rfl⟩) ?_ ?_)
  ·intro W hU0
   have hU := (Up.drew w3).trans hU0
   have hSW := hS.up hU
   have hEW := hE.up hSW.upd
   have hCW := BaseC.up hC hSW.upd
   refine aC (.inr ⟨rfl, TU.p (.move (.t rfl)) rfl⟩) (aC (.inr ⟨rfl, TU.p (.nilCheck (.t rfl)) rfl⟩) (aC (.inr ⟨rfl, TU.p (.fA 1 underlying80 rfl sizeOf32 rfl) rfl⟩) (aC (.inr ⟨rfl, TU.p (.loadA isAgg32 sizeOf32 hbc (.t rfl) (EC_known hEW)) rfl⟩) (aC (.inr ⟨rfl, TU.p (.fA 1 underlying24 rfl sizeOf3 rfl) rfl⟩) (aC (.inr ⟨rfl, TU.p (.ld isAgg3 rfl ((hSW.blk 1 rfl).celln rfl)) rfl⟩) (aC (.inr ⟨rfl, TU.c (eC (.u rfl rfl) (en22)) (Explain_any bc kb x.ID W hCW oQ oQ oQ oQ hV) (by rintro _ W1 ⟨v, rfl, ⟨ad, cp, rfl, _⟩, u⟩; exact ⟨u, ad, cp, rfl⟩)⟩) (aC (.inr ⟨rfl, TU.open (d := 27) rfl fun v hv => TU.p (.move (.t rfl)) hv⟩) (aC (.inr ⟨rfl, TU.open (d := 20) rfl fun v hv => by obtain ⟨ad, cp, rfl⟩ := hv; exact TU.p (.extract (.t rfl) rfl) ⟨ad, cp, rfl⟩⟩) (aC (.inr ⟨rfl, TU.open (d := 20) rfl fun v hv => by obtain ⟨ad, cp, rfl⟩ := hv; exact TU.p (.extract (.t rfl) rfl) rfl⟩) (aC (.inr ⟨rfl, TU.open (d := 20) rfl fun v hv => by obtain ⟨ad, cp, rfl⟩ := hv; exact TU.p (.extract (.t rfl) rfl) rfl⟩) (aC (.inl (.inl rfl)) (aC (.inl (.inr rfl)) (aC (.inr ⟨rfl, TU.p (.assign (.t rfl)) rfl⟩) (aC (.inr ⟨rfl, TU.p (.assign (.t rfl)) rfl⟩) ?_))))))))))))))
   exact allL.nil
  intro w4 B5 g hU0 zB5_ _ hg
  have hU := (Up.drew w3).trans hU0
  have e6 : g 6 = .bool (expF kb x.ID).2.1 := hg 13 _ 6 cQ rfl rfl
  have e7 : g 7 = vi (expF kb x.ID).2.2 := hg 14 _ 7 cQ rfl rfl
  change LW _ _ _ _ _ _ _ _ ((5, _) :: (6, .eq (g 6)) :: (7, .eq (g 7)) :: _) _
  rw [e6, e7]
  replace hS := hS.up hU
  refine LW.S (CW.region (LW.M rfl (LW.pp (.eql (.t rfl) (.const _)) (LW.M rfl (LW.g rfl rfl rfl rfl rfl rfl rfl (fun hc => PEv.move (.t rfl)) (LW.g rfl rfl rfl rfl rfl rfl rfl (fun hc => PEv.not vQ) (LW.pp (.pick_and (.t rfl) (fun hp => (by exact .cond rfl (by simp_all)))) (LW.T (CW.cond (.t rfl) (fun h36 => ?_) (fun h36 => ?_))))))))))
  ·replace h36 := dQ h36
   refine CW.region (LW.M rfl (LW.pp (.fA 1 underlying24 rfl sizeOf3 rfl) (LW.pp (.ld isAgg3 rfl ((hS.blk 1 rfl).celln rfl)) (LW.rr (.buildSlice (xs := [x.ID]) (enc := eInt) (mk := vi) underlying46 sizeOf3 zeroValue3 rfl cQ (fun _ => rfl) (fun _ => rfl) (.cons (.t rfl) .nil) rfl) rfl ?_))))
   rintro _ w5 ⟨B40, cB40, rfl, NB40, yB40, xB40⟩
   replace hS := hS.up NB40.up
   have hE40 := xB40
   refine LW.rr (.appendF (enc := eInt) (bytes := 8) (i := Tryz.t3) underlying46 kQ rfl rfl rfl rfl cQ (fun _ => rfl) eInt_one (.t rfl) (.t rfl) (hS.own 0 rfl) (Sl.of_els hE40) (by simp [maxLen]; omega) (by simp; omega)) rfl ?_
   intro v41 w6 Gw6
   replace hS := hS.stp 0 rfl Gw6
   refine LW.A rfl (LW.nil (KW.inBlock (KW.then (CW.region (LW.pp (.inc (.t rfl) oQ) (LW.M rfl (LW.nil (KW.round ?_))))))))
   exact ⟨(i + 1, v41), ⟨by show i + 1 ≤ _; omega, by rw [late_yes hx (by simpa [isLate] using h36)]; exact hS.take 1⟩, ⟨rfl, rfl, rfl, rfl, rfl, trivial⟩, by show kb.Processes.length - (i + 1) < kb.Processes.length - i; omega⟩
  replace h36 := dQ h36
  refine CW.skip (KW.inBlock (KW.then (CW.region (LW.pp (.inc (.t rfl) oQ) (LW.M rfl (LW.nil (KW.round ?_)))))))
  exact ⟨(i + 1, v), ⟨by show i + 1 ≤ _; omega, by rw [late_no hx (by simpa [isLate] using h36)]; exact hS.take 1⟩, ⟨rfl, rfl, rfl, rfl, rfl, trivial⟩, by show kb.Processes.length - (i + 1) < kb.Processes.length - i; omega⟩
 replace h17 := dQ h17
 refine CW.exit (KW.then_exit (KW.then_exit (KW.block_hit (KW.then (CW.seq ?_)))))
 have hie : i = kb.Processes.length := by omega
 rw [hie, List.take_length] at hS
 refine CW.region (LW.M rfl (LW.K (eC (.o rfl) (en53)) rfl (sortS_any _ _ _ (hS.own 0 rfl) (by have := late_len kb kb.Processes kb.Processes.length; rw [List.take_length] at this; omega)) ?_))
 rintro _ w7 ⟨rfl, uw7⟩
 replace hS := hS.stp 0 rfl uw7
 refine LW.S (CW.region (LW.M rfl (LW.A rfl (LW.T (CW.ret (KW.ret1 rfl rfl ⟨_, rfl, ?_⟩))))))
 exact ⟨(hS.own 0 rfl).rebase (fun i h => (hS.foot 0 rfl i h).resolve_left (fun h => h)), hS.upd⟩
end Go.Proofs.YtbbpkdlehlamlaaGreatDoor
end
section
namespace Go.Wx
theorem lookG_of {b : Base} {t c r : Int} : (∃ p ∈ b.Processes, gof p = ⟨t, c, r⟩) ∨ desF b t c r = [] := by
 by_cases h : ∃ p ∈ b.Processes, gof p = ⟨t, c, r⟩
 · exact .inl h
 exact .inr (des_none fun p hp e => h ⟨p, hp, e⟩)
end Go.Wx
namespace Go.Proofs.YtbbpkdlehlamlaaGreatDoor
open Go.Proofs.Tryz
open Go.Wx Go.RowKit
theorem lookD {D : List DE} {kb : Base} {bd : Nat} {w : World} (hM : Mk.IMap grpK w bd (D.map DE.kv)) (hDD : (aDD D).holds w) (hk : ∀ g, g ∈ D.map (·.g) ↔ ∃ p ∈ kb.Processes, gof p = g) (hd : ∀ e ∈ D, dk kb e) (t c r : Int) (ho : inI t ∧ inI c ∧ inI r) : ∃ ad cp L, (∀ (n : Nat) (ds : List Deferred) (l : Env) (d : Option Tmp) (ty : TypeId) (ps : String) (af : Array Edge) (g : Option (Nat × Bool)) (mo x : Operand), Val l mo (.map (some bd)) → Val l x (.agg (Grp.mk t c r).cells) → PEv Tryz.prog n ds l w ⟨d, .lookup 78 mo x false, ty, ps, af, g⟩ (.slice ad (List.length (α := DP) L) cp)) ∧ Els w ad 6 DP.cells L ∧ (∀ p ∈ L, Sl w p.uv 1 eInt p.dec.uses) ∧ L.map DP.dec = desF kb t c r := by
 by_cases h : (Grp.mk t c r) ∈ D.map (·.g)
 · obtain ⟨e, he, hg⟩ := List.mem_map.1 h
   have hA : (aDs e).holds w := hDD.1 _ (List.mem_map.2 ⟨e, he, rfl⟩)
   have hO : OwnS w 0 48 6 DP.cells e.v e.L := hA.1 _ List.mem_cons_self
   have hU : (aAnd (usesA 3 e.L)).holds w := hA.1 _ (List.mem_cons_of_mem _ List.mem_cons_self)
   obtain ⟨ad, cp, hv, hE⟩ := hO.sl (fun _ => rfl)
   refine ⟨ad, cp, e.L, fun n ds l d ty ps af g mo x hm hx => ?_, hE, usesA_get hU, ?_⟩
   · exact Mk.PEv.lookupYes (Q := grpK) (ok := false) (v := .slice ad e.L.length cp) underlying78 grpLaw (show grpK.ok (Grp.mk t c r) from ho) hm hx hM (List.mem_map.2 ⟨e, he, by unfold DE.kv; rw [hg, hv]⟩)
   have := hd e he
   unfold dk at this
   rw [hg] at this
   exact this
 refine ⟨none, 0, [], fun n ds l d ty ps af g mo x hm hx => ?_, fun i x hx => (by simp at hx), fun _ h => (by cases h), ?_⟩
 · exact Mk.PEv.lookupNo (Q := grpK) (ok := false) underlying78 grpLaw (show grpK.ok (Grp.mk t c r) from ho) zeroValue38 hm hx hM (by rw [kv_keys]; exact h)
 rcases lookG_of (b := kb) (t := t) (c := c) (r := r) with h1 | h1
 · exact absurd ((hk _).2 h1) h
 rw [h1]; rfl
theorem EDecs_any (E bf bd : Nat) (bc : Array Go.Value) (nw : Int) (D : List DE) (kb : Base) (t c r : Int) (w : World) (hbc : bc.size = 11) (ho : inI t ∧ inI c ∧ inI r) (hlP : kb.Processes.length ≤ 100) (hk : ∀ g, g ∈ D.map (·.g) ↔ ∃ p ∈ kb.Processes, gof p = g) (hd : ∀ e ∈ D, dk kb e) (hE : Blk w E (EC bf bc bd nw) 80) (hM : Mk.IMap grpK w bd (D.map DE.kv)) (hDD : (aDD D).holds w) : Ret Tryz.prog 17 #[.pointer (some ⟨E, 0, none⟩), vi t, vi c, vi r] w fun r0 w' => ∃ v L, r0 = v ∧ L.map DP.dec = desF kb t c r ∧ Wx.Sep no w w' [aOwn 48 6 DP.cells v L, aAnd (usesA 3 L)] := by
 obtain ⟨w0, rfl⟩ : ∃ w0, w0 = w := ⟨_, rfl⟩
 have hS := Sep.start no w0
 refine cS (n := 37) (m := 9) func17 rfl rfl rfl (CW.S (LW.C (LW.S (CW.S (LW.M rfl (LW.pp (.fa (PEv.eqlNil underlying28 (.t rfl)) (rfl)) (LW.T (CW.cond_false (.t rfl) (CW.skip (KW.then (CW.seq (CW.seq ?_))))))))))))
 obtain ⟨ad0, cp0, Ls, hlk, hEl, hUs, hdec⟩ := lookD (Mk.IMap.up hM hS.upd) ((aDD D).keep _ _ hDD (fun _ _ hl => hS.upd.block hl) hS.upd.size) hk hd t c r ho
 have hLn : Ls.length ≤ 100 := by have h1 := desF_len kb t c r; have h2 := rnsF_len kb t c r; rw [← hdec, List.length_map] at h1; omega
 have huse : ∀ x ∈ Ls, x.dec.uses.length ≤ 1000000000 := fun x hx => by have h1 := desF_uses kb t c r x.dec (by rw [← hdec]; exact List.mem_map.2 ⟨x, hx, rfl⟩); have h2 := rnsF_len kb t c r; omega
 replace hS := hS.add (Up.refl _) (A' := aOwn 48 6 DP.cells (.slice none 0 0) ([] : List DP)) (OwnS.nil _ _ _ _ _) (by intro i h; cases h)
 replace hS := hS.add (Up.refl _) (A' := aAnd (usesA 3 [])) ⟨by simp [usesA], by simp [usesA]⟩ (by rintro i ⟨A, hA, _⟩; simp [usesA] at hA)
 refine CW.region (LW.M rfl (LW.pp (.nilCheck (.t rfl)) (LW.pp (.fA 12 underlying80 rfl sizeOf78 rfl) (LW.pp (.ld isAgg78 rfl ((hE.up hS.upd).cell (EC_dec hbc))) (LW.M rfl (LW.M rfl (LW.M rfl (LW.pp (.build (cs := (Grp.mk t c r).cells) underlying96 zeroValue96 Tryz.places96 (.cons (.t rfl) (.cons (.t rfl) (.cons (.t rfl) .nil))) rfl) (LW.pp (hlk _ _ _ _ _ _ _ _ _ _ (.t rfl) (.t rfl)) (LW.pp (.lenS underlying38 (.t rfl)) (LW.pp (.move (.const _)) (LW.T (CW.block (CW.loopB (σ := Nat × Go.Value × List DP) (fun s w => (s.1 ≤ Ls.length) ∧ (s.2.2.map DP.dec = (Ls.take s.1).map DP.dec) ∧ (Wx.Sep no w0 w [aOwn 48 6 DP.cells s.2.1 s.2.2, aAnd (usesA 3 s.2.2)])) (fun s => [(23, .eq (vi (s.1 : Int))), (8, .eq (s.2.1))]) ([(21, .eq _), (22, .eq _)]) (fun s => Ls.length - s.1) (0, .slice none 0 0, []) ?_ ⟨rfl, rfl, rfl, rfl, trivial⟩ ?_))))))))))))))
 ·exact ⟨Nat.zero_le _, rfl, hS⟩
 rintro ⟨i, v, L⟩ w1 ⟨hi, hL, hS⟩
 dsimp only at hi hL hS
 have hLl : L.length ≤ i := by have h := congrArg List.length hL; rw [List.length_map, List.length_map, List.length_take] at h; omega
 change CW _ _ _ _ _ _ _ ([(23, .eq (vi (i : Int))), (8, .eq (v))] ++ _) _
 refine CW.S (LW.pp (.lss (.t rfl) (.t rfl)) (LW.S (CW.cond (.t rfl) (fun h24 => ?_) (fun h24 => ?_))))
 ·replace h24 := dQ h24
  refine CW.skip (KW.then (CW.seq (CW.block (CW.seq ?_))))
  have hil : i < Ls.length := by omega
  obtain ⟨x, hx⟩ : ∃ x, Ls[i]? = some x := ⟨_, List.getElem?_eq_getElem hil⟩
  obtain ⟨Bx, ox, ax, hcx⟩ := (Els.up hEl hS.upd) i x hx
  have hxm := List.mem_of_getElem? hx
  refine CW.region (LW.pp (.indexAddr' underlying38 sizeOf48 (j := i) (.t rfl) (.t rfl) oQ ax) (LW.pp (.la isAgg48 sizeOf48 rfl (hcx)) (LW.rr (.allocA zeroValue48) rfl ?_)))
  rintro _ w2 ⟨B10, rfl, MB10⟩
  refine LW.E (.storeA sizeOf48 rfl (.t rfl) (.t rfl) (DP.one _) MB10.blk rfl) ?_
  intro w3 LB10
  have NB10 := MB10.set LB10
  replace hS := hS.addB NB10
  refine LW.S (CW.region (LW.pp (.fA 5 underlying48 rfl sizeOf46 rfl) (LW.pp (.ld isAgg46 rfl ((hS.blk 2 rfl).celln rfl)) ?_)))
  have huL : x.dec.uses.length ≤ 1000000000 := huse x hxm
  refine LW.K (eC (.o rfl) (en45)) rfl (cloneI_any x.ad x.cp x.dec.uses _ (Els.up (sl_els (hUs x hxm)) hS.upd) huL) ?_
  rintro v29 w4 ⟨hO29, uw4⟩
  replace hS := hS.add uw4 (A' := aOwn 3 1 eInt v29 x.dec.uses) (hO29.mono (Nat.zero_le _)) (fun i h => (hO29.base i h))
  obtain ⟨ad29, cp29, rfl, _⟩ := hO29.sl (fun _ => rfl)
  refine LW.pp (.fA 5 underlying48 rfl sizeOf46 rfl) (LW.E (.store sizeOf46 (.t rfl) (.t rfl) rfl (hS.blk 2 rfl) (Nat.le_of_ble_eq_true rfl)) ?_)
  intro w5 Nw5
  replace hS := hS.putB 2 rfl (show Set_ _ w5 _ (DP.cells (⟨x.dec, ad29, cp29⟩ : DP)) _ from Nw5)
  refine LW.T (CW.region (LW.M rfl (LW.pp (.la isAgg48 sizeOf48 rfl ((hS.blk 2 rfl).agg)) (LW.rr (.buildSlice (xs := [(⟨x.dec, ad29, cp29⟩ : DP)]) (enc := DP.cells) (mk := fun p => .agg p.cells) underlying38 sizeOf48 zeroValue48 rfl cQ (fun _ => rfl) (fun _ => rfl) (.cons (.t rfl) .nil) rfl) rfl ?_))))
  rintro _ w6 ⟨B33, cB33, rfl, NB33, yB33, xB33⟩
  replace hS := hS.up NB33.up
  have hE33 := xB33
  refine LW.rr (.appendF (enc := DP.cells) (bytes := 64) (i := Tryz.t48) underlying38 kQ rfl rfl rfl rfl cQ (fun _ => rfl) DP.one (.t rfl) (.t rfl) (hS.own 0 rfl) (Sl.of_els hE33) (by simp [maxLen]; omega) (by simp; omega)) rfl ?_
  intro v34 w7 Gw7
  replace hS := hS.stp 0 rfl Gw7
  refine LW.A rfl (LW.nil (KW.inBlock (KW.then ?_)))
  have h9 := Sep.snocA (Bs := [_]) (hS.sub (.cons_cons _ (.cons_cons _ (.cons _ (.cons_cons _ .slnil)))))
  replace h9 : Wx.Sep no w0 w7 ([_] ++ [aAnd (usesA 3 L ++ [aOwn 3 1 eInt (DP.uv (⟨x.dec, ad29, cp29⟩ : DP)) (DP.dec (⟨x.dec, ad29, cp29⟩ : DP)).uses])]) := h9
  rw [usesA_snoc] at h9
  refine CW.region (LW.pp (.inc (.t rfl) oQ) (LW.M rfl (LW.nil (KW.round ?_))))
  exact ⟨(i + 1, v34, L ++ [(⟨x.dec, ad29, cp29⟩ : DP)]), ⟨by show i + 1 ≤ _; omega, by rw [List.map_append, hL, List.take_add_one, hx, List.map_append]; rfl, h9⟩, ⟨rfl, rfl, rfl, rfl, trivial⟩, by show Ls.length - (i + 1) < Ls.length - i; omega⟩
 replace h24 := dQ h24
 refine CW.exit (KW.then_exit (KW.then_exit (KW.block_hit (KW.then (CW.S (LW.M rfl (LW.A rfl (LW.T (CW.ret (KW.ret1 rfl rfl ⟨_, rfl, ?_⟩))))))))))
 have hie : i = Ls.length := by omega
 rw [hie, List.take_length] at hL
 exact ⟨_, L, rfl, hL.trans hdec, hS⟩
end Go.Proofs.YtbbpkdlehlamlaaGreatDoor
end
section
namespace Go.Wx
theorem take_eq_step {xs ys : List Int} {k : Nat} {x y : Int} (h : xs.take k = ys.take k) (hx : xs[k]? = some x) (hy : ys[k]? = some y) (e : x = y) : xs.take (k + 1) = ys.take (k + 1) := by rw [take_succ_of hx, take_succ_of hy, h, e]
theorem ne_of_at {xs ys : List Int} {k : Nat} {x y : Int} (hx : xs[k]? = some x) (hy : ys[k]? = some y) (e : ¬ x = y) : ¬ xs = ys := fun h => e (by subst h; rw [hx] at hy; cases hy; rfl)
def tgt21 (k : Int) : Fact := ⟨10, 0, 1, 0, false, 0, 0, 0, 0, 0, 0, 0, 0, 0, k, 0, 100, 0, ByteArray.empty⟩
def run21 (a b c : Int) : Fact := ⟨1, a, 1, 0, false, b, b, 1, 0, 0, 0, 4, 0, 0, 9, 1, c, 0, ByteArray.empty⟩
end Go.Wx
namespace Go.Proofs.YtbbpkdlehlamlaaGreatDoor
open Go.Proofs.Tryz
open Go.Wx Go.RowKit
theorem sameInts_any (v1 v2 : Value) (xs ys : List Int) (w : World) (h1 : Sl w v1 1 eInt xs) (h2 : Sl w v2 1 eInt ys) (hx0 : xs.length ≤ 1000000000) (hy0 : ys.length ≤ 1000000000) : Ret Tryz.prog 29 #[v1, v2] w fun r w' => r = .bool (decide (xs = ys)) ∧ Up w w' := by
 have hW := Up.refl w
 obtain ⟨w0, rfl⟩ : ∃ w0, w0 = w := ⟨_, rfl⟩
 obtain ⟨ad, cp, rfl, hE1⟩ := h1
 obtain ⟨ad', cp', rfl, hE2⟩ := h2
 refine cS (n := 26) (m := 9) func29 rfl rfl rfl (CW.S (LW.C (LW.S (CW.S (LW.M rfl (LW.pp (.lenS underlying46 (.t rfl)) (LW.M rfl (LW.pp (.lenS underlying46 (.t rfl)) (LW.pp (.neq (.t rfl) (.t rfl)) (LW.T (CW.cond (.t rfl) (fun h10 => ?_) (fun h10 => ?_))))))))))))
 ·replace h10 := dQ h10
  have hr : decide (xs = ys) = false := decide_eq_false (fun h => by subst h; simp at h10)
  refine CW.S (LW.C (LW.T (CW.ret (KW.then_ret (KW.ret1 rfl rfl ⟨_, rfl, ?_⟩)))))
  exact ⟨by rw [hr], hW⟩
 replace h10 := dQ h10
 have hlen : xs.length = ys.length := Int.ofNat.inj (show Int.ofNat _ = Int.ofNat _ from (by simpa using h10 : (xs.length : Int) = ys.length))
 refine CW.skip (KW.then (CW.seq (CW.S (LW.C (LW.T (CW.block (CW.loop (σ := Nat) (fun s w => (s ≤ xs.length ∧ xs.take s = ys.take s) ∧ Els w ad 1 eInt xs ∧ Els w ad' 1 eInt ys ∧ Up w0 w) (fun s => [(0, .eq (.slice ad xs.length cp)), (1, .eq (.slice ad' ys.length cp')), (5, .eq (vi (s : Int)))]) (fun s => xs.length - s) 0 ?_ ?_ ?_)))))))
 ·exact ⟨⟨Nat.zero_le _, rfl⟩, hE1, hE2, hW⟩
 ·exact ⟨rfl, rfl, rfl, trivial⟩
 rintro k w1 ⟨⟨hk, hT⟩, hE1, hE2, hW⟩
 refine CW.seq (CW.S (LW.M rfl (LW.M rfl (LW.pp (.lenS underlying46 (.t rfl)) (LW.pp (.lss (.t rfl) (.t rfl)) (LW.T (CW.cond (.t rfl) (fun h14 => ?_) (fun h14 => ?_))))))))
 ·replace h14 := dQ h14
  refine CW.skip (KW.then (CW.seq (CW.block (CW.seq ?_))))
  obtain ⟨x, hx⟩ := getElem?_of_lt (xs := xs) (i := k) oQ
  obtain ⟨y, hy⟩ := getElem?_of_lt (xs := ys) (i := k) oQ
  obtain ⟨B, o, had, hcell⟩ := hE1 k x hx
  obtain ⟨B', o', had', hcell'⟩ := hE2 k y hy
  refine CW.draws kQ kQ rfl rfl (HW.pp (.move (.t rfl)) (HW.pp (.move (.t rfl)) (HW.pp (.indexAddr' underlying46 sizeOf3 (.t rfl) (.t rfl) oQ had) (HW.pp (.ld isAgg3 rfl (hcell.nth (j := 0) rfl)) (HW.pp (.move (.t rfl)) (HW.pp (.move (.t rfl)) (HW.pp (.indexAddr' underlying46 sizeOf3 (.t rfl) (.t rfl) oQ had') (HW.pp (.ld isAgg3 rfl (hcell'.nth (j := 0) rfl)) (HW.pp (.neq (.t rfl) (.t rfl)) (HW.nil ?_))))))))))
  intro w2 uw2
  replace hE1 := hE1.up uw2
  replace hE2 := hE2.up uw2
  replace hW := hW.up uw2
  refine KW.then (CW.cond (.t rfl) (fun h25 => ?_) (fun h25 => ?_))
  ·replace h25 := dQ h25
   have hr : decide (xs = ys) = false := decide_eq_false (ne_of_at hx hy (by simpa using h25))
   refine CW.S (LW.C (LW.T (CW.ret (KW.block_ret (KW.then_ret (KW.then_ret (KW.block_ret (KW.then_ret (KW.ret1 rfl rfl ⟨_, rfl, ?_⟩)))))))))
   exact ⟨by rw [hr], hW⟩
  replace h25 := dQ h25
  refine CW.skip (KW.inBlock (KW.then (CW.region (LW.M rfl (LW.pp (.inc (.t rfl) oQ) (LW.A rfl (LW.nil (KW.round ?_))))))))
  exact ⟨k + 1, ⟨⟨by omega, take_eq_step hT hx hy (by simpa using h25)⟩, hE1, hE2, hW⟩, ⟨rfl, rfl, rfl, trivial⟩, by omega⟩
 replace h14 := dQ h14
 have hr : decide (xs = ys) = true := decide_eq_true (by have := hT; rw [show k = xs.length by omega, List.take_length, hlen, List.take_length] at this; exact this)
 refine CW.exit (KW.then_exit (KW.then_exit (KW.block_hit (KW.then (CW.S (LW.C (LW.T (CW.ret (KW.ret1 rfl rfl ⟨_, rfl, ?_⟩)))))))))
 exact ⟨by rw [hr], hW⟩
theorem pick21_any (c n : Int) (w : World) (hn : n ≠ 0) : Ret Tryz.prog 19 #[vi c, vi n] w fun r w' => r = vi (pickI c n) ∧ Up w w' := by
 have hW := Up.refl w
 refine cS (n := 13) (m := 9) func19 rfl rfl rfl (CW.S (LW.C (LW.S (CW.S (LW.M rfl (LW.pp (.lss (.t rfl) (.const _)) (LW.T (CW.cond (.t rfl) (fun h6 => ?_) (fun h6 => ?_)))))))))
 ·replace h6 := dQ h6
  refine CW.region (LW.M rfl (LW.pp (.add_w (.t rfl) (.const _)) (LW.pp (.neg underlying3 (.t rfl)) (LW.A rfl (LW.S (CW.region (LW.M rfl (LW.M rfl (LW.pp (.rem (.t rfl) (.t rfl) oQ) (LW.A rfl (LW.T (CW.ret (KW.ret1 rfl rfl ⟨_, rfl, ?_⟩)))))))))))))
  exact ⟨by (rw [pickI, if_pos h6]), hW⟩
 replace h6 := dQ h6
 refine CW.skip (KW.then (CW.S (LW.M rfl (LW.M rfl (LW.pp (.rem (.t rfl) (.t rfl) oQ) (LW.A rfl (LW.T (CW.ret (KW.ret1 rfl rfl ⟨_, rfl, ?_⟩)))))))))
 exact ⟨by (rw [pickI, if_neg (by omega)]), hW⟩
theorem target21_any (k : Int) (w : World) : Ret Tryz.prog 34 #[vi k] w fun r w' => r = .agg (tgt21 k).cells ∧ Up w w' := by
 obtain ⟨w0, rfl⟩ : ∃ w0, w0 = w := ⟨_, rfl⟩
 have hS := Sep.start no w0
 refine cS (n := 5) (m := 9) func34 rfl rfl rfl (CW.S (LW.rr (.allocA zeroValue24) rfl ?_))
 rintro _ w1 ⟨B2, rfl, NB2⟩
 replace hS := hS.addB NB2
 refine LW.S (CW.region (LW.M rfl (LW.pp (.build (cs := (tgt21 k).cells) underlying24 zeroValue24 Tryz.places24 (.cons (.const _) (.cons (.const _) (.cons (.t rfl) (.cons (.const _) .nil)))) kQ) (LW.E (.storeA sizeOf24 rfl (.t rfl) (.t rfl) (Fact.one _) (hS.blk 0 rfl) rfl) ?_))))
 intro w2 Nw2
 replace hS := hS.putB 0 rfl Nw2
 refine LW.T (CW.ret (KW.retA rfl rfl isAgg24 sizeOf24 rfl ((hS.blk 0 rfl).agg) ⟨_, rfl, ?_⟩))
 exact ⟨rfl, hS.upd⟩
theorem run21_any (a b c : Int) (w : World) : Ret Tryz.prog 35 #[vi a, vi b, vi c] w fun r w' => r = .agg (run21 a b c).cells ∧ Up w w' := by
 obtain ⟨w0, rfl⟩ : ∃ w0, w0 = w := ⟨_, rfl⟩
 have hS := Sep.start no w0
 refine cS (n := 12) (m := 9) func35 rfl rfl rfl (CW.S (LW.rr (.allocA zeroValue24) rfl ?_))
 rintro _ w1 ⟨B6, rfl, NB6⟩
 replace hS := hS.addB NB6
 refine LW.S (CW.region (LW.M rfl (LW.M rfl (LW.M rfl (LW.M rfl (LW.pp (.build (cs := (run21 a b c).cells) underlying24 zeroValue24 Tryz.places24 (.cons (.const _) (.cons (.const _) (.cons (.t rfl) (.cons (.const _) (.cons (.const _) (.cons (.const _) (.cons (.const _) (.cons (.t rfl) (.cons (.t rfl) (.cons (.t rfl) .nil)))))))))) kQ) (LW.E (.storeA sizeOf24 rfl (.t rfl) (.t rfl) (Fact.one _) (hS.blk 0 rfl) rfl) ?_)))))))
 intro w2 Nw2
 replace hS := hS.putB 0 rfl Nw2
 refine LW.T (CW.ret (KW.retA rfl rfl isAgg24 sizeOf24 rfl ((hS.blk 0 rfl).agg) ⟨_, rfl, ?_⟩))
 exact ⟨rfl, hS.upd⟩
end Go.Proofs.YtbbpkdlehlamlaaGreatDoor
end
section
namespace Go.Wx
def m21 : Fact := ⟨2, 1, 1, 0, false, 15, 0, 0, 0, 0, 0, 0, 0, 0, 0, 0, 108, 0, ByteArray.empty⟩
def la1 : List Fact := [] ++ [tgt21 9]
def la2 : List Fact := la1 ++ [run21 1 10 100000]
def la3 : List Fact := la2 ++ [run21 2 20 98000, run21 3 30 98000]
def la4 : List Fact := la3 ++ [m21]
def la5 : List Fact := la4 ++ [m21]
def la6 : List Fact := la5 ++ [tgt21 8]
theorem k21_1 : cntN [] [tgt21 9] = 0 := by kernel_rfl
theorem k21_2 : cntN la1 [run21 1 10 100000] = 1 := by kernel_rfl
theorem k21_3 : cntN la2 [run21 2 20 98000, run21 3 30 98000] = 1 := by kernel_rfl
theorem k21_4 : cntN la3 [m21] = 1 := by kernel_rfl
theorem k21_5 : cntN la4 [m21] = 0 := by kernel_rfl
theorem k21_6 : cntN la5 [tgt21 8] = 0 := by kernel_rfl
theorem l21_3 : lateP (ofB la3 100000) (ofB la3 100000).Processes = [2, 3] := by kernel_rfl
theorem l21_4 : lateP (ofB la4 100000) (ofB la4 100000).Processes = [] := by kernel_rfl
theorem late21_3 {z : Eng} (h : z.all = la3) : lateL z.kb = [2, 3] := by
 unfold lateL Eng.kb
 rw [h, l21_3]
 exact List.mergeSort_of_pairwise (by simp)
theorem late21_4 {z : Eng} (h : z.all = la4) : lateL z.kb = [] := by
 unfold lateL Eng.kb
 rw [h, l21_4]
 simp
theorem d21_6 : desF (ofB la6 100000) 4 0 9 = [⟨1, ⟨100, 1⟩, ⟨0, 1⟩, []⟩, ⟨2, ⟨98, 1⟩, ⟨2, 1⟩, [1]⟩, ⟨3, ⟨98, 1⟩, ⟨2, 1⟩, [1]⟩] := by kernel_rfl
theorem p21_6 : (ofB la6 100000).Processes.length = 3 := by kernel_rfl
theorem val_ok {al : List Fact} {d : Int} : ∀ p ∈ (ofB al d).Processes, inI p.Value := fun p hp => by
 have h := (lst_mem (j := 0) cQ).1 hp
 obtain ⟨h1, h2, _⟩ := valid_parts (eff_valid h.1)
 by_cases e : ∃ x ∈ fieldsOf p.Kind, x.off = 16
 · obtain ⟨x, hx, e⟩ := e
   have := h2 x hx
   rw [e] at this
   have h3 : inW p.Value := this
   unfold inW at h3
   unfold inI
   omega
 have h3 : p.Value = 0 := h1 16 cQ fun x hx e' => e ⟨x, hx, e'⟩
 rw [h3]
 exact ⟨by decide, by decide⟩
end Go.Wx
namespace Go.Proofs.YtbbpkdlehlamlaaGreatDoor
open Go.Proofs.Tryz
open Go.Wx Go.RowKit
set_option maxHeartbeats 4000000 in
theorem sane21_any (w : World) : Ret Tryz.prog 10 #[] w fun r w' => r = .bool true ∧ Up w w' := by
 obtain ⟨w0, rfl⟩ : ∃ w0, w0 = w := ⟨_, rfl⟩
 have hS := Sep.start no w0
 refine cS (n := 101) (m := 9) func10 rfl rfl rfl (CW.S (LW.C (LW.S (CW.region (LW.K (eC .nil (en12)) rfl (ENew_any _) ?_)))))
 rintro _ w1 ⟨z0, rfl, ha0, hn0, hz0, hN0⟩
 replace hS := hS.join hN0
 refine LW.A rfl (LW.S (CW.S (LW.M rfl (LW.pp (.fa (PEv.eqlNil underlying28 (.t rfl)) (rfl)) (LW.T (CW.cond_false (.t rfl) (CW.skip (KW.then (CW.S (LW.pp (.build (cs := m21.cells) underlying24 zeroValue24 Tryz.places24 (.cons (.const _) (.cons (.const _) (.cons (.const _) (.cons (.const _) (.cons (.const _) .nil))))) kQ) (LW.rr (.buildSlice (xs := [m21]) (enc := Fact.cells) (mk := fun f : Fact => .agg f.cells) underlying26 sizeOf24 zeroValue24 rfl cQ (fun _ => rfl) (fun _ => rfl) (.cons (.t rfl) .nil) rfl) rfl ?_)))))))))))
 intro v16 w2 hN16
 obtain ⟨u16, B16, rfl, e16, hO16⟩ := NewSl.own hN16 (fun _ => rfl) cQ (by simp [maxLen])
 replace hS := hS.add u16 (A' := aOwn 24 19 Fact.cells (.slice (some ⟨B16, 0, none⟩) 1 1) [m21]) hO16 (fun i h => by cases h; exact Nat.le_of_eq e16.symm)
 refine LW.A rfl (LW.S (CW.region (LW.M rfl (LW.K (eC (.cons (.const _) .nil) (en34)) rfl (target21_any _ _) ?_))))
 rintro _ w3 ⟨rfl, uw3⟩
 replace hS := hS.up uw3
 have hSp20 := fun i (h : footL z0.As i) => Sep.ltL (Sep.left (show Wx.Sep _ _ _ (z0.As ++ [_]) from hS)) h
 refine LW.rr (.buildSlice (xs := [tgt21 9]) (enc := Fact.cells) (mk := fun f : Fact => .agg f.cells) underlying26 sizeOf24 zeroValue24 rfl cQ (fun _ => rfl) (fun _ => rfl) (.cons (.t rfl) .nil) rfl) rfl ?_
 rintro _ w4 ⟨B19, cB19, rfl, NB19, yB19, xB19⟩
 have eB19 := NB19.at_
 replace hS := hS.up NB19.up
 have hE19 := xB19
 replace hS := hS.pull 0 rfl
 replace hS := hS.pull 0 rfl
 replace hS := hS.pull 0 rfl
 replace hS := hS.pull 0 rfl
 replace hS := hS.pull 0 rfl
 have hq_ := (show Wx.Sep _ _ _ ([_] ++ [_, _, _, _, _]) from hS)
 refine LW.K (eC (.u rfl rfl) (en13)) rfl (EAdd_any z0 0 (some ⟨B19, 0, none⟩) _ [tgt21 9] _ hz0 cQ (by rw [ha0]; decide) hE19 (fun _ B o e h => by cases e; have := hSp20 _ h; omega) hq_.right.self) ?_
 rintro _ w5 ⟨z1, rfl, hp1, ha1, hn1, hz1, uw5⟩
 replace hS := hq_.frame uw5
 have zw5 := uw5.fr.size
 rw [ha0, k21_1] at hn1
 rw [ha0, k21_1, ← hp1]
 replace ha1 : z1.all = la1 := by rw [ha1, ha0]; rfl
 rw [hn0] at hn1
 refine LW.A rfl (LW.S (CW.region (LW.M rfl (LW.K (eC (.cons (.const _) (.cons (.const _) (.cons (.const _) .nil))) (en35)) rfl (run21_any _ _ _ _) ?_))))
 rintro _ w6 ⟨rfl, uw6⟩
 replace hS := hS.up uw6
 have hSp24 := fun i (h : footL z1.As i) => Sep.ltL (Sep.right (show Wx.Sep _ _ _ ([_] ++ z1.As) from hS)) h
 refine LW.rr (.buildSlice (xs := [run21 1 10 100000]) (enc := Fact.cells) (mk := fun f : Fact => .agg f.cells) underlying26 sizeOf24 zeroValue24 rfl cQ (fun _ => rfl) (fun _ => rfl) (.cons (.t rfl) .nil) rfl) rfl ?_
 rintro _ w7 ⟨B23, cB23, rfl, NB23, yB23, xB23⟩
 have eB23 := NB23.at_
 replace hS := hS.up NB23.up
 have hE23 := xB23
 replace hS := hS.pull 1 rfl
 replace hS := hS.pull 1 rfl
 replace hS := hS.pull 1 rfl
 replace hS := hS.pull 1 rfl
 replace hS := hS.pull 1 rfl
 have hq_ := (show Wx.Sep _ _ _ ([_] ++ [_, _, _, _, _]) from hS)
 refine LW.K (eC (.u rfl rfl) (en13)) rfl (EAdd_any z1 1 (some ⟨B23, 0, none⟩) _ [run21 1 10 100000] _ hz1 cQ (by rw [ha1]; decide) hE23 (fun _ B o e h => by cases e; have := hSp24 _ h; omega) hq_.right.self) ?_
 rintro _ w8 ⟨z2, rfl, hp2, ha2, hn2, hz2, uw8⟩
 replace hS := hq_.frame uw8
 have zw8 := uw8.fr.size
 rw [ha1, k21_2] at hn2
 rw [ha1, k21_2, ← hp2]
 replace ha2 : z2.all = la2 := by rw [ha2, ha1]; rfl
 rw [hn1] at hn2
 refine LW.A rfl (LW.S (CW.region (LW.M rfl (LW.K (eC (.cons (.const _) (.cons (.const _) (.cons (.const _) .nil))) (en35)) rfl (run21_any _ _ _ _) ?_))))
 rintro _ w9 ⟨rfl, uw9⟩
 replace hS := hS.up uw9
 refine LW.K (eC (.cons (.const _) (.cons (.const _) (.cons (.const _) .nil))) (en35)) rfl (run21_any _ _ _ _) ?_
 rintro _ w10 ⟨rfl, uw10⟩
 replace hS := hS.up uw10
 have hSp29 := fun i (h : footL z2.As i) => Sep.ltL (Sep.right (show Wx.Sep _ _ _ ([_] ++ z2.As) from hS)) h
 refine LW.rr (.buildSlice (xs := [run21 2 20 98000, run21 3 30 98000]) (enc := Fact.cells) (mk := fun f : Fact => .agg f.cells) underlying26 sizeOf24 zeroValue24 rfl cQ (fun _ => rfl) (fun _ => rfl) (.cons (.t rfl) (.cons (.t rfl) .nil)) rfl) rfl ?_
 rintro _ w11 ⟨B28, cB28, rfl, NB28, yB28, xB28⟩
 have eB28 := NB28.at_
 replace hS := hS.up NB28.up
 have hE28 := xB28
 replace hS := hS.pull 1 rfl
 replace hS := hS.pull 1 rfl
 replace hS := hS.pull 1 rfl
 replace hS := hS.pull 1 rfl
 replace hS := hS.pull 1 rfl
 have hq_ := (show Wx.Sep _ _ _ ([_] ++ [_, _, _, _, _]) from hS)
 refine LW.K (eC (.u rfl rfl) (en13)) rfl (EAdd_any z2 2 (some ⟨B28, 0, none⟩) _ [run21 2 20 98000, run21 3 30 98000] _ hz2 cQ (by rw [ha2]; decide) hE28 (fun _ B o e h => by cases e; have := hSp29 _ h; omega) hq_.right.self) ?_
 rintro _ w12 ⟨z3, rfl, hp3, ha3, hn3, hz3, uw12⟩
 replace hS := hq_.frame uw12
 have zw12 := uw12.fr.size
 rw [ha2, k21_3] at hn3
 rw [ha2, k21_3, ← hp3]
 replace ha3 : z3.all = la3 := by rw [ha3, ha2]; rfl
 rw [hn2] at hn3
 refine LW.A rfl (LW.S (CW.region (LW.M rfl (LW.K (eC (.o rfl) (en21)) rfl (ELate_any z3.E z3.bf z3.bd z3.bc z3.n z3.kb _ hz3.hbc (hS.blk 1 rfl) (hS.get 3 rfl) (len_ok hz3).1 (len_ok hz3).2.1 (len_ok hz3).2.2.1 (len_ok hz3).2.2.2 val_ok) ?_))))
 rintro v31 w13 ⟨hO31, uw13⟩
 have zw13 := uw13.size
 replace hS := hS.add uw13 (A' := aOwn 3 1 eInt v31 [2, 3]) (by rw [late21_3 ha3] at hO31; exact hO31.mono (Nat.zero_le _)) (fun i h => hO31.base i h)
 obtain ⟨ad31, cp31, rfl, _⟩ := (hS.own 6 rfl).sl (fun _ => rfl)
 refine LW.A rfl (LW.S (CW.region (LW.M rfl (LW.M rfl ?_))))
 replace hS := hS.pull 1 rfl
 replace hS := hS.pull 1 rfl
 replace hS := hS.pull 1 rfl
 replace hS := hS.pull 1 rfl
 replace hS := hS.pull 1 rfl
 have hq_ := (show Wx.Sep _ _ _ ([_, _] ++ [_, _, _, _, _]) from hS)
 refine LW.K (eC (.u rfl rfl) (en13)) rfl (EAdd_any z3 3 (some ⟨B16, 0, none⟩) _ [m21] _ hz3 cQ (by rw [ha3]; decide) (OwnS.elsS (hq_.left.own 0 rfl) (fun _ => rfl)) (fun _ B o e h => hq_.dis ⟨_, List.mem_of_getElem? (i := 0) rfl, by cases e; rfl⟩ h) hq_.right.self) ?_
 rintro _ w14 ⟨z4, rfl, hp4, ha4, hn4, hz4, uw14⟩
 replace hS := hq_.frame uw14
 have zw14 := uw14.fr.size
 rw [ha3, k21_4] at hn4
 rw [ha3, k21_4, ← hp4]
 replace ha4 : z4.all = la4 := by rw [ha4, ha3]; rfl
 rw [hn3] at hn4
 refine LW.A rfl (LW.S (CW.region (LW.M rfl (LW.K (eC (.o rfl) (en21)) rfl (ELate_any z4.E z4.bf z4.bd z4.bc z4.n z4.kb _ hz4.hbc (hS.blk 2 rfl) (hS.get 4 rfl) (len_ok hz4).1 (len_ok hz4).2.1 (len_ok hz4).2.2.1 (len_ok hz4).2.2.2 val_ok) ?_))))
 rintro v36 w15 ⟨hO36, uw15⟩
 have zw15 := uw15.size
 replace hS := hS.add uw15 (A' := aOwn 3 1 eInt v36 ([] : List Int)) (by rw [late21_4 ha4] at hO36; exact hO36.mono (Nat.zero_le _)) (fun i h => hO36.base i h)
 obtain ⟨ad36, cp36, rfl, _⟩ := (hS.own 7 rfl).sl (fun _ => rfl)
 refine LW.A rfl (LW.S (CW.region (LW.M rfl (LW.M rfl ?_))))
 replace hS := hS.pull 2 rfl
 replace hS := hS.pull 2 rfl
 replace hS := hS.pull 2 rfl
 replace hS := hS.pull 2 rfl
 replace hS := hS.pull 2 rfl
 have hq_ := (show Wx.Sep _ _ _ ([_, _, _] ++ [_, _, _, _, _]) from hS)
 refine LW.K (eC (.u rfl rfl) (en13)) rfl (EAdd_any z4 4 (some ⟨B16, 0, none⟩) _ [m21] _ hz4 cQ (by rw [ha4]; decide) (OwnS.elsS (hq_.left.own 0 rfl) (fun _ => rfl)) (fun _ B o e h => hq_.dis ⟨_, List.mem_of_getElem? (i := 0) rfl, by cases e; rfl⟩ h) hq_.right.self) ?_
 rintro _ w16 ⟨z5, rfl, hp5, ha5, hn5, hz5, uw16⟩
 replace hS := hq_.frame uw16
 have zw16 := uw16.fr.size
 rw [ha4, k21_5] at hn5
 rw [ha4, k21_5, ← hp5]
 replace ha5 : z5.all = la5 := by rw [ha5, ha4]; rfl
 rw [hn4] at hn5
 refine LW.A rfl (LW.S (CW.region (LW.M rfl (LW.K (eC (.cons (.const _) .nil) (en34)) rfl (target21_any _ _) ?_))))
 rintro _ w17 ⟨rfl, uw17⟩
 replace hS := hS.up uw17
 have hSp43 := fun i (h : footL z5.As i) => Sep.ltL (Sep.right (show Wx.Sep _ _ _ ([_, _, _] ++ z5.As) from hS)) h
 refine LW.rr (.buildSlice (xs := [tgt21 8]) (enc := Fact.cells) (mk := fun f : Fact => .agg f.cells) underlying26 sizeOf24 zeroValue24 rfl cQ (fun _ => rfl) (fun _ => rfl) (.cons (.t rfl) .nil) rfl) rfl ?_
 rintro _ w18 ⟨B42, cB42, rfl, NB42, yB42, xB42⟩
 have eB42 := NB42.at_
 replace hS := hS.up NB42.up
 have hE42 := xB42
 replace hS := hS.pull 3 rfl
 replace hS := hS.pull 3 rfl
 replace hS := hS.pull 3 rfl
 replace hS := hS.pull 3 rfl
 replace hS := hS.pull 3 rfl
 have hq_ := (show Wx.Sep _ _ _ ([_, _, _] ++ [_, _, _, _, _]) from hS)
 refine LW.K (eC (.u rfl rfl) (en13)) rfl (EAdd_any z5 5 (some ⟨B42, 0, none⟩) _ [tgt21 8] _ hz5 cQ (by rw [ha5]; decide) hE42 (fun _ B o e h => by cases e; have := hSp43 _ h; omega) hq_.right.self) ?_
 rintro _ w19 ⟨z6, rfl, hp6, ha6, hn6, hz6, uw19⟩
 replace hS := hq_.frame uw19
 have zw19 := uw19.fr.size
 rw [ha5, k21_6] at hn6
 rw [ha5, k21_6, ← hp6]
 replace ha6 : z6.all = la6 := by rw [ha6, ha5]; rfl
 rw [hn5] at hn6
 refine LW.A rfl (LW.S (CW.region (LW.M rfl (LW.K (eC (.cons (.t rfl) (.cons (.const _) (.cons (.const _) (.cons (.const _) .nil)))) (en17)) rfl (EDecs_any z6.E z6.bf z6.bd z6.bc z6.n z6.D z6.kb 4 0 9 _ hz6.hbc ⟨by simp [inI], by simp [inI], by simp [inI]⟩ (len_ok hz6).1 hz6.keys hz6.dks (hS.blk 3 rfl) (hS.get 6 rfl) (hS.get 7 rfl)) ?_))))
 rintro v45 w20 ⟨_, L45, rfl, hm45, hT45⟩
 have hk6 : z6.kb = ofB la6 100000 := by unfold Eng.kb; rw [ha6]
 rw [hk6, d21_6] at hm45
 obtain ⟨a1, c1, a2, c2, a3, c3, rfl⟩ := dps3 hm45
 replace hS := hS.join hT45
 obtain ⟨ad45, cp45, rfl, _⟩ := (hS.own 8 rfl).sl (fun _ => rfl)
 obtain ⟨Bx, ox, ax, hpx, hqx, hrx⟩ := els_p ((hS.own 8 rfl).els (fun _ => rfl))
 refine LW.A rfl (LW.S (CW.S (LW.M rfl (LW.pp (.lenS underlying38 (.t rfl)) (LW.pp (.fa (PEv.neq (.t rfl) (.const _)) (rfl)) (LW.T (CW.cond_false (.t rfl) (CW.skip (KW.then (CW.S (LW.M rfl (LW.pp (.tr (PEv.eql (.t rfl) (.const _)) (rfl)) (LW.M rfl (LW.Y (LW.M rfl (LW.Y (LW.pp (.tr (PEv.eql (.t rfl) (.const _)) (rfl)) (LW.pp (.pick_and (.t rfl) (fun hp => (by exact .tmp rfl))) (LW.M rfl (LW.Y (LW.M rfl (LW.Y (LW.pp (.tr (PEv.eql (.t rfl) (.const _)) (rfl)) (LW.pp (.pick_and (.t rfl) (fun hp => (by exact .tmp rfl))) (LW.M rfl (LW.Y (LW.M rfl (LW.Y (LW.rr (.buildSlice (xs := [2, 3]) (enc := eInt) (mk := vi) underlying46 sizeOf3 zeroValue3 rfl cQ (fun _ => rfl) (fun _ => rfl) (.cons (.const _) (.cons (.const _) .nil)) rfl) rfl ?_)))))))))))))))))))))))))))))
 rintro _ w21 ⟨B61, cB61, rfl, NB61, yB61, xB61⟩
 replace hS := hS.up NB61.up
 replace hqx := hqx.up NB61.up
 have hE61 := xB61
 refine LW.Y (LW.K (eC (.u rfl rfl) (en29)) rfl (sameInts_any _ _ [2, 3] [2, 3] _ ((hS.own 1 rfl).sl (fun _ => rfl)) (Sl.of_els hE61) cQ cQ) ?_)
 rintro _ w22 ⟨rfl, uw22⟩
 replace hS := hS.up uw22
 replace hqx := hqx.up uw22
 rw [show decide (([2, 3] : List Int) = [2, 3]) = true from decide_eq_true rfl]
 refine LW.pp (.pick_and (.t rfl) (fun hp => (by exact .tmp rfl))) (LW.M rfl (LW.Y (LW.M rfl (LW.Y (LW.pp (.tr (PEv.eql (.t rfl) (.const _)) (rfl)) (LW.pp (.pick_and (.t rfl) (fun hp => (by exact .tmp rfl))) (LW.M rfl (LW.Y (LW.M rfl (LW.Y (LW.pp (.lenS underlying46 (.t rfl)) (LW.Y (LW.pp (.tr (PEv.eql (.t rfl) (.const _)) (rfl)) (LW.pp (.pick_and (.t rfl) (fun hp => (by exact .tmp rfl))) (LW.M rfl (LW.Y (LW.M rfl (LW.Y (LW.pp (.tr (PEv.eql (.t rfl) (.const _)) (rfl)) (LW.pp (.pick_and (.t rfl) (fun hp => (by exact .tmp rfl))) (LW.M rfl (LW.Y (LW.M rfl (LW.Y (LW.pp (.tr (PEv.eql (.t rfl) (.const _)) (rfl)) (LW.pp (.pick_and (.t rfl) (fun hp => (by exact .tmp rfl))) (LW.M rfl (LW.Y (LW.M rfl (LW.Y (LW.K (eC (.o rfl) (en26)) rfl (EWork_any z6.E z6.bf z6.bd z6.bc z6.n _ hz6.hbc (hS.blk 3 rfl)) ?_)))))))))))))))))))))))))))))))
 rintro _ w23 ⟨rfl, uw23⟩
 replace hS := hS.up uw23
 replace hqx := hqx.up uw23
 refine LW.Y (LW.pp (.tr (PEv.eql (.t rfl) (.const _)) (by rw [hn6]; rfl)) (LW.pp (.pick_and (.t rfl) (fun hp => (by exact .tmp rfl))) (LW.M rfl (LW.Y (LW.M rfl (LW.Y (LW.pp (.indexAddr' underlying38 sizeOf48 (j := 1) (.t rfl) (.const _) (Nat.le_of_ble_eq_true rfl) ax) (LW.Y (LW.pp (.fA 1 underlying48 rfl sizeOf45 rfl) (LW.Y (LW.pp (.la isAgg45 sizeOf45 rfl (dp_par hqx)) (LW.Y (LW.pp (.build (cs := (Rt.mk 98 1).cells) underlying45 zeroValue45 Tryz.places45 (.cons (.const _) (.cons (.const _) .nil)) kQ) (LW.Y (LW.pp (.tr (PEv.eqlA eqGuardType45 (Tryz.eqRt _ _) (.t rfl) (.t rfl)) (rtB_self _)) (LW.pp (.pick_and (.t rfl) (fun hp => (by exact .tmp rfl))) (LW.M rfl (LW.Y (LW.M rfl (LW.Y (LW.K (eC (.o rfl) (en14)) rfl (EBase_any z6.E z6.bf z6.bd z6.bc z6.n z6.all _ (hS.blk 3 rfl) (hS.get 4 rfl) (Nat.le_trans hz6.len cQ)) ?_)))))))))))))))))))))
 rintro _ w24 ⟨bc96, rfl, hC96, _, uw24⟩
 replace hS := hS.up uw24
 replace hqx := hqx.up uw24
 obtain ⟨v96, hv96, ad96, cp96, rfl, _⟩ := hC96.at_ (j := 0) cQ
 have hl96 : (lstOf (ofB z6.all 100000) 0).length = 3 := by rw [ha6]; exact p21_6
 rw [hl96] at hv96
 refine LW.Y (LW.pp (.field1 (off := 0) underlying32 rfl rfl isAgg26 (.t rfl) hv96) (LW.Y (LW.pp (.lenS underlying26 (.t rfl)) (LW.Y (LW.pp (.tr (PEv.eql (.t rfl) (.const _)) (rfl)) (LW.pp (.pick_and (.t rfl) (fun hp => (by exact .tmp rfl))) (LW.A rfl (LW.T (CW.ret (KW.ret1 rfl rfl ⟨_, rfl, ?_⟩))))))))))
 exact ⟨rfl, hS.upd⟩
end Go.Proofs.YtbbpkdlehlamlaaGreatDoor
end
section
namespace Go.Wx
theorem own_foot {e k : Nat} {enc : Fact → Array Go.Value} {ad : Option Addr} {n c B o : Nat} {xs : List Fact} (h : ad = some ⟨B, o, none⟩) : (aOwn e k enc (.slice ad n c) xs).foot B := by subst h; rfl
end Go.Wx
namespace Go.Proofs.YtbbpkdlehlamlaaGreatDoor
open Go.Proofs.Tryz
open Go.Wx Go.RowKit
end Go.Proofs.YtbbpkdlehlamlaaGreatDoor
end
section
namespace Go.Wx
theorem touch_one (m : FMap) (f : Fact) : (addR m [f]).2 = if chgB m f = true then [keyB f] else [] := by
 show (addS (m, []) f).2 = _
 unfold addS addK
 split <;> simp
theorem keyB_got {f : Fact} (h : validB f = true) : keyB f ≠ [] := by unfold keyB; rw [if_pos h]; exact keyB_ne h
theorem chg_key {m : FMap} {f : Fact} (h : chgB m f = true) : keyB f ≠ [] := fun e => by rw [(put_empty e).1] at h; cases h
theorem chg_set {m : FMap} {f : Fact} (h : chgB m f = true) : bestStep 100000 m f = fset m (keyB f) f := by
 have hk := chg_key h
 cases hg : fget m (keyB f) with
 | none => exact (put_new hk hg).2
 | some old => cases hp : prevB f old with
   | false => rw [(put_old hk hg hp).1] at h; cases h
   | true => exact (put_over hk hg hp).2
theorem fgz_eff {l : List Fact} {k : List UInt8} (h : (fgz (bestL l 100000) k).Kind ≠ 0) : eff l 100000 (fgz (bestL l 100000) k) ∧ keyB (fgz (bestL l 100000) k) = k := by
 unfold fgz at h ⊢
 cases hg : fget (bestL l 100000) k with
 | none => rw [hg] at h; exact absurd rfl h
 | some x =>
   have hk : keyB x = k := by
     have hg2 := hg
     unfold fget at hg2
     obtain ⟨q, hq, hqy⟩ := Option.map_eq_some_iff.1 hg2
     have hq1 := List.mem_of_find?_eq_some hq
     have hq2 : (q.1 == k) = true := List.find?_some (p := fun p : List UInt8 × Fact => p.1 == k) hq
     have := ((best_inv l 100000).ok q hq1).1
     rw [← hqy, ← this]; simpa using hq2
   exact ⟨eff_get.2 (by rw [Option.getD_some, hk]; exact hg), hk⟩
theorem key_id {f g : Fact} (hf : validB f = true) (hg : validB g = true) (hk : g.Kind = 1 ∨ g.Kind = 2 ∨ g.Kind = 9) (h : keyB f = keyB g) : f.ID = g.ID := by
 have e := key_vals hf hg h
 have e2 := e.2
 rcases hk with hk | hk | hk <;> rw [e.1.trans hk] at e2 <;> (replace e2 : [f.ID] = [g.ID] := e2) <;> simpa using e2
end Go.Wx
namespace Go.Proofs.YtbbpkdlehlamlaaGreatDoor
open Go.Proofs.Tryz
open Go.Wx Go.RowKit
end Go.Proofs.YtbbpkdlehlamlaaGreatDoor
end
section
namespace Go.Wx
def pF (t c r v : Int) : Fact := ⟨1, 500, 1, 0, false, 100, 100, 1, 0, 0, 0, t, c, 0, r, 1, v, 0, ByteArray.empty⟩
theorem pF_valid {t c r v : Int} (ht : 0 ≤ t ∧ t < 2) (hc : 0 ≤ c ∧ c < 2) (hr : 1 ≤ r ∧ r < 3) (hv : -10000000 ≤ v ∧ v ≤ 10000000) : validB (pF t c r v) = true := by
 have hn : runF (fieldsOf 1) (pF t c r v) = some (fact0 1 1 0 false) := by
   rw [show fieldsOf 1 = [num1 1, num1 7, ⟨11, 0, 59⟩, ⟨12, 0, 3⟩, ⟨13, 0, 39⟩, num1 14, num1 15, fWhen, ⟨6, 0, 1000000⟩, ⟨16, -10000000, 10000000⟩] from rfl]
   refine (if_neg (show ¬ ((500 : Int) < 1 ∨ (1000000 : Int) < 500) by decide)).trans ?_
   refine (if_neg (show ¬ ((1 : Int) < 1 ∨ (1000000 : Int) < 1) by decide)).trans ?_
   refine (if_neg (show ¬ (t < 0 ∨ (59 : Int) < t) by omega)).trans ?_
   refine (if_neg (show ¬ (c < 0 ∨ (3 : Int) < c) by omega)).trans ?_
   refine (if_neg (show ¬ ((0 : Int) < 0 ∨ (39 : Int) < 0) by decide)).trans ?_
   refine (if_neg (show ¬ (r < 1 ∨ (1000000 : Int) < r) by omega)).trans ?_
   refine (if_neg (show ¬ ((1 : Int) < 1 ∨ (1000000 : Int) < 1) by decide)).trans ?_
   refine (if_neg (show ¬ ((100 : Int) < 0 ∨ (1000000 : Int) < 100) by decide)).trans ?_
   refine (if_neg (show ¬ ((100 : Int) < 0 ∨ (1000000 : Int) < 100) by decide)).trans ?_
   refine (if_neg (show ¬ (v < -10000000 ∨ (10000000 : Int) < v) by omega)).trans ?_
   rfl
 unfold validB
 rw [show (pF t c r v).Kind = 1 from rfl, hn]
 show (true && (!(false || !true) && Fact.eqb (fact0 1 1 0 false) (fact0 1 1 0 false))) = true
 rw [eqb_refl]; rfl
theorem so_small {xs : List I6} (hx : ∀ y ∈ xs, I6Ok y) : ∀ f ∈ soL xs, f.ID ≤ 9 ∧ f.Time ≤ 59 := fun f hf => by
 obtain ⟨y, hy, e⟩ := soF_mem hf
 have hk := hx y hy
 have hd := pick_range hk.2.2.2.1 (n := 9) cQ
 have hc := pick_range hk.2.2.1 (n := 60) cQ
 have e1 : wI (1 + pickI y.d 9) = 1 + pickI y.d 9 := wI_in oQ oQ
 have hT : (soB y).Time ≤ 59 := by show pickI y.c 60 ≤ 59; omega
 rcases so_cases e with rfl | rfl | rfl | rfl
 · exact ⟨by show wI (1 + pickI y.d 9) ≤ 9; omega, hT⟩
 · exact ⟨by show wI (1 + pickI y.d 9) ≤ 9; omega, hT⟩
 · exact ⟨by show (0 : Int) ≤ 9; omega, hT⟩
 exact ⟨by show wI (1 + pickI y.d 9) ≤ 9; omega, hT⟩
structure PlusP (b c : Base) (p : Fact) : Prop where
 P : ∀ x, x ∈ c.Processes ↔ x = p ∨ x ∈ b.Processes
 M : c.Measures = b.Measures
 R : c.Resets = b.Resets
 T : c.Targets = b.Targets
theorem plus_of {L : List Fact} {p : Fact} (hval : validB p = true) (hp : p.Kind = 1) (hg : p.Gone = false) (hd : p.Day ≤ 100000) (hn : ∀ g ∈ L, validB g = true → keyB g ≠ keyB p) : PlusP (ofB L 100000) (ofB (L ++ [p]) 100000) p := by
 have hE := new_eff (d := 100000) hval hd hn
 have hj : ∀ j : Nat, j < 11 → j ≠ 0 → lstOf (ofB (L ++ [p]) 100000) j = lstOf (ofB L 100000) j := fun j hj h1 => by
   refine lst_same hj fun x => ?_
   rw [hE]
   constructor
   · rintro ⟨rfl | h, hk⟩
     · rw [hp] at hk; omega
     exact ⟨h, hk⟩
   rintro ⟨h, hk⟩
   exact ⟨.inr h, hk⟩
 refine ⟨fun x => ?_, hj 1 cQ cQ, hj 8 cQ cQ, hj 9 cQ cQ⟩
 have h1 := lst_mem (l := L ++ [p]) (d := 100000) (j := 0) cQ (x := x)
 have h2 := lst_mem (l := L) (d := 100000) (j := 0) cQ (x := x)
 rw [hE] at h1
 refine h1.trans ⟨?_, ?_⟩
 · rintro ⟨rfl | h, hg, hk⟩
   · exact .inl rfl
   exact .inr (h2.2 ⟨h, hg, hk⟩)
 rintro (rfl | h)
 · exact ⟨.inl rfl, hg, hp⟩
 have h := h2.1 h
 exact ⟨.inr h.1, h.2.1, h.2.2⟩
theorem plus_rns {b c : Base} {p : Fact} (h : PlusP b c p) (hb : KnB b) (hc : KnB c) (ht : ∀ x ∈ b.Processes, x.Time < p.Time) : rnsF c p.Tool p.Chamber p.Recipe = rnsF b p.Tool p.Chamber p.Recipe ++ [p] := by
 have hpn : p ∉ b.Processes := fun hp => Int.lt_irrefl _ (ht p hp)
 refine sorted_eq (key := runK) (rns_srt _ _ _ _) ?_ (perm_of_mem (rns_nodup hc.nd) ?_ fun x => ?_) fun x hx y hy e => hc.uid x (rns_mem.1 hx).1 y (rns_mem.1 hy).1 (congrArg Prod.snd e)
 · refine List.pairwise_append.2 ⟨rns_srt _ _ _ _, List.pairwise_singleton _ _, fun x hx y hy => ?_⟩
   rw [List.mem_singleton] at hy
   subst hy
   have := ht x (rns_mem.1 hx).1
   refine ltK_not.2 ?_
   show ¬ (y.Time < x.Time ∨ (y.Time = x.Time ∧ _))
   omega
 · refine List.nodup_append.2 ⟨rns_nodup hb.nd, by simp, fun x hx y hy => ?_⟩
   rw [List.mem_singleton] at hy
   subst hy
   exact fun e => hpn (e ▸ (rns_mem.1 hx).1)
 rw [rns_mem, List.mem_append, List.mem_singleton, rns_mem, h.P]
 constructor
 · rintro ⟨rfl | h1, h2⟩
   · exact .inr rfl
   exact .inl ⟨h1, h2⟩
 rintro (⟨h1, h2⟩ | rfl)
 · exact ⟨.inr h1, h2⟩
 exact ⟨.inl rfl, rfl, rfl, rfl⟩
theorem plus_des {b c : Base} {p : Fact} (h : PlusP b c p) (hb : KnB b) (hc : KnB c) (ht : ∀ x ∈ b.Processes, x.Time < p.Time) (hid : ∀ x ∈ b.Processes, x.ID ≠ p.ID) :
   (desF c p.Tool p.Chamber p.Recipe).find? (fun D => decide (D.run = p.ID)) = some { decNow b p.Tool p.Chamber p.Recipe p.Time with run := p.ID } := by
 have hr := plus_rns h hb hc ht
 have hl : (rnsF c p.Tool p.Chamber p.Recipe).length = (rnsF b p.Tool p.Chamber p.Recipe).length + 1 := by rw [hr, List.length_append]; rfl
 have hat : ∀ i, i < (rnsF b p.Tool p.Chamber p.Recipe).length → (decAt c p.Tool p.Chamber p.Recipe (rnsF c p.Tool p.Chamber p.Recipe) i).run ≠ p.ID := fun i hi => by
   obtain ⟨x, hx⟩ := getElem?_of_lt hi
   have hx2 : (rnsF c p.Tool p.Chamber p.Recipe)[i]? = some x := by rw [hr, List.getElem?_append_left hi]; exact hx
   rw [decAt_some hx2]
   exact hid x (rns_mem.1 (List.mem_of_getElem? hx)).1
 have hlast : (rnsF c p.Tool p.Chamber p.Recipe)[(rnsF b p.Tool p.Chamber p.Recipe).length]? = some p := by rw [hr, List.getElem?_append_right (Nat.le_refl _), Nat.sub_self]; rfl
 unfold desF
 rw [hl, map_range_succ, List.find?_append, List.find?_eq_none.2 (fun D hD => by
   obtain ⟨i, hi, rfl⟩ := List.mem_map.1 hD
   simpa using hat i (List.mem_range.1 hi)), decAt_some hlast]
 have hdec : decF c p.Tool p.Chamber p.Recipe p.Time ((rnsF c p.Tool p.Chamber p.Recipe).take (rnsF b p.Tool p.Chamber p.Recipe).length) = decNow b p.Tool p.Chamber p.Recipe p.Time := by
   rw [hr, List.take_left']
   · unfold decNow
     rw [List.filter_eq_self.2 fun x hx => decide_eq_true (Int.le_of_lt (ht x (rns_mem.1 hx).1))]
     exact decF_congr (by unfold resL; rw [h.R]) (fun tm => by rw [h.T]) (fun x _ => by rw [h.M])
   rfl
 rw [hdec]
 show (none : Option Dec).or (List.find? (fun D : Dec => decide (D.run = p.ID)) [{ decNow b p.Tool p.Chamber p.Recipe p.Time with run := p.ID }]) = _
 rw [List.find?_cons]
 simp
def folV (a : Rt) : Int := a.n * (1000 : Int).tdiv a.d
theorem fol_mk {a : Rt} (ha : a.ok) (hd : a.d = 1 ∨ a.d = 2 ∨ a.d = 4) : mkF (folV a) 1000 = (a, 0) := by
 have e : folV a * a.d = a.n * 1000 := by
   unfold folV
   rcases hd with h | h | h <;> rw [h]
   · show a.n * 1000 * 1 = _; omega
   · show a.n * 500 * 2 = _; omega
   show a.n * 250 * 4 = _; omega
 have hf : fitsF a.n a.d = true := by
   unfold fitsF
   rw [ha.co]
   exact decide_eq_true ⟨by have := ha.num; omega, by have := ha.d'; omega⟩
 rw [mkF_fits (fits_eq cQ ha.pos e hf), redF_eq cQ ha.pos e, redF_self ha]
theorem fol_bd {a : Rt} (hd : a.d = 1 ∨ a.d = 2 ∨ a.d = 4) (h1 : -10000 * a.d ≤ a.n) (h2 : a.n ≤ 10000 * a.d) : -10000000 ≤ folV a ∧ folV a ≤ 10000000 := by
 unfold folV
 rcases hd with h | h | h <;> rw [h] at h1 h2 ⊢
 · show -10000000 ≤ a.n * 1000 ∧ a.n * 1000 ≤ 10000000; omega
 · show -10000000 ≤ a.n * 500 ∧ a.n * 500 ≤ 10000000; omega
 show -10000000 ≤ a.n * 250 ∧ a.n * 250 ≤ 10000000; omega
structure LateP (L : List Fact) (p : Fact) : Prop where
 one : cntN L [p] = 1
 fol : isLate (ofB (L ++ [p]) 100000) p.ID = false
theorem late_p {xs : List I6} (hx : ∀ y ∈ xs, I6Ok y) {t c r : Int} (ht : 0 ≤ t ∧ t < 2) (hc : 0 ≤ c ∧ c < 2) (hr : 1 ≤ r ∧ r < 3) : LateP (soL xs) (pF t c r (folV (decNow (ofB (soL xs) 100000) t c r 100).par)) := by
 have hlen : (soL xs).length ≤ 100 := Nat.le_trans (soL_len xs) cQ
 have hb := kn_of hlen 100000
 have hbd := dec_par (b := ofB (soL xs) 100000) (t := t) (c := c) (r := r) (time := 100) (a := (rnsF (ofB (soL xs) 100000) t c r).filter fun x => decide (x.Time ≤ 100)) (Nat.le_trans (List.length_filter_le _ _) (by have h1 := rnsF_len (ofB (soL xs) 100000) t c r; have h2 : (ofB (soL xs) 100000).Processes.length ≤ 100 := hb.sh 0; omega))
 change (decNow (ofB (soL xs) 100000) t c r 100).par.ok ∧ ((decNow (ofB (soL xs) 100000) t c r 100).par.d = 1 ∨ (decNow (ofB (soL xs) 100000) t c r 100).par.d = 2 ∨ (decNow (ofB (soL xs) 100000) t c r 100).par.d = 4) ∧ _ ∧ _ at hbd
 obtain ⟨p, hpe⟩ : ∃ p, p = pF t c r (folV (decNow (ofB (soL xs) 100000) t c r 100).par) := ⟨_, rfl⟩
 have hv : validB p = true := by rw [hpe]; exact pF_valid ht hc hr (fol_bd hbd.2.1 hbd.2.2.1 hbd.2.2.2)
 have hk : p.Kind = 1 := by rw [hpe]; rfl
 have hg : p.Gone = false := by rw [hpe]; rfl
 have hi : p.ID = 500 := by rw [hpe]; rfl
 have htm : p.Time = 100 := by rw [hpe]; rfl
 have hpt : p.Tool = t ∧ p.Chamber = c ∧ p.Recipe = r := by rw [hpe]; exact ⟨rfl, rfl, rfl⟩
 have hpv : p.Value = folV (decNow (ofB (soL xs) 100000) t c r 100).par := by rw [hpe]; rfl
 rw [← hpe]
 have hn : ∀ g ∈ soL xs, validB g = true → keyB g ≠ keyB p := fun g hg hgv e => by
   have h1 := key_id hgv hv (.inl hk) e
   have h2 := (so_small hx g hg).1
   omega
 have hP := plus_of (L := soL xs) hv hk hg (by rw [hpe]; exact (by decide : (0 : Int) ≤ 100000)) hn
 have hc2 := kn_of (l := soL xs ++ [p]) (by have := soL_len xs; rw [List.length_append]; show _ + 1 ≤ 100; omega) 100000
 have hmem : ∀ x ∈ (ofB (soL xs) 100000).Processes, x ∈ soL xs := fun x hx => ((lst_mem (j := 0) cQ).1 (show x ∈ lstOf (ofB (soL xs) 100000) 0 from hx)).1.1
 have hds := plus_des hP hb hc2 (fun x hxp => by have := (so_small hx x (hmem x hxp)).2; omega) (fun x hxp => by have := (so_small hx x (hmem x hxp)).1; omega)
 have hpm : p ∈ (ofB (soL xs ++ [p]) 100000).Processes := (hP.P p).2 (.inl rfl)
 refine ⟨?_, ?_⟩
 · have hk0 : keyB p ≠ [] := keyB_got hv
   have hno : fget (bestL (soL xs) 100000) (keyB p) = none := by
     cases e : fget (bestL (soL xs) 100000) (keyB p) with
     | none => rfl
     | some x =>
       exfalso
       have e2 : fgz (bestL (soL xs) 100000) (keyB p) = x := by unfold fgz; rw [e]; rfl
       by_cases hkx : x.Kind = 0
       · have e3 := fget_some e
         obtain ⟨q, hq, hqe⟩ := List.mem_map.1 e3
         have hq2 := ((best_inv (soL xs) 100000).ok q hq)
         have h4 : q.1 = keyB p := by injection hqe
         have h5 := hn q.2 ((best_inv (soL xs) 100000).top q hq).1 hq2.2
         exact h5 (hq2.1.symm.trans h4)
       have h3 := fgz_eff (l := soL xs) (k := keyB p) (by rw [e2]; exact hkx)
       rw [e2] at h3
       exact hn x h3.1.1 (eff_valid h3.1) h3.2
   have hch : chgB (bestL (soL xs) 100000) p = true := by rw [(put_new hk0 hno).1, hg]; rfl
   have e1 : bestL (soL xs ++ [p]) 100000 = fset (bestL (soL xs) 100000) (keyB p) p := by rw [← chg_set hch]; unfold bestL; rw [List.foldl_append]; rfl
   have e2 : fgz (bestL (soL xs ++ [p]) 100000) (keyB p) = p := by unfold fgz; rw [e1, fget_set, if_pos rfl]; rfl
   have e3 : fgz (bestL (soL xs) 100000) (keyB p) = zeroF := by unfold fgz; rw [hno]; rfl
   have e4 : Fact.eqb zeroF p = false := by
     cases h : Fact.eqb zeroF p with
     | false => rfl
     | true => rw [← eqb_iff.1 h] at hk; cases hk
   have hst : ∀ kb g, stB (bestL (soL xs) 100000) (bestL (soL xs ++ [p]) 100000) kb (keyB p) g = decide (g = gof p) := fun kb g => by
     unfold stB
     rw [e2, e3, e4]
     unfold concB
     rw [hg, if_pos hk]
     rfl
   unfold cntN
   rw [touch_one, if_pos hch]
   have hL : ((grpsL (ofB (soL xs ++ [p]) 100000).Processes).filter fun g => [keyB p].any fun k => stB (bestL (soL xs) 100000) (bestL (soL xs ++ [p]) 100000) (ofB (soL xs ++ [p]) 100000) k g).Perm [gof p] := by
     refine perm_of_mem ((grpsL_nodup _).sublist List.filter_sublist) (by simp) fun g => ?_
     rw [List.mem_filter, List.mem_singleton, List.any_cons, List.any_nil, Bool.or_false, hst, decide_eq_true_eq]
     exact ⟨fun h => h.2, fun h => ⟨(grpsL_mem _ g).2 ⟨p, hpm, h.symm⟩, h⟩⟩
   exact hL.length_eq
 have hpr : procB (ofB (soL xs ++ [p]) 100000) p.ID = some p := proc_find hpm
 have he : expF (ofB (soL xs ++ [p]) 100000) p.ID = ({ decNow (ofB (soL xs) 100000) p.Tool p.Chamber p.Recipe p.Time with run := p.ID }, decide ((mkF p.Value 1000).2 = 0) && rtB (mkF p.Value 1000).1 (decNow (ofB (soL xs) 100000) p.Tool p.Chamber p.Recipe p.Time).par, 0) := by
   unfold expF
   rw [hpr]
   dsimp only
   rw [hds]
 unfold isLate
 rw [he, hpt.1, hpt.2.1, hpt.2.2, htm, hpv, fol_mk hbd.1 hbd.2.1]
 show (decide ((0 : Int) = 0) && !(decide ((0 : Int) = 0) && rtB (decNow (ofB (soL xs) 100000) t c r 100).par (decNow (ofB (soL xs) 100000) t c r 100).par)) = false
 rw [rtB_self]
 rfl
theorem late_sorted (l : List Fact) (d : Int) : lateL (ofB l d) = lateP (ofB l d) (ofB l d).Processes := by
 unfold lateL
 refine List.mergeSort_of_pairwise ?_
 unfold lateP
 rw [List.pairwise_map]
 have h : srt (ordK ((0 + 1 : Nat) : Int)) (ofB l d).Processes := lst_srt l d (j := 0) cQ
 refine (h.sublist List.filter_sublist).imp fun {x y} hxy => ?_
 have h2 := ltK_not.1 hxy
 refine decide_eq_true ?_
 have h3 : ¬ (y.ID < x.ID ∨ (y.ID = x.ID ∧ (0 : Int) < 0)) := h2
 omega
end Go.Wx
namespace Go.Proofs.YtbbpkdlehlamlaaGreatDoor
open Go.Proofs.Tryz
open Go.Wx Go.RowKit
end Go.Proofs.YtbbpkdlehlamlaaGreatDoor
end
section
namespace Go.Wx
theorem BaseC.els {w : World} {bc : Array Go.Value} {b : Base} (h : BaseC w bc b) {j : Nat} (hj : j < 11) {ad : Option Addr} {n cp : Nat} (hv : bc[j]? = some (.slice ad n cp)) : Els w ad 19 Fact.cells (lstOf b j) := by
 obtain ⟨v, hv', ad', c', e, hE⟩ := h.at_ hj
 rw [hv] at hv'
 cases hv'
 injection e with e1 e2 e3
 rw [e1]
 exact hE
end Go.Wx
namespace Go.Proofs.YtbbpkdlehlamlaaGreatDoor
open Go.Proofs.Tryz
open Go.Wx Go.RowKit
end Go.Proofs.YtbbpkdlehlamlaaGreatDoor
end
section
namespace Go.Wx
theorem lateI_at {kb : Base} {l : List Fact} {i : Nat} {x : Fact} (h : l[i]? = some x) (hx : isLate kb x.ID = true) : (lateP kb l)[(lateP kb (l.take i)).length]? = some x.ID := by
 have e : lateP kb l = lateP kb (l.take (i + 1)) ++ lateP kb (l.drop (i + 1)) := by unfold lateP; rw [← List.map_append, ← List.filter_append, List.take_append_drop]
 rw [e, late_yes h hx, List.append_assoc, List.getElem?_append_right (Nat.le_refl _), Nat.sub_self]
 rfl
theorem lateI_mem {kb : Base} {l : List Fact} {v : Int} (h : v ∈ lateP kb l) : isLate kb v = true := by
 obtain ⟨x, hx, rfl⟩ := List.mem_map.1 h
 exact (List.mem_filter.1 hx).2
end Go.Wx
namespace Go.Proofs.YtbbpkdlehlamlaaGreatDoor
open Go.Proofs.Tryz
open Go.Wx Go.RowKit
set_option maxHeartbeats 8000000 in
theorem EngineLate_any (ad : Option Addr) (cp : Nat) (xs : List I6) (tool chamber recipe : Int) (w : World) (hE1 : Els w ad 6 I6.cells xs) (hxs : ∀ y ∈ xs, I6Ok y) (htool : inI tool) (hch : inI chamber) (hrec : inI recipe) : Ret Tryz.prog 4 #[.slice ad xs.length cp, vi tool, vi chamber, vi recipe] w fun r0 w' => r0 = .bool true ∧ Up w w' := by
 obtain ⟨w0, rfl⟩ : ∃ w0, w0 = w := ⟨_, rfl⟩
 have hS := Sep.start no w0
 refine cS (n := 148) (m := 9) func4 rfl rfl rfl ?_
 refine CW.S (LW.C (LW.S (CW.region ?_)))
 refine LW.K (eC .nil (en10)) rfl (sane21_any _) ?_
 rintro _ w1 ⟨rfl, uw1⟩
 have zw1 := uw1.size
 replace hS := hS.up uw1
 refine LW.A rfl (LW.S (CW.region ?_))
 refine LW.K (eC .nil (en12)) rfl (ENew_any _) ?_
 rintro _ w2 ⟨z0, rfl, ha0, hn0, hz0, hN0⟩
 replace hS := hS.join hN0
 change Wx.Sep _ _ _ [_, _, _, _, _] at hS
 clear hN0
 refine LW.A rfl (LW.S (CW.region (LW.M rfl (LW.M rfl ?_))))
 refine LW.K (eC (.o rfl) (en11)) rfl (Some_any ad cp xs _ (Els.up hE1 hS.upd)) ?_
 rintro v27 w3 ⟨hO27, uw3⟩
 have zw3 := uw3.size
 replace hS := hS.add uw3 (A' := aOwn 24 19 Fact.cells v27 (soL xs)) (hO27.mono (Nat.zero_le _)) (fun i h => hO27.base i h)
 change Wx.Sep _ _ _ [_, _, _, _, _, _] at hS
 clear hO27
 obtain ⟨ad27, cp27, rfl, _⟩ := (hS.own 5 rfl).sl (fun _ => rfl)
 have hxl := soL_len xs
 replace hS := hS.pull 0 rfl
 change Wx.Sep _ _ _ [_, _, _, _, _, _] at hS
 replace hS := hS.pull 0 rfl
 change Wx.Sep _ _ _ [_, _, _, _, _, _] at hS
 replace hS := hS.pull 0 rfl
 change Wx.Sep _ _ _ [_, _, _, _, _, _] at hS
 replace hS := hS.pull 0 rfl
 change Wx.Sep _ _ _ [_, _, _, _, _, _] at hS
 replace hS := hS.pull 0 rfl
 change Wx.Sep _ _ _ [_, _, _, _, _, _] at hS
 have hq_ := (show Wx.Sep _ _ _ ([_] ++ [_, _, _, _, _]) from hS)
 refine LW.K (eC (.u rfl rfl) (en13)) rfl (EAdd_any z0 0 ad27 cp27 (soL xs) _ hz0 cQ (by rw [ha0]; simp; omega) (OwnS.elsS (hq_.left.own 0 rfl) (fun _ => rfl)) (fun _ B o e h => hq_.dis ⟨_, List.mem_of_getElem? (i := 0) rfl, own_foot e⟩ h) hq_.right.self) ?_
 rintro _ w4 ⟨z1, rfl, hp1, ha1, hn1, hz1, uw4⟩
 replace hS := hq_.frame uw4
 change Wx.Sep _ _ _ [_, _, _, _, _, _] at hS
 have zw4 := uw4.fr.size
 clear hq_
 rw [← hp1]
 replace ha1 : z1.all = soL xs := by rw [ha1, ha0]; rfl
 refine LW.S (CW.region (LW.M rfl ?_))
 refine LW.K (eC (.cons (.t rfl) (.cons (.const _) .nil)) (en19)) rfl (pick21_any tool 2 _ cQ) ?_
 rintro _ w5 ⟨rfl, uw5⟩
 have zw5 := uw5.size
 replace hS := hS.up uw5
 have hrt := pick_range (c := tool) (n := 2) htool cQ
 obtain ⟨t, et⟩ : ∃ x, x = pickI tool 2 := ⟨_, rfl⟩
 rw [← et] at hrt ⊢
 refine LW.A rfl (LW.S (CW.region (LW.M rfl ?_)))
 refine LW.K (eC (.cons (.t rfl) (.cons (.const _) .nil)) (en19)) rfl (pick21_any chamber 2 _ cQ) ?_
 rintro _ w6 ⟨rfl, uw6⟩
 have zw6 := uw6.size
 replace hS := hS.up uw6
 have hrc := pick_range (c := chamber) (n := 2) hch cQ
 obtain ⟨c, ec⟩ : ∃ x, x = pickI chamber 2 := ⟨_, rfl⟩
 rw [← ec] at hrc ⊢
 refine LW.A rfl (LW.S (CW.region (LW.M rfl ?_)))
 refine LW.K (eC (.cons (.t rfl) (.cons (.const _) .nil)) (en19)) rfl (pick21_any recipe 2 _ cQ) ?_
 rintro _ w7 ⟨rfl, uw7⟩
 have zw7 := uw7.size
 replace hS := hS.up uw7
 have hrq := pick_range (c := recipe) (n := 2) hrec cQ
 obtain ⟨q, eq⟩ : ∃ x, x = pickI recipe 2 := ⟨_, rfl⟩
 rw [← eq] at hrq ⊢
 refine LW.pp (.add (.const _) (.t rfl) oQ oQ) ?_
 refine LW.A rfl (LW.S ?_)
 obtain ⟨r, er⟩ : ∃ r, r = 1 + q := ⟨_, rfl⟩
 rw [← er]
 have hrr : 1 ≤ r ∧ r < 3 := by omega
 refine CW.region (LW.M rfl ?_)
 refine LW.K (eC (.o rfl) (en14)) rfl (EBase_any z1.E z1.bf z1.bd z1.bc z1.n z1.all _ (hS.blk 1 rfl) (hS.get 2 rfl) (Nat.le_trans hz1.len cQ)) ?_
 rintro _ w8 ⟨bc38, rfl, hC38_, _, uw8⟩
 have zw8 := uw8.size
 replace hS := hS.up uw8
 have hC38 : BaseC w8 bc38 z1.kb := hC38_
 clear hC38_
 refine LW.M rfl (LW.M rfl (LW.M rfl ?_))
 refine LW.K (eC (.cons (.t rfl) (.cons (.t rfl) (.cons (.t rfl) (.cons (.t rfl) (.cons (.const _) .nil))))) (en20)) rfl (Decide_any bc38 z1.kb t c r 100 _ hC38 (Nat.le_trans (len_ok hz1).1 cQ) (Nat.le_trans (len_ok hz1).2.2.1 cQ) (Nat.le_trans (len_ok hz1).2.1 cQ) (Nat.le_trans (len_ok hz1).2.2.2 cQ)) ?_
 rintro _ w9 ⟨_, rfl, ⟨ad9, cp9, rfl, hO9⟩, uw9⟩
 have zw9 := uw9.size
 replace hS := hS.up uw9
 replace hC38 := hC38.up uw9
 clear hO9
 refine LW.M rfl (LW.pp (.extract (.t rfl) rfl) (LW.pp (.extract (.t rfl) rfl) ?_))
 refine LW.rr (.allocA zeroValue48) rfl ?_
 rintro _ w10 ⟨B11, rfl, MB11⟩
 refine LW.E (.storeA sizeOf48 rfl (.t rfl) (.t rfl) (DP.one _) MB11.blk rfl) ?_
 intro w11 LB11
 have NB11 := MB11.set LB11
 clear LB11 MB11
 have eB11 := NB11.at_
 have zB11 := NB11.size
 replace hC38 := hC38.up NB11.up
 replace hS := hS.addB NB11
 change Wx.Sep _ _ _ [_, _, _, _, _, _, _] at hS
 refine LW.A rfl (LW.S (CW.seq ?_))
 have hbd := dec_par (b := z1.kb) (t := t) (c := c) (r := r) (time := 100) (a := (rnsF z1.kb t c r).filter fun x => decide (x.Time ≤ 100)) (Nat.le_trans (List.length_filter_le _ _) (by have h1 := rnsF_len z1.kb t c r; have h2 := (len_ok hz1).1; omega))
 change (decNow z1.kb t c r 100).par.ok ∧ ((decNow z1.kb t c r 100).par.d = 1 ∨ (decNow z1.kb t c r 100).par.d = 2 ∨ (decNow z1.kb t c r 100).par.d = 4) ∧ -10000 * (decNow z1.kb t c r 100).par.d ≤ (decNow z1.kb t c r 100).par.n ∧ (decNow z1.kb t c r 100).par.n ≤ 10000 * (decNow z1.kb t c r 100).par.d at hbd
 have hfb := fol_bd hbd.2.1 hbd.2.2.1 hbd.2.2.2
 refine CW.region (LW.M rfl ?_)
 refine LW.pp (.fa (PEv.neq (.t rfl) (.const _)) (rfl)) ?_
 refine LW.M rfl ?_
 refine LW.Y ?_
 refine LW.pp (.fA 1 underlying48 rfl sizeOf45 rfl) ?_
 refine LW.Y ?_
 refine LW.pp (.fA 1 underlying45 rfl sizeOf3 rfl) ?_
 refine LW.Y ?_
 refine LW.pp (.ld isAgg3 rfl (Blk.celln (v := vi (decNow z1.kb t c r 100).par.d) (hS.blk 6 rfl) rfl)) ?_
 refine LW.Y ?_
 refine LW.pp (.fa (PEv.lss (.t rfl) (.const _)) (decide_eq_false (by have := hbd.2.1; omega))) ?_
 refine LW.pp (.pick_or (.t rfl) (fun hp => (by first | exact .const _ | exact .tmp rfl | exact .cond rfl (by first | assumption | (rw [hp]; rfl) | (rw [hc, hp]; rfl) | simp_all)))) ?_
 refine LW.M rfl ?_
 refine LW.Y ?_
 refine LW.pp (.fA 1 underlying48 rfl sizeOf45 rfl) ?_
 refine LW.Y ?_
 refine LW.pp (.fA 1 underlying45 rfl sizeOf3 rfl) ?_
 refine LW.Y ?_
 refine LW.pp (.ld isAgg3 rfl (Blk.celln (v := vi (decNow z1.kb t c r 100).par.d) (hS.blk 6 rfl) rfl)) ?_
 refine LW.Y ?_
 refine LW.pp (.rem (.const _) (.t rfl) oQ) ?_
 refine LW.Y ?_
 refine LW.pp (.fa (PEv.neq (.t rfl) (.const _)) (by rw [wd_mod hbd.2.1]; rfl)) ?_
 refine LW.pp (.pick_or (.t rfl) (fun hp => (by first | exact .const _ | exact .tmp rfl | exact .cond rfl (by first | assumption | (rw [hp]; rfl) | (rw [hc, hp]; rfl) | simp_all)))) ?_
 refine LW.T ?_
 refine CW.cond_false (.t rfl) ?_
 refine CW.skip (KW.then (CW.seq ?_))
 refine CW.free 13 [.eq (vi t), .eq (vi c), .eq (vi r), .eq (.pointer (some ⟨B11, 1, none⟩)), .eq (.pointer (some ⟨B11, 1, none⟩)), .eq (vi (decNow z1.kb t c r 100).par.n), .eq (.pointer (some ⟨B11, 1, none⟩)), .eq (.pointer (some ⟨B11, 2, none⟩)), .eq (vi (decNow z1.kb t c r 100).par.d), .eq (vi ((1000 : Int).tdiv (decNow z1.kb t c r 100).par.d)), .eq (vi (folV (decNow z1.kb t c r 100).par)), .eq (.agg (pF t c r (folV (decNow z1.kb t c r 100).par)).cells), .pred fun v W => ∃ B, v = .pointer (some ⟨B, 0, none⟩) ∧ w11.drew.heap.size ≤ B ∧ Blk W B zeroF.cells 24] [13, 71] kQ rfl kQ kQ kQ kQ kQ kQ kQ ⟨PhU.eq _, PhU.eq _, PhU.eq _, PhU.eq _, PhU.eq _, PhU.eq _, PhU.eq _, PhU.eq _, PhU.eq _, PhU.eq _, PhU.eq _, PhU.eq _, PhU.pred fun _ _ _ h u => let ⟨B, e, hz, hb⟩ := h; ⟨B, e, hz, hb.up u⟩, trivial⟩ ?_ ?_
 ·intro W hU0
  have hU := (Up.drew w11).trans hU0
  have zU0 := hU0.size
  refine aC ⟨rfl, TU.p (.move (.t rfl)) rfl⟩ ?_
  refine aC ⟨rfl, TU.p (.move (.t rfl)) rfl⟩ ?_
  refine aC ⟨rfl, TU.p (.move (.t rfl)) rfl⟩ ?_
  refine aC ⟨rfl, TU.p (.fA 1 underlying48 rfl sizeOf45 rfl) rfl⟩ ?_
  refine aC ⟨rfl, TU.p (.fA 0 underlying45 rfl sizeOf3 rfl) rfl⟩ ?_
  refine aC ⟨rfl, TU.p (.ld isAgg3 rfl (Blk.celln (v := vi (decNow z1.kb t c r 100).par.n) ((hS.blk 6 rfl).up hU) rfl)) rfl⟩ ?_
  refine aC ⟨rfl, TU.p (.fA 1 underlying48 rfl sizeOf45 rfl) rfl⟩ ?_
  refine aC ⟨rfl, TU.p (.fA 1 underlying45 rfl sizeOf3 rfl) rfl⟩ ?_
  refine aC ⟨rfl, TU.p (.ld isAgg3 rfl (Blk.celln (v := vi (decNow z1.kb t c r 100).par.d) ((hS.blk 6 rfl).up hU) rfl)) rfl⟩ ?_
  refine aC ⟨rfl, TU.p (.val (v' := vi ((1000 : Int).tdiv (decNow z1.kb t c r 100).par.d)) (PEv.quo (.const _) (.t rfl) (by have := hbd.2.1; omega)) (by rcases hbd.2.1 with e | e | e <;> (rw [e]; rfl))) rfl⟩ ?_
  refine aC ⟨rfl, TU.p (.val (v' := vi (folV (decNow z1.kb t c r 100).par)) (PEv.mul_w (.t rfl) (.t rfl)) (congrArg (Go.Value.int .i64) (wI_in (by have := hfb.1; exact Int.le_trans cQ this) (by have := hfb.2; exact Int.le_trans this cQ)))) rfl⟩ ?_
  refine aC ⟨rfl, TU.p (.build (cs := (pF t c r (folV (decNow z1.kb t c r 100).par)).cells) underlying24 zeroValue24 Tryz.places24 (.cons (.const _) (.cons (.const _) (.cons (.const _) (.cons (.const _) (.cons (.t rfl) (.cons (.t rfl) (.cons (.t rfl) (.cons (.const _) (.cons (.const _) (.cons (.const _) (.cons (.t rfl) .nil))))))))))) kQ) rfl⟩ ?_
  refine aC ⟨rfl, TU.r (REv.allocA zeroValue24) (fun v W' h => let ⟨B, e, N⟩ := h; ⟨N.up, B, e, by rw [N.at_]; exact zU0, N.blk⟩)⟩ ?_
  exact allL.nil
 intro w12 g hU0 hg
 have hU := (Up.drew w11).trans hU0
 have zw12 := hU.size
 obtain ⟨B13, e13, z13, hB13⟩ : ∃ B, g 13 = .pointer (some ⟨B, 0, none⟩) ∧ w11.drew.heap.size ≤ B ∧ Blk w12 B zeroF.cells 24 := hg 12 _ 13 cQ rfl rfl
 have e71 : g 71 = .agg (pF t c r (folV (decNow z1.kb t c r 100).par)).cells := hg 11 _ 71 cQ rfl rfl
 change LW _ _ _ _ _ _ _ _ ((13, .eq (g 13)) :: (71, .eq (g 71)) :: _) _
 rw [e13, e71]
 clear hg e13 e71
 obtain ⟨p, hpe⟩ : ∃ p, p = pF t c r (folV (decNow z1.kb t c r 100).par) := ⟨_, rfl⟩
 rw [← hpe]
 replace hS := (hS.up (Up.drew _)).add hU0 (A' := aBlk B13 zeroF.cells 24) hB13 (fun i (e : i = B13) => by omega)
 change Wx.Sep no w0 _ [_, _, _, _, _, _, _, _] at hS
 refine LW.E (.storeA sizeOf24 rfl (.t rfl) (.t rfl) (Fact.one _) (hS.blk 7 rfl) rfl) ?_
 intro w13 Nw13
 have zw13 := Nw13.size
 replace hS := hS.putB 7 rfl (show Set_ _ w13 _ (p.cells) _ from Nw13)
 change Wx.Sep _ _ _ [_, _, _, _, _, _, _, _] at hS
 refine LW.S ?_
 replace hS := hS.pull 1 rfl
 replace hS := hS.pull 1 rfl
 replace hS := hS.pull 1 rfl
 replace hS := hS.pull 1 rfl
 replace hS := hS.pull 1 rfl
 change Wx.Sep _ _ _ [_, _, _, _, _, _, _, _] at hS
 have hLP : LateP (soL xs) p := by have h5 := late_p hxs hrt hrc hrr; rw [← ha1] at h5 ⊢; rw [hpe]; exact h5
 refine CW.region (LW.M rfl ?_)
 refine LW.pp (.la isAgg24 sizeOf24 rfl ((hS.blk 2 rfl).agg)) ?_
 have hSp75 := fun i (h : footL z1.As i) => Sep.ltL (Sep.right (show Wx.Sep _ _ _ ([_, _, _] ++ z1.As) from hS)) h
 refine LW.rr (.buildSlice (xs := [p]) (enc := Fact.cells) (mk := fun f : Fact => .agg f.cells) underlying26 sizeOf24 zeroValue24 rfl cQ (fun _ => rfl) (fun _ => rfl) (.cons (.t rfl) .nil) rfl) rfl ?_
 rintro _ w14 ⟨B74, cB74, rfl, NB74, yB74, xB74⟩
 have eB74 := NB74.at_
 have zB74 := NB74.size
 replace hS := hS.up NB74.up
 have hE74 := xB74
 replace hS := hS.pull 3 rfl
 change Wx.Sep _ _ _ [_, _, _, _, _, _, _, _] at hS
 replace hS := hS.pull 3 rfl
 change Wx.Sep _ _ _ [_, _, _, _, _, _, _, _] at hS
 replace hS := hS.pull 3 rfl
 change Wx.Sep _ _ _ [_, _, _, _, _, _, _, _] at hS
 replace hS := hS.pull 3 rfl
 change Wx.Sep _ _ _ [_, _, _, _, _, _, _, _] at hS
 replace hS := hS.pull 3 rfl
 change Wx.Sep _ _ _ [_, _, _, _, _, _, _, _] at hS
 have hq_ := (show Wx.Sep _ _ _ ([_, _, _] ++ [_, _, _, _, _]) from hS)
 refine LW.K (eC (.u rfl rfl) (en13)) rfl (EAdd_any z1 1 (some ⟨B74, 0, none⟩) _ [p] _ hz1 cQ (by rw [ha1]; simp; omega) hE74 (fun _ B o e h => by cases e; have := hSp75 _ h; omega) hq_.right.self) ?_
 rintro _ w15 ⟨z2, rfl, hp2, ha2, hn2, hz2, uw15⟩
 replace hS := hq_.frame uw15
 change Wx.Sep _ _ _ [_, _, _, _, _, _, _, _] at hS
 have zw15 := uw15.fr.size
 clear hq_
 rw [← hp2, ha1, hLP.one]
 have hfol : isLate z2.kb p.ID = false := by unfold Eng.kb; rw [ha2, ha1]; exact hLP.fol
 have hls : lateL z2.kb = (lateP z2.kb z2.kb.Processes) := late_sorted _ _
 have hlP := (len_ok hz2).1
 have hLl : (lateP z2.kb z2.kb.Processes).length ≤ 100 := by have h1 := late_len z2.kb z2.kb.Processes z2.kb.Processes.length; rw [List.take_length] at h1; omega
 refine LW.A rfl (LW.S (CW.region (LW.M rfl ?_)))
 refine LW.K (eC (.o rfl) (en21)) rfl (ELate_any z2.E z2.bf z2.bd z2.bc z2.n z2.kb _ hz2.hbc (hS.blk 3 rfl) (hS.get 5 rfl) (len_ok hz2).1 (len_ok hz2).2.1 (len_ok hz2).2.2.1 (len_ok hz2).2.2.2 val_ok) ?_
 rintro v77 w16 ⟨hO77, uw16⟩
 have zw16 := uw16.size
 replace hS := hS.add uw16 (A' := aOwn 3 1 eInt v77 (lateP z2.kb z2.kb.Processes)) (by rw [hls] at hO77; exact hO77.mono (Nat.zero_le _)) (fun i h => hO77.base i h)
 change Wx.Sep _ _ _ [_, _, _, _, _, _, _, _, _] at hS
 clear hO77
 obtain ⟨ad77, cp77, rfl, _⟩ := (hS.own 8 rfl).sl (fun _ => rfl)
 refine LW.A rfl (LW.S (CW.region (LW.M rfl ?_)))
 refine LW.K (eC (.o rfl) (en14)) rfl (EBase_any z2.E z2.bf z2.bd z2.bc z2.n z2.all _ (hS.blk 3 rfl) (hS.get 4 rfl) (Nat.le_trans hz2.len cQ)) ?_
 rintro _ w17 ⟨bc79, rfl, hC79, hb79, uw17⟩
 have zw17 := uw17.size
 replace hS := hS.add uw17 (A' := aBase bc79 z2.kb) (hC79) (aBase_low hb79)
 change Wx.Sep _ _ _ [_, _, _, _, _, _, _, _, _, _] at hS
 refine LW.rr (.allocA zeroValue32) rfl ?_
 rintro _ w18 ⟨B16, rfl, MB16⟩
 refine LW.E (.storeA sizeOf32 (BaseC.size hC79) (.t rfl) (.t rfl) (BaseC.one hC79) MB16.blk rfl) ?_
 intro w19 LB16
 have NB16 := MB16.set LB16
 clear LB16 MB16
 have eB16 := NB16.at_
 have zB16 := NB16.size
 replace hS := hS.addB NB16
 change Wx.Sep _ _ _ [_, _, _, _, _, _, _, _, _, _, _] at hS
 refine LW.S ?_
 replace hS := hS.pull 3 rfl
 replace hS := hS.pull 3 rfl
 replace hS := hS.pull 3 rfl
 replace hS := hS.pull 3 rfl
 replace hS := hS.pull 3 rfl
 change Wx.Sep _ _ _ [_, _, _, _, _, _, _, _, _, _, _] at hS
 obtain ⟨v0, h0, hs0⟩ := (show BaseC w19 bc79 z2.kb from hS.get 4 rfl).at_ (j := 0) cQ
 obtain ⟨ad0, cp0, rfl, _⟩ := (show Sl w19 v0 19 Fact.cells z2.kb.Processes from hs0)
 clear hs0
 refine CW.region (LW.C (LW.S (CW.S (LW.C (LW.T (CW.block ?_))))))
 refine CW.loopB (σ := Nat × Nat) (fun s w => (s.1 ≤ z2.kb.Processes.length) ∧ (s.2 = (lateP z2.kb (z2.kb.Processes.take s.1)).length) ∧ (Wx.Sep no w0 w ([aOwn 24 19 Fact.cells (.slice ad27 (soL xs).length cp27) (soL xs), aBlk B11 (DP.cells ⟨decNow z1.kb t c r 100, ad9, cp9⟩) 48, aBlk B13 p.cells 24, aOwn 3 1 eInt (.slice ad77 (lateP z2.kb z2.kb.Processes).length cp77) (lateP z2.kb z2.kb.Processes), aBase bc79 z2.kb, aBlk B16 bc79 32] ++ Eng.As z2))) (fun s => [(18, .eq (vi (s.1 : Int))), (17, .eq (vi (s.2 : Int)))]) ([(9, .eq _), (13, .eq _), (14, .eq _), (15, .eq _), (16, .eq _)]) (fun s => z2.kb.Processes.length - s.1) (0, 0) ?_ ⟨rfl, rfl, rfl, rfl, rfl, rfl, rfl, trivial⟩ ?_
 ·exact ⟨Nat.zero_le _, rfl, hS⟩
 rintro ⟨i, at_⟩ w20 ⟨hi, hat, hS⟩
 dsimp only at hi hat
 change Wx.Sep _ _ _ [_, _, _, _, _, _, _, _, _, _, _] at hS
 change CW _ _ _ _ _ _ _ ([(18, .eq (vi (i : Int))), (17, .eq (vi (at_ : Int)))] ++ _) _
 refine CW.seq (CW.S (LW.M rfl ?_))
 refine LW.pp (.fA 0 underlying32 rfl sizeOf26 rfl) ?_
 refine LW.pp (.ld isAgg26 rfl ((hS.blk 5 rfl).cell h0)) ?_
 refine LW.pp (.lenS underlying26 (.t rfl)) ?_
 refine LW.pp (.lss (.t rfl) (.t rfl)) ?_
 refine LW.T ?_
 refine CW.cond (.t rfl) (fun h84 => ?_) (fun h84 => ?_)
 ·replace h84 := dQ h84
  refine CW.skip (KW.then (CW.seq (CW.block (CW.seq ?_))))
  obtain ⟨x, hx⟩ : ∃ x, z2.kb.Processes[i]? = some x := ⟨_, List.getElem?_eq_getElem oQ⟩
  obtain ⟨Bx, ox, ax, hcx⟩ := (BaseC.els (show BaseC w20 bc79 z2.kb from hS.get 4 rfl) (j := 0) cQ h0) i x hx
  refine CW.boxU 16 12 13 9 19 96 (DP.cells ⟨dec0, none, 0⟩) [.eq (.agg bc79), .eq (.pointer (some ⟨B16, 0, none⟩)), .eq (.slice ad0 z2.kb.Processes.length cp0), .eq (vi (i : Int)), .eq (.pointer (some ⟨Bx, ox + i * 19, none⟩)), .eq (.pointer (some ⟨Bx, ox + i * 19 + 1, none⟩)), .eq (vi x.ID), .pred fun v _ => ∃ ad cp, v = .tuple #[.agg (DP.cells ⟨(expF z2.kb x.ID).1, ad, cp⟩), .bool (expF z2.kb x.ID).2.1, vi (expF z2.kb x.ID).2.2], .pred fun v _ => ∃ ad cp, v = .tuple #[.agg (DP.cells ⟨(expF z2.kb x.ID).1, ad, cp⟩), .bool (expF z2.kb x.ID).2.1, vi (expF z2.kb x.ID).2.2], .pred fun v _ => ∃ ad cp, v = .agg (DP.cells ⟨(expF z2.kb x.ID).1, ad, cp⟩), .eq (.bool (expF z2.kb x.ID).2.1), .eq (vi (expF z2.kb x.ID).2.2), .pred fun v _ => ∃ B, v = .pointer (some ⟨B, 0, none⟩), .eq undef, .eq (.bool (expF z2.kb x.ID).2.1), .eq (vi (expF z2.kb x.ID).2.2)] [20, 21] zeroValue48 sizeOf48 kQ rfl kQ kQ kQ kQ kQ kQ kQ rfl rfl ⟨_, _, _, rfl⟩ _ rfl ⟨_, _, _, rfl⟩ ⟨PhT.eq _ _, PhT.eq _ _, PhT.eq _ _, PhT.eq _ _, PhT.eq _ _, PhT.eq _ _, PhT.eq _ _, PhT.pred fun _ _ _ h _ => h, PhT.pred fun _ _ _ h _ => h, PhT.pred fun _ _ _ h _ => h, PhT.eq _ _, PhT.eq _ _, PhT.pred fun _ _ _ h _ => h, PhT.eq _ _, PhT.eq _ _, PhT.eq _ _, trivial⟩ rfl (fun v W h => let ⟨ad, cp, e⟩ := h; ⟨_, e, rfl, DP.one _⟩) (fun B W => ⟨B, rfl⟩) ?_ ?_
  ·intro W hU0
   have hU := (Up.drew w20).trans hU0
   have hSW := hS.up hU
   refine aC (.inr ⟨rfl, TU.p (.loadA isAgg32 sizeOf32 (BaseC.size hC79) (.t rfl) (hSW.blk 5 rfl).agg) rfl⟩) ?_
   refine aC (.inr ⟨rfl, TU.p (.fA 0 underlying32 rfl sizeOf26 rfl) rfl⟩) ?_
   refine aC (.inr ⟨rfl, TU.p (.ld isAgg26 rfl ((hSW.blk 5 rfl).cell h0)) rfl⟩) ?_
   refine aC (.inr ⟨rfl, TU.p (.move (.t rfl)) rfl⟩) ?_
   refine aC (.inr ⟨rfl, TU.p (.indexAddr' underlying26 sizeOf24 (j := i) (.t rfl) (.t rfl) oQ ax) rfl⟩) ?_
   refine aC (.inr ⟨rfl, TU.p (.fA 1 underlying24 rfl sizeOf3 rfl) rfl⟩) ?_
   refine aC (.inr ⟨rfl, TU.p (.ld isAgg3 rfl ((hcx.up hU).nth (j := 1) rfl)) rfl⟩) ?_
   refine aC (.inr ⟨rfl, TU.c (eC (.u rfl rfl) (en22)) (Explain_any bc79 z2.kb x.ID W (hSW.get 4 rfl) (Nat.le_trans (len_ok hz2).1 cQ) (Nat.le_trans (len_ok hz2).2.2.1 cQ) (Nat.le_trans (len_ok hz2).2.1 cQ) (Nat.le_trans (len_ok hz2).2.2.2 cQ) val_ok) (by rintro v W1 ⟨v2, rfl, ⟨adu, cpu, rfl, _⟩, hu⟩; exact ⟨hu, adu, cpu, rfl⟩)⟩) ?_
   refine aC (.inr ⟨rfl, TU.open (d := 95) rfl (by rintro _ ⟨adu, cpu, rfl⟩; exact TU.p (.move (.t rfl)) ⟨adu, cpu, rfl⟩)⟩) ?_
   refine aC (.inr ⟨rfl, TU.open (d := 87) rfl (by rintro _ ⟨adu, cpu, rfl⟩; exact TU.p (.extract (.t rfl) rfl) ⟨adu, cpu, rfl⟩)⟩) ?_
   refine aC (.inr ⟨rfl, TU.open (d := 87) rfl (by rintro _ ⟨adu, cpu, rfl⟩; exact TU.p (.extract (.t rfl) rfl) rfl)⟩) ?_
   refine aC (.inr ⟨rfl, TU.open (d := 87) rfl (by rintro _ ⟨adu, cpu, rfl⟩; exact TU.p (.extract (.t rfl) rfl) rfl)⟩) ?_
   refine aC (.inl (.inl rfl)) ?_
   refine aC (.inl (.inr rfl)) ?_
   refine aC (.inr ⟨rfl, TU.p (.assign (.t rfl)) rfl⟩) ?_
   refine aC (.inr ⟨rfl, TU.p (.assign (.t rfl)) rfl⟩) ?_
   exact allL.nil
  intro w21 B19 g hU0 zB19_ hB19 hg
  have hU := (Up.drew w20).trans hU0
  have zw21 := hU.size
  have e20 : g 20 = .bool (expF z2.kb x.ID).2.1 := hg 14 _ 20 cQ rfl rfl
  have e21 : g 21 = vi (expF z2.kb x.ID).2.2 := hg 15 _ 21 cQ rfl rfl
  change LW _ _ _ _ _ _ _ _ ((19, _) :: (20, .eq (g 20)) :: (21, .eq (g 21)) :: _) _
  rw [e20, e21]
  clear e20 e21 hg hB19
  replace hS := hS.up hU
  replace hcx := hcx.up hU
  refine LW.S (CW.region (LW.M rfl ?_))
  refine LW.pp (.eql (.t rfl) (.const _)) ?_
  refine LW.M rfl ?_
  refine LW.g rfl rfl rfl rfl rfl rfl rfl (fun hc => PEv.move (.t rfl)) ?_
  refine LW.g rfl rfl rfl rfl rfl rfl rfl (fun hc => PEv.not vQ) ?_
  refine LW.pp (.pick_and (.t rfl) (fun hp => (by first | exact .const _ | exact .tmp rfl | exact .cond rfl (by first | assumption | (rw [hp]; rfl) | (rw [hc, hp]; rfl) | simp_all)))) ?_
  refine LW.T ?_
  refine CW.cond (.t rfl) (fun h104 => ?_) (fun h104 => ?_)
  ·replace h104 := dQ h104
   have hla : isLate z2.kb x.ID = true := by have h5 := h104; unfold isLate; simp at h5 ⊢; simp_all
   have hlat := lateI_at hx hla
   rw [← hat] at hlat
   have hltl := (List.getElem?_eq_some_iff.1 hlat).1
   obtain ⟨By, oy, ay, hcy⟩ := (OwnS.elsS (hS.own 3 rfl) (fun _ => rfl)) at_ x.ID hlat
   refine CW.seq (CW.seq ?_)
   refine CW.draws kQ kQ rfl rfl ?_
   refine HW.pp (.move (.t rfl)) ?_
   refine HW.pp (.move (.t rfl)) ?_
   refine HW.pp (.lenS underlying46 (.t rfl)) ?_
   refine HW.pp (.fa (PEv.geq (.t rfl) (.t rfl)) (decide_eq_false oQ)) ?_
   refine HW.pp (.move (.t rfl)) ?_
   refine HW.yy (.move (.t rfl)) ?_
   refine HW.yy (.move (.t rfl)) ?_
   refine HW.yy (.indexAddr' underlying46 sizeOf3 (j := at_) (k := (lateP z2.kb z2.kb.Processes).length) (.t rfl) (.t rfl) oQ ay) ?_
   refine HW.yy (.ld isAgg3 rfl (hcy.nth (j := 0) rfl)) ?_
   refine HW.yy (.fA 0 underlying32 rfl sizeOf26 rfl) ?_
   refine HW.yy (.ld isAgg26 rfl ((hS.blk 5 rfl).cell h0)) ?_
   refine HW.yy (.move (.t rfl)) ?_
   refine HW.yy (.indexAddr' underlying26 sizeOf24 (j := i) (k := z2.kb.Processes.length) (.t rfl) (.t rfl) oQ ax) ?_
   refine HW.yy (.fA 1 underlying24 rfl sizeOf3 rfl) ?_
   refine HW.yy (.ld isAgg3 rfl (hcx.nth (j := 1) rfl)) ?_
   refine HW.yy (.fa (PEv.neq (.t rfl) (.t rfl)) (by simp)) ?_
   refine HW.pp (.pick_or (.t rfl) (fun hp => (by first | exact .const _ | exact .tmp rfl | exact .cond rfl (by first | assumption | (rw [hp]; rfl) | (rw [hc, hp]; rfl) | simp_all)))) ?_
   refine HW.nil ?_
   intro w22 uw22
   have zw22 := uw22.size
   replace hS := hS.up uw22
   refine KW.then ?_
   refine CW.cond_false (.t rfl) ?_
   refine CW.skip (KW.then (CW.region (LW.M rfl ?_)))
   refine LW.pp (.inc (.t rfl) oQ) ?_
   refine LW.A rfl (LW.nil (KW.inBlock (KW.then (CW.region (LW.M rfl ?_)))))
   refine LW.pp (.inc (.t rfl) oQ) ?_
   refine LW.A rfl (LW.nil (KW.round ?_))
   first | exact ⟨(i + 1, at_ + 1), ⟨by show i + 1 ≤ _; omega, by show at_ + 1 = _; rw [late_yes hx hla, List.length_append, ← hat]; rfl, hS⟩, ⟨rfl, rfl, rfl, rfl, rfl, rfl, rfl, trivial⟩, by show z2.kb.Processes.length - (i + 1) < z2.kb.Processes.length - i; omega⟩ | exact ⟨(i + 1, at_), ⟨by show i + 1 ≤ _; omega, by show at_ = _; rw [late_no hx hla, ← hat], hS⟩, ⟨rfl, rfl, rfl, rfl, rfl, rfl, rfl, trivial⟩, by show z2.kb.Processes.length - (i + 1) < z2.kb.Processes.length - i; omega⟩
  replace h104 := dQ h104
  have hla : isLate z2.kb x.ID = false := by have h5 := h104; unfold isLate; simp at h5 ⊢; simp_all
  refine CW.skip (KW.inBlock (KW.then (CW.region (LW.M rfl ?_))))
  refine LW.pp (.inc (.t rfl) oQ) ?_
  refine LW.A rfl (LW.nil (KW.round ?_))
  first | exact ⟨(i + 1, at_ + 1), ⟨by show i + 1 ≤ _; omega, by show at_ + 1 = _; rw [late_yes hx hla, List.length_append, ← hat]; rfl, hS⟩, ⟨rfl, rfl, rfl, rfl, rfl, rfl, rfl, trivial⟩, by show z2.kb.Processes.length - (i + 1) < z2.kb.Processes.length - i; omega⟩ | exact ⟨(i + 1, at_), ⟨by show i + 1 ≤ _; omega, by show at_ = _; rw [late_no hx hla, ← hat], hS⟩, ⟨rfl, rfl, rfl, rfl, rfl, rfl, rfl, trivial⟩, by show z2.kb.Processes.length - (i + 1) < z2.kb.Processes.length - i; omega⟩
 replace h84 := dQ h84
 refine CW.exit (KW.then_exit (KW.then_exit (KW.block_hit (KW.then (CW.seq (CW.seq ?_))))))
 have hil : i = z2.kb.Processes.length := by omega
 rw [hil, List.take_length] at hat
 refine CW.region (LW.C (LW.T (CW.block ?_)))
 refine CW.loopB (σ := Nat) (fun s w => (s ≤ (lateP z2.kb z2.kb.Processes).length) ∧ (Wx.Sep no w0 w ([aOwn 24 19 Fact.cells (.slice ad27 (soL xs).length cp27) (soL xs), aBlk B11 (DP.cells ⟨decNow z1.kb t c r 100, ad9, cp9⟩) 48, aBlk B13 p.cells 24, aOwn 3 1 eInt (.slice ad77 (lateP z2.kb z2.kb.Processes).length cp77) (lateP z2.kb z2.kb.Processes), aBase bc79 z2.kb, aBlk B16 bc79 32] ++ Eng.As z2))) (fun s => [(22, .eq (vi (s : Int)))]) ([(9, .eq _), (13, .eq _), (14, .eq _), (15, .eq _), (17, .eq _)]) (fun s => (lateP z2.kb z2.kb.Processes).length - s) 0 ?_ ⟨rfl, rfl, rfl, rfl, rfl, rfl, trivial⟩ ?_
 ·exact ⟨Nat.zero_le _, hS⟩
 rintro j w23 ⟨hj, hS⟩
 change Wx.Sep _ _ _ [_, _, _, _, _, _, _, _, _, _, _] at hS
 refine CW.seq (CW.S (LW.M rfl (LW.M rfl ?_)))
 refine LW.pp (.lenS underlying46 (.t rfl)) ?_
 refine LW.pp (.lss (.t rfl) (.t rfl)) ?_
 refine LW.T ?_
 refine CW.cond (.t rfl) (fun h127 => ?_) (fun h127 => ?_)
 ·replace h127 := dQ h127
  refine CW.skip (KW.then (CW.seq (CW.block (CW.seq ?_))))
  obtain ⟨y, hy⟩ : ∃ y, (lateP z2.kb z2.kb.Processes)[j]? = some y := ⟨_, List.getElem?_eq_getElem oQ⟩
  obtain ⟨By, oy, ay, hcy⟩ := (OwnS.elsS (hS.own 3 rfl) (fun _ => rfl)) j y hy
  refine CW.draws kQ kQ rfl rfl ?_
  refine HW.pp (.move (.t rfl)) ?_
  refine HW.pp (.move (.t rfl)) ?_
  refine HW.pp (.indexAddr' underlying46 sizeOf3 (j := j) (.t rfl) (.t rfl) oQ ay) ?_
  refine HW.pp (.ld isAgg3 rfl (hcy.nth (j := 0) rfl)) ?_
  refine HW.pp (.fA 1 underlying24 rfl sizeOf3 rfl) ?_
  refine HW.pp (.ld isAgg3 rfl ((hS.blk 2 rfl).celln rfl)) ?_
  refine HW.pp (.fa (PEv.eql (.t rfl) (.t rfl)) (decide_eq_false (fun e => by have h5 := lateI_mem (List.mem_of_getElem? hy); rw [e, hfol] at h5; cases h5))) ?_
  refine HW.nil ?_
  intro w24 uw24
  have zw24 := uw24.size
  replace hS := hS.up uw24
  refine KW.then ?_
  refine CW.cond_false (.t rfl) ?_
  refine CW.skip (KW.inBlock (KW.then (CW.region (LW.M rfl ?_))))
  refine LW.pp (.inc (.t rfl) oQ) ?_
  refine LW.A rfl (LW.nil (KW.round ?_))
  exact ⟨j + 1, ⟨by omega, hS⟩, ⟨rfl, rfl, rfl, rfl, rfl, rfl, trivial⟩, by first | omega | (dsimp only; omega)⟩
 replace h127 := dQ h127
 refine CW.exit (KW.then_exit (KW.then_exit (KW.block_hit (KW.then (CW.S (LW.M rfl (LW.M rfl ?_)))))))
 refine LW.Y ?_
 refine LW.M rfl ?_
 refine LW.Y ?_
 refine LW.pp (.tr (PEv.eql (.t rfl) (.const _)) (rfl)) ?_
 refine LW.pp (.pick_and (.t rfl) (fun hp => (by first | exact .const _ | exact .tmp rfl | exact .cond rfl (by first | assumption | (rw [hp]; rfl) | (rw [hc, hp]; rfl) | simp_all)))) ?_
 refine LW.M rfl ?_
 refine LW.Y ?_
 refine LW.M rfl ?_
 refine LW.Y ?_
 refine LW.M rfl ?_
 refine LW.Y ?_
 refine LW.pp (.lenS underlying46 (.t rfl)) ?_
 refine LW.Y ?_
 refine LW.pp (.tr (PEv.eql (.t rfl) (.t rfl)) (decide_eq_true oQ)) ?_
 refine LW.pp (.pick_and (.t rfl) (fun hp => (by first | exact .const _ | exact .tmp rfl | exact .cond rfl (by first | assumption | (rw [hp]; rfl) | (rw [hc, hp]; rfl) | simp_all)))) ?_
 refine LW.A rfl (LW.T (CW.ret ?_))
 refine KW.ret1 rfl rfl ⟨_, rfl, ?_⟩
 exact ⟨rfl, hS.upd⟩
end Go.Proofs.YtbbpkdlehlamlaaGreatDoor
end
