import Derived.Test.YtbbpkdlehlamlaaGreatDoorKR319
import Derived.Sort.OwnSortedInts
section
namespace Go.Wx
theorem flat_int (ks : List Int) : ks.flatMap (fun x => (eInt x).toList) = ks.map vi := by
 induction ks with
 | nil => rfl
 | cons k ks ih => rw [List.flatMap_cons, ih]; rfl
def isLate (kb : Base) (id : Int) : Bool := decide ((expF kb id).2.2 = 0) && !(expF kb id).2.1
def lateP (kb : Base) (l : List Fact) : List Int := (l.filter fun p => isLate kb p.ID).map (·.ID)
def lateL (kb : Base) : List Int := (lateP kb kb.Processes).mergeSort fun x y => decide (x ≤ y)
theorem late_yes {kb : Base} {l : List Fact} {i : Nat} {x : Fact} (h : l[i]? = some x) (hx : isLate kb x.ID = true) : lateP kb (l.take (i + 1)) = lateP kb (l.take i) ++ [x.ID] := by
 unfold lateP
 rw [List.take_add_one, h, Option.toList_some, List.filter_append, List.map_append]
 simp [hx]
theorem late_no {kb : Base} {l : List Fact} {i : Nat} {x : Fact} (h : l[i]? = some x) (hx : isLate kb x.ID = false) : lateP kb (l.take (i + 1)) = lateP kb (l.take i) := by
 unfold lateP
 rw [List.take_add_one, h, Option.toList_some, List.filter_append, List.map_append]
 simp [hx]
theorem late_len (kb : Base) (l : List Fact) (i : Nat) : (lateP kb (l.take i)).length ≤ l.length := by
 unfold lateP
 rw [List.length_map]
 exact Nat.le_trans (List.length_filter_le _ _) (by rw [List.length_take]; omega)
theorem sl_els {α : Type} {w : World} {ad : Option Addr} {n c k : Nat} {enc : α → Array Go.Value} {xs : List α} (h : Sl w (.slice ad n c) k enc xs) : Els w ad k enc xs := by
 obtain ⟨a, c', e, he⟩ := h
 cases e
 exact he
theorem des_none {b : Base} {t c r : Int} (h : ∀ p ∈ b.Processes, gof p ≠ ⟨t, c, r⟩) : desF b t c r = [] := by
 have : rnsF b t c r = [] := List.eq_nil_iff_forall_not_mem.2 fun x hx => by
   obtain ⟨h1, h2, h3, h4⟩ := rns_mem.1 hx
   exact h x h1 (by unfold gof; rw [h2, h3, h4])
 unfold desF
 rw [this]
 rfl
end Go.Wx
namespace Go.Proofs.YtbbpkdlehlamlaaGreatDoor
open Go.Proofs.Tryz
open Go.Wx Go.RowKit
theorem sortS_any (v : Go.Value) (ks : List Int) (w : World) (h : OwnS w 0 3 1 eInt v ks) (hlen : ks.length < 4611686018427387904) : Ret Tryz.prog 53 #[v] w fun r w' => r = .tuple #[] ∧ Stp (aOwn 3 1 eInt v ks) (aOwn 3 1 eInt v (ks.mergeSort fun x y => decide (x ≤ y))) w w' := by
 have h0 := h
 obtain ⟨h1, ⟨rfl, hn⟩ | ⟨g, cap, cur, rfl, hg, hb, h2, h3, h4, h5⟩⟩ := h
 · have hks : ks = [] := List.eq_nil_of_length_eq_zero hn
   subst hks
   refine Calls.mono (Tryz.slices_Sort_int_none none 0 w) ?_
   rintro e' w' ⟨rfl, rfl⟩
   exact ⟨_, rfl, rfl, Fr.refl _ _, show OwnS w' 0 3 1 eInt (.slice none 0 0) (List.mergeSort [] _) from by simpa using h0, fun _ h => .inl h⟩
 rw [flat_int] at h5
 have hl : g < w.heap.size := lt_of_block hb
 refine Calls.mono (Tryz.slices_Sort_int g 0 cap ks w (Go.holds_of_blockI hb (by simpa using h5)) hl hlen) ?_
 rintro e' w' ⟨rfl, n, os, rfl⟩
 have hg2 := Go.grownBy_sortedI (w := w) (g := g) (n := n) (os := os) (ks.mergeSort fun x y => decide (x ≤ y)).toArray
 have ho := Go.ownsRow_sortedI (w := w) (n := n) (os := os) (ss := ks) (ts := ks.mergeSort fun x y => decide (x ≤ y)) (by simp) hg hb h2 h3 h4
 refine ⟨_, rfl, rfl, ⟨hg2.os, hg2.tape, hg2.output, hg2.size, fun i hi hn => hg2.block i hi (fun e => hn (by cases e; rfl))⟩, ?_, fun _ h => .inl h⟩
 show World.ownsRow _ _ _ _ _ _ _
 rw [flat_int, List.length_mergeSort]
 exact ho
theorem cloneI_any (ad : Option Addr) (cp : Nat) (l : List Int) (w : World) (hE0 : Els w ad 1 eInt l) (hl : l.length ≤ 1000000000) : Ret Tryz.prog 45 #[.slice ad l.length cp] w fun r w' => OwnS w' w.heap.size 3 1 eInt r l ∧ Up w w' := by
 obtain ⟨w0, rfl⟩ : ∃ w0, w0 = w := ⟨_, rfl⟩
 have hS := Sep.start no w0
 refine cS (n := 8) (m := 9) func45 rfl rfl rfl (CW.S (LW.C (LW.S (CW.S (LW.M rfl (LW.pp (.eqlNilS underlying46 (.t rfl)) (LW.T (CW.cond (.t rfl) (fun h4 => ?_) (fun h4 => ?_)))))))))
 ·have hnil : l = [] := by cases l with | nil => rfl | cons x r => (obtain ⟨B, o, e, _⟩ := hE0 0 x rfl; rw [e] at h4; cases h4)
  refine CW.S (LW.C (LW.T (CW.ret (KW.then_ret (KW.ret1 rfl rfl ⟨_, rfl, ?_⟩)))))
  (subst hnil; exact ⟨OwnS.nil _ _ _ _ _, hS.upd⟩)
 refine CW.skip (KW.then (CW.S (LW.rr (.buildSlice (xs := ([] : List Int)) (enc := eInt) (mk := vi) underlying46 sizeOf3 zeroValue3 rfl cQ (fun _ => rfl) (fun _ => rfl) .nil rfl) rfl ?_)))
 intro v5 w1 hN5
 obtain ⟨uw1, B5, rfl, hO5⟩ := NewSl.own0 hN5 (Nat.le_refl _)
 replace hS := hS.add uw1 (A' := aOwn 3 1 eInt (.slice (some ⟨B5, 0, none⟩) 0 0) ([] : List Int)) (hO5.mono (Nat.zero_le _)) (fun i h => hO5.base i h)
 refine LW.M rfl (LW.rr (.appendF (enc := eInt) (bytes := 8) (i := Tryz.t3) underlying46 kQ rfl rfl rfl rfl cQ (fun _ => rfl) eInt_one (.t rfl) (.t rfl) (hS.own 0 rfl) (Sl.of_els (Els.up hE0 hS.upd)) (by simp [maxLen]; omega) (by simp; omega)) rfl ?_)
 intro v7 w2 Gw2
 replace hS := hS.stp 0 rfl Gw2
 refine LW.A rfl (LW.T (CW.ret (KW.ret1 rfl rfl ⟨_, rfl, ?_⟩)))
 exact ⟨(hS.own 0 rfl).rebase (fun i h => (hS.foot 0 rfl i h).resolve_left (fun h => h)), hS.upd⟩
theorem ELate_any (E bf bd : Nat) (bc : Array Go.Value) (nw : Int) (kb : Base) (w : World) (hbc : bc.size = 11) (hE : Blk w E (EC bf bc bd nw) 80) (hC : BaseC w bc kb) (hlP : kb.Processes.length ≤ 100) (hlM : kb.Measures.length ≤ 100) (hlR : kb.Resets.length ≤ 100) (hlT : kb.Targets.length ≤ 100) (hV : ∀ f ∈ kb.Processes, inI f.Value) : Ret Tryz.prog 21 #[.pointer (some ⟨E, 0, none⟩)] w fun r w' => OwnS w' w.heap.size 3 1 eInt r (lateL kb) ∧ Up w w' := by
 obtain ⟨w0, rfl⟩ : ∃ w0, w0 = w := ⟨_, rfl⟩
 have hS := Sep.start no w0
 refine cS (n := 46) (m := 9) func21 rfl rfl rfl (CW.S (LW.C (LW.S (CW.S (LW.M rfl (LW.pp (.fa (PEv.eqlNil underlying28 (.t rfl)) (rfl)) (LW.T (CW.cond_false (.t rfl) (CW.skip (KW.then (CW.seq (CW.seq ?_))))))))))))
 obtain ⟨_, hvp, adp, cpp, rfl, hEp0⟩ := BaseC.at_ hC (j := 0) cQ
 replace hvp : bc[0]? = some (.slice adp kb.Processes.length cpp) := hvp
 have hEp : Els _ adp 19 Fact.cells kb.Processes := hEp0
 replace hS := hS.addn (OwnS.nil _ 0 3 1 eInt)
 refine CW.region (LW.M rfl (LW.pp (.nilCheck (.t rfl)) (LW.pp (.fA 1 underlying80 rfl sizeOf32 rfl) (LW.pp (.fA 0 underlying32 rfl sizeOf26 rfl) (LW.pp (.ld isAgg26 rfl (EC_lst (hE.up hS.upd) hvp)) (LW.pp (.lenS underlying26 (.t rfl)) (LW.pp (.move (.const _)) (LW.T (CW.block (CW.loopB (σ := Nat × Go.Value) (fun s w => (s.1 ≤ kb.Processes.length) ∧ (Wx.Sep no w0 w [aOwn 3 1 eInt s.2 (lateP kb (kb.Processes.take s.1))])) (fun s => [(16, .eq (vi (s.1 : Int))), (2, .eq (s.2))]) ([(0, .eq _), (14, .eq _), (15, .eq _)]) (fun s => kb.Processes.length - s.1) (0, .slice none 0 0) ?_ ⟨rfl, rfl, rfl, rfl, rfl, trivial⟩ ?_))))))))))
 ·exact ⟨Nat.zero_le _, hS⟩
 rintro ⟨i, v⟩ w1 ⟨hi, hS⟩
 change CW _ _ _ _ _ _ _ ([(16, .eq (vi (i : Int))), (2, .eq (v))] ++ _) _
 refine CW.seq ?_
 skip
 refine CW.region (LW.pp (.lss (.t rfl) (.t rfl)) (LW.S (CW.cond (.t rfl) (fun h17 => ?_) (fun h17 => ?_))))
 ·replace h17 := dQ h17
  refine CW.skip (KW.then (CW.seq (CW.block (CW.seq ?_))))
  have hil : i < kb.Processes.length := by omega
  obtain ⟨x, hx⟩ : ∃ x, kb.Processes[i]? = some x := ⟨_, List.getElem?_eq_getElem hil⟩
  obtain ⟨Bx, ox, ax, hcx⟩ := (Els.up hEp hS.upd) i x hx
  have hll := late_len kb kb.Processes i
  refine CW.region (LW.pp (.indexAddr' underlying26 sizeOf24 (j := i) (.t rfl) (.t rfl) oQ ax) (LW.pp (.la isAgg24 sizeOf24 rfl (hcx)) (LW.rr (.allocA zeroValue24) rfl ?_)))
  rintro _ w2 ⟨B4, rfl, MB4⟩
  refine LW.E (.storeA sizeOf24 rfl (.t rfl) (.t rfl) (Fact.one _) MB4.blk rfl) ?_
  intro w3 LB4
  have NB4 := MB4.set LB4
  replace hS := hS.addB NB4
  refine LW.S (CW.boxU 15 11 12 8 5 28 (DP.cells ⟨dec0, none, 0⟩) [.eq (.pointer (some ⟨E, 0, none⟩)), .eq (.pointer (some ⟨E, 0, none⟩)), .eq (.pointer (some ⟨E, 1, none⟩)), .eq (.agg bc), .eq (.pointer (some ⟨B4, 1, none⟩)), .eq (vi x.ID), .pred (fun v _ => ∃ ad cp, v = .tuple #[.agg (DP.cells ⟨(expF kb x.ID).1, ad, cp⟩), .bool (expF kb x.ID).2.1, vi (expF kb x.ID).2.2]), .pred (fun v _ => ∃ ad cp, v = .tuple #[.agg (DP.cells ⟨(expF kb x.ID).1, ad, cp⟩), .bool (expF kb x.ID).2.1, vi (expF kb x.ID).2.2]), .pred (fun v _ => ∃ ad cp, v = .agg (DP.cells ⟨(expF kb x.ID).1, ad, cp⟩)), .eq (.bool (expF kb x.ID).2.1), .eq (vi (expF kb x.ID).2.2), .pred fun v _ => ∃ B, v = .pointer (some ⟨B, 0, none⟩), .eq undef, .eq (.bool (expF kb x.ID).2.1), .eq (vi (expF kb x.ID).2.2)] [6, 7] zeroValue48 sizeOf48 kQ rfl kQ kQ kQ kQ kQ kQ kQ rfl rfl ⟨_, _, _, rfl⟩ _ rfl ⟨_, _, _, rfl⟩ ⟨PhT.eq _ _, PhT.eq _ _, PhT.eq _ _, PhT.eq _ _, PhT.eq _ _, PhT.eq _ _, PhT.pred fun _ _ _ h _ => h, PhT.pred fun _ _ _ h _ => h, PhT.pred fun _ _ _ h _ => h, PhT.eq _ _, PhT.eq _ _, PhT.pred fun _ _ _ h _ => h, PhT.eq _ _, PhT.eq _ _, PhT.eq _ _, trivial⟩ rfl (fun v W h => let ⟨ad, cp, e⟩ := h; ⟨_, e, rfl, DP.one _⟩) (fun B W => ⟨B, rfl⟩) ?_ ?_)
  ·intro W hU0
   have hU := (Up.drew w3).trans hU0
   have hSW := hS.up hU
   have hEW := hE.up hSW.upd
   have hCW := BaseC.up hC hSW.upd
   refine aC (.inr ⟨rfl, TU.p (.move (.t rfl)) rfl⟩) (aC (.inr ⟨rfl, TU.p (.nilCheck (.t rfl)) rfl⟩) (aC (.inr ⟨rfl, TU.p (.fA 1 underlying80 rfl sizeOf32 rfl) rfl⟩) (aC (.inr ⟨rfl, TU.p (.loadA isAgg32 sizeOf32 hbc (.t rfl) (EC_known hEW)) rfl⟩) (aC (.inr ⟨rfl, TU.p (.fA 1 underlying24 rfl sizeOf3 rfl) rfl⟩) (aC (.inr ⟨rfl, TU.p (.ld isAgg3 rfl ((hSW.blk 1 rfl).celln rfl)) rfl⟩) (aC (.inr ⟨rfl, TU.c (eC (.u rfl rfl) (en22)) (Explain_any bc kb x.ID W hCW oQ oQ oQ oQ hV) (by rintro _ W1 ⟨v, rfl, ⟨ad, cp, rfl, _⟩, u⟩; exact ⟨u, ad, cp, rfl⟩)⟩) (aC (.inr ⟨rfl, TU.open (d := 27) rfl fun v hv => TU.p (.move (.t rfl)) hv⟩) (aC (.inr ⟨rfl, TU.open (d := 20) rfl fun v hv => by obtain ⟨ad, cp, rfl⟩ := hv; exact TU.p (.extract (.t rfl) rfl) ⟨ad, cp, rfl⟩⟩) (aC (.inr ⟨rfl, TU.open (d := 20) rfl fun v hv => by obtain ⟨ad, cp, rfl⟩ := hv; exact TU.p (.extract (.t rfl) rfl) rfl⟩) (aC (.inr ⟨rfl, TU.open (d := 20) rfl fun v hv => by obtain ⟨ad, cp, rfl⟩ := hv; exact TU.p (.extract (.t rfl) rfl) rfl⟩) (aC (.inl (.inl rfl)) (aC (.inl (.inr rfl)) (aC (.inr ⟨rfl, TU.p (.assign (.t rfl)) rfl⟩) (aC (.inr ⟨rfl, TU.p (.assign (.t rfl)) rfl⟩) ?_))))))))))))))
   exact allL.nil
  intro w4 B5 g hU0 zB5_ _ hg
  have hU := (Up.drew w3).trans hU0
  have e6 : g 6 = .bool (expF kb x.ID).2.1 := hg 13 _ 6 cQ rfl rfl
  have e7 : g 7 = vi (expF kb x.ID).2.2 := hg 14 _ 7 cQ rfl rfl
  change LW _ _ _ _ _ _ _ _ ((5, _) :: (6, .eq (g 6)) :: (7, .eq (g 7)) :: _) _
  rw [e6, e7]
  replace hS := hS.up hU
  refine LW.S (CW.region (LW.M rfl (LW.pp (.eql (.t rfl) (.const _)) (LW.M rfl (LW.g rfl rfl rfl rfl rfl rfl rfl (fun hc => PEv.move (.t rfl)) (LW.g rfl rfl rfl rfl rfl rfl rfl (fun hc => PEv.not vQ) (LW.pp (.pick_and (.t rfl) (fun hp => (by exact .cond rfl (by simp_all)))) (LW.T (CW.cond (.t rfl) (fun h36 => ?_) (fun h36 => ?_))))))))))
  ·replace h36 := dQ h36
   refine CW.region (LW.M rfl (LW.pp (.fA 1 underlying24 rfl sizeOf3 rfl) (LW.pp (.ld isAgg3 rfl ((hS.blk 1 rfl).celln rfl)) (LW.rr (.buildSlice (xs := [x.ID]) (enc := eInt) (mk := vi) underlying46 sizeOf3 zeroValue3 rfl cQ (fun _ => rfl) (fun _ => rfl) (.cons (.t rfl) .nil) rfl) rfl ?_))))
   rintro _ w5 ⟨B40, cB40, rfl, NB40, yB40, xB40⟩
   replace hS := hS.up NB40.up
   have hE40 := xB40
   refine LW.rr (.appendF (enc := eInt) (bytes := 8) (i := Tryz.t3) underlying46 kQ rfl rfl rfl rfl cQ (fun _ => rfl) eInt_one (.t rfl) (.t rfl) (hS.own 0 rfl) (Sl.of_els hE40) (by simp [maxLen]; omega) (by simp; omega)) rfl ?_
   intro v41 w6 Gw6
   replace hS := hS.stp 0 rfl Gw6
   refine LW.A rfl (LW.nil (KW.inBlock (KW.then (CW.region (LW.pp (.inc (.t rfl) oQ) (LW.M rfl (LW.nil (KW.round ?_))))))))
   exact ⟨(i + 1, v41), ⟨by show i + 1 ≤ _; omega, by rw [late_yes hx (by simpa [isLate] using h36)]; exact hS.take 1⟩, ⟨rfl, rfl, rfl, rfl, rfl, trivial⟩, by show kb.Processes.length - (i + 1) < kb.Processes.length - i; omega⟩
  replace h36 := dQ h36
  refine CW.skip (KW.inBlock (KW.then (CW.region (LW.pp (.inc (.t rfl) oQ) (LW.M rfl (LW.nil (KW.round ?_)))))))
  exact ⟨(i + 1, v), ⟨by show i + 1 ≤ _; omega, by rw [late_no hx (by simpa [isLate] using h36)]; exact hS.take 1⟩, ⟨rfl, rfl, rfl, rfl, rfl, trivial⟩, by show kb.Processes.length - (i + 1) < kb.Processes.length - i; omega⟩
 replace h17 := dQ h17
 refine CW.exit (KW.then_exit (KW.then_exit (KW.block_hit (KW.then (CW.seq ?_)))))
 have hie : i = kb.Processes.length := by omega
 rw [hie, List.take_length] at hS
 refine CW.region (LW.M rfl (LW.K (eC (.o rfl) (en53)) rfl (sortS_any _ _ _ (hS.own 0 rfl) (by have := late_len kb kb.Processes kb.Processes.length; rw [List.take_length] at this; omega)) ?_))
 rintro _ w7 ⟨rfl, uw7⟩
 replace hS := hS.stp 0 rfl uw7
 refine LW.S (CW.region (LW.M rfl (LW.A rfl (LW.T (CW.ret (KW.ret1 rfl rfl ⟨_, rfl, ?_⟩))))))
 exact ⟨(hS.own 0 rfl).rebase (fun i h => (hS.foot 0 rfl i h).resolve_left (fun h => h)), hS.upd⟩
end Go.Proofs.YtbbpkdlehlamlaaGreatDoor
end
section
namespace Go.Wx
theorem lookG_of {b : Base} {t c r : Int} : (∃ p ∈ b.Processes, gof p = ⟨t, c, r⟩) ∨ desF b t c r = [] := by
 by_cases h : ∃ p ∈ b.Processes, gof p = ⟨t, c, r⟩
 · exact .inl h
 exact .inr (des_none fun p hp e => h ⟨p, hp, e⟩)
end Go.Wx
namespace Go.Proofs.YtbbpkdlehlamlaaGreatDoor
open Go.Proofs.Tryz
open Go.Wx Go.RowKit
theorem lookD {D : List DE} {kb : Base} {bd : Nat} {w : World} (hM : Mk.IMap grpK w bd (D.map DE.kv)) (hDD : (aDD D).holds w) (hk : ∀ g, g ∈ D.map (·.g) ↔ ∃ p ∈ kb.Processes, gof p = g) (hd : ∀ e ∈ D, dk kb e) (t c r : Int) (ho : inI t ∧ inI c ∧ inI r) : ∃ ad cp L, (∀ (n : Nat) (ds : List Deferred) (l : Env) (d : Option Tmp) (ty : TypeId) (ps : String) (af : Array Edge) (g : Option (Nat × Bool)) (mo x : Operand), Val l mo (.map (some bd)) → Val l x (.agg (Grp.mk t c r).cells) → PEv Tryz.prog n ds l w ⟨d, .lookup 78 mo x false, ty, ps, af, g⟩ (.slice ad (List.length (α := DP) L) cp)) ∧ Els w ad 6 DP.cells L ∧ (∀ p ∈ L, Sl w p.uv 1 eInt p.dec.uses) ∧ L.map DP.dec = desF kb t c r := by
 by_cases h : (Grp.mk t c r) ∈ D.map (·.g)
 · obtain ⟨e, he, hg⟩ := List.mem_map.1 h
   have hA : (aDs e).holds w := hDD.1 _ (List.mem_map.2 ⟨e, he, rfl⟩)
   have hO : OwnS w 0 48 6 DP.cells e.v e.L := hA.1 _ List.mem_cons_self
   have hU : (aAnd (usesA 3 e.L)).holds w := hA.1 _ (List.mem_cons_of_mem _ List.mem_cons_self)
   obtain ⟨ad, cp, hv, hE⟩ := hO.sl (fun _ => rfl)
   refine ⟨ad, cp, e.L, fun n ds l d ty ps af g mo x hm hx => ?_, hE, usesA_get hU, ?_⟩
   · exact Mk.PEv.lookupYes (Q := grpK) (ok := false) (v := .slice ad e.L.length cp) underlying78 grpLaw (show grpK.ok (Grp.mk t c r) from ho) hm hx hM (List.mem_map.2 ⟨e, he, by unfold DE.kv; rw [hg, hv]⟩)
   have := hd e he
   unfold dk at this
   rw [hg] at this
   exact this
 refine ⟨none, 0, [], fun n ds l d ty ps af g mo x hm hx => ?_, fun i x hx => (by simp at hx), fun _ h => (by cases h), ?_⟩
 · exact Mk.PEv.lookupNo (Q := grpK) (ok := false) underlying78 grpLaw (show grpK.ok (Grp.mk t c r) from ho) zeroValue38 hm hx hM (by rw [kv_keys]; exact h)
 rcases lookG_of (b := kb) (t := t) (c := c) (r := r) with h1 | h1
 · exact absurd ((hk _).2 h1) h
 rw [h1]; rfl
theorem EDecs_any (E bf bd : Nat) (bc : Array Go.Value) (nw : Int) (D : List DE) (kb : Base) (t c r : Int) (w : World) (hbc : bc.size = 11) (ho : inI t ∧ inI c ∧ inI r) (hlP : kb.Processes.length ≤ 100) (hk : ∀ g, g ∈ D.map (·.g) ↔ ∃ p ∈ kb.Processes, gof p = g) (hd : ∀ e ∈ D, dk kb e) (hE : Blk w E (EC bf bc bd nw) 80) (hM : Mk.IMap grpK w bd (D.map DE.kv)) (hDD : (aDD D).holds w) : Ret Tryz.prog 17 #[.pointer (some ⟨E, 0, none⟩), vi t, vi c, vi r] w fun r0 w' => ∃ v L, r0 = v ∧ L.map DP.dec = desF kb t c r ∧ Wx.Sep no w w' [aOwn 48 6 DP.cells v L, aAnd (usesA 3 L)] := by
 obtain ⟨w0, rfl⟩ : ∃ w0, w0 = w := ⟨_, rfl⟩
 have hS := Sep.start no w0
 refine cS (n := 37) (m := 9) func17 rfl rfl rfl (CW.S (LW.C (LW.S (CW.S (LW.M rfl (LW.pp (.fa (PEv.eqlNil underlying28 (.t rfl)) (rfl)) (LW.T (CW.cond_false (.t rfl) (CW.skip (KW.then (CW.seq (CW.seq ?_))))))))))))
 obtain ⟨ad0, cp0, Ls, hlk, hEl, hUs, hdec⟩ := lookD (Mk.IMap.up hM hS.upd) ((aDD D).keep _ _ hDD (fun _ _ hl => hS.upd.block hl) hS.upd.size) hk hd t c r ho
 have hLn : Ls.length ≤ 100 := by have h1 := desF_len kb t c r; have h2 := rnsF_len kb t c r; rw [← hdec, List.length_map] at h1; omega
 have huse : ∀ x ∈ Ls, x.dec.uses.length ≤ 1000000000 := fun x hx => by have h1 := desF_uses kb t c r x.dec (by rw [← hdec]; exact List.mem_map.2 ⟨x, hx, rfl⟩); have h2 := rnsF_len kb t c r; omega
 replace hS := hS.add (Up.refl _) (A' := aOwn 48 6 DP.cells (.slice none 0 0) ([] : List DP)) (OwnS.nil _ _ _ _ _) (by intro i h; cases h)
 replace hS := hS.add (Up.refl _) (A' := aAnd (usesA 3 [])) ⟨by simp [usesA], by simp [usesA]⟩ (by rintro i ⟨A, hA, _⟩; simp [usesA] at hA)
 refine CW.region (LW.M rfl (LW.pp (.nilCheck (.t rfl)) (LW.pp (.fA 12 underlying80 rfl sizeOf78 rfl) (LW.pp (.ld isAgg78 rfl ((hE.up hS.upd).cell (EC_dec hbc))) (LW.M rfl (LW.M rfl (LW.M rfl (LW.pp (.build (cs := (Grp.mk t c r).cells) underlying96 zeroValue96 Tryz.places96 (.cons (.t rfl) (.cons (.t rfl) (.cons (.t rfl) .nil))) rfl) (LW.pp (hlk _ _ _ _ _ _ _ _ _ _ (.t rfl) (.t rfl)) (LW.pp (.lenS underlying38 (.t rfl)) (LW.pp (.move (.const _)) (LW.T (CW.block (CW.loopB (σ := Nat × Go.Value × List DP) (fun s w => (s.1 ≤ Ls.length) ∧ (s.2.2.map DP.dec = (Ls.take s.1).map DP.dec) ∧ (Wx.Sep no w0 w [aOwn 48 6 DP.cells s.2.1 s.2.2, aAnd (usesA 3 s.2.2)])) (fun s => [(23, .eq (vi (s.1 : Int))), (8, .eq (s.2.1))]) ([(21, .eq _), (22, .eq _)]) (fun s => Ls.length - s.1) (0, .slice none 0 0, []) ?_ ⟨rfl, rfl, rfl, rfl, trivial⟩ ?_))))))))))))))
 ·exact ⟨Nat.zero_le _, rfl, hS⟩
 rintro ⟨i, v, L⟩ w1 ⟨hi, hL, hS⟩
 dsimp only at hi hL hS
 have hLl : L.length ≤ i := by have h := congrArg List.length hL; rw [List.length_map, List.length_map, List.length_take] at h; omega
 change CW _ _ _ _ _ _ _ ([(23, .eq (vi (i : Int))), (8, .eq (v))] ++ _) _
 refine CW.S (LW.pp (.lss (.t rfl) (.t rfl)) (LW.S (CW.cond (.t rfl) (fun h24 => ?_) (fun h24 => ?_))))
 ·replace h24 := dQ h24
  refine CW.skip (KW.then (CW.seq (CW.block (CW.seq ?_))))
  have hil : i < Ls.length := by omega
  obtain ⟨x, hx⟩ : ∃ x, Ls[i]? = some x := ⟨_, List.getElem?_eq_getElem hil⟩
  obtain ⟨Bx, ox, ax, hcx⟩ := (Els.up hEl hS.upd) i x hx
  have hxm := List.mem_of_getElem? hx
  refine CW.region (LW.pp (.indexAddr' underlying38 sizeOf48 (j := i) (.t rfl) (.t rfl) oQ ax) (LW.pp (.la isAgg48 sizeOf48 rfl (hcx)) (LW.rr (.allocA zeroValue48) rfl ?_)))
  rintro _ w2 ⟨B10, rfl, MB10⟩
  refine LW.E (.storeA sizeOf48 rfl (.t rfl) (.t rfl) (DP.one _) MB10.blk rfl) ?_
  intro w3 LB10
  have NB10 := MB10.set LB10
  replace hS := hS.addB NB10
  refine LW.S (CW.region (LW.pp (.fA 5 underlying48 rfl sizeOf46 rfl) (LW.pp (.ld isAgg46 rfl ((hS.blk 2 rfl).celln rfl)) ?_)))
  have huL : x.dec.uses.length ≤ 1000000000 := huse x hxm
  refine LW.K (eC (.o rfl) (en45)) rfl (cloneI_any x.ad x.cp x.dec.uses _ (Els.up (sl_els (hUs x hxm)) hS.upd) huL) ?_
  rintro v29 w4 ⟨hO29, uw4⟩
  replace hS := hS.add uw4 (A' := aOwn 3 1 eInt v29 x.dec.uses) (hO29.mono (Nat.zero_le _)) (fun i h => (hO29.base i h))
  obtain ⟨ad29, cp29, rfl, _⟩ := hO29.sl (fun _ => rfl)
  refine LW.pp (.fA 5 underlying48 rfl sizeOf46 rfl) (LW.E (.store sizeOf46 (.t rfl) (.t rfl) rfl (hS.blk 2 rfl) (Nat.le_of_ble_eq_true rfl)) ?_)
  intro w5 Nw5
  replace hS := hS.putB 2 rfl (show Set_ _ w5 _ (DP.cells (⟨x.dec, ad29, cp29⟩ : DP)) _ from Nw5)
  refine LW.T (CW.region (LW.M rfl (LW.pp (.la isAgg48 sizeOf48 rfl ((hS.blk 2 rfl).agg)) (LW.rr (.buildSlice (xs := [(⟨x.dec, ad29, cp29⟩ : DP)]) (enc := DP.cells) (mk := fun p => .agg p.cells) underlying38 sizeOf48 zeroValue48 rfl cQ (fun _ => rfl) (fun _ => rfl) (.cons (.t rfl) .nil) rfl) rfl ?_))))
  rintro _ w6 ⟨B33, cB33, rfl, NB33, yB33, xB33⟩
  replace hS := hS.up NB33.up
  have hE33 := xB33
  refine LW.rr (.appendF (enc := DP.cells) (bytes := 64) (i := Tryz.t48) underlying38 kQ rfl rfl rfl rfl cQ (fun _ => rfl) DP.one (.t rfl) (.t rfl) (hS.own 0 rfl) (Sl.of_els hE33) (by simp [maxLen]; omega) (by simp; omega)) rfl ?_
  intro v34 w7 Gw7
  replace hS := hS.stp 0 rfl Gw7
  refine LW.A rfl (LW.nil (KW.inBlock (KW.then ?_)))
  have h9 := Sep.snocA (Bs := [_]) (hS.sub (.cons_cons _ (.cons_cons _ (.cons _ (.cons_cons _ .slnil)))))
  replace h9 : Wx.Sep no w0 w7 ([_] ++ [aAnd (usesA 3 L ++ [aOwn 3 1 eInt (DP.uv (⟨x.dec, ad29, cp29⟩ : DP)) (DP.dec (⟨x.dec, ad29, cp29⟩ : DP)).uses])]) := h9
  rw [usesA_snoc] at h9
  refine CW.region (LW.pp (.inc (.t rfl) oQ) (LW.M rfl (LW.nil (KW.round ?_))))
  exact ⟨(i + 1, v34, L ++ [(⟨x.dec, ad29, cp29⟩ : DP)]), ⟨by show i + 1 ≤ _; omega, by rw [List.map_append, hL, List.take_add_one, hx, List.map_append]; rfl, h9⟩, ⟨rfl, rfl, rfl, rfl, trivial⟩, by show Ls.length - (i + 1) < Ls.length - i; omega⟩
 replace h24 := dQ h24
 refine CW.exit (KW.then_exit (KW.then_exit (KW.block_hit (KW.then (CW.S (LW.M rfl (LW.A rfl (LW.T (CW.ret (KW.ret1 rfl rfl ⟨_, rfl, ?_⟩))))))))))
 have hie : i = Ls.length := by omega
 rw [hie, List.take_length] at hL
 exact ⟨_, L, rfl, hL.trans hdec, hS⟩
end Go.Proofs.YtbbpkdlehlamlaaGreatDoor
end
section
namespace Go.Wx
theorem take_eq_step {xs ys : List Int} {k : Nat} {x y : Int} (h : xs.take k = ys.take k) (hx : xs[k]? = some x) (hy : ys[k]? = some y) (e : x = y) : xs.take (k + 1) = ys.take (k + 1) := by rw [take_succ_of hx, take_succ_of hy, h, e]
theorem ne_of_at {xs ys : List Int} {k : Nat} {x y : Int} (hx : xs[k]? = some x) (hy : ys[k]? = some y) (e : ¬ x = y) : ¬ xs = ys := fun h => e (by subst h; rw [hx] at hy; cases hy; rfl)
def tgt21 (k : Int) : Fact := ⟨10, 0, 1, 0, false, 0, 0, 0, 0, 0, 0, 0, 0, 0, k, 0, 100, 0, ByteArray.empty⟩
def run21 (a b c : Int) : Fact := ⟨1, a, 1, 0, false, b, b, 1, 0, 0, 0, 4, 0, 0, 9, 1, c, 0, ByteArray.empty⟩
end Go.Wx
namespace Go.Proofs.YtbbpkdlehlamlaaGreatDoor
open Go.Proofs.Tryz
open Go.Wx Go.RowKit
theorem sameInts_any (v1 v2 : Value) (xs ys : List Int) (w : World) (h1 : Sl w v1 1 eInt xs) (h2 : Sl w v2 1 eInt ys) (hx0 : xs.length ≤ 1000000000) (hy0 : ys.length ≤ 1000000000) : Ret Tryz.prog 29 #[v1, v2] w fun r w' => r = .bool (decide (xs = ys)) ∧ Up w w' := by
 have hW := Up.refl w
 obtain ⟨w0, rfl⟩ : ∃ w0, w0 = w := ⟨_, rfl⟩
 obtain ⟨ad, cp, rfl, hE1⟩ := h1
 obtain ⟨ad', cp', rfl, hE2⟩ := h2
 refine cS (n := 26) (m := 9) func29 rfl rfl rfl (CW.S (LW.C (LW.S (CW.S (LW.M rfl (LW.pp (.lenS underlying46 (.t rfl)) (LW.M rfl (LW.pp (.lenS underlying46 (.t rfl)) (LW.pp (.neq (.t rfl) (.t rfl)) (LW.T (CW.cond (.t rfl) (fun h10 => ?_) (fun h10 => ?_))))))))))))
 ·replace h10 := dQ h10
  have hr : decide (xs = ys) = false := decide_eq_false (fun h => by subst h; simp at h10)
  refine CW.S (LW.C (LW.T (CW.ret (KW.then_ret (KW.ret1 rfl rfl ⟨_, rfl, ?_⟩)))))
  exact ⟨by rw [hr], hW⟩
 replace h10 := dQ h10
 have hlen : xs.length = ys.length := Int.ofNat.inj (show Int.ofNat _ = Int.ofNat _ from (by simpa using h10 : (xs.length : Int) = ys.length))
 refine CW.skip (KW.then (CW.seq (CW.S (LW.C (LW.T (CW.block (CW.loop (σ := Nat) (fun s w => (s ≤ xs.length ∧ xs.take s = ys.take s) ∧ Els w ad 1 eInt xs ∧ Els w ad' 1 eInt ys ∧ Up w0 w) (fun s => [(0, .eq (.slice ad xs.length cp)), (1, .eq (.slice ad' ys.length cp')), (5, .eq (vi (s : Int)))]) (fun s => xs.length - s) 0 ?_ ?_ ?_)))))))
 ·exact ⟨⟨Nat.zero_le _, rfl⟩, hE1, hE2, hW⟩
 ·exact ⟨rfl, rfl, rfl, trivial⟩
 rintro k w1 ⟨⟨hk, hT⟩, hE1, hE2, hW⟩
 refine CW.seq (CW.S (LW.M rfl (LW.M rfl (LW.pp (.lenS underlying46 (.t rfl)) (LW.pp (.lss (.t rfl) (.t rfl)) (LW.T (CW.cond (.t rfl) (fun h14 => ?_) (fun h14 => ?_))))))))
 ·replace h14 := dQ h14
  refine CW.skip (KW.then (CW.seq (CW.block (CW.seq ?_))))
  obtain ⟨x, hx⟩ := getElem?_of_lt (xs := xs) (i := k) oQ
  obtain ⟨y, hy⟩ := getElem?_of_lt (xs := ys) (i := k) oQ
  obtain ⟨B, o, had, hcell⟩ := hE1 k x hx
  obtain ⟨B', o', had', hcell'⟩ := hE2 k y hy
  refine CW.draws kQ kQ rfl rfl (HW.pp (.move (.t rfl)) (HW.pp (.move (.t rfl)) (HW.pp (.indexAddr' underlying46 sizeOf3 (.t rfl) (.t rfl) oQ had) (HW.pp (.ld isAgg3 rfl (hcell.nth (j := 0) rfl)) (HW.pp (.move (.t rfl)) (HW.pp (.move (.t rfl)) (HW.pp (.indexAddr' underlying46 sizeOf3 (.t rfl) (.t rfl) oQ had') (HW.pp (.ld isAgg3 rfl (hcell'.nth (j := 0) rfl)) (HW.pp (.neq (.t rfl) (.t rfl)) (HW.nil ?_))))))))))
  intro w2 uw2
  replace hE1 := hE1.up uw2
  replace hE2 := hE2.up uw2
  replace hW := hW.up uw2
  refine KW.then (CW.cond (.t rfl) (fun h25 => ?_) (fun h25 => ?_))
  ·replace h25 := dQ h25
   have hr : decide (xs = ys) = false := decide_eq_false (ne_of_at hx hy (by simpa using h25))
   refine CW.S (LW.C (LW.T (CW.ret (KW.block_ret (KW.then_ret (KW.then_ret (KW.block_ret (KW.then_ret (KW.ret1 rfl rfl ⟨_, rfl, ?_⟩)))))))))
   exact ⟨by rw [hr], hW⟩
  replace h25 := dQ h25
  refine CW.skip (KW.inBlock (KW.then (CW.region (LW.M rfl (LW.pp (.inc (.t rfl) oQ) (LW.A rfl (LW.nil (KW.round ?_))))))))
  exact ⟨k + 1, ⟨⟨by omega, take_eq_step hT hx hy (by simpa using h25)⟩, hE1, hE2, hW⟩, ⟨rfl, rfl, rfl, trivial⟩, by omega⟩
 replace h14 := dQ h14
 have hr : decide (xs = ys) = true := decide_eq_true (by have := hT; rw [show k = xs.length by omega, List.take_length, hlen, List.take_length] at this; exact this)
 refine CW.exit (KW.then_exit (KW.then_exit (KW.block_hit (KW.then (CW.S (LW.C (LW.T (CW.ret (KW.ret1 rfl rfl ⟨_, rfl, ?_⟩)))))))))
 exact ⟨by rw [hr], hW⟩
theorem pick21_any (c n : Int) (w : World) (hn : n ≠ 0) : Ret Tryz.prog 19 #[vi c, vi n] w fun r w' => r = vi (pickI c n) ∧ Up w w' := by
 have hW := Up.refl w
 refine cS (n := 13) (m := 9) func19 rfl rfl rfl (CW.S (LW.C (LW.S (CW.S (LW.M rfl (LW.pp (.lss (.t rfl) (.const _)) (LW.T (CW.cond (.t rfl) (fun h6 => ?_) (fun h6 => ?_)))))))))
 ·replace h6 := dQ h6
  refine CW.region (LW.M rfl (LW.pp (.add_w (.t rfl) (.const _)) (LW.pp (.neg underlying3 (.t rfl)) (LW.A rfl (LW.S (CW.region (LW.M rfl (LW.M rfl (LW.pp (.rem (.t rfl) (.t rfl) oQ) (LW.A rfl (LW.T (CW.ret (KW.ret1 rfl rfl ⟨_, rfl, ?_⟩)))))))))))))
  exact ⟨by (rw [pickI, if_pos h6]), hW⟩
 replace h6 := dQ h6
 refine CW.skip (KW.then (CW.S (LW.M rfl (LW.M rfl (LW.pp (.rem (.t rfl) (.t rfl) oQ) (LW.A rfl (LW.T (CW.ret (KW.ret1 rfl rfl ⟨_, rfl, ?_⟩)))))))))
 exact ⟨by (rw [pickI, if_neg (by omega)]), hW⟩
theorem target21_any (k : Int) (w : World) : Ret Tryz.prog 34 #[vi k] w fun r w' => r = .agg (tgt21 k).cells ∧ Up w w' := by
 obtain ⟨w0, rfl⟩ : ∃ w0, w0 = w := ⟨_, rfl⟩
 have hS := Sep.start no w0
 refine cS (n := 5) (m := 9) func34 rfl rfl rfl (CW.S (LW.rr (.allocA zeroValue24) rfl ?_))
 rintro _ w1 ⟨B2, rfl, NB2⟩
 replace hS := hS.addB NB2
 refine LW.S (CW.region (LW.M rfl (LW.pp (.build (cs := (tgt21 k).cells) underlying24 zeroValue24 Tryz.places24 (.cons (.const _) (.cons (.const _) (.cons (.t rfl) (.cons (.const _) .nil)))) kQ) (LW.E (.storeA sizeOf24 rfl (.t rfl) (.t rfl) (Fact.one _) (hS.blk 0 rfl) rfl) ?_))))
 intro w2 Nw2
 replace hS := hS.putB 0 rfl Nw2
 refine LW.T (CW.ret (KW.retA rfl rfl isAgg24 sizeOf24 rfl ((hS.blk 0 rfl).agg) ⟨_, rfl, ?_⟩))
 exact ⟨rfl, hS.upd⟩
theorem run21_any (a b c : Int) (w : World) : Ret Tryz.prog 35 #[vi a, vi b, vi c] w fun r w' => r = .agg (run21 a b c).cells ∧ Up w w' := by
 obtain ⟨w0, rfl⟩ : ∃ w0, w0 = w := ⟨_, rfl⟩
 have hS := Sep.start no w0
 refine cS (n := 12) (m := 9) func35 rfl rfl rfl (CW.S (LW.rr (.allocA zeroValue24) rfl ?_))
 rintro _ w1 ⟨B6, rfl, NB6⟩
 replace hS := hS.addB NB6
 refine LW.S (CW.region (LW.M rfl (LW.M rfl (LW.M rfl (LW.M rfl (LW.pp (.build (cs := (run21 a b c).cells) underlying24 zeroValue24 Tryz.places24 (.cons (.const _) (.cons (.const _) (.cons (.t rfl) (.cons (.const _) (.cons (.const _) (.cons (.const _) (.cons (.const _) (.cons (.t rfl) (.cons (.t rfl) (.cons (.t rfl) .nil)))))))))) kQ) (LW.E (.storeA sizeOf24 rfl (.t rfl) (.t rfl) (Fact.one _) (hS.blk 0 rfl) rfl) ?_)))))))
 intro w2 Nw2
 replace hS := hS.putB 0 rfl Nw2
 refine LW.T (CW.ret (KW.retA rfl rfl isAgg24 sizeOf24 rfl ((hS.blk 0 rfl).agg) ⟨_, rfl, ?_⟩))
 exact ⟨rfl, hS.upd⟩
theorem EDecsE_any (E bf bd : Nat) (bc : Array Go.Value) (nw : Int) (D : List DE) (kb : Base) (t c r : Int) (w : World) (ho : inI t ∧ inI c ∧ inI r) (hbc : bc.size = 11) (hk : ∀ g, g ∈ D.map (·.g) ↔ ∃ p ∈ kb.Processes, gof p = g) (hd : ∀ e ∈ D, dk kb e) (hlP : kb.Processes.length ≤ 100) (hE : Blk w E (EC bf bc bd nw) 80) (hM : Mk.IMap grpK w bd (D.map DE.kv)) (hDD : (aDD D).holds w) : Ret Tryz.prog 17 #[.pointer (some ⟨E, 0, none⟩), vi t, vi c, vi r] w fun r0 w' => DecsE w' r0 (desF kb t c r) ∧ Up w w' :=
 (EDecs_any E bf bd bc nw D kb t c r w hbc ho hlP hk hd hE hM hDD).mono fun r0 w' ⟨v, L, e, hm, hT⟩ => ⟨by rw [e]; exact decsE_of hT hm, hT.upd⟩
theorem same21_any (E bf bd : Nat) (bc : Array Go.Value) (nw : Int) (D : List DE) (kb : Base) (bcx : Array Go.Value) (w : World) (hbc : bc.size = 11) (hk : ∀ g, g ∈ D.map (·.g) ↔ ∃ p ∈ kb.Processes, gof p = g) (hd : ∀ e ∈ D, dk kb e) (hlP : kb.Processes.length ≤ 100) (hlM : kb.Measures.length ≤ 100) (hlR : kb.Resets.length ≤ 100) (hlT : kb.Targets.length ≤ 100) (hE : Blk w E (EC bf bc bd nw) 80) (hM : Mk.IMap grpK w bd (D.map DE.kv)) (hDD : (aDD D).holds w) (hX : BaseC w bcx kb) : Ret Tryz.prog 33 #[.pointer (some ⟨E, 0, none⟩), .agg bcx] w fun r w' => r = .bool true ∧ Up w w' := by
 obtain ⟨w0, rfl⟩ : ∃ w0, w0 = w := ⟨_, rfl⟩
 have hS := Sep.start no w0
 refine cS (n := 32) (m := 9) func33 rfl rfl rfl (CW.S (LW.rr (.boxA (.t rfl)) rfl ?_))
 rintro _ w1 ⟨B3, rfl, NB3⟩
 replace hS := hS.addB NB3
 refine LW.C (LW.S (CW.S (LW.C (LW.T (CW.block (CW.loopB (σ := Nat) (fun s w => (s ≤ 2) ∧ (Wx.Sep no w0 w [aBlk B3 bcx 32])) (fun s => [(5, .eq (vi (s : Int)))]) ([(0, .eq _), (3, .eq _)]) (fun s => 2 - s) 0 ?_ ⟨rfl, rfl, rfl, trivial⟩ ?_))))))
 ·exact ⟨by omega, hS⟩
 rintro t w2 ⟨ht, hS⟩
 refine CW.seq (CW.S (LW.M rfl (LW.pp (.lss (.t rfl) (.const _)) (LW.T (CW.cond (.t rfl) (fun h9 => ?_) (fun h9 => ?_))))))
 ·replace h9 := dQ h9
  refine CW.skip (KW.then (CW.seq (CW.block (CW.S (LW.C (LW.T (CW.block (CW.loopB (σ := Nat) (fun s w => (s ≤ 2) ∧ (Wx.Sep no w0 w [aBlk B3 bcx 32])) (fun s => [(6, .eq (vi (s : Int)))]) ([(0, .eq _), (3, .eq _), (5, .eq _)]) (fun s => 2 - s) 0 ?_ ⟨rfl, rfl, rfl, rfl, trivial⟩ ?_))))))))
  ·exact ⟨by omega, hS⟩
  rintro c w3 ⟨hc, hS⟩
  refine CW.seq (CW.S (LW.M rfl (LW.pp (.lss (.t rfl) (.const _)) (LW.T (CW.cond (.t rfl) (fun h13 => ?_) (fun h13 => ?_))))))
  ·replace h13 := dQ h13
   refine CW.skip (KW.then (CW.seq (CW.block (CW.S (LW.C (LW.T (CW.block (CW.loopB (σ := Nat) (fun s w => (s ≤ 3) ∧ (Wx.Sep no w0 w [aBlk B3 bcx 32])) (fun s => [(7, .eq (vi (s : Int)))]) ([(0, .eq _), (3, .eq _), (5, .eq _), (6, .eq _)]) (fun s => 3 - s) 1 ?_ ⟨rfl, rfl, rfl, rfl, rfl, trivial⟩ ?_))))))))
   ·exact ⟨by omega, hS⟩
   rintro r w4 ⟨hr, hS⟩
   refine CW.seq (CW.S (LW.M rfl (LW.pp (.leq (.t rfl) (.const _)) (LW.T (CW.cond (.t rfl) (fun h17 => ?_) (fun h17 => ?_))))))
   ·replace h17 := dQ h17
    refine CW.skip (KW.then (CW.seq (CW.block (CW.seq (CW.draws kQ kQ rfl rfl (HW.pp (.move (.t rfl)) (HW.pp (.move (.t rfl)) (HW.pp (.move (.t rfl)) (HW.pp (.move (.t rfl)) (HW.qc (ph := .pred fun v w => DecsE w v (desF kb (t : Int) (c : Int) (r : Int))) (fun _ _ _ h u => DecsE.up h u) rfl (fun a w hu ha => ⟨_, _, enter_call0 (.cons (.t rfl) (.cons (.t rfl) (.cons (.t rfl) (.cons (.t rfl) .nil)))) (en17) a ha, (EDecsE_any E bf bd bc nw D kb (t : Int) (c : Int) (r : Int) w ⟨by unfold inI; omega, by unfold inI; omega, by unfold inI; omega⟩ hbc hk hd hlP (hE.up (hS.up hu).upd) (Mk.IMap.up hM (hS.up hu).upd) ((aDD D).keep _ _ hDD (fun _ _ hl => (hS.up hu).upd.block hl) (hS.up hu).upd.size)).mono fun v w' h => ⟨h.2, h.1⟩⟩) rfl (HW.pp (.loadA isAgg32 sizeOf32 ((BaseC.size hX)) (.t rfl) ((hS.blk 0 rfl).agg)) (HW.pp (.move (.t rfl)) (HW.pp (.move (.t rfl)) (HW.pp (.move (.t rfl)) (HW.qc (ph := .pred fun v w => DecsE w v (desF kb (t : Int) (c : Int) (r : Int))) (fun _ _ _ h u => DecsE.up h u) rfl (fun a w hu ha => ⟨_, _, enter_call0 (.cons (.t rfl) (.cons (.t rfl) (.cons (.t rfl) (.cons (.t rfl) .nil)))) (en16) a ha, (DecisionsE_any bcx kb (t : Int) (c : Int) (r : Int) w (BaseC.up hX (hS.up hu).upd) oQ oQ oQ oQ).mono fun v w' h => ⟨h.2, h.1⟩⟩) rfl (HW.qc (ph := .eq (.bool true)) (phUp.eq _) rfl (fun a w hu ha => ⟨_, _, enter_any2 en18 a w, (sameList_any (a.eval (.tmp 24)) (a.eval (.tmp 29)) (desF kb (t : Int) (c : Int) (r : Int)) (desF kb (t : Int) (c : Int) (r : Int)) w (ha.known (p := fun v w => DecsE w v (desF kb (t : Int) (c : Int) (r : Int))) rfl) (ha.known (p := fun v w => DecsE w v (desF kb (t : Int) (c : Int) (r : Int))) rfl) (by rw [desF_len]; have := rnsF_len kb (t : Int) (c : Int) (r : Int); omega) (fun D0 hD0 => by have h1 := desF_uses kb (t : Int) (c : Int) (r : Int) D0 hD0; have h2 := rnsF_len kb (t : Int) (c : Int) (r : Int); omega)).mono fun _ _ h => ⟨h.2, h.1.trans (by rw [sameDs_self])⟩⟩) rfl (HW.pp (.fa (PEv.not (.t rfl)) (rfl)) (HW.nil ?_))))))))))))))))))
    intro w5 uw5
    replace hS := hS.up uw5
    refine KW.then (CW.cond_false (.t rfl) (CW.skip (KW.inBlock (KW.then (CW.region (LW.M rfl (LW.pp (.inc (.t rfl) oQ) (LW.A rfl (LW.nil (KW.round ?_))))))))))
    exact ⟨r + 1, ⟨by omega, hS⟩, ⟨rfl, rfl, rfl, rfl, rfl, trivial⟩, by omega⟩
   refine CW.exit (KW.then_exit (KW.then_exit (KW.block_hit (KW.inBlock (KW.then (CW.region (LW.M rfl (LW.pp (.inc (.t rfl) oQ) (LW.A rfl (LW.nil (KW.round ?_)))))))))))
   exact ⟨c + 1, ⟨by omega, hS⟩, ⟨rfl, rfl, rfl, rfl, trivial⟩, by omega⟩
  refine CW.exit (KW.then_exit (KW.then_exit (KW.block_hit (KW.inBlock (KW.then (CW.region (LW.M rfl (LW.pp (.inc (.t rfl) oQ) (LW.A rfl (LW.nil (KW.round ?_)))))))))))
  exact ⟨t + 1, ⟨by omega, hS⟩, ⟨rfl, rfl, rfl, trivial⟩, by omega⟩
 refine CW.exit (KW.then_exit (KW.then_exit (KW.block_hit (KW.then (CW.S (LW.C (LW.T (CW.ret (KW.ret1 rfl rfl ⟨_, rfl, ?_⟩)))))))))
 exact ⟨rfl, hS.upd⟩
end Go.Proofs.YtbbpkdlehlamlaaGreatDoor
end
section
namespace Go.Wx
structure Prt where
 ad : Option Addr
 cp : Nat
 xs : List Fact
def Prt.val (p : Prt) : Go.Value := .slice p.ad p.xs.length p.cp
def Prt.enc (p : Prt) : Array Go.Value := #[p.val]
theorem Prt.one (p : Prt) : p.enc.all (·.oneCell') = true := by simp [Prt.enc, Prt.val, Value.oneCell']
def subAd (ad ad' : Option Addr) : Prop := ∀ B o, ad' = some ⟨B, o, none⟩ → ∃ o' s, ad = some ⟨B, o', s⟩
theorem subAd_add {ad : Option Addr} (k c i : Nat) : subAd ad (if c = i then ad else ad.map (·.add k)) := fun B o h => by
 split at h
 · exact ⟨o, none, h⟩
 cases ad with
 | none => cases h
 | some a =>
   obtain ⟨b, o', s⟩ := a
   injection h with h
   have hb : (Addr.add ⟨b, o', s⟩ k).block = B := by rw [show Addr.add ⟨b, o', s⟩ k = ⟨B, o, none⟩ from h]
   unfold Addr.add at hb
   split at hb <;> exact ⟨o', s, by rw [← hb]⟩
def Prt.good (ad : Option Addr) (cp : Nat) (l : List Fact) (p : Prt) : Prop := ∃ i m, i + m ≤ l.length ∧ p = ⟨(if cp = i then ad else ad.map (·.add (i * 19))), cp - i, (l.drop i).take m⟩
def catP (Ps : List Prt) : List Fact := Ps.flatMap (·.xs)
theorem catP_snoc (Ps : List Prt) (p : Prt) : catP (Ps ++ [p]) = catP Ps ++ p.xs := by unfold catP; rw [List.flatMap_append]; simp
theorem take_part {l : List Fact} {i m : Nat} : l.take i ++ (l.drop i).take m = l.take (i + m) := (List.take_add).symm
theorem good_snoc {ad : Option Addr} {cp : Nat} {l : List Fact} {Ps : List Prt} {p : Prt} (h : ∀ q ∈ Ps, q.good ad cp l) (hp : p.good ad cp l) : ∀ q ∈ Ps ++ [p], q.good ad cp l := fun q hq => (List.mem_append.1 hq).elim (h q) fun e => by rw [List.mem_singleton.1 e]; exact hp
end Go.Wx
namespace Go.Proofs.YtbbpkdlehlamlaaGreatDoor
open Go.Proofs.Tryz
open Go.Wx Go.RowKit
theorem parts_any (ad as_ : Option Addr) (cp cs : Nat) (l : List Fact) (zs : List Int) (w : World) (hcp : l.length ≤ cp) (hl : l.length ≤ 100000) (hZ0 : Els w as_ 1 eInt zs) (hz : ∀ z ∈ zs, inI z) : Ret Tryz.prog 23 #[.slice ad l.length cp, .slice as_ zs.length cs] w fun r w' => ∃ Ps : List Prt, OwnS w' w.heap.size 26 1 Prt.enc r Ps ∧ catP Ps = l ∧ Ps.length ≤ 8 ∧ (∀ p ∈ Ps, p.good ad cp l) ∧ Up w w' := by
 obtain ⟨w0, rfl⟩ : ∃ w0, w0 = w := ⟨_, rfl⟩
 have hS := Sep.start no w0
 refine cS (n := 47) (m := 9) func23 rfl rfl rfl (CW.S (LW.C (LW.S (CW.region (LW.C (LW.S ?_))))))
 replace hS := hS.addn (OwnS.nil _ 0 26 1 Prt.enc)
 refine CW.region (LW.C (LW.S (CW.seq ?_)))
 skip
 refine CW.region (LW.C (LW.T (CW.block (CW.loopB (σ := Nat × Nat × Go.Value × List Prt) (fun s w => (s.1 ≤ 7) ∧ (s.2.1 ≤ l.length) ∧ (catP s.2.2.2 = l.take s.2.1) ∧ (s.2.2.2.length ≤ s.1) ∧ (∀ p ∈ s.2.2.2, p.good ad cp l) ∧ (Wx.Sep no w0 w [aOwn 26 1 Prt.enc s.2.2.1 (s.2.2.2)])) (fun s => [(7, .eq (vi (s.1 : Int))), (6, .eq (vi (s.2.1 : Int))), (5, .eq (s.2.2.1))]) ([(0, .eq _), (1, .eq _), (4, .eq _)]) (fun s => 7 - s.1) (0, 0, .slice none 0 0, []) ?_ ⟨rfl, rfl, rfl, rfl, rfl, rfl, trivial⟩ ?_))))
 ·exact ⟨Nat.zero_le _, Nat.zero_le _, rfl, Nat.le_refl _, fun _ h => (by cases h), hS⟩
 rintro ⟨i, at_, v, Ps⟩ w1 ⟨hi, hat, hcat, hPl, hPg, hS⟩
 dsimp only at hi hat hcat hPl hPg hS
 change CW _ _ _ _ _ _ _ ([(7, .eq (vi (i : Int))), (6, .eq (vi (at_ : Int))), (5, .eq (v))] ++ _) _
 refine CW.seq (CW.seq ?_)
 skip
 refine CW.region (LW.M rfl (LW.M rfl (LW.pp (.lenS underlying46 (.t rfl)) (LW.pp (.lss (.t rfl) (.t rfl)) (LW.M rfl (LW.g rfl rfl rfl rfl rfl rfl rfl (fun hc => PEv.move (.t rfl)) (LW.g rfl rfl rfl rfl rfl rfl rfl (fun hc => PEv.lss vQ (.const _)) (LW.pp (.pick_and (.t rfl) (fun hp => (by exact .cond rfl (by (rw [hp]; rfl))))) (LW.T (CW.cond (.t rfl) (fun h16 => ?_) (fun h16 => ?_)))))))))))
 ·refine CW.skip (KW.then (CW.seq (CW.block (CW.seq ?_))))
  have hiz : i < zs.length ∧ i < 7 := by have h5 := h16; simp at h5; omega
  obtain ⟨z, hzx⟩ : ∃ z, zs[i]? = some z := ⟨_, List.getElem?_eq_getElem hiz.1⟩
  obtain ⟨Bz, oz, az, hcz⟩ := (Els.up hZ0 hS.upd) i z hzx
  have hzi := hz z (List.mem_of_getElem? hzx)
  refine CW.region (LW.M rfl (LW.M rfl (LW.pp (.indexAddr' underlying46 sizeOf3 (j := i) (.t rfl) (.t rfl) oQ az) (LW.pp (.ld isAgg3 rfl (hcz.nth (j := 0) rfl)) (LW.M rfl (LW.pp (.lenS underlying26 (.t rfl)) (LW.M rfl (LW.pp (.sub (.t rfl) (.t rfl) oQ oQ) (LW.pp (.add (.t rfl) (.const _) oQ oQ) (LW.K (eC (.u rfl rfl) (en19)) rfl (pick21_any z _ _ oQ) ?_))))))))))
  rintro _ w2 ⟨rfl, uw2⟩
  replace hS := hS.up uw2
  have hpr := pick_range (c := z) (n := (l.length : Int) - (at_ : Int) + 1) hzi oQ
  obtain ⟨m, hm⟩ : ∃ m : Nat, pickI z ((l.length : Int) - (at_ : Int) + 1) = m := ⟨(pickI z ((l.length : Int) - (at_ : Int) + 1)).toNat, by omega⟩
  rw [hm] at hpr ⊢
  have hml : at_ + m ≤ l.length := by omega
  have hgP : Prt.good ad cp l (⟨(if cp = at_ then ad else ad.map (·.add (at_ * 19))), cp - at_, (l.drop at_).take m⟩ : Prt) := ⟨at_, m, hml, rfl⟩
  refine LW.A rfl (LW.S (CW.region (LW.M rfl (LW.M rfl (LW.M rfl (LW.M rfl (LW.M rfl (LW.pp (.as (v' := vi ((at_ + m : Nat) : Int)) (PEv.add (.t rfl) (.t rfl) oQ oQ) (congrArg vi oQ)) (LW.pp (.as (v' := Prt.val (⟨(if cp = at_ then ad else ad.map (·.add (at_ * 19))), cp - at_, (l.drop at_).take m⟩ : Prt)) (PEv.sliceLH (i := at_) (j := at_ + m) underlying26 sizeOf24 (.t rfl) (.t rfl) (.t rfl) oQ oQ) (by unfold Prt.val; rw [show (List.take m (List.drop at_ l)).length = at_ + m - at_ by rw [List.length_take, List.length_drop]; omega])) (LW.rr (.buildSlice (xs := [(⟨(if cp = at_ then ad else ad.map (·.add (at_ * 19))), cp - at_, (l.drop at_).take m⟩ : Prt)]) (enc := Prt.enc) (mk := Prt.val) underlying59 sizeOf26 zeroValue26 rfl cQ (fun _ => rfl) (fun _ => rfl) (.cons (.t rfl) .nil) rfl) rfl ?_))))))))))
  rintro _ w3 ⟨B36, cB36, rfl, NB36, yB36, xB36⟩
  replace hS := hS.up NB36.up
  have hE36 := xB36
  refine LW.rr (.appendF (enc := Prt.enc) (bytes := 24) (i := Tryz.t26) underlying59 kQ rfl rfl rfl rfl cQ (fun _ => rfl) Prt.one (.t rfl) (.t rfl) (hS.own 0 rfl) (Sl.of_els hE36) (by simp [maxLen]; omega) (by simp; omega)) rfl ?_
  intro v37 w4 Gw4
  replace hS := hS.stp 0 rfl Gw4
  refine LW.A rfl (LW.T (CW.region (LW.M rfl (LW.M rfl (LW.pp (.as (v' := vi ((at_ + m : Nat) : Int)) (PEv.add (.t rfl) (.t rfl) oQ oQ) (congrArg vi oQ)) (LW.A rfl (LW.nil (KW.inBlock (KW.then (CW.region (LW.M rfl (LW.pp (.inc (.t rfl) oQ) (LW.A rfl (LW.nil (KW.round ?_)))))))))))))))
  exact ⟨(i + 1, at_ + m, v37, Ps ++ [(⟨(if cp = at_ then ad else ad.map (·.add (at_ * 19))), cp - at_, (l.drop at_).take m⟩ : Prt)]), ⟨by show i + 1 ≤ 7; omega, hml, by rw [catP_snoc, hcat]; exact take_part, by rw [List.length_append, List.length_singleton]; show Ps.length + 1 ≤ i + 1; omega, good_snoc hPg hgP, hS⟩, ⟨rfl, rfl, rfl, rfl, rfl, rfl, trivial⟩, by show 7 - (i + 1) < 7 - i; omega⟩
 refine CW.exit (KW.then_exit (KW.then_exit (KW.block_hit (KW.then (CW.S (LW.M rfl (LW.M rfl (LW.M rfl (LW.pp (.as (v' := Prt.val (⟨(if cp = at_ then ad else ad.map (·.add (at_ * 19))), cp - at_, l.drop at_⟩ : Prt)) (PEv.sliceFrom (j := at_) underlying26 sizeOf24 (.t rfl) (.t rfl) oQ) (by unfold Prt.val; rw [show (List.drop at_ l).length = l.length - at_ by rw [List.length_drop]])) (LW.rr (.buildSlice (xs := [(⟨(if cp = at_ then ad else ad.map (·.add (at_ * 19))), cp - at_, l.drop at_⟩ : Prt)]) (enc := Prt.enc) (mk := Prt.val) underlying59 sizeOf26 zeroValue26 rfl cQ (fun _ => rfl) (fun _ => rfl) (.cons (.t rfl) .nil) rfl) rfl ?_))))))))))
 rintro _ w5 ⟨B45, cB45, rfl, NB45, yB45, xB45⟩
 replace hS := hS.up NB45.up
 have hE45 := xB45
 refine LW.rr (.appendF (enc := Prt.enc) (bytes := 24) (i := Tryz.t26) underlying59 kQ rfl rfl rfl rfl cQ (fun _ => rfl) Prt.one (.t rfl) (.t rfl) (hS.own 0 rfl) (Sl.of_els hE45) (by simp [maxLen]; omega) (by simp; omega)) rfl ?_
 intro v46 w6 Gw6
 replace hS := hS.stp 0 rfl Gw6
 refine LW.A rfl (LW.T (CW.ret (KW.ret1 rfl rfl ⟨_, rfl, ?_⟩)))
 refine ⟨Ps ++ [(⟨(if cp = at_ then ad else ad.map (·.add (at_ * 19))), cp - at_, l.drop at_⟩ : Prt)], (hS.own 0 rfl).rebase (fun i h => (hS.foot 0 rfl i h).resolve_left (fun h => h)), by rw [catP_snoc, hcat]; exact List.take_append_drop _ _, by rw [List.length_append, List.length_singleton]; omega, good_snoc hPg ⟨at_, l.length - at_, by omega, by rw [List.take_of_length_le (by rw [List.length_drop]; omega)]⟩, hS.upd⟩
end Go.Proofs.YtbbpkdlehlamlaaGreatDoor
end
section
namespace Go.Wx
def m21 : Fact := ⟨2, 1, 1, 0, false, 15, 0, 0, 0, 0, 0, 0, 0, 0, 0, 0, 108, 0, ByteArray.empty⟩
def la1 : List Fact := [] ++ [tgt21 9]
def la2 : List Fact := la1 ++ [run21 1 10 100000]
def la3 : List Fact := la2 ++ [run21 2 20 98000, run21 3 30 98000]
def la4 : List Fact := la3 ++ [m21]
def la5 : List Fact := la4 ++ [m21]
def la6 : List Fact := la5 ++ [tgt21 8]
theorem k21_1 : cntN [] [tgt21 9] = 0 := by kernel_rfl
theorem k21_2 : cntN la1 [run21 1 10 100000] = 1 := by kernel_rfl
theorem k21_3 : cntN la2 [run21 2 20 98000, run21 3 30 98000] = 1 := by kernel_rfl
theorem k21_4 : cntN la3 [m21] = 1 := by kernel_rfl
theorem k21_5 : cntN la4 [m21] = 0 := by kernel_rfl
theorem k21_6 : cntN la5 [tgt21 8] = 0 := by kernel_rfl
theorem l21_3 : lateP (ofB la3 100000) (ofB la3 100000).Processes = [2, 3] := by kernel_rfl
theorem l21_4 : lateP (ofB la4 100000) (ofB la4 100000).Processes = [] := by kernel_rfl
theorem late21_3 {z : Eng} (h : z.all = la3) : lateL z.kb = [2, 3] := by
 unfold lateL Eng.kb
 rw [h, l21_3]
 exact List.mergeSort_of_pairwise (by simp)
theorem late21_4 {z : Eng} (h : z.all = la4) : lateL z.kb = [] := by
 unfold lateL Eng.kb
 rw [h, l21_4]
 simp
theorem d21_6 : desF (ofB la6 100000) 4 0 9 = [⟨1, ⟨100, 1⟩, ⟨0, 1⟩, []⟩, ⟨2, ⟨98, 1⟩, ⟨2, 1⟩, [1]⟩, ⟨3, ⟨98, 1⟩, ⟨2, 1⟩, [1]⟩] := by kernel_rfl
theorem p21_6 : (ofB la6 100000).Processes.length = 3 := by kernel_rfl
theorem val_ok {al : List Fact} {d : Int} : ∀ p ∈ (ofB al d).Processes, inI p.Value := fun p hp => by
 have h := (lst_mem (j := 0) cQ).1 hp
 obtain ⟨h1, h2, _⟩ := valid_parts (eff_valid h.1)
 by_cases e : ∃ x ∈ fieldsOf p.Kind, x.off = 16
 · obtain ⟨x, hx, e⟩ := e
   have := h2 x hx
   rw [e] at this
   have h3 : inW p.Value := this
   unfold inW at h3
   unfold inI
   omega
 have h3 : p.Value = 0 := h1 16 cQ fun x hx e' => e ⟨x, hx, e'⟩
 rw [h3]
 exact ⟨by decide, by decide⟩
end Go.Wx
namespace Go.Proofs.YtbbpkdlehlamlaaGreatDoor
open Go.Proofs.Tryz
open Go.Wx Go.RowKit
set_option maxHeartbeats 4000000 in
theorem sane21_any (w : World) : Ret Tryz.prog 10 #[] w fun r w' => r = .bool true ∧ Up w w' := by
 obtain ⟨w0, rfl⟩ : ∃ w0, w0 = w := ⟨_, rfl⟩
 have hS := Sep.start no w0
 refine cS (n := 101) (m := 9) func10 rfl rfl rfl (CW.S (LW.C (LW.S (CW.region (LW.K (eC .nil (en12)) rfl (ENew_any _) ?_)))))
 rintro _ w1 ⟨z0, rfl, ha0, hn0, hz0, hN0⟩
 replace hS := hS.join hN0
 refine LW.A rfl (LW.S (CW.S (LW.M rfl (LW.pp (.fa (PEv.eqlNil underlying28 (.t rfl)) (rfl)) (LW.T (CW.cond_false (.t rfl) (CW.skip (KW.then (CW.S (LW.pp (.build (cs := m21.cells) underlying24 zeroValue24 Tryz.places24 (.cons (.const _) (.cons (.const _) (.cons (.const _) (.cons (.const _) (.cons (.const _) .nil))))) kQ) (LW.rr (.buildSlice (xs := [m21]) (enc := Fact.cells) (mk := fun f : Fact => .agg f.cells) underlying26 sizeOf24 zeroValue24 rfl cQ (fun _ => rfl) (fun _ => rfl) (.cons (.t rfl) .nil) rfl) rfl ?_)))))))))))
 intro v16 w2 hN16
 obtain ⟨u16, B16, rfl, e16, hO16⟩ := NewSl.own hN16 (fun _ => rfl) cQ (by simp [maxLen])
 replace hS := hS.add u16 (A' := aOwn 24 19 Fact.cells (.slice (some ⟨B16, 0, none⟩) 1 1) [m21]) hO16 (fun i h => by cases h; exact Nat.le_of_eq e16.symm)
 refine LW.A rfl (LW.S (CW.region (LW.M rfl (LW.K (eC (.cons (.const _) .nil) (en34)) rfl (target21_any _ _) ?_))))
 rintro _ w3 ⟨rfl, uw3⟩
 replace hS := hS.up uw3
 have hSp20 := fun i (h : footL z0.As i) => Sep.ltL (Sep.left (show Wx.Sep _ _ _ (z0.As ++ [_]) from hS)) h
 refine LW.rr (.buildSlice (xs := [tgt21 9]) (enc := Fact.cells) (mk := fun f : Fact => .agg f.cells) underlying26 sizeOf24 zeroValue24 rfl cQ (fun _ => rfl) (fun _ => rfl) (.cons (.t rfl) .nil) rfl) rfl ?_
 rintro _ w4 ⟨B19, cB19, rfl, NB19, yB19, xB19⟩
 have eB19 := NB19.at_
 replace hS := hS.up NB19.up
 have hE19 := xB19
 replace hS := hS.pull 0 rfl
 replace hS := hS.pull 0 rfl
 replace hS := hS.pull 0 rfl
 replace hS := hS.pull 0 rfl
 replace hS := hS.pull 0 rfl
 have hq_ := (show Wx.Sep _ _ _ ([_] ++ [_, _, _, _, _]) from hS)
 refine LW.K (eC (.u rfl rfl) (en13)) rfl (EAdd_any z0 0 (some ⟨B19, 0, none⟩) _ [tgt21 9] _ hz0 cQ (by rw [ha0]; decide) hE19 (fun _ B o e h => by cases e; have := hSp20 _ h; omega) hq_.right.self) ?_
 rintro _ w5 ⟨z1, rfl, hp1, ha1, hn1, hz1, uw5⟩
 replace hS := hq_.frame uw5
 have zw5 := uw5.fr.size
 rw [ha0, k21_1] at hn1
 rw [ha0, k21_1, ← hp1]
 replace ha1 : z1.all = la1 := by rw [ha1, ha0]; rfl
 rw [hn0] at hn1
 refine LW.A rfl (LW.S (CW.region (LW.M rfl (LW.K (eC (.cons (.const _) (.cons (.const _) (.cons (.const _) .nil))) (en35)) rfl (run21_any _ _ _ _) ?_))))
 rintro _ w6 ⟨rfl, uw6⟩
 replace hS := hS.up uw6
 have hSp24 := fun i (h : footL z1.As i) => Sep.ltL (Sep.right (show Wx.Sep _ _ _ ([_] ++ z1.As) from hS)) h
 refine LW.rr (.buildSlice (xs := [run21 1 10 100000]) (enc := Fact.cells) (mk := fun f : Fact => .agg f.cells) underlying26 sizeOf24 zeroValue24 rfl cQ (fun _ => rfl) (fun _ => rfl) (.cons (.t rfl) .nil) rfl) rfl ?_
 rintro _ w7 ⟨B23, cB23, rfl, NB23, yB23, xB23⟩
 have eB23 := NB23.at_
 replace hS := hS.up NB23.up
 have hE23 := xB23
 replace hS := hS.pull 1 rfl
 replace hS := hS.pull 1 rfl
 replace hS := hS.pull 1 rfl
 replace hS := hS.pull 1 rfl
 replace hS := hS.pull 1 rfl
 have hq_ := (show Wx.Sep _ _ _ ([_] ++ [_, _, _, _, _]) from hS)
 refine LW.K (eC (.u rfl rfl) (en13)) rfl (EAdd_any z1 1 (some ⟨B23, 0, none⟩) _ [run21 1 10 100000] _ hz1 cQ (by rw [ha1]; decide) hE23 (fun _ B o e h => by cases e; have := hSp24 _ h; omega) hq_.right.self) ?_
 rintro _ w8 ⟨z2, rfl, hp2, ha2, hn2, hz2, uw8⟩
 replace hS := hq_.frame uw8
 have zw8 := uw8.fr.size
 rw [ha1, k21_2] at hn2
 rw [ha1, k21_2, ← hp2]
 replace ha2 : z2.all = la2 := by rw [ha2, ha1]; rfl
 rw [hn1] at hn2
 refine LW.A rfl (LW.S (CW.region (LW.M rfl (LW.K (eC (.cons (.const _) (.cons (.const _) (.cons (.const _) .nil))) (en35)) rfl (run21_any _ _ _ _) ?_))))
 rintro _ w9 ⟨rfl, uw9⟩
 replace hS := hS.up uw9
 refine LW.K (eC (.cons (.const _) (.cons (.const _) (.cons (.const _) .nil))) (en35)) rfl (run21_any _ _ _ _) ?_
 rintro _ w10 ⟨rfl, uw10⟩
 replace hS := hS.up uw10
 have hSp29 := fun i (h : footL z2.As i) => Sep.ltL (Sep.right (show Wx.Sep _ _ _ ([_] ++ z2.As) from hS)) h
 refine LW.rr (.buildSlice (xs := [run21 2 20 98000, run21 3 30 98000]) (enc := Fact.cells) (mk := fun f : Fact => .agg f.cells) underlying26 sizeOf24 zeroValue24 rfl cQ (fun _ => rfl) (fun _ => rfl) (.cons (.t rfl) (.cons (.t rfl) .nil)) rfl) rfl ?_
 rintro _ w11 ⟨B28, cB28, rfl, NB28, yB28, xB28⟩
 have eB28 := NB28.at_
 replace hS := hS.up NB28.up
 have hE28 := xB28
 replace hS := hS.pull 1 rfl
 replace hS := hS.pull 1 rfl
 replace hS := hS.pull 1 rfl
 replace hS := hS.pull 1 rfl
 replace hS := hS.pull 1 rfl
 have hq_ := (show Wx.Sep _ _ _ ([_] ++ [_, _, _, _, _]) from hS)
 refine LW.K (eC (.u rfl rfl) (en13)) rfl (EAdd_any z2 2 (some ⟨B28, 0, none⟩) _ [run21 2 20 98000, run21 3 30 98000] _ hz2 cQ (by rw [ha2]; decide) hE28 (fun _ B o e h => by cases e; have := hSp29 _ h; omega) hq_.right.self) ?_
 rintro _ w12 ⟨z3, rfl, hp3, ha3, hn3, hz3, uw12⟩
 replace hS := hq_.frame uw12
 have zw12 := uw12.fr.size
 rw [ha2, k21_3] at hn3
 rw [ha2, k21_3, ← hp3]
 replace ha3 : z3.all = la3 := by rw [ha3, ha2]; rfl
 rw [hn2] at hn3
 refine LW.A rfl (LW.S (CW.region (LW.M rfl (LW.K (eC (.o rfl) (en21)) rfl (ELate_any z3.E z3.bf z3.bd z3.bc z3.n z3.kb _ hz3.hbc (hS.blk 1 rfl) (hS.get 3 rfl) (len_ok hz3).1 (len_ok hz3).2.1 (len_ok hz3).2.2.1 (len_ok hz3).2.2.2 val_ok) ?_))))
 rintro v31 w13 ⟨hO31, uw13⟩
 have zw13 := uw13.size
 replace hS := hS.add uw13 (A' := aOwn 3 1 eInt v31 [2, 3]) (by rw [late21_3 ha3] at hO31; exact hO31.mono (Nat.zero_le _)) (fun i h => hO31.base i h)
 obtain ⟨ad31, cp31, rfl, _⟩ := (hS.own 6 rfl).sl (fun _ => rfl)
 refine LW.A rfl (LW.S (CW.region (LW.M rfl (LW.M rfl ?_))))
 replace hS := hS.pull 1 rfl
 replace hS := hS.pull 1 rfl
 replace hS := hS.pull 1 rfl
 replace hS := hS.pull 1 rfl
 replace hS := hS.pull 1 rfl
 have hq_ := (show Wx.Sep _ _ _ ([_, _] ++ [_, _, _, _, _]) from hS)
 refine LW.K (eC (.u rfl rfl) (en13)) rfl (EAdd_any z3 3 (some ⟨B16, 0, none⟩) _ [m21] _ hz3 cQ (by rw [ha3]; decide) (OwnS.elsS (hq_.left.own 0 rfl) (fun _ => rfl)) (fun _ B o e h => hq_.dis ⟨_, List.mem_of_getElem? (i := 0) rfl, by cases e; rfl⟩ h) hq_.right.self) ?_
 rintro _ w14 ⟨z4, rfl, hp4, ha4, hn4, hz4, uw14⟩
 replace hS := hq_.frame uw14
 have zw14 := uw14.fr.size
 rw [ha3, k21_4] at hn4
 rw [ha3, k21_4, ← hp4]
 replace ha4 : z4.all = la4 := by rw [ha4, ha3]; rfl
 rw [hn3] at hn4
 refine LW.A rfl (LW.S (CW.region (LW.M rfl (LW.K (eC (.o rfl) (en21)) rfl (ELate_any z4.E z4.bf z4.bd z4.bc z4.n z4.kb _ hz4.hbc (hS.blk 2 rfl) (hS.get 4 rfl) (len_ok hz4).1 (len_ok hz4).2.1 (len_ok hz4).2.2.1 (len_ok hz4).2.2.2 val_ok) ?_))))
 rintro v36 w15 ⟨hO36, uw15⟩
 have zw15 := uw15.size
 replace hS := hS.add uw15 (A' := aOwn 3 1 eInt v36 ([] : List Int)) (by rw [late21_4 ha4] at hO36; exact hO36.mono (Nat.zero_le _)) (fun i h => hO36.base i h)
 obtain ⟨ad36, cp36, rfl, _⟩ := (hS.own 7 rfl).sl (fun _ => rfl)
 refine LW.A rfl (LW.S (CW.region (LW.M rfl (LW.M rfl ?_))))
 replace hS := hS.pull 2 rfl
 replace hS := hS.pull 2 rfl
 replace hS := hS.pull 2 rfl
 replace hS := hS.pull 2 rfl
 replace hS := hS.pull 2 rfl
 have hq_ := (show Wx.Sep _ _ _ ([_, _, _] ++ [_, _, _, _, _]) from hS)
 refine LW.K (eC (.u rfl rfl) (en13)) rfl (EAdd_any z4 4 (some ⟨B16, 0, none⟩) _ [m21] _ hz4 cQ (by rw [ha4]; decide) (OwnS.elsS (hq_.left.own 0 rfl) (fun _ => rfl)) (fun _ B o e h => hq_.dis ⟨_, List.mem_of_getElem? (i := 0) rfl, by cases e; rfl⟩ h) hq_.right.self) ?_
 rintro _ w16 ⟨z5, rfl, hp5, ha5, hn5, hz5, uw16⟩
 replace hS := hq_.frame uw16
 have zw16 := uw16.fr.size
 rw [ha4, k21_5] at hn5
 rw [ha4, k21_5, ← hp5]
 replace ha5 : z5.all = la5 := by rw [ha5, ha4]; rfl
 rw [hn4] at hn5
 refine LW.A rfl (LW.S (CW.region (LW.M rfl (LW.K (eC (.cons (.const _) .nil) (en34)) rfl (target21_any _ _) ?_))))
 rintro _ w17 ⟨rfl, uw17⟩
 replace hS := hS.up uw17
 have hSp43 := fun i (h : footL z5.As i) => Sep.ltL (Sep.right (show Wx.Sep _ _ _ ([_, _, _] ++ z5.As) from hS)) h
 refine LW.rr (.buildSlice (xs := [tgt21 8]) (enc := Fact.cells) (mk := fun f : Fact => .agg f.cells) underlying26 sizeOf24 zeroValue24 rfl cQ (fun _ => rfl) (fun _ => rfl) (.cons (.t rfl) .nil) rfl) rfl ?_
 rintro _ w18 ⟨B42, cB42, rfl, NB42, yB42, xB42⟩
 have eB42 := NB42.at_
 replace hS := hS.up NB42.up
 have hE42 := xB42
 replace hS := hS.pull 3 rfl
 replace hS := hS.pull 3 rfl
 replace hS := hS.pull 3 rfl
 replace hS := hS.pull 3 rfl
 replace hS := hS.pull 3 rfl
 have hq_ := (show Wx.Sep _ _ _ ([_, _, _] ++ [_, _, _, _, _]) from hS)
 refine LW.K (eC (.u rfl rfl) (en13)) rfl (EAdd_any z5 5 (some ⟨B42, 0, none⟩) _ [tgt21 8] _ hz5 cQ (by rw [ha5]; decide) hE42 (fun _ B o e h => by cases e; have := hSp43 _ h; omega) hq_.right.self) ?_
 rintro _ w19 ⟨z6, rfl, hp6, ha6, hn6, hz6, uw19⟩
 replace hS := hq_.frame uw19
 have zw19 := uw19.fr.size
 rw [ha5, k21_6] at hn6
 rw [ha5, k21_6, ← hp6]
 replace ha6 : z6.all = la6 := by rw [ha6, ha5]; rfl
 rw [hn5] at hn6
 refine LW.A rfl (LW.S (CW.region (LW.M rfl (LW.K (eC (.cons (.t rfl) (.cons (.const _) (.cons (.const _) (.cons (.const _) .nil)))) (en17)) rfl (EDecs_any z6.E z6.bf z6.bd z6.bc z6.n z6.D z6.kb 4 0 9 _ hz6.hbc ⟨by simp [inI], by simp [inI], by simp [inI]⟩ (len_ok hz6).1 hz6.keys hz6.dks (hS.blk 3 rfl) (hS.get 6 rfl) (hS.get 7 rfl)) ?_))))
 rintro v45 w20 ⟨_, L45, rfl, hm45, hT45⟩
 have hk6 : z6.kb = ofB la6 100000 := by unfold Eng.kb; rw [ha6]
 rw [hk6, d21_6] at hm45
 obtain ⟨a1, c1, a2, c2, a3, c3, rfl⟩ := dps3 hm45
 replace hS := hS.join hT45
 obtain ⟨ad45, cp45, rfl, _⟩ := (hS.own 8 rfl).sl (fun _ => rfl)
 obtain ⟨Bx, ox, ax, hpx, hqx, hrx⟩ := els_p ((hS.own 8 rfl).els (fun _ => rfl))
 refine LW.A rfl (LW.S (CW.S (LW.M rfl (LW.pp (.lenS underlying38 (.t rfl)) (LW.pp (.fa (PEv.neq (.t rfl) (.const _)) (rfl)) (LW.T (CW.cond_false (.t rfl) (CW.skip (KW.then (CW.S (LW.M rfl (LW.pp (.tr (PEv.eql (.t rfl) (.const _)) (rfl)) (LW.M rfl (LW.Y (LW.M rfl (LW.Y (LW.pp (.tr (PEv.eql (.t rfl) (.const _)) (rfl)) (LW.pp (.pick_and (.t rfl) (fun hp => (by exact .tmp rfl))) (LW.M rfl (LW.Y (LW.M rfl (LW.Y (LW.pp (.tr (PEv.eql (.t rfl) (.const _)) (rfl)) (LW.pp (.pick_and (.t rfl) (fun hp => (by exact .tmp rfl))) (LW.M rfl (LW.Y (LW.M rfl (LW.Y (LW.rr (.buildSlice (xs := [2, 3]) (enc := eInt) (mk := vi) underlying46 sizeOf3 zeroValue3 rfl cQ (fun _ => rfl) (fun _ => rfl) (.cons (.const _) (.cons (.const _) .nil)) rfl) rfl ?_)))))))))))))))))))))))))))))
 rintro _ w21 ⟨B61, cB61, rfl, NB61, yB61, xB61⟩
 replace hS := hS.up NB61.up
 replace hqx := hqx.up NB61.up
 have hE61 := xB61
 refine LW.Y (LW.K (eC (.u rfl rfl) (en29)) rfl (sameInts_any _ _ [2, 3] [2, 3] _ ((hS.own 1 rfl).sl (fun _ => rfl)) (Sl.of_els hE61) cQ cQ) ?_)
 rintro _ w22 ⟨rfl, uw22⟩
 replace hS := hS.up uw22
 replace hqx := hqx.up uw22
 rw [show decide (([2, 3] : List Int) = [2, 3]) = true from decide_eq_true rfl]
 refine LW.pp (.pick_and (.t rfl) (fun hp => (by exact .tmp rfl))) (LW.M rfl (LW.Y (LW.M rfl (LW.Y (LW.pp (.tr (PEv.eql (.t rfl) (.const _)) (rfl)) (LW.pp (.pick_and (.t rfl) (fun hp => (by exact .tmp rfl))) (LW.M rfl (LW.Y (LW.M rfl (LW.Y (LW.pp (.lenS underlying46 (.t rfl)) (LW.Y (LW.pp (.tr (PEv.eql (.t rfl) (.const _)) (rfl)) (LW.pp (.pick_and (.t rfl) (fun hp => (by exact .tmp rfl))) (LW.M rfl (LW.Y (LW.M rfl (LW.Y (LW.pp (.tr (PEv.eql (.t rfl) (.const _)) (rfl)) (LW.pp (.pick_and (.t rfl) (fun hp => (by exact .tmp rfl))) (LW.M rfl (LW.Y (LW.M rfl (LW.Y (LW.pp (.tr (PEv.eql (.t rfl) (.const _)) (rfl)) (LW.pp (.pick_and (.t rfl) (fun hp => (by exact .tmp rfl))) (LW.M rfl (LW.Y (LW.M rfl (LW.Y (LW.K (eC (.o rfl) (en26)) rfl (EWork_any z6.E z6.bf z6.bd z6.bc z6.n _ hz6.hbc (hS.blk 3 rfl)) ?_)))))))))))))))))))))))))))))))
 rintro _ w23 ⟨rfl, uw23⟩
 replace hS := hS.up uw23
 replace hqx := hqx.up uw23
 refine LW.Y (LW.pp (.tr (PEv.eql (.t rfl) (.const _)) (by rw [hn6]; rfl)) (LW.pp (.pick_and (.t rfl) (fun hp => (by exact .tmp rfl))) (LW.M rfl (LW.Y (LW.M rfl (LW.Y (LW.pp (.indexAddr' underlying38 sizeOf48 (j := 1) (.t rfl) (.const _) (Nat.le_of_ble_eq_true rfl) ax) (LW.Y (LW.pp (.fA 1 underlying48 rfl sizeOf45 rfl) (LW.Y (LW.pp (.la isAgg45 sizeOf45 rfl (dp_par hqx)) (LW.Y (LW.pp (.build (cs := (Rt.mk 98 1).cells) underlying45 zeroValue45 Tryz.places45 (.cons (.const _) (.cons (.const _) .nil)) kQ) (LW.Y (LW.pp (.tr (PEv.eqlA eqGuardType45 (Tryz.eqRt _ _) (.t rfl) (.t rfl)) (rtB_self _)) (LW.pp (.pick_and (.t rfl) (fun hp => (by exact .tmp rfl))) (LW.M rfl (LW.Y (LW.M rfl (LW.Y (LW.K (eC (.o rfl) (en14)) rfl (EBase_any z6.E z6.bf z6.bd z6.bc z6.n z6.all _ (hS.blk 3 rfl) (hS.get 4 rfl) (Nat.le_trans hz6.len cQ)) ?_)))))))))))))))))))))
 rintro _ w24 ⟨bc96, rfl, hC96, _, uw24⟩
 replace hS := hS.up uw24
 replace hqx := hqx.up uw24
 obtain ⟨v96, hv96, ad96, cp96, rfl, _⟩ := hC96.at_ (j := 0) cQ
 have hl96 : (lstOf (ofB z6.all 100000) 0).length = 3 := by rw [ha6]; exact p21_6
 rw [hl96] at hv96
 refine LW.Y (LW.pp (.field1 (off := 0) underlying32 rfl rfl isAgg26 (.t rfl) hv96) (LW.Y (LW.pp (.lenS underlying26 (.t rfl)) (LW.Y (LW.pp (.tr (PEv.eql (.t rfl) (.const _)) (rfl)) (LW.pp (.pick_and (.t rfl) (fun hp => (by exact .tmp rfl))) (LW.A rfl (LW.T (CW.ret (KW.ret1 rfl rfl ⟨_, rfl, ?_⟩))))))))))
 exact ⟨rfl, hS.upd⟩
end Go.Proofs.YtbbpkdlehlamlaaGreatDoor
end
section
namespace Go.Wx
theorem good_els {w : World} {ad : Option Addr} {cp : Nat} {l : List Fact} {p : Prt} (h : p.good ad cp l) (hc : l.length ≤ cp) (hE : Els w ad 19 Fact.cells l) : Els w p.ad 19 Fact.cells p.xs := by
 obtain ⟨i, m, hm, rfl⟩ := h
 exact sl_els (Els.part hE (Nat.le_add_right i m) hm hc |> fun h => by rw [show i + m - i = m by omega] at h; exact h)
theorem good_sub {ad : Option Addr} {cp : Nat} {l : List Fact} {p : Prt} (h : p.good ad cp l) : subAd ad p.ad := by
 obtain ⟨i, m, _, rfl⟩ := h
 exact subAd_add _ _ _
theorem catP_take {Ps : List Prt} {i : Nat} {p : Prt} (h : Ps[i]? = some p) : catP (Ps.take (i + 1)) = catP (Ps.take i) ++ p.xs := by
 rw [List.take_add_one, h, Option.toList_some, catP_snoc]
theorem catP_len (Ps : List Prt) (i : Nat) : (catP (Ps.take i)).length ≤ (catP Ps).length := by
 have : catP Ps = catP (Ps.take i) ++ catP (Ps.drop i) := by
   unfold catP
   rw [← List.flatMap_append, List.take_append_drop]
 rw [this, List.length_append]
 omega
theorem sub_foot {e k : Nat} {enc : Fact → Array Go.Value} {ad ad' : Option Addr} {n c B o : Nat} {xs : List Fact} (h : subAd ad ad') (e' : ad' = some ⟨B, o, none⟩) : (aOwn e k enc (.slice ad n c) xs).foot B := by
 obtain ⟨o', s, rfl⟩ := h B o e'
 rfl
end Go.Wx
namespace Go.Proofs.YtbbpkdlehlamlaaGreatDoor
open Go.Proofs.Tryz
open Go.Wx Go.RowKit
end Go.Proofs.YtbbpkdlehlamlaaGreatDoor
end
section
namespace Go.Wx
theorem quo7 {o : Int} (h : inI o) : inI (o.tdiv 7) ∧ Go.Value.int .i64 (IntKind.i64.wrap (o.tdiv 7)) = vi (o.tdiv 7) := by
 have e : (o.tdiv 7).natAbs = o.natAbs / 7 := Int.natAbs_tdiv o 7
 obtain ⟨h1, h2⟩ := h
 have b : inI (o.tdiv 7) := ⟨by omega, by omega⟩
 exact ⟨b, by rw [wrap_i64_in b.1 b.2]⟩
theorem swap_mem {α : Type} {M : List α} {a b : Nat} {x y : α} (hx : M[a]? = some x) (hy : M[b]? = some y) (z : α) : z ∈ (M.set a y).set b x ↔ z ∈ M := by
 have la := (List.getElem?_eq_some_iff.1 hx).1
 have lb := (List.getElem?_eq_some_iff.1 hy).1
 rw [List.mem_iff_getElem?, List.mem_iff_getElem?]
 constructor
 · rintro ⟨i, hi⟩
   rw [List.getElem?_set, List.getElem?_set] at hi
   split at hi
   · rw [List.length_set, if_pos lb] at hi
     cases hi
     exact ⟨a, hx⟩
   split at hi
   · first | (rw [if_pos la] at hi; cases hi) | cases hi
     exact ⟨b, hy⟩
   exact ⟨i, hi⟩
 rintro ⟨i, hi⟩
 by_cases e1 : i = a
 · subst e1
   rw [hx] at hi
   cases hi
   exact ⟨b, by rw [List.getElem?_set, if_pos rfl, List.length_set, if_pos lb]⟩
 by_cases e2 : i = b
 · subst e2
   rw [hy] at hi
   cases hi
   exact ⟨a, by rw [List.getElem?_set, if_neg (fun e => e1 e), List.getElem?_set, if_pos rfl, if_pos la]⟩
 exact ⟨i, by rw [List.getElem?_set, if_neg (fun e => e2 e.symm), List.getElem?_set, if_neg (fun e => e1 e.symm)]; exact hi⟩
end Go.Wx
namespace Go.Proofs.YtbbpkdlehlamlaaGreatDoor
open Go.Proofs.Tryz
open Go.Wx Go.RowKit
set_option maxHeartbeats 4000000 in
theorem EngineOrder_any (ad as_ a1 a2 : Option Addr) (cp cs c1 c2 : Nat) (xs : List I6) (os z1 z2_ : List Int) (w : World) (hE1 : Els w ad 6 I6.cells xs) (hE2 : Els w as_ 1 eInt os) (hE3 : Els w a1 1 eInt z1) (hE4 : Els w a2 1 eInt z2_) (ho : ∀ z ∈ os, inI z) (hz1 : ∀ z ∈ z1, inI z) (hz2_ : ∀ z ∈ z2_, inI z) : Ret Tryz.prog 7 #[.slice ad xs.length cp, .slice as_ os.length cs, .slice a1 z1.length c1, .slice a2 z2_.length c2] w fun r w' => r = .bool true ∧ Up w w' := by
 obtain ⟨w0, rfl⟩ : ∃ w0, w0 = w := ⟨_, rfl⟩
 have hS := Sep.start no w0
 refine cS (n := 129) (m := 9) func7 rfl rfl rfl ?_
 refine CW.S (LW.C (LW.S (CW.region ?_)))
 refine LW.K (eC .nil (en10)) rfl (sane21_any _) ?_
 rintro _ w1 ⟨rfl, uw1⟩
 have zw1 := uw1.size
 replace hS := hS.up uw1
 refine LW.A rfl (LW.S (CW.region (LW.M rfl ?_)))
 refine LW.K (eC (.o rfl) (en11)) rfl (Some_any ad cp xs _ (Els.up hE1 hS.upd)) ?_
 rintro v22 w2 ⟨hO22, uw2⟩
 have zw2 := uw2.size
 replace hS := hS.add uw2 (A' := aOwn 24 19 Fact.cells v22 (soL xs)) (hO22.mono (Nat.zero_le _)) (fun i h => hO22.base i h)
 change Wx.Sep _ _ _ [_] at hS
 clear hO22
 obtain ⟨ad22, cp22, rfl, _⟩ := (hS.own 0 rfl).sl (fun _ => rfl)
 have hxl := soL_len xs
 refine LW.A rfl (LW.S (CW.region ?_))
 refine LW.rr (.buildSlice (xs := ([] : List Fact)) (enc := Fact.cells) (mk := fun f : Fact => .agg f.cells) underlying26 sizeOf24 zeroValue24 rfl cQ (fun _ => rfl) (fun _ => rfl) .nil rfl) rfl ?_
 intro v23 w3 hN23
 obtain ⟨u23, B23, rfl, hO23⟩ := NewSl.own0 hN23 (Nat.le_refl _)
 have z23 := u23.size
 replace hS := hS.add u23 (A' := aOwn 24 19 Fact.cells (.slice (some ⟨B23, 0, none⟩) 0 0) ([] : List Fact)) (hO23.mono (Nat.zero_le _)) (fun i h => hO23.base i h)
 change Wx.Sep _ _ _ [_, _] at hS
 refine LW.M rfl ?_
 refine LW.rr (.appendF (enc := Fact.cells) (bytes := 160) (i := Tryz.t24) underlying26 kQ rfl rfl rfl rfl cQ (fun _ => rfl) Fact.one (.t rfl) (.t rfl) (hS.own 1 rfl) ((hS.own 0 rfl).sl (fun _ => rfl)) (by simp only [maxLen, List.length_nil]; omega) (by simp only [List.length_nil]; omega)) rfl ?_
 intro v25 w4 Gw4
 have zw4 := Gw4.fr.size
 replace hS := hS.stp 1 rfl Gw4
 change Wx.Sep _ _ _ [_, _] at hS
 refine LW.A rfl (LW.S (CW.S (LW.C (LW.T (CW.block ?_)))))
 refine CW.loopB (σ := Nat × Go.Value × List Fact) (fun s w => (s.1 ≤ 60) ∧ (∀ z, z ∈ s.2.2 ↔ z ∈ soL xs) ∧ (s.2.2.length = (soL xs).length) ∧ (Wx.Sep no w0 w [aOwn 24 19 Fact.cells (.slice ad22 (soL xs).length cp22) (soL xs), aOwn 24 19 Fact.cells s.2.1 (s.2.2)])) (fun s => [(12, .eq (vi (s.1 : Int))), (11, .eq (s.2.1))]) ([(1, .eq _), (2, .eq _), (3, .eq _), (8, .eq _), (9, .eq _), (10, .eq _)]) (fun s => 60 - s.1) (0, v25, [] ++ soL xs) ?_ ⟨rfl, rfl, rfl, rfl, rfl, rfl, rfl, rfl, trivial⟩ ?_
 ·exact ⟨Nat.zero_le _, fun _ => Iff.rfl, rfl, hS⟩
 rintro ⟨i, v, M⟩ w5 ⟨hi, hM, hl, hS⟩
 dsimp only at hi hM hl hS
 change CW _ _ _ _ _ _ _ ([(12, .eq (vi (i : Int))), (11, .eq (v))] ++ _) _
 refine CW.seq (CW.seq ?_)
 obtain ⟨adv, cpv, rfl, _⟩ := (hS.own 1 rfl).sl (fun _ => rfl)
 refine CW.region (LW.M rfl (LW.M rfl ?_))
 refine LW.pp (.lenS underlying46 (.t rfl)) ?_
 refine LW.pp (.lss (.t rfl) (.t rfl)) ?_
 refine LW.M rfl ?_
 refine LW.g rfl rfl rfl rfl rfl rfl rfl (fun hc => PEv.move (.t rfl)) ?_
 refine LW.g rfl rfl rfl rfl rfl rfl rfl (fun hc => PEv.lss vQ (.const _)) ?_
 refine LW.pp (.pick_and (.t rfl) (fun hp => (by first | exact .const _ | exact .tmp rfl | exact .cond rfl (by first | assumption | (rw [hp]; rfl) | (rw [hc, hp]; rfl) | simp_all)))) ?_
 refine LW.M rfl ?_
 refine LW.g rfl rfl rfl rfl rfl rfl rfl (fun hc => PEv.move (.t rfl)) ?_
 refine LW.g rfl rfl rfl rfl rfl rfl rfl (fun hc => PEv.lenS underlying26 vQ) ?_
 refine LW.g rfl rfl rfl rfl rfl rfl rfl (fun hc => PEv.gtr vQ (.const _)) ?_
 refine LW.pp (.pick_and (.t rfl) (fun hp => (by first | exact .const _ | exact .tmp rfl | exact .cond rfl (by first | assumption | (rw [hp]; rfl) | (rw [hc, hp]; rfl) | simp_all)))) ?_
 refine LW.T ?_
 refine CW.cond (.t rfl) (fun h38 => ?_) (fun h38 => ?_)
 ·replace h38 := dQ h38
  have hc : i < os.length ∧ i < 60 ∧ 0 < M.length := by have h5 := h38; simp at h5; omega
  refine CW.skip (KW.then (CW.seq (CW.block (CW.seq ?_))))
  obtain ⟨o, hoi⟩ : ∃ o, os[i]? = some o := ⟨_, List.getElem?_eq_getElem hc.1⟩
  have hio := ho o (List.mem_of_getElem? hoi)
  obtain ⟨Bo, oo, ao, hco⟩ := hE2 i o hoi
  obtain ⟨g, rfl⟩ := (hS.own 1 rfl).adr hc.2.2
  refine CW.region (LW.M rfl (LW.M rfl ?_))
  refine LW.pp (.indexAddr' underlying46 sizeOf3 (.t rfl) (.t rfl) oQ ao) ?_
  refine LW.pp (.ld isAgg3 rfl ((hco.up hS.upd).nth (j := 0) rfl)) ?_
  refine LW.M rfl ?_
  refine LW.pp (.lenS underlying26 (.t rfl)) ?_
  refine LW.K (eC (.u rfl rfl) (en19)) rfl (pick21_any _ _ _ oQ) ?_
  rintro _ w6 ⟨rfl, uw6⟩
  have zw6 := uw6.size
  replace hS := hS.up uw6
  have hp := pick_range (c := o) (n := (M.length : Int)) hio oQ
  obtain ⟨p, ep⟩ : ∃ p : Nat, pickI (o) (M.length : Int) = (p : Int) := ⟨(pickI (o) (M.length : Int)).toNat, by omega⟩
  rw [ep] at hp ⊢
  refine LW.A rfl (LW.S (CW.region (LW.M rfl (LW.M rfl ?_))))
  refine LW.pp (.indexAddr' underlying46 sizeOf3 (.t rfl) (.t rfl) oQ ao) ?_
  refine LW.pp (.ld isAgg3 rfl ((hco.up hS.upd).nth (j := 0) rfl)) ?_
  refine LW.pp (.val (v' := vi (o.tdiv 7)) (PEv.quo (.t rfl) (.const _) cQ) (quo7 hio).2) ?_
  refine LW.M rfl ?_
  refine LW.pp (.lenS underlying26 (.t rfl)) ?_
  refine LW.K (eC (.u rfl rfl) (en19)) rfl (pick21_any _ _ _ oQ) ?_
  rintro _ w7 ⟨rfl, uw7⟩
  have zw7 := uw7.size
  replace hS := hS.up uw7
  have hq := pick_range (c := o.tdiv 7) (n := (M.length : Int)) (quo7 hio).1 oQ
  obtain ⟨q, eq⟩ : ∃ q : Nat, pickI (o.tdiv 7) (M.length : Int) = (q : Int) := ⟨(pickI (o.tdiv 7) (M.length : Int)).toNat, by omega⟩
  rw [eq] at hq ⊢
  refine LW.A rfl (LW.T ?_)
  obtain ⟨x, hx⟩ : ∃ x, M[p]? = some x := ⟨_, List.getElem?_eq_getElem oQ⟩
  obtain ⟨y, hy⟩ : ∃ y, M[q]? = some y := ⟨_, List.getElem?_eq_getElem oQ⟩
  refine CW.stores2 13 15 [.slice (some ⟨g, 0, none⟩) M.length cpv, vi ((p : Nat) : Int), .slice (some ⟨g, 0, none⟩) M.length cpv, vi ((q : Nat) : Int), .slice (some ⟨g, 0, none⟩) M.length cpv, vi ((q : Nat) : Int), .pointer (some ⟨g, 0 + (q) * 19, none⟩), .agg (Fact.cells y), .slice (some ⟨g, 0, none⟩) M.length cpv, vi ((p : Nat) : Int), .pointer (some ⟨g, 0 + (p) * 19, none⟩), .agg (Fact.cells x), .pointer (some ⟨g, 0 + (p) * 19, none⟩), undef, .pointer (some ⟨g, 0 + (q) * 19, none⟩), undef] (fun W => Wx.Sep no w0 W [aOwn 24 19 Fact.cells (.slice ad22 (soL xs).length cp22) (soL xs), aOwn 24 19 Fact.cells (.slice (some ⟨g, 0, none⟩) M.length cpv) (M)]) (fun W => Wx.Sep no w0 W [aOwn 24 19 Fact.cells (.slice ad22 (soL xs).length cp22) (soL xs), aOwn 24 19 Fact.cells (.slice (some ⟨g, 0, none⟩) M.length cpv) ((M).set (p) y)]) (fun W => Wx.Sep no w0 W [aOwn 24 19 Fact.cells (.slice ad22 (soL xs).length cp22) (soL xs), aOwn 24 19 Fact.cells (.slice (some ⟨g, 0, none⟩) M.length cpv) (((M).set (p) y).set (q) x)]) kQ rfl kQ kQ kQ kQ kQ kQ (hS.up (Up.drew _)) ?_ _ _ rfl rfl ⟨rfl, rfl⟩ ⟨rfl, rfl⟩ ?_ ?_ ?_
  ·refine aC (.inr ⟨rfl, .inr fun W => PEv.move (.t rfl)⟩) ?_
   refine aC (.inr ⟨rfl, .inr fun W => PEv.move (.t rfl)⟩) ?_
   refine aC (.inr ⟨rfl, .inr fun W => PEv.move (.t rfl)⟩) ?_
   refine aC (.inr ⟨rfl, .inr fun W => PEv.move (.t rfl)⟩) ?_
   refine aC (.inr ⟨rfl, .inr fun W => PEv.move (.t rfl)⟩) ?_
   refine aC (.inr ⟨rfl, .inr fun W => PEv.move (.t rfl)⟩) ?_
   refine aC (.inr ⟨rfl, .inr fun W => PEv.indexAddr underlying26 sizeOf24 (.t rfl) (.t rfl) oQ⟩) ?_
   refine aC (.inr ⟨rfl, .inl ⟨by kernel_rfl, fun W hS => PEv.la isAgg24 sizeOf24 rfl ((hS.own 1 rfl).at (fun _ => rfl) hy)⟩⟩) ?_
   refine aC (.inr ⟨rfl, .inr fun W => PEv.move (.t rfl)⟩) ?_
   refine aC (.inr ⟨rfl, .inr fun W => PEv.move (.t rfl)⟩) ?_
   refine aC (.inr ⟨rfl, .inr fun W => PEv.indexAddr underlying26 sizeOf24 (.t rfl) (.t rfl) oQ⟩) ?_
   refine aC (.inr ⟨rfl, .inl ⟨by kernel_rfl, fun W hS => PEv.la isAgg24 sizeOf24 rfl ((hS.own 1 rfl).at (fun _ => rfl) hx)⟩⟩) ?_
   refine aC (.inr ⟨rfl, .inr fun W => PEv.indexAddr underlying26 sizeOf24 (.t rfl) (.t rfl) oQ⟩) ?_
   refine aC (.inl (by simp)) ?_
   refine aC (.inr ⟨rfl, .inr fun W => PEv.indexAddr underlying26 sizeOf24 (.t rfl) (.t rfl) oQ⟩) ?_
   refine aC (.inl (by simp)) ?_
   exact allL.nil
  ·intro W hS
   exact SEv.mono (SEv.storeOwnA (i := p) (z := y) sizeOf24 (fun _ => rfl) Fact.one (.t rfl) (.t rfl) (hS.own 1 rfl) oQ) (fun _ h => hS.stp 1 rfl h)
  ·intro W hS
   exact SEv.mono (SEv.storeOwnA (i := q) (z := x) sizeOf24 (fun _ => rfl) Fact.one (.t rfl) (.t rfl) (hS.own 1 rfl) oQ) (fun _ h => hS.stp 1 rfl h)
  intro w8 hS
  have hS : Wx.Sep no w0 w8 [aOwn 24 19 Fact.cells (.slice ad22 (soL xs).length cp22) (soL xs), aOwn 24 19 Fact.cells (.slice (some ⟨g, 0, none⟩) M.length cpv) (((M).set (p) y).set (q) x)] := hS
  obtain ⟨M2, eM2⟩ : ∃ M2, M2 = (M.set p y).set q x := ⟨_, rfl⟩
  have hM2 : ∀ z, z ∈ M2 ↔ z ∈ soL xs := fun z => by rw [eM2, swap_mem hx hy]; exact hM z
  have hl2 : M2.length = M.length := by rw [eM2, List.length_set, List.length_set]
  rw [← eM2] at hS
  refine KW.inBlock (KW.then (CW.region (LW.M rfl ?_)))
  refine LW.pp (.inc (.t rfl) oQ) ?_
  refine LW.A rfl (LW.nil (KW.round ?_))
  exact ⟨(i + 1, .slice (some ⟨g, 0, none⟩) M.length cpv, M2), ⟨by show i + 1 ≤ 60; omega, hM2, hl2.trans hl, hS.take 2⟩, ⟨rfl, rfl, rfl, rfl, rfl, rfl, rfl, rfl, trivial⟩, by show 60 - (i + 1) < 60 - i; omega⟩
 replace h38 := dQ h38
 refine CW.exit (KW.then_exit (KW.then_exit (KW.block_hit (KW.then (CW.S ?_)))))
 refine LW.K (eC .nil (en12)) rfl (ENew_any _) ?_
 rintro _ w9 ⟨z0, rfl, hza0, hzn0, hzz0, hN0⟩
 replace hS := hS.join hN0
 change Wx.Sep _ _ _ [_, _, _, _, _, _, _] at hS
 clear hN0
 refine LW.A rfl (LW.S (CW.region ?_))
 refine LW.K (eC .nil (en12)) rfl (ENew_any _) ?_
 rintro _ w10 ⟨y0, rfl, hya0, hyn0, hyz0, hN0⟩
 replace hS := hS.join hN0
 change Wx.Sep _ _ _ [_, _, _, _, _, _, _, _, _, _, _, _] at hS
 clear hN0
 refine LW.A rfl (LW.S (CW.region (LW.M rfl (LW.M rfl ?_))))
 refine LW.K (eC (.u rfl rfl) (en23)) rfl (parts_any ad22 a1 cp22 c1 (soL xs) z1 _ (own_cap (hS.own 0 rfl)) oQ (Els.up hE3 hS.upd) hz1) ?_
 rintro v74 w11 ⟨Ps, hO74, hcat, hPl, hPg, uw11⟩
 have zw11 := uw11.size
 replace hS := hS.add uw11 (A' := aOwn 26 1 Prt.enc v74 Ps) (hO74.mono (Nat.zero_le _)) (fun i h => hO74.base i h)
 change Wx.Sep _ _ _ [_, _, _, _, _, _, _, _, _, _, _, _, _] at hS
 clear hO74
 obtain ⟨adP, cpP, rfl, _⟩ := (hS.own 12 rfl).sl (fun _ => rfl)
 refine LW.A rfl (LW.S (CW.seq ?_))
 replace hS := hS.pull 2 rfl
 replace hS := hS.pull 2 rfl
 replace hS := hS.pull 2 rfl
 replace hS := hS.pull 2 rfl
 replace hS := hS.pull 2 rfl
 change Wx.Sep _ _ _ [_, _, _, _, _, _, _, _, _, _, _, _, _] at hS
 refine CW.region (LW.C (LW.T (CW.block ?_)))
 refine CW.loopB (σ := Nat × Eng) (fun s w => (s.1 ≤ Ps.length) ∧ (s.2.Ok s.1) ∧ (s.2.all = catP (Ps.take s.1)) ∧ (Wx.Sep no w0 w ([aOwn 24 19 Fact.cells (.slice ad22 (soL xs).length cp22) (soL xs), aOwn 24 19 Fact.cells (.slice adv M.length cpv) (M)] ++ (Eng.As y0 ++ ([aOwn 26 1 Prt.enc (.slice adP Ps.length cpP) Ps] ++ Eng.As s.2))))) (fun s => [(18, .eq (vi (s.1 : Int))), (15, .eq (.pointer (some ⟨s.2.E, 0, none⟩)))]) ([(3, .eq _), (8, .eq _), (9, .eq _), (11, .eq _), (16, .eq _), (17, .eq _)]) (fun s => Ps.length - s.1) (0, z0) ?_ ⟨rfl, rfl, rfl, rfl, rfl, rfl, rfl, rfl, trivial⟩ ?_
 ·exact ⟨Nat.zero_le _, hzz0, hza0, hS⟩
 rintro ⟨k, z⟩ w12 ⟨hki, hzzk, hzza, hS⟩
 dsimp only at hki hzzk hzza hS
 change Wx.Sep _ _ _ [_, _, _, _, _, _, _, _, _, _, _, _, _] at hS
 change CW _ _ _ _ _ _ _ ([(18, .eq (vi (k : Int))), (15, .eq (.pointer (some ⟨z.E, 0, none⟩)))] ++ _) _
 refine CW.seq (CW.S (LW.M rfl (LW.M rfl ?_)))
 refine LW.pp (.lenS underlying59 (.t rfl)) ?_
 refine LW.pp (.lss (.t rfl) (.t rfl)) ?_
 refine LW.T ?_
 refine CW.cond (.t rfl) (fun h78 => ?_) (fun h78 => ?_)
 ·replace h78 := dQ h78
  refine CW.skip (KW.then (CW.seq (CW.block ?_)))
  have hil : k < Ps.length := by omega
  obtain ⟨p, hp⟩ : ∃ p, Ps[k]? = some p := ⟨_, List.getElem?_eq_getElem hil⟩
  have hgp := hPg p (List.mem_of_getElem? hp)
  obtain ⟨Bx, ox, ax, hcx⟩ := (OwnS.elsS (hS.own 7 rfl) (fun _ => rfl)) k p hp
  have hcl := catP_len Ps (k + 1)
  rw [hcat] at hcl
  refine CW.region (LW.M rfl (LW.M rfl (LW.M rfl ?_)))
  refine LW.pp (.indexAddr' underlying59 sizeOf26 (j := k) (.t rfl) (.t rfl) oQ ax) ?_
  refine LW.pp (.ld isAgg26 rfl (hcx.nth (j := 0) rfl)) ?_
  have hq_ := (show Wx.Sep _ _ _ ([_, _, _, _, _, _, _, _] ++ [_, _, _, _, _]) from hS)
  have hcp := own_cap (hS.own 0 rfl)
  have hEA := OwnS.elsS (hS.own 0 rfl) (fun _ => rfl)
  refine LW.K (eC (.u rfl rfl) (en13)) rfl (EAdd_any z k p.ad p.cp p.xs _ hzzk oQ (by rw [hzza, ← catP_take hp]; omega) (good_els hgp hcp hEA) (fun _ B o e h => hq_.dis ⟨_, List.mem_of_getElem? (i := 0) rfl, sub_foot (good_sub hgp) e⟩ h) hq_.right.self) ?_
  rintro _ w13 ⟨z2, rfl, hp2, ha2, hn2, hz2, uw13⟩
  replace hS := hq_.frame uw13
  change Wx.Sep _ _ _ [_, _, _, _, _, _, _, _, _, _, _, _, _] at hS
  have zw13 := uw13.fr.size
  clear hq_
  rw [← hp2]
  rw [hzza, ← catP_take hp] at ha2
  refine LW.nil (KW.inBlock (KW.then (CW.region (LW.M rfl ?_))))
  refine LW.pp (.inc (.t rfl) oQ) ?_
  refine LW.A rfl (LW.nil (KW.round ?_))
  exact ⟨(k + 1, z2), ⟨by show k + 1 ≤ _; omega, hz2, ha2, hS⟩, ⟨rfl, rfl, rfl, rfl, rfl, rfl, rfl, rfl, trivial⟩, by show Ps.length - (k + 1) < Ps.length - k; omega⟩
 replace h78 := dQ h78
 refine CW.exit (KW.then_exit (KW.then_exit (KW.block_hit (KW.then (CW.seq ?_)))))
 have hke : k = Ps.length := by omega
 rw [hke, List.take_length, hcat] at hzza
 refine CW.region (LW.M rfl (LW.M rfl ?_))
 refine LW.K (eC (.u rfl rfl) (en23)) rfl (parts_any adv a2 cpv c2 M z2_ _ (own_cap (hS.own 1 rfl)) oQ (Els.up hE4 hS.upd) hz2_) ?_
 rintro v89 w14 ⟨Qs, hO89, hcat2, hQl, hQg, uw14⟩
 have zw14 := uw14.size
 replace hS := hS.add uw14 (A' := aOwn 26 1 Prt.enc v89 Qs) (hO89.mono (Nat.zero_le _)) (fun i h => hO89.base i h)
 change Wx.Sep _ _ _ [_, _, _, _, _, _, _, _, _, _, _, _, _, _] at hS
 clear hO89
 obtain ⟨adQ, cpQ, rfl, _⟩ := (hS.own 13 rfl).sl (fun _ => rfl)
 refine LW.A rfl (LW.S (CW.seq ?_))
 replace hS := hS.pull 2 rfl
 replace hS := hS.pull 2 rfl
 replace hS := hS.pull 2 rfl
 replace hS := hS.pull 2 rfl
 replace hS := hS.pull 2 rfl
 change Wx.Sep _ _ _ [_, _, _, _, _, _, _, _, _, _, _, _, _, _] at hS
 refine CW.region (LW.C (LW.T (CW.block ?_)))
 refine CW.loopB (σ := Nat × Eng) (fun s w => (s.1 ≤ Qs.length) ∧ (s.2.Ok s.1) ∧ (s.2.all = catP (Qs.take s.1)) ∧ (Wx.Sep no w0 w ([aOwn 24 19 Fact.cells (.slice ad22 (soL xs).length cp22) (soL xs), aOwn 24 19 Fact.cells (.slice adv M.length cpv) (M), aOwn 26 1 Prt.enc (.slice adP Ps.length cpP) Ps] ++ (Eng.As z ++ ([aOwn 26 1 Prt.enc (.slice adQ Qs.length cpQ) Qs] ++ Eng.As s.2))))) (fun s => [(19, .eq (vi (s.1 : Int))), (16, .eq (.pointer (some ⟨s.2.E, 0, none⟩)))]) ([(8, .eq _), (9, .eq _), (15, .eq _), (17, .eq _)]) (fun s => Qs.length - s.1) (0, y0) ?_ ⟨rfl, rfl, rfl, rfl, rfl, rfl, trivial⟩ ?_
 ·exact ⟨Nat.zero_le _, hyz0, hya0, hS⟩
 rintro ⟨k, y⟩ w15 ⟨hki, hyzk, hyza, hS⟩
 dsimp only at hki hyzk hyza hS
 change Wx.Sep _ _ _ [_, _, _, _, _, _, _, _, _, _, _, _, _, _] at hS
 change CW _ _ _ _ _ _ _ ([(19, .eq (vi (k : Int))), (16, .eq (.pointer (some ⟨y.E, 0, none⟩)))] ++ _) _
 refine CW.seq (CW.S (LW.M rfl (LW.M rfl ?_)))
 refine LW.pp (.lenS underlying59 (.t rfl)) ?_
 refine LW.pp (.lss (.t rfl) (.t rfl)) ?_
 refine LW.T ?_
 refine CW.cond (.t rfl) (fun h93 => ?_) (fun h93 => ?_)
 ·replace h93 := dQ h93
  refine CW.skip (KW.then (CW.seq (CW.block ?_)))
  have hil : k < Qs.length := by omega
  obtain ⟨p, hp⟩ : ∃ p, Qs[k]? = some p := ⟨_, List.getElem?_eq_getElem hil⟩
  have hgp := hQg p (List.mem_of_getElem? hp)
  obtain ⟨Bx, ox, ax, hcx⟩ := (OwnS.elsS (hS.own 8 rfl) (fun _ => rfl)) k p hp
  have hcl := catP_len Qs (k + 1)
  rw [hcat2] at hcl
  refine CW.region (LW.M rfl (LW.M rfl (LW.M rfl ?_)))
  refine LW.pp (.indexAddr' underlying59 sizeOf26 (j := k) (.t rfl) (.t rfl) oQ ax) ?_
  refine LW.pp (.ld isAgg26 rfl (hcx.nth (j := 0) rfl)) ?_
  have hq_ := (show Wx.Sep _ _ _ ([_, _, _, _, _, _, _, _, _] ++ [_, _, _, _, _]) from hS)
  have hcp := own_cap (hS.own 1 rfl)
  have hEA := OwnS.elsS (hS.own 1 rfl) (fun _ => rfl)
  refine LW.K (eC (.u rfl rfl) (en13)) rfl (EAdd_any y k p.ad p.cp p.xs _ hyzk oQ (by rw [hyza, ← catP_take hp]; omega) (good_els hgp hcp hEA) (fun _ B o e h => hq_.dis ⟨_, List.mem_of_getElem? (i := 1) rfl, sub_foot (good_sub hgp) e⟩ h) hq_.right.self) ?_
  rintro _ w16 ⟨z2, rfl, hp2, ha2, hn2, hz2, uw16⟩
  replace hS := hq_.frame uw16
  change Wx.Sep _ _ _ [_, _, _, _, _, _, _, _, _, _, _, _, _, _] at hS
  have zw16 := uw16.fr.size
  clear hq_
  rw [← hp2]
  rw [hyza, ← catP_take hp] at ha2
  refine LW.nil (KW.inBlock (KW.then (CW.region (LW.M rfl ?_))))
  refine LW.pp (.inc (.t rfl) oQ) ?_
  refine LW.A rfl (LW.nil (KW.round ?_))
  exact ⟨(k + 1, z2), ⟨by show k + 1 ≤ _; omega, hz2, ha2, hS⟩, ⟨rfl, rfl, rfl, rfl, rfl, rfl, trivial⟩, by show Qs.length - (k + 1) < Qs.length - k; omega⟩
 replace h93 := dQ h93
 refine CW.exit (KW.then_exit (KW.then_exit (KW.block_hit (KW.then (CW.seq ?_)))))
 have hke2 : k = Qs.length := by omega
 rw [hke2, List.take_length, hcat2] at hyza
 have hyk : ofB y.all 100000 = z.kb := by unfold Eng.kb; rw [hyza, hzza]; exact ofB_set hM 100000
 have hkk : y.kb = z.kb := hyk
 have hsh2 : short z.kb := ofB_short (Nat.le_trans hzzk.len cQ) _
 have hll : (lateL z.kb).length ≤ 1000000000 := by have h1 := late_len z.kb z.kb.Processes z.kb.Processes.length; rw [List.take_length] at h1; have h2 := (len_ok hzzk).1; unfold lateL; rw [List.length_mergeSort]; omega
 refine CW.region (LW.M rfl (LW.M rfl ?_))
 refine LW.Y ?_
 refine LW.M rfl ?_
 refine LW.Y ?_
 refine LW.K (eC (.o rfl) (en14)) rfl (EBase_any z.E z.bf z.bd z.bc z.n z.all _ (hS.blk 3 rfl) (hS.get 4 rfl) (Nat.le_trans hzzk.len cQ)) ?_
 rintro _ w17 ⟨bc105, rfl, hC105, _, uw17⟩
 have zw17 := uw17.size
 replace hS := hS.up uw17
 rw [(show ofB z.all 100000 = z.kb from rfl)] at hC105
 refine LW.Y ?_
 refine LW.M rfl ?_
 refine LW.Y ?_
 refine LW.K (eC (.o rfl) (en14)) rfl (EBase_any y.E y.bf y.bd y.bc y.n y.all _ (hS.blk 9 rfl) (hS.get 10 rfl) (Nat.le_trans hyzk.len cQ)) ?_
 rintro _ w18 ⟨bc107, rfl, hC107, _, uw18⟩
 have zw18 := uw18.size
 replace hS := hS.up uw18
 replace hC105 := hC105.up uw18
 rw [hyk] at hC107
 refine LW.Y ?_
 refine LW.K (eC (.u rfl rfl) (en27)) rfl (Same_any bc105 bc107 z.kb z.kb _ hC105 hC107 hsh2) ?_
 rintro _ w19 ⟨rfl, uw19⟩
 have zw19 := uw19.size
 replace hS := hS.up uw19
 replace hC105 := hC105.up uw19
 replace hC107 := hC107.up uw19
 rw [sameB_refl]
 refine LW.pp (.pick_and (.t rfl) (fun hp => (by first | exact .const _ | exact .tmp rfl | exact .cond rfl (by first | assumption | (rw [hp]; rfl) | (rw [hc, hp]; rfl) | simp_all)))) ?_
 refine LW.M rfl ?_
 refine LW.Y ?_
 refine LW.M rfl ?_
 refine LW.Y ?_
 refine LW.M rfl ?_
 refine LW.Y ?_
 refine LW.K (eC (.o rfl) (en14)) rfl (EBase_any y.E y.bf y.bd y.bc y.n y.all _ (hS.blk 9 rfl) (hS.get 10 rfl) (Nat.le_trans hyzk.len cQ)) ?_
 rintro _ w20 ⟨bc113, rfl, hC113, _, uw20⟩
 have zw20 := uw20.size
 replace hS := hS.up uw20
 replace hC105 := hC105.up uw20
 replace hC107 := hC107.up uw20
 rw [hyk] at hC113
 refine LW.Y ?_
 refine LW.K (eC (.u rfl rfl) (en33)) rfl (same21_any z.E z.bf z.bd z.bc z.n z.D z.kb bc113 _ hzzk.hbc hzzk.keys hzzk.dks (len_ok hzzk).1 (len_ok hzzk).2.1 (len_ok hzzk).2.2.1 (len_ok hzzk).2.2.2 (hS.blk 3 rfl) (hS.get 6 rfl) (hS.get 7 rfl) hC113) ?_
 rintro _ w21 ⟨rfl, uw21⟩
 have zw21 := uw21.size
 replace hS := hS.up uw21
 replace hC105 := hC105.up uw21
 replace hC107 := hC107.up uw21
 replace hC113 := hC113.up uw21
 refine LW.pp (.pick_and (.t rfl) (fun hp => (by first | exact .const _ | exact .tmp rfl | exact .cond rfl (by first | assumption | (rw [hp]; rfl) | (rw [hc, hp]; rfl) | simp_all)))) ?_
 refine LW.M rfl ?_
 refine LW.Y ?_
 refine LW.M rfl ?_
 refine LW.Y ?_
 refine LW.M rfl ?_
 refine LW.Y ?_
 refine LW.K (eC (.o rfl) (en14)) rfl (EBase_any z.E z.bf z.bd z.bc z.n z.all _ (hS.blk 3 rfl) (hS.get 4 rfl) (Nat.le_trans hzzk.len cQ)) ?_
 rintro _ w22 ⟨bc119, rfl, hC119, _, uw22⟩
 have zw22 := uw22.size
 replace hS := hS.up uw22
 replace hC105 := hC105.up uw22
 replace hC107 := hC107.up uw22
 replace hC113 := hC113.up uw22
 rw [(show ofB z.all 100000 = y.kb from hkk.symm)] at hC119
 refine LW.Y ?_
 refine LW.K (eC (.u rfl rfl) (en33)) rfl (same21_any y.E y.bf y.bd y.bc y.n y.D y.kb bc119 _ hyzk.hbc hyzk.keys hyzk.dks (len_ok hyzk).1 (len_ok hyzk).2.1 (len_ok hyzk).2.2.1 (len_ok hyzk).2.2.2 (hS.blk 9 rfl) (hS.get 12 rfl) (hS.get 13 rfl) hC119) ?_
 rintro _ w23 ⟨rfl, uw23⟩
 have zw23 := uw23.size
 replace hS := hS.up uw23
 replace hC105 := hC105.up uw23
 replace hC107 := hC107.up uw23
 replace hC113 := hC113.up uw23
 replace hC119 := hC119.up uw23
 refine LW.pp (.pick_and (.t rfl) (fun hp => (by first | exact .const _ | exact .tmp rfl | exact .cond rfl (by first | assumption | (rw [hp]; rfl) | (rw [hc, hp]; rfl) | simp_all)))) ?_
 refine LW.M rfl ?_
 refine LW.Y ?_
 refine LW.M rfl ?_
 refine LW.Y ?_
 refine LW.K (eC (.o rfl) (en21)) rfl (ELate_any z.E z.bf z.bd z.bc z.n z.kb _ hzzk.hbc (hS.blk 3 rfl) (hS.get 5 rfl) (len_ok hzzk).1 (len_ok hzzk).2.1 (len_ok hzzk).2.2.1 (len_ok hzzk).2.2.2 val_ok) ?_
 rintro v124 w24 ⟨hO124, uw24⟩
 have zw24 := uw24.size
 replace hC105 := hC105.up uw24
 replace hC107 := hC107.up uw24
 replace hC113 := hC113.up uw24
 replace hC119 := hC119.up uw24
 replace hS := hS.add uw24 (A' := aOwn 3 1 eInt v124 (lateL z.kb)) (hO124.mono (Nat.zero_le _)) (fun i h => hO124.base i h)
 change Wx.Sep _ _ _ [_, _, _, _, _, _, _, _, _, _, _, _, _, _, _] at hS
 refine LW.Y ?_
 refine LW.M rfl ?_
 refine LW.Y ?_
 refine LW.K (eC (.o rfl) (en21)) rfl (ELate_any y.E y.bf y.bd y.bc y.n y.kb _ hyzk.hbc (hS.blk 9 rfl) (hS.get 11 rfl) (len_ok hyzk).1 (len_ok hyzk).2.1 (len_ok hyzk).2.2.1 (len_ok hyzk).2.2.2 val_ok) ?_
 rintro v126 w25 ⟨hO126, uw25⟩
 have zw25 := uw25.size
 replace hC105 := hC105.up uw25
 replace hC107 := hC107.up uw25
 replace hC113 := hC113.up uw25
 replace hC119 := hC119.up uw25
 replace hS := hS.add uw25 (A' := aOwn 3 1 eInt v126 (lateL z.kb)) (by rw [hkk] at hO126; exact hO126.mono (Nat.zero_le _)) (fun i h => hO126.base i h)
 change Wx.Sep _ _ _ [_, _, _, _, _, _, _, _, _, _, _, _, _, _, _, _] at hS
 refine LW.Y ?_
 refine LW.K (eC (.u rfl rfl) (en29)) rfl (sameInts_any _ _ (lateL z.kb) (lateL z.kb) _ ((hS.own 14 rfl).sl (fun _ => rfl)) ((hS.own 15 rfl).sl (fun _ => rfl)) hll hll) ?_
 rintro _ w26 ⟨rfl, uw26⟩
 have zw26 := uw26.size
 replace hS := hS.up uw26
 replace hC105 := hC105.up uw26
 replace hC107 := hC107.up uw26
 replace hC113 := hC113.up uw26
 replace hC119 := hC119.up uw26
 rw [decide_eq_true rfl]
 refine LW.pp (.pick_and (.t rfl) (fun hp => (by first | exact .const _ | exact .tmp rfl | exact .cond rfl (by first | assumption | (rw [hp]; rfl) | (rw [hc, hp]; rfl) | simp_all)))) ?_
 refine LW.A rfl (LW.T (CW.ret ?_))
 refine KW.ret1 rfl rfl ⟨_, rfl, ?_⟩
 exact ⟨rfl, hS.upd⟩
end Go.Proofs.YtbbpkdlehlamlaaGreatDoor
end
