import Derived.Test.YtgffaeachbbjoaaGreatDoorKR714
section
namespace Go.Wx
def getsL (f : Fact) : List Int := [f.ID, f.Wafer, f.Other, f.Lot, f.Product, f.Tool, f.Chamber, f.Step, f.Recipe, f.Revision, f.Time, f.Until, f.Value, f.Parties]
def getN (f : Fact) (j : Int) : Int := (getsL f).getD j.toNat 0
theorem getN_at {f : Fact} {j : Nat} {y : Int} (h : (getsL f)[j]? = some y) : y = getN f (j : Int) := by
 unfold getN
 rw [Int.toNat_natCast, List.getD_eq_getElem?_getD, h]; rfl
theorem pre_step {l : List Fact} {i : Nat} {x : Fact} {p : Fact → Bool} (h : ∀ y ∈ l.take i, p y = false) (hx : l[i]? = some x) (hp : p x = false) : ∀ y ∈ l.take (i + 1), p y = false := fun y hy => by
 rw [take_succ_of hx, List.mem_append, List.mem_singleton] at hy
 exact hy.elim (h y) (fun e => by rw [e]; exact hp)
theorem pre_all {l : List Fact} {i : Nat} {p : Fact → Bool} (h : ∀ y ∈ l.take i, p y = false) (hi : l.length ≤ i) : ∀ y ∈ l, p y = false := by rw [List.take_of_length_le hi] at h; exact h
def bestI : Option Nat → Int
 | none => -1
 | some q => (q : Int)
def TInv (r t : Int) (l : List Fact) (i : Nat) : Option Nat → Prop
 | none => tgF r t (l.take i) = (zeroF, false)
 | some q => ∃ x, l[q]? = some x ∧ tgF r t (l.take i) = (x, true)
theorem TInv.skip {r t : Int} {l : List Fact} {i : Nat} {x : Fact} {m : Option Nat} (h : TInv r t l i m) (hx : l[i]? = some x) (hn : ∀ s : Fact × Bool, s = tgF r t (l.take i) → (decide (x.Recipe = r) && decide (x.Time ≤ t) && (!s.2 || decide (s.1.Time < x.Time))) = false) : TInv r t l (i + 1) m := by
 have e : tgF r t (l.take (i + 1)) = tgF r t (l.take i) := by rw [tgF_take hx]; exact tg_no (hn _ rfl)
 cases m with
 | none => exact e.trans h
 | some q => obtain ⟨y, h1, h2⟩ := h; exact ⟨y, h1, e.trans h2⟩
theorem TInv.put {r t : Int} {l : List Fact} {i : Nat} {x : Fact} (hx : l[i]? = some x) (hn : ∀ s : Fact × Bool, s = tgF r t (l.take i) → (decide (x.Recipe = r) && decide (x.Time ≤ t) && (!s.2 || decide (s.1.Time < x.Time))) = true) : TInv r t l (i + 1) (some i) := ⟨x, hx, by rw [tgF_take hx]; exact tg_yes (hn _ rfl)⟩
def isPutR (l : List Fact) (f : Fact) (p : Nat) : Prop := p ≤ l.length ∧ (∀ y ∈ l.drop p, ltK (runK f) (runK y) = true) ∧ (p = 0 ∨ ∃ y, l[p - 1]? = some y ∧ ltK (runK f) (runK y) = false)
theorem putR_ins {l : List Fact} {f : Fact} {p : Nat} (h : isPutR l f p) (hs : srt runK l) : insAt l f p = insK runK f l := by
 obtain ⟨q, e, hq, h1, h2⟩ := insK_put (key := runK) f l hs
 rw [e]
 obtain ⟨hp, g1, g2⟩ := h
 have key : ∀ {p q : Nat}, q ≤ l.length → (∀ y ∈ l.drop p, ltK (runK f) (runK y) = true) → (q = 0 ∨ ∃ y, l[q - 1]? = some y ∧ ltK (runK f) (runK y) = false) → q ≤ p := fun {p q} hq g1 g2 => by
   rcases g2 with rfl | ⟨y, hy, hl⟩
   · omega
   rcases Nat.lt_or_ge p q with h | h
   · have := g1 y (List.mem_iff_getElem?.2 ⟨q - 1 - p, by rw [List.getElem?_drop, show p + (q - 1 - p) = q - 1 by omega]; exact hy⟩)
     rw [hl] at this; cases this
   exact h
 rw [Nat.le_antisymm (key hp h1 g2) (key hq g1 h2)]
def runL (l : List Fact) (t c : Int) (i : Nat) : List Fact := sortK runK ((l.take i).filter (runP t c))
theorem runL_srt (l : List Fact) (t c : Int) (i : Nat) : srt runK (runL l t c i) := (sortK_sts _).ord
theorem runL_len (l : List Fact) (t c : Int) (i : Nat) : (runL l t c i).length ≤ i := by
 unfold runL
 rw [(sortK_sts (key := runK) ((l.take i).filter (runP t c))).same.length]
 exact filt_len _ _ _
theorem runL_no {l : List Fact} {t c : Int} {i : Nat} {x : Fact} (hx : l[i]? = some x) (h : runP t c x = false) : runL l t c (i + 1) = runL l t c i := by unfold runL; rw [fp_no hx h]
theorem runL_yes {l : List Fact} {t c : Int} {i p : Nat} {x : Fact} (hx : l[i]? = some x) (h : runP t c x = true) (hp : isPutR (runL l t c i) x p) : runL l t c (i + 1) = insAt (runL l t c i) x p := by
 rw [putR_ins hp (runL_srt l t c i)]
 unfold runL
 rw [fp_yes hx h]
 unfold sortK
 rw [List.foldl_append]; rfl
theorem ltK_run (f y : Fact) : ltK (runK f) (runK y) = (decide (f.Time < y.Time) || (decide (f.Time = y.Time) && decide (f.ID < y.ID))) := rfl
end Go.Wx
namespace Go.Proofs.YtgffaeachbbjoaaGreatDoor
open Go.Proofs.Tryz
open Go.Wx Go.RowKit
theorem Get_any (f : Fact) (j : Nat) (w : World) (hj : j < 14) : Ret Tryz.prog 132 #[.agg f.cells, vi (j : Int)] w fun r w' => r = vi (getN f (j : Int)) ∧ Up w w' := by
 have hW := Up.refl w
 obtain ⟨w0, rfl⟩ : ∃ w0, w0 = w := ⟨_, rfl⟩
 have hgl : (getsL f).length = 14 := rfl
 refine cS (n := 37) (m := 9) func132 rfl rfl rfl ?_
 refine CW.S ?_
 refine LW.rr (.boxA (.t rfl)) rfl ?_
 rintro _ w1 ⟨B2, rfl, NB2⟩
 have eB2 := NB2.at_
 have zB2 := NB2.size
 replace hW := hW.up NB2.up
 have hB2 := NB2.blk
 refine LW.C (LW.S (CW.region ?_))
 refine LW.pp (.fA 1 underlying50 rfl sizeOf3 rfl) ?_
 refine LW.pp (.ld isAgg3 rfl (hB2.celln rfl)) ?_
 refine LW.pp (.fA 7 underlying50 rfl sizeOf3 rfl) ?_
 refine LW.pp (.ld isAgg3 rfl (hB2.celln rfl)) ?_
 refine LW.pp (.fA 8 underlying50 rfl sizeOf3 rfl) ?_
 refine LW.pp (.ld isAgg3 rfl (hB2.celln rfl)) ?_
 refine LW.pp (.fA 9 underlying50 rfl sizeOf3 rfl) ?_
 refine LW.pp (.ld isAgg3 rfl (hB2.celln rfl)) ?_
 refine LW.pp (.fA 10 underlying50 rfl sizeOf3 rfl) ?_
 refine LW.pp (.ld isAgg3 rfl (hB2.celln rfl)) ?_
 refine LW.pp (.fA 11 underlying50 rfl sizeOf3 rfl) ?_
 refine LW.pp (.ld isAgg3 rfl (hB2.celln rfl)) ?_
 refine LW.pp (.fA 12 underlying50 rfl sizeOf3 rfl) ?_
 refine LW.pp (.ld isAgg3 rfl (hB2.celln rfl)) ?_
 refine LW.pp (.fA 13 underlying50 rfl sizeOf3 rfl) ?_
 refine LW.pp (.ld isAgg3 rfl (hB2.celln rfl)) ?_
 refine LW.pp (.fA 14 underlying50 rfl sizeOf3 rfl) ?_
 refine LW.pp (.ld isAgg3 rfl (hB2.celln rfl)) ?_
 refine LW.pp (.fA 15 underlying50 rfl sizeOf3 rfl) ?_
 refine LW.pp (.ld isAgg3 rfl (hB2.celln rfl)) ?_
 refine LW.pp (.fA 5 underlying50 rfl sizeOf3 rfl) ?_
 refine LW.pp (.ld isAgg3 rfl (hB2.celln rfl)) ?_
 refine LW.pp (.fA 6 underlying50 rfl sizeOf3 rfl) ?_
 refine LW.pp (.ld isAgg3 rfl (hB2.celln rfl)) ?_
 refine LW.pp (.fA 16 underlying50 rfl sizeOf3 rfl) ?_
 refine LW.pp (.ld isAgg3 rfl (hB2.celln rfl)) ?_
 refine LW.pp (.fA 17 underlying50 rfl sizeOf3 rfl) ?_
 refine LW.pp (.ld isAgg3 rfl (hB2.celln rfl)) ?_
 refine LW.rr (.buildSlice (xs := getsL f) (enc := eInt) (mk := vi) underlying35 sizeOf3 zeroValue3 rfl cQ (fun _ => rfl) (fun _ => rfl) (.cons (.t rfl) (.cons (.t rfl) (.cons (.t rfl) (.cons (.t rfl) (.cons (.t rfl) (.cons (.t rfl) (.cons (.t rfl) (.cons (.t rfl) (.cons (.t rfl) (.cons (.t rfl) (.cons (.t rfl) (.cons (.t rfl) (.cons (.t rfl) (.cons (.t rfl) .nil)))))))))))))) rfl) rfl ?_
 rintro _ w2 ⟨B33, cB33, rfl, NB33, yB33, xB33⟩
 have eB33 := NB33.at_
 have zB33 := NB33.size
 replace hW := hW.up NB33.up
 replace hB2 := hB2.up NB33.up
 have hB33 := NB33.blk
 have hE33 := xB33
 refine LW.M rfl ?_
 obtain ⟨y, hy⟩ := getElem?_of_lt (xs := getsL f) (i := j) oQ
 obtain ⟨By, oy, ay, hcy⟩ := hE33 _ y hy
 refine LW.pp (.indexAddr' underlying35 sizeOf3 (.t rfl) (.t rfl) oQ ay) ?_
 refine LW.pp (.ld isAgg3 rfl (hcy.nth (j := 0) rfl)) ?_
 refine LW.A rfl (LW.T (CW.ret ?_))
 refine KW.ret1 rfl rfl ⟨_, rfl, ?_⟩
 exact ⟨by rw [getN_at hy], hW⟩
theorem rFind_any (ad : Option Addr) (cp : Nat) (l : List Fact) (j : Nat) (n : Int) (w : World) (hE : Els w ad 19 Fact.cells l) (hj : j < 14) (hl : l.length ≤ 100000) : Ret Tryz.prog 83 #[.slice ad l.length cp, vi (j : Int), vi n] w fun r w' => r = .tuple #[.agg ((l.find? (fun f => decide (getN f (j : Int) = n))).getD zeroF).cells, .bool (l.find? (fun f => decide (getN f (j : Int) = n))).isSome] ∧ Up w w' := by
 have hW := Up.refl w
 obtain ⟨w0, rfl⟩ : ∃ w0, w0 = w := ⟨_, rfl⟩
 refine cS (n := 28) (m := 9) func83 rfl rfl rfl ?_
 refine CW.S ?_
 refine LW.rr (.allocA zeroValue50) rfl ?_
 rintro _ w1 ⟨B6, rfl, NB6⟩
 have eB6 := NB6.at_
 have zB6 := NB6.size
 replace hW := hW.up NB6.up
 have hB6 := NB6.blk
 refine LW.C (LW.S (CW.S (LW.C (LW.T (CW.block ?_)))))
 refine CW.loopB (σ := Nat) (fun s w => (s ≤ l.length) ∧ (∀ y ∈ l.take s, (fun f => decide (getN f (j : Int) = n)) y = false) ∧ (Up w0 w) ∧ (Blk w B6 zeroF.cells 50)) (fun s => [(8, .eq (vi (s : Int)))]) ([(0, .eq _), (1, .eq _), (2, .eq _), (6, .eq _)]) (fun s => l.length - s) 0 ?_ ⟨rfl, rfl, rfl, rfl, rfl, trivial⟩ ?_
 ·exact ⟨Nat.zero_le _, (fun y hy => by rw [List.take_zero] at hy; cases hy), hW, hB6⟩
 rintro i w2 ⟨hi, hq, hW, hB6⟩
 refine CW.seq (CW.S (LW.M rfl (LW.M rfl ?_)))
 refine LW.pp (.lenS underlying22 (.t rfl)) ?_
 refine LW.pp (.lss (.t rfl) (.t rfl)) ?_
 refine LW.T ?_
 refine CW.cond (.t rfl) (fun h12 => ?_) (fun h12 => ?_)
 ·replace h12 := dQ h12
  refine CW.skip (KW.then (CW.seq (CW.block (CW.seq ?_))))
  obtain ⟨x, hx⟩ := getElem?_of_lt (xs := l) (i := i) oQ
  obtain ⟨Bx, ox, ax, hcx⟩ := (Els.up hE hW) i x hx
  refine CW.region (LW.M rfl (LW.M rfl ?_))
  refine LW.pp (.indexAddr' underlying22 sizeOf50 (.t rfl) (.t rfl) oQ ax) ?_
  refine LW.pp (.la isAgg50 sizeOf50 rfl (hcx)) ?_
  refine LW.M rfl ?_
  refine LW.K (eC (.u rfl rfl) (en132)) rfl (Get_any x j _ hj) ?_
  rintro _ w3 ⟨rfl, uw3⟩
  have zw3 := uw3.size
  replace hW := hW.up uw3
  replace hB6 := hB6.up uw3
  refine LW.M rfl ?_
  refine LW.pp (.eql (.t rfl) (.t rfl)) ?_
  refine LW.T ?_
  refine CW.cond (.t rfl) (fun h22 => ?_) (fun h22 => ?_)
  ·replace h22 := dQ h22
   refine CW.seq ?_
   obtain ⟨Bx, ox, ax, hcx⟩ := (Els.up hE hW) i x hx
   refine CW.region (LW.M rfl (LW.M rfl ?_))
   refine LW.pp (.indexAddr' underlying22 sizeOf50 (.t rfl) (.t rfl) oQ ax) ?_
   refine LW.pp (.la isAgg50 sizeOf50 rfl (hcx)) ?_
   refine LW.E (.storeA sizeOf50 rfl (.t rfl) (.t rfl) eQ hB6 rfl) ?_
   intro w4 Nw4
   have zw4 := Nw4.size
   replace hW := hW.sto Nw4.sto oQ
   replace hB6 := Nw4.blk
   replace hB6 : Blk w4 B6 x.cells _ := hB6
   refine LW.C (LW.T (CW.ret (KW.block_ret (KW.then_ret (KW.then_ret (KW.block_ret (KW.then_ret ?_)))))))
   refine KW.retAT rfl rfl rfl isAgg50 sizeOf50 rfl (hB6).agg ⟨_, rfl, ?_⟩
   first | (rw [find_at (p := (fun f => decide (getN f (j : Int) = n))) hx hq (decide_eq_true h22)]; exact ⟨rfl, hW⟩) | (rw [find_no (p := (fun f => decide (getN f (j : Int) = n))) (pre_all hq oQ)]; exact ⟨rfl, hW⟩)
  replace h22 := dQ h22
  refine CW.skip (KW.inBlock (KW.then (CW.region (LW.M rfl ?_))))
  refine LW.pp (.inc (.t rfl) oQ) ?_
  refine LW.A rfl (LW.nil (KW.round ?_))
  exact ⟨i + 1, ⟨by omega, pre_step hq hx (decide_eq_false h22), hW, hB6⟩, ⟨rfl, rfl, rfl, rfl, rfl, trivial⟩, by first | omega | (dsimp only; omega)⟩
 replace h12 := dQ h12
 refine CW.exit (KW.then_exit (KW.then_exit (KW.block_hit (KW.then (CW.S ?_)))))
 refine LW.pp (.build (cs := zeroF.cells) underlying50 zeroValue50 Tryz.places50 .nil rfl) ?_
 refine LW.E (.storeA sizeOf50 rfl (.t rfl) (.t rfl) eQ hB6 rfl) ?_
 intro w5 Nw5
 have zw5 := Nw5.size
 replace hW := hW.sto Nw5.sto oQ
 replace hB6 := Nw5.blk
 replace hB6 : Blk w5 B6 zeroF.cells _ := hB6
 refine LW.C (LW.T (CW.ret ?_))
 refine KW.retAT rfl rfl rfl isAgg50 sizeOf50 rfl (hB6).agg ⟨_, rfl, ?_⟩
 first | (rw [find_at (p := (fun f => decide (getN f (j : Int) = n))) hx hq (decide_eq_true h22)]; exact ⟨rfl, hW⟩) | (rw [find_no (p := (fun f => decide (getN f (j : Int) = n))) (pre_all hq oQ)]; exact ⟨rfl, hW⟩)
theorem rProcess_any (bc : Array Go.Value) (b : Base) (id : Int) (w : World) (hC : BaseC w bc b) (hl : b.Processes.length ≤ 100000) : Ret Tryz.prog 42 #[.agg bc, vi id] w fun r w' => r = .tuple #[.agg ((procB b id).getD zeroF).cells, .bool (procB b id).isSome] ∧ Up w w' := by
 have hW := Up.refl w
 obtain ⟨w0, rfl⟩ : ∃ w0, w0 = w := ⟨_, rfl⟩
 obtain ⟨v0, h0, hr0⟩ := hC.at0
 obtain ⟨ad, cp, rfl, hE0⟩ := hr0
 refine cS (n := 12) (m := 9) func42 rfl rfl rfl ?_
 refine CW.S ?_
 refine LW.rr (.boxA (.t rfl)) rfl ?_
 rintro _ w1 ⟨B2, rfl, NB2⟩
 have eB2 := NB2.at_
 have zB2 := NB2.size
 replace hW := hW.up NB2.up
 have hB2 := NB2.blk
 refine LW.rr (.allocA zeroValue50) rfl ?_
 rintro _ w2 ⟨B4, rfl, NB4⟩
 have eB4 := NB4.at_
 have zB4 := NB4.size
 replace hW := hW.up NB4.up
 replace hB2 := hB2.up NB4.up
 have hB4 := NB4.blk
 refine LW.C (LW.S (CW.region ?_))
 refine LW.pp (.fA 0 underlying24 rfl sizeOf22 rfl) ?_
 refine LW.pp (.ld isAgg22 rfl (hB2.cell h0)) ?_
 refine LW.M rfl ?_
 refine LW.K (eC (.cons (.t rfl) (.cons (.const _) (.cons (.t rfl) .nil))) (en83)) rfl (rFind_any ad cp b.Processes 0 id _ (Els.up hE0 hW) cQ hl) ?_
 rintro _ w3 ⟨rfl, uw3⟩
 have zw3 := uw3.size
 replace hW := hW.up uw3
 replace hB2 := hB2.up uw3
 replace hB4 := hB4.up uw3
 refine LW.pp (.extract (.t rfl) rfl) (LW.pp (.extract (.t rfl) rfl) ?_)
 refine LW.E (.storeA sizeOf50 rfl (.t rfl) (.t rfl) eQ hB4 rfl) ?_
 intro w4 Nw4
 have zw4 := Nw4.size
 replace hW := hW.sto Nw4.sto oQ
 replace hB2 := hB2.sto Nw4.sto oQ
 replace hB4 := Nw4.blk
 replace hB4 : Blk w4 B4 ((procB b id).getD zeroF).cells _ := hB4
 refine LW.A rfl (LW.T (CW.ret ?_))
 refine KW.retAT rfl rfl rfl isAgg50 sizeOf50 rfl (hB4).agg ⟨_, rfl, ?_⟩
 exact ⟨rfl, hW⟩
theorem rMeasure_any (bc : Array Go.Value) (b : Base) (id : Int) (w : World) (hC : BaseC w bc b) (hl : b.Measures.length ≤ 100000) : Ret Tryz.prog 125 #[.agg bc, vi id] w fun r w' => r = .tuple #[.agg ((measB b id).getD zeroF).cells, .bool (measB b id).isSome] ∧ Up w w' := by
 have hW := Up.refl w
 obtain ⟨w0, rfl⟩ : ∃ w0, w0 = w := ⟨_, rfl⟩
 obtain ⟨v1, h1, hr1⟩ := hC.at1
 obtain ⟨ad, cp, rfl, hE0⟩ := hr1
 refine cS (n := 12) (m := 9) func125 rfl rfl rfl ?_
 refine CW.S ?_
 refine LW.rr (.boxA (.t rfl)) rfl ?_
 rintro _ w1 ⟨B2, rfl, NB2⟩
 have eB2 := NB2.at_
 have zB2 := NB2.size
 replace hW := hW.up NB2.up
 have hB2 := NB2.blk
 refine LW.rr (.allocA zeroValue50) rfl ?_
 rintro _ w2 ⟨B4, rfl, NB4⟩
 have eB4 := NB4.at_
 have zB4 := NB4.size
 replace hW := hW.up NB4.up
 replace hB2 := hB2.up NB4.up
 have hB4 := NB4.blk
 refine LW.C (LW.S (CW.region ?_))
 refine LW.pp (.fA 1 underlying24 rfl sizeOf22 rfl) ?_
 refine LW.pp (.ld isAgg22 rfl (hB2.cell h1)) ?_
 refine LW.M rfl ?_
 refine LW.K (eC (.cons (.t rfl) (.cons (.const _) (.cons (.t rfl) .nil))) (en83)) rfl (rFind_any ad cp b.Measures 0 id _ (Els.up hE0 hW) cQ hl) ?_
 rintro _ w3 ⟨rfl, uw3⟩
 have zw3 := uw3.size
 replace hW := hW.up uw3
 replace hB2 := hB2.up uw3
 replace hB4 := hB4.up uw3
 refine LW.pp (.extract (.t rfl) rfl) (LW.pp (.extract (.t rfl) rfl) ?_)
 refine LW.E (.storeA sizeOf50 rfl (.t rfl) (.t rfl) eQ hB4 rfl) ?_
 intro w4 Nw4
 have zw4 := Nw4.size
 replace hW := hW.sto Nw4.sto oQ
 replace hB2 := hB2.sto Nw4.sto oQ
 replace hB4 := Nw4.blk
 replace hB4 : Blk w4 B4 ((measB b id).getD zeroF).cells _ := hB4
 refine LW.A rfl (LW.T (CW.ret ?_))
 refine KW.retAT rfl rfl rfl isAgg50 sizeOf50 rfl (hB4).agg ⟨_, rfl, ?_⟩
 exact ⟨rfl, hW⟩
set_option maxHeartbeats 2000000 in
theorem rTarget_any (bc : Array Go.Value) (b : Base) (r t : Int) (w : World) (hC : BaseC w bc b) (hl : b.Targets.length ≤ 100000) : Ret Tryz.prog 128 #[.agg bc, vi r, vi t] w fun r0 w' => r0 = .tuple #[vi (tgF r t b.Targets).1.Value, .bool (tgF r t b.Targets).2] ∧ Up w w' := by
 have hW := Up.refl w
 obtain ⟨w0, rfl⟩ : ∃ w0, w0 = w := ⟨_, rfl⟩
 obtain ⟨v9, h9, hr9⟩ := hC.at9
 obtain ⟨ad, cp, rfl, hE0⟩ := hr9
 refine cS (n := 57) (m := 9) func128 rfl rfl rfl ?_
 refine CW.S ?_
 refine LW.rr (.boxA (.t rfl)) rfl ?_
 rintro _ w1 ⟨B3, rfl, NB3⟩
 have eB3 := NB3.at_
 have zB3 := NB3.size
 replace hW := hW.up NB3.up
 have hB3 := NB3.blk
 refine LW.C (LW.C (LW.S (CW.region (LW.C (LW.S (CW.S (LW.C (LW.nil ?_))))))))
 refine KW.then (CW.block ?_)
 refine CW.loopB (σ := Nat × Option Nat) (fun s w => (s.1 ≤ b.Targets.length) ∧ (TInv r t b.Targets s.1 s.2) ∧ (Up w0 w) ∧ (Blk w B3 bc 24)) (fun s => [(9, .eq (vi (s.1 : Int))), (8, .eq (vi (bestI s.2)))]) ([(1, .eq _), (2, .eq _), (3, .eq _), (6, .eq _), (7, .eq _)]) (fun s => b.Targets.length - s.1) (0, none) ?_ ⟨rfl, rfl, rfl, rfl, rfl, rfl, rfl, trivial⟩ ?_
 ·exact ⟨Nat.zero_le _, rfl, hW, hB3⟩
 rintro ⟨i, m⟩ w2 ⟨hi, hT, hW, hB3⟩
 dsimp only at hi hT
 change CW _ _ _ _ _ _ _ ([(9, .eq (vi (i : Int))), (8, .eq (vi (bestI m)))] ++ _) _
 refine CW.seq (CW.S (LW.M rfl ?_))
 refine LW.pp (.fA 9 underlying24 rfl sizeOf22 rfl) ?_
 refine LW.pp (.ld isAgg22 rfl (hB3.cell h9)) ?_
 refine LW.pp (.lenS underlying22 (.t rfl)) ?_
 refine LW.pp (.lss (.t rfl) (.t rfl)) ?_
 refine LW.T ?_
 refine CW.cond (.t rfl) (fun h15 => ?_) (fun h15 => ?_)
 ·replace h15 := dQ h15
  refine CW.skip (KW.then (CW.seq (CW.block (CW.seq ?_))))
  obtain ⟨x, hx⟩ := getElem?_of_lt (xs := b.Targets) (i := i) oQ
  obtain ⟨Bx, ox, ax, hcx⟩ := (Els.up hE0 hW) i x hx
  refine CW.region ?_
  refine LW.pp (.fA 9 underlying24 rfl sizeOf22 rfl) ?_
  refine LW.pp (.ld isAgg22 rfl (hB3.cell h9)) ?_
  refine LW.M rfl ?_
  refine LW.pp (.indexAddr' underlying22 sizeOf50 (.t rfl) (.t rfl) oQ ax) ?_
  refine LW.pp (.la isAgg50 sizeOf50 rfl (hcx)) ?_
  refine LW.rr (.allocA zeroValue50) rfl ?_
  rintro _ w3 ⟨B10, rfl, MB10⟩
  refine LW.E (.storeA sizeOf50 rfl (.t rfl) (.t rfl) eQ MB10.blk rfl) ?_
  intro w4 LB10
  have NB10 := MB10.set LB10
  clear LB10 MB10
  have eB10 := NB10.at_
  have zB10 := NB10.size
  replace hW := hW.up NB10.up
  replace hB3 := hB3.up NB10.up
  have hB10 := NB10.blk
  refine LW.S ?_
  cases hq6 : decide (x.Recipe = r) with
  | false =>
   have hrc := hq6
   have hno : ∀ s : Fact × Bool, s = tgF r t (b.Targets.take i) → (decide (x.Recipe = r) && decide (x.Time ≤ t) && (!s.2 || decide (s.1.Time < x.Time))) = false := fun s _ => by rw [hrc]; rfl
   cases m with
   | none =>
    refine CW.draws kQ kQ rfl rfl ?_
    refine HW.pp (.fA 14 underlying50 rfl sizeOf3 rfl) ?_
    refine HW.pp (.ld isAgg3 rfl (hB10.celln rfl)) ?_
    refine HW.pp (.move (.t rfl)) ?_
    refine HW.pp (.fa (PEv.eql (.t rfl) (.t rfl)) (hrc)) ?_
    refine HW.pp (.move (.t rfl)) ?_
    refine HW.N ?_
    refine HW.N ?_
    refine HW.N ?_
    refine HW.N ?_
    refine HW.pp (.pick_and (b := false) (.t rfl) (fun hp => absurd (show false = true from hp) cQ)) ?_
    refine HW.pp (.move (.t rfl)) ?_
    refine HW.N ?_
    refine HW.N ?_
    refine HW.N ?_
    refine HW.no' rfl rfl rfl rfl rfl ?_
    refine HW.no' rfl rfl rfl rfl rfl ?_
    refine HW.no' rfl rfl rfl rfl rfl ?_
    refine HW.no' rfl rfl rfl rfl rfl ?_
    refine HW.no' rfl rfl rfl rfl rfl ?_
    refine HW.no' rfl rfl rfl rfl rfl ?_
    refine HW.no' rfl rfl rfl rfl rfl ?_
    refine HW.no' rfl rfl rfl rfl rfl ?_
    refine HW.no' rfl rfl rfl rfl rfl ?_
    refine HW.N ?_
    refine HW.pp (.pick_and (b := false) (.t rfl) (fun hp => absurd (show false = true from hp) cQ)) ?_
    refine HW.nil ?_
    intro w5 uw5
    have zw5 := uw5.size
    replace hW := hW.up uw5
    replace hB3 := hB3.up uw5
    replace hB10 := hB10.up uw5
    refine KW.then ?_
    refine CW.cond_false (.t rfl) ?_
    refine CW.skip (KW.inBlock (KW.then (CW.region (LW.M rfl ?_))))
    refine LW.pp (.inc (.t rfl) oQ) ?_
    refine LW.A rfl (LW.nil (KW.round ?_))
    first | exact ⟨(i + 1, none), ⟨by show i + 1 ≤ _; omega, TInv.skip hT hx hno, hW, hB3⟩, ⟨rfl, rfl, rfl, rfl, rfl, rfl, rfl, trivial⟩, by show b.Targets.length - (i + 1) < b.Targets.length - i; omega⟩ | exact ⟨(i + 1, some q), ⟨by show i + 1 ≤ _; omega, TInv.skip (m := some q) ⟨y, hyq, hty⟩ hx hno, hW, hB3⟩, ⟨rfl, rfl, rfl, rfl, rfl, rfl, rfl, trivial⟩, by show b.Targets.length - (i + 1) < b.Targets.length - i; omega⟩
   | some q =>
    obtain ⟨y, hyq, hty⟩ := hT
    have hql := (List.getElem?_eq_some_iff.1 hyq).1
    obtain ⟨By, oy, ay, hcy⟩ := (Els.up hE0 hW) q y hyq
    refine CW.draws kQ kQ rfl rfl ?_
    refine HW.pp (.fA 14 underlying50 rfl sizeOf3 rfl) ?_
    refine HW.pp (.ld isAgg3 rfl (hB10.celln rfl)) ?_
    refine HW.pp (.move (.t rfl)) ?_
    refine HW.pp (.fa (PEv.eql (.t rfl) (.t rfl)) (hrc)) ?_
    refine HW.pp (.move (.t rfl)) ?_
    refine HW.N ?_
    refine HW.N ?_
    refine HW.N ?_
    refine HW.N ?_
    refine HW.pp (.pick_and (b := false) (.t rfl) (fun hp => absurd (show false = true from hp) cQ)) ?_
    refine HW.pp (.move (.t rfl)) ?_
    refine HW.N ?_
    refine HW.N ?_
    refine HW.N ?_
    refine HW.no' rfl rfl rfl rfl rfl ?_
    refine HW.no' rfl rfl rfl rfl rfl ?_
    refine HW.no' rfl rfl rfl rfl rfl ?_
    refine HW.no' rfl rfl rfl rfl rfl ?_
    refine HW.no' rfl rfl rfl rfl rfl ?_
    refine HW.no' rfl rfl rfl rfl rfl ?_
    refine HW.no' rfl rfl rfl rfl rfl ?_
    refine HW.no' rfl rfl rfl rfl rfl ?_
    refine HW.no' rfl rfl rfl rfl rfl ?_
    refine HW.N ?_
    refine HW.pp (.pick_and (b := false) (.t rfl) (fun hp => absurd (show false = true from hp) cQ)) ?_
    refine HW.nil ?_
    intro w6 uw6
    have zw6 := uw6.size
    replace hW := hW.up uw6
    replace hB3 := hB3.up uw6
    replace hB10 := hB10.up uw6
    refine KW.then ?_
    refine CW.cond_false (.t rfl) ?_
    refine CW.skip (KW.inBlock (KW.then (CW.region (LW.M rfl ?_))))
    refine LW.pp (.inc (.t rfl) oQ) ?_
    refine LW.A rfl (LW.nil (KW.round ?_))
    first | exact ⟨(i + 1, none), ⟨by show i + 1 ≤ _; omega, TInv.skip hT hx hno, hW, hB3⟩, ⟨rfl, rfl, rfl, rfl, rfl, rfl, rfl, trivial⟩, by show b.Targets.length - (i + 1) < b.Targets.length - i; omega⟩ | exact ⟨(i + 1, some q), ⟨by show i + 1 ≤ _; omega, TInv.skip (m := some q) ⟨y, hyq, hty⟩ hx hno, hW, hB3⟩, ⟨rfl, rfl, rfl, rfl, rfl, rfl, rfl, trivial⟩, by show b.Targets.length - (i + 1) < b.Targets.length - i; omega⟩
  | true =>
   have hrc := hq6
   cases hq6 : decide (x.Time ≤ t) with
   | false =>
    have htc := hq6
    have hno : ∀ s : Fact × Bool, s = tgF r t (b.Targets.take i) → (decide (x.Recipe = r) && decide (x.Time ≤ t) && (!s.2 || decide (s.1.Time < x.Time))) = false := fun s _ => by rw [htc]; simp
    cases m with
    | none =>
     refine CW.draws kQ kQ rfl rfl ?_
     refine HW.pp (.fA 14 underlying50 rfl sizeOf3 rfl) ?_
     refine HW.pp (.ld isAgg3 rfl (hB10.celln rfl)) ?_
     refine HW.pp (.move (.t rfl)) ?_
     refine HW.pp (.tr (PEv.eql (.t rfl) (.t rfl)) (hrc)) ?_
     refine HW.pp (.move (.t rfl)) ?_
     refine HW.yy (.fA 5 underlying50 rfl sizeOf3 rfl) ?_
     refine HW.yy (.ld isAgg3 rfl (hB10.celln rfl)) ?_
     refine HW.yy (.move (.t rfl)) ?_
     refine HW.yy (.fa (PEv.leq (.t rfl) (.t rfl)) (htc)) ?_
     refine HW.pp (.pick_and (.t rfl) (fun hp => (by first | exact .const _ | exact .tmp rfl | exact .cond rfl (by first | assumption | simp_all)))) ?_
     refine HW.pp (.move (.t rfl)) ?_
     refine HW.N ?_
     refine HW.N ?_
     refine HW.N ?_
     refine HW.no' rfl rfl rfl rfl rfl ?_
     refine HW.no' rfl rfl rfl rfl rfl ?_
     refine HW.no' rfl rfl rfl rfl rfl ?_
     refine HW.no' rfl rfl rfl rfl rfl ?_
     refine HW.no' rfl rfl rfl rfl rfl ?_
     refine HW.no' rfl rfl rfl rfl rfl ?_
     refine HW.no' rfl rfl rfl rfl rfl ?_
     refine HW.no' rfl rfl rfl rfl rfl ?_
     refine HW.no' rfl rfl rfl rfl rfl ?_
     refine HW.N ?_
     refine HW.pp (.pick_and (b := false) (.t rfl) (fun hp => absurd (show false = true from hp) cQ)) ?_
     refine HW.nil ?_
     intro w7 uw7
     have zw7 := uw7.size
     replace hW := hW.up uw7
     replace hB3 := hB3.up uw7
     replace hB10 := hB10.up uw7
     refine KW.then ?_
     refine CW.cond_false (.t rfl) ?_
     refine CW.skip (KW.inBlock (KW.then (CW.region (LW.M rfl ?_))))
     refine LW.pp (.inc (.t rfl) oQ) ?_
     refine LW.A rfl (LW.nil (KW.round ?_))
     first | exact ⟨(i + 1, none), ⟨by show i + 1 ≤ _; omega, TInv.skip hT hx hno, hW, hB3⟩, ⟨rfl, rfl, rfl, rfl, rfl, rfl, rfl, trivial⟩, by show b.Targets.length - (i + 1) < b.Targets.length - i; omega⟩ | exact ⟨(i + 1, some q), ⟨by show i + 1 ≤ _; omega, TInv.skip (m := some q) ⟨y, hyq, hty⟩ hx hno, hW, hB3⟩, ⟨rfl, rfl, rfl, rfl, rfl, rfl, rfl, trivial⟩, by show b.Targets.length - (i + 1) < b.Targets.length - i; omega⟩
    | some q =>
     obtain ⟨y, hyq, hty⟩ := hT
     have hql := (List.getElem?_eq_some_iff.1 hyq).1
     obtain ⟨By, oy, ay, hcy⟩ := (Els.up hE0 hW) q y hyq
     refine CW.draws kQ kQ rfl rfl ?_
     refine HW.pp (.fA 14 underlying50 rfl sizeOf3 rfl) ?_
     refine HW.pp (.ld isAgg3 rfl (hB10.celln rfl)) ?_
     refine HW.pp (.move (.t rfl)) ?_
     refine HW.pp (.tr (PEv.eql (.t rfl) (.t rfl)) (hrc)) ?_
     refine HW.pp (.move (.t rfl)) ?_
     refine HW.yy (.fA 5 underlying50 rfl sizeOf3 rfl) ?_
     refine HW.yy (.ld isAgg3 rfl (hB10.celln rfl)) ?_
     refine HW.yy (.move (.t rfl)) ?_
     refine HW.yy (.fa (PEv.leq (.t rfl) (.t rfl)) (htc)) ?_
     refine HW.pp (.pick_and (.t rfl) (fun hp => (by first | exact .const _ | exact .tmp rfl | exact .cond rfl (by first | assumption | simp_all)))) ?_
     refine HW.pp (.move (.t rfl)) ?_
     refine HW.N ?_
     refine HW.N ?_
     refine HW.N ?_
     refine HW.no' rfl rfl rfl rfl rfl ?_
     refine HW.no' rfl rfl rfl rfl rfl ?_
     refine HW.no' rfl rfl rfl rfl rfl ?_
     refine HW.no' rfl rfl rfl rfl rfl ?_
     refine HW.no' rfl rfl rfl rfl rfl ?_
     refine HW.no' rfl rfl rfl rfl rfl ?_
     refine HW.no' rfl rfl rfl rfl rfl ?_
     refine HW.no' rfl rfl rfl rfl rfl ?_
     refine HW.no' rfl rfl rfl rfl rfl ?_
     refine HW.N ?_
     refine HW.pp (.pick_and (b := false) (.t rfl) (fun hp => absurd (show false = true from hp) cQ)) ?_
     refine HW.nil ?_
     intro w8 uw8
     have zw8 := uw8.size
     replace hW := hW.up uw8
     replace hB3 := hB3.up uw8
     replace hB10 := hB10.up uw8
     refine KW.then ?_
     refine CW.cond_false (.t rfl) ?_
     refine CW.skip (KW.inBlock (KW.then (CW.region (LW.M rfl ?_))))
     refine LW.pp (.inc (.t rfl) oQ) ?_
     refine LW.A rfl (LW.nil (KW.round ?_))
     first | exact ⟨(i + 1, none), ⟨by show i + 1 ≤ _; omega, TInv.skip hT hx hno, hW, hB3⟩, ⟨rfl, rfl, rfl, rfl, rfl, rfl, rfl, trivial⟩, by show b.Targets.length - (i + 1) < b.Targets.length - i; omega⟩ | exact ⟨(i + 1, some q), ⟨by show i + 1 ≤ _; omega, TInv.skip (m := some q) ⟨y, hyq, hty⟩ hx hno, hW, hB3⟩, ⟨rfl, rfl, rfl, rfl, rfl, rfl, rfl, trivial⟩, by show b.Targets.length - (i + 1) < b.Targets.length - i; omega⟩
   | true =>
    have htc := hq6
    cases m with
    | none =>
     have hyes : ∀ s : Fact × Bool, s = tgF r t (b.Targets.take i) → (decide (x.Recipe = r) && decide (x.Time ≤ t) && (!s.2 || decide (s.1.Time < x.Time))) = true := fun s e => by rw [e, show tgF r t (b.Targets.take i) = (zeroF, false) from hT, hrc, htc]; rfl
     refine CW.draws kQ kQ rfl rfl ?_
     refine HW.pp (.fA 14 underlying50 rfl sizeOf3 rfl) ?_
     refine HW.pp (.ld isAgg3 rfl (hB10.celln rfl)) ?_
     refine HW.pp (.move (.t rfl)) ?_
     refine HW.pp (.tr (PEv.eql (.t rfl) (.t rfl)) (hrc)) ?_
     refine HW.pp (.move (.t rfl)) ?_
     refine HW.yy (.fA 5 underlying50 rfl sizeOf3 rfl) ?_
     refine HW.yy (.ld isAgg3 rfl (hB10.celln rfl)) ?_
     refine HW.yy (.move (.t rfl)) ?_
     refine HW.yy (.tr (PEv.leq (.t rfl) (.t rfl)) (htc)) ?_
     refine HW.pp (.pick_and (.t rfl) (fun hp => (by first | exact .const _ | exact .tmp rfl | exact .cond rfl (by first | assumption | simp_all)))) ?_
     refine HW.pp (.move (.t rfl)) ?_
     refine HW.yy (.move (.t rfl)) ?_
     refine HW.yy (.tr (PEv.lss (.t rfl) (.const _)) (decide_eq_true cQ)) ?_
     refine HW.yy (.move (.t rfl)) ?_
     refine HW.N ?_
     refine HW.N ?_
     refine HW.N ?_
     refine HW.N ?_
     refine HW.N ?_
     refine HW.N ?_
     refine HW.N ?_
     refine HW.N ?_
     refine HW.N ?_
     refine HW.yy (.pick_or (b := false) (.t rfl) (fun hp => absurd (show true = false from hp) cQ)) ?_
     refine HW.pp (.pick_and (.t rfl) (fun hp => (by first | exact .const _ | exact .tmp rfl | exact .cond rfl (by first | assumption | simp_all)))) ?_
     refine HW.nil ?_
     intro w9 uw9
     have zw9 := uw9.size
     replace hW := hW.up uw9
     replace hB3 := hB3.up uw9
     replace hB10 := hB10.up uw9
     refine KW.then ?_
     refine CW.cond_true (.t rfl) ?_
     refine CW.region (LW.M rfl (LW.A rfl (LW.nil (KW.inBlock (KW.then (CW.region (LW.M rfl ?_)))))))
     refine LW.pp (.inc (.t rfl) oQ) ?_
     refine LW.A rfl (LW.nil (KW.round ?_))
     exact ⟨(i + 1, some i), ⟨by show i + 1 ≤ _; omega, TInv.put hx hyes, hW, hB3⟩, ⟨rfl, rfl, rfl, rfl, rfl, rfl, rfl, trivial⟩, by show b.Targets.length - (i + 1) < b.Targets.length - i; omega⟩
    | some q =>
     obtain ⟨y, hyq, hty⟩ := hT
     have hql := (List.getElem?_eq_some_iff.1 hyq).1
     obtain ⟨By, oy, ay, hcy⟩ := (Els.up hE0 hW) q y hyq
     refine CW.draws kQ kQ rfl rfl ?_
     refine HW.pp (.fA 14 underlying50 rfl sizeOf3 rfl) ?_
     refine HW.pp (.ld isAgg3 rfl (hB10.celln rfl)) ?_
     refine HW.pp (.move (.t rfl)) ?_
     refine HW.pp (.tr (PEv.eql (.t rfl) (.t rfl)) (hrc)) ?_
     refine HW.pp (.move (.t rfl)) ?_
     refine HW.yy (.fA 5 underlying50 rfl sizeOf3 rfl) ?_
     refine HW.yy (.ld isAgg3 rfl (hB10.celln rfl)) ?_
     refine HW.yy (.move (.t rfl)) ?_
     refine HW.yy (.tr (PEv.leq (.t rfl) (.t rfl)) (htc)) ?_
     refine HW.pp (.pick_and (.t rfl) (fun hp => (by first | exact .const _ | exact .tmp rfl | exact .cond rfl (by first | assumption | simp_all)))) ?_
     refine HW.pp (.move (.t rfl)) ?_
     refine HW.yy (.move (.t rfl)) ?_
     refine HW.yy (.fa (PEv.lss (.t rfl) (.const _)) (decide_eq_false (by show ¬ ((q : Int) < 0); omega))) ?_
     refine HW.yy (.move (.t rfl)) ?_
     refine HW.yy (.fA 5 underlying50 rfl sizeOf3 rfl) ?_
     refine HW.yy (.ld isAgg3 rfl (hB10.celln rfl)) ?_
     refine HW.yy (.fA 9 underlying24 rfl sizeOf22 rfl) ?_
     refine HW.yy (.ld isAgg22 rfl (hB3.cell h9)) ?_
     refine HW.yy (.move (.t rfl)) ?_
     refine HW.yy (.indexAddr' underlying22 sizeOf50 (.t rfl) (.t rfl) oQ ay) ?_
     refine HW.yy (.fA 5 underlying50 rfl sizeOf3 rfl) ?_
     refine HW.yy (.ld isAgg3 rfl (hcy.nth (j := 5) rfl)) ?_
     refine HW.yy (.gtr (.t rfl) (.t rfl)) ?_
     refine HW.yy (.pick_or (.t rfl) (fun hp => (by first | exact .const _ | exact .tmp rfl | exact .cond rfl (by first | assumption | simp_all)))) ?_
     refine HW.pp (.pick_and (.t rfl) (fun hp => (by first | exact .const _ | exact .tmp rfl | exact .cond rfl (by first | assumption | simp_all)))) ?_
     refine HW.nil ?_
     intro w10 uw10
     have zw10 := uw10.size
     replace hW := hW.up uw10
     replace hB3 := hB3.up uw10
     replace hB10 := hB10.up uw10
     refine KW.then ?_
     refine CW.cond (.t rfl) (fun h47 => ?_) (fun h47 => ?_)
     ·replace h47 := dQ h47
      have hyes : ∀ s : Fact × Bool, s = tgF r t (b.Targets.take i) → (decide (x.Recipe = r) && decide (x.Time ≤ t) && (!s.2 || decide (s.1.Time < x.Time))) = true := fun s e => by rw [e, hty, hrc, htc]; simpa using h47
      refine CW.region (LW.M rfl (LW.A rfl (LW.nil (KW.inBlock (KW.then (CW.region (LW.M rfl ?_)))))))
      refine LW.pp (.inc (.t rfl) oQ) ?_
      refine LW.A rfl (LW.nil (KW.round ?_))
      exact ⟨(i + 1, some i), ⟨by show i + 1 ≤ _; omega, TInv.put hx hyes, hW, hB3⟩, ⟨rfl, rfl, rfl, rfl, rfl, rfl, rfl, trivial⟩, by show b.Targets.length - (i + 1) < b.Targets.length - i; omega⟩
     replace h47 := dQ h47
     have hno : ∀ s : Fact × Bool, s = tgF r t (b.Targets.take i) → (decide (x.Recipe = r) && decide (x.Time ≤ t) && (!s.2 || decide (s.1.Time < x.Time))) = false := fun s e => by rw [e, hty, hrc, htc]; simpa using h47
     refine CW.skip (KW.inBlock (KW.then (CW.region (LW.M rfl ?_))))
     refine LW.pp (.inc (.t rfl) oQ) ?_
     refine LW.A rfl (LW.nil (KW.round ?_))
     first | exact ⟨(i + 1, none), ⟨by show i + 1 ≤ _; omega, TInv.skip hT hx hno, hW, hB3⟩, ⟨rfl, rfl, rfl, rfl, rfl, rfl, rfl, trivial⟩, by show b.Targets.length - (i + 1) < b.Targets.length - i; omega⟩ | exact ⟨(i + 1, some q), ⟨by show i + 1 ≤ _; omega, TInv.skip (m := some q) ⟨y, hyq, hty⟩ hx hno, hW, hB3⟩, ⟨rfl, rfl, rfl, rfl, rfl, rfl, rfl, trivial⟩, by show b.Targets.length - (i + 1) < b.Targets.length - i; omega⟩
 replace h15 := dQ h15
 have hie : i = b.Targets.length := by omega
 rw [hie] at hT
 unfold TInv at hT
 rw [List.take_length] at hT
 refine CW.exit (KW.then_exit (KW.then_exit (KW.block_hit (KW.then (CW.seq (CW.seq ?_))))))
 cases m with
 | none =>
  refine CW.region (LW.M rfl ?_)
  refine LW.pp (.tr (PEv.lss (.t rfl) (.const _)) (decide_eq_true cQ)) ?_
  refine LW.T ?_
  refine CW.cond_true (.t rfl) ?_
  refine CW.S (LW.C (LW.C (LW.T (CW.ret (KW.then_ret ?_)))))
  refine KW.ret2 rfl rfl rfl ⟨_, rfl, ?_⟩
  first | (rw [hT]; exact ⟨rfl, hW⟩) | (rw [hty]; exact ⟨rfl, hW⟩)
 | some q =>
  obtain ⟨y, hyq, hty⟩ := hT
  have hql := (List.getElem?_eq_some_iff.1 hyq).1
  obtain ⟨By, oy, ay, hcy⟩ := (Els.up hE0 hW) q y hyq
  refine CW.region (LW.M rfl ?_)
  refine LW.pp (.fa (PEv.lss (.t rfl) (.const _)) (decide_eq_false (by show ¬ ((q : Int) < 0); omega))) ?_
  refine LW.T ?_
  refine CW.cond_false (.t rfl) ?_
  refine CW.skip (KW.then (CW.S ?_))
  refine LW.pp (.fA 9 underlying24 rfl sizeOf22 rfl) ?_
  refine LW.pp (.ld isAgg22 rfl (hB3.cell h9)) ?_
  refine LW.M rfl ?_
  refine LW.pp (.indexAddr' underlying22 sizeOf50 (.t rfl) (.t rfl) oQ ay) ?_
  refine LW.pp (.fA 16 underlying50 rfl sizeOf3 rfl) ?_
  refine LW.pp (.ld isAgg3 rfl (hcy.nth (j := 16) rfl)) ?_
  refine LW.A rfl (LW.C (LW.T (CW.ret ?_)))
  refine KW.ret2 rfl rfl rfl ⟨_, rfl, ?_⟩
  first | (rw [hT]; exact ⟨rfl, hW⟩) | (rw [hty]; exact ⟨rfl, hW⟩)
set_option maxHeartbeats 4000000 in
theorem rRuns_any (bc : Array Go.Value) (b : Base) (t c : Int) (w : World) (hC : BaseC w bc b) (hl : b.Processes.length ≤ 100000) : Ret Tryz.prog 75 #[.agg bc, vi t, vi c] w fun r w' => OwnS w' 0 50 19 Fact.cells r (runsB b t c) ∧ Up w w' := by
 have hW := Up.refl w
 obtain ⟨w0, rfl⟩ : ∃ w0, w0 = w := ⟨_, rfl⟩
 obtain ⟨v0, h0, hr0⟩ := hC.at0
 obtain ⟨ad, cp, rfl, hE0⟩ := hr0
 refine cS (n := 84) (m := 9) func75 rfl rfl rfl ?_
 refine CW.S ?_
 refine LW.rr (.boxA (.t rfl)) rfl ?_
 rintro _ w1 ⟨B3, rfl, NB3⟩
 have eB3 := NB3.at_
 have zB3 := NB3.size
 replace hW := hW.up NB3.up
 have hB3 := NB3.blk
 refine LW.C (LW.S (CW.region (LW.C (LW.S (CW.S (LW.C (LW.T ?_)))))))
 refine CW.block ?_
 refine CW.loopB (σ := Nat × Go.Value) (fun s w => (s.1 ≤ b.Processes.length) ∧ (Up w0 w) ∧ (Blk w B3 bc 24) ∧ (OwnS w 0 50 19 Fact.cells s.2 (runL b.Processes t c s.1))) (fun s => [(8, .eq (vi (s.1 : Int))), (7, .eq (s.2))]) ([(1, .eq _), (2, .eq _), (3, .eq _), (6, .eq _)]) (fun s => b.Processes.length - s.1) (0, .slice none 0 0) ?_ ⟨rfl, rfl, rfl, rfl, rfl, rfl, trivial⟩ ?_
 ·exact ⟨Nat.zero_le _, hW, hB3, OwnS.nil _ _ _ _ _⟩
 rintro ⟨i, v⟩ w2 ⟨hi, hW, hB3, hO⟩
 dsimp only at hi hO
 change CW _ _ _ _ _ _ _ ([(8, .eq (vi (i : Int))), (7, .eq (v))] ++ _) _
 refine CW.seq (CW.S (LW.M rfl ?_))
 refine LW.pp (.fA 0 underlying24 rfl sizeOf22 rfl) ?_
 refine LW.pp (.ld isAgg22 rfl (hB3.cell h0)) ?_
 refine LW.pp (.lenS underlying22 (.t rfl)) ?_
 refine LW.pp (.lss (.t rfl) (.t rfl)) ?_
 refine LW.T ?_
 refine CW.cond (.t rfl) (fun h15 => ?_) (fun h15 => ?_)
 ·replace h15 := dQ h15
  refine CW.skip (KW.then (CW.seq (CW.block (CW.seq ?_))))
  obtain ⟨f, hf⟩ := getElem?_of_lt (xs := b.Processes) (i := i) oQ
  obtain ⟨Bx, ox, ax, hcx⟩ := (Els.up hE0 hW) i f hf
  refine CW.region ?_
  refine LW.pp (.fA 0 underlying24 rfl sizeOf22 rfl) ?_
  refine LW.pp (.ld isAgg22 rfl (hB3.cell h0)) ?_
  refine LW.M rfl ?_
  refine LW.pp (.indexAddr' underlying22 sizeOf50 (.t rfl) (.t rfl) oQ ax) ?_
  refine LW.pp (.la isAgg50 sizeOf50 rfl (hcx)) ?_
  refine LW.rr (.allocA zeroValue50) rfl ?_
  rintro _ w3 ⟨B9, rfl, MB9⟩
  refine LW.E (.storeA sizeOf50 rfl (.t rfl) (.t rfl) eQ MB9.blk rfl) ?_
  intro w4 LB9
  have NB9 := MB9.set LB9
  clear LB9 MB9
  have eB9 := NB9.at_
  have zB9 := NB9.size
  replace hW := hW.up NB9.up
  replace hB3 := hB3.up NB9.up
  replace hO := hO.up NB9.up
  have hB9 := NB9.blk
  refine LW.S (CW.S ?_)
  refine LW.pp (.fA 11 underlying50 rfl sizeOf3 rfl) ?_
  refine LW.pp (.ld isAgg3 rfl (hB9.celln rfl)) ?_
  refine LW.M rfl ?_
  refine LW.pp (.neq (.t rfl) (.t rfl)) ?_
  refine LW.M rfl ?_
  refine LW.g rfl rfl rfl rfl rfl rfl rfl (fun hc => PEv.fA 12 underlying50 rfl sizeOf3 rfl) ?_
  refine LW.g rfl rfl rfl rfl rfl rfl rfl (fun hc => PEv.load isAgg3 vQ (hB9.celln rfl)) ?_
  refine LW.g rfl rfl rfl rfl rfl rfl rfl (fun hc => PEv.move (.t rfl)) ?_
  refine LW.g rfl rfl rfl rfl rfl rfl rfl (fun hc => PEv.neq vQ vQ) ?_
  refine LW.pp (.pick_or (.t rfl) (fun hp => (by first | exact .const _ | exact .tmp rfl | exact .cond rfl (by first | assumption | simp_all)))) ?_
  refine LW.T ?_
  refine CW.cond (.t rfl) (fun h32 => ?_) (fun h32 => ?_)
  ·replace h32 := dQ h32
   have hrn : runP t c f = false := by unfold runP; rw [← Bool.not_eq_true]; simp at h32 ⊢; omega
   refine CW.exit (KW.then_exit (KW.block_hit (KW.then (CW.region (LW.M rfl ?_)))))
   refine LW.pp (.inc (.t rfl) oQ) ?_
   refine LW.A rfl (LW.nil (KW.round ?_))
   exact ⟨(i + 1, v), ⟨by show i + 1 ≤ _; omega, hW, hB3, by show OwnS _ _ _ _ _ v _; rw [runL_no hf hrn]; exact hO⟩, ⟨rfl, rfl, rfl, rfl, rfl, rfl, trivial⟩, by show b.Processes.length - (i + 1) < b.Processes.length - i; omega⟩
  replace h32 := dQ h32
  have hrp : runP t c f = true := by unfold runP; simp at h32 ⊢; omega
  refine CW.skip (KW.then (CW.seq ?_))
  obtain ⟨adv, cpv, rfl, hEv⟩ := hO.sl (fun _ => rfl)
  have hrl := runL_len b.Processes t c i
  have hcp := own_cap hO
  refine CW.region (LW.M rfl ?_)
  refine LW.pp (.lenS underlying22 (.t rfl)) ?_
  refine LW.A rfl (LW.S (CW.block ?_))
  refine CW.loopB (σ := Nat) (fun s w => (s ≤ (runL b.Processes t c i).length) ∧ (∀ y ∈ (runL b.Processes t c i).drop s, ltK (runK f) (runK y) = true) ∧ (Up w0 w) ∧ (Blk w B3 bc 24) ∧ (Els w adv 19 Fact.cells (runL b.Processes t c i)) ∧ (Blk w B9 f.cells 50)) (fun s => [(10, .eq (vi (s : Int)))]) ([(1, .eq _), (2, .eq _), (3, .eq _), (6, .eq _), (7, .eq _), (8, .eq _), (9, .eq _)]) (fun s => s) (runL b.Processes t c i).length ?_ ⟨rfl, rfl, rfl, rfl, rfl, rfl, rfl, rfl, trivial⟩ ?_
  ·exact ⟨Nat.le_refl _, (fun y hy => by rw [List.drop_length] at hy; cases hy), hW, hB3, hEv, hB9⟩
  rintro k w5 ⟨hk, hd, hW, hB3, hEv, hB9⟩
  refine CW.seq (CW.seq ?_)
  cases hq8 : decide (0 < k) with
  | false =>
   have hk0 := of_decide_eq_false hq8
   refine CW.draws kQ kQ rfl rfl ?_
   refine HW.pp (.move (.t rfl)) ?_
   refine HW.pp (.fa (PEv.gtr (.t rfl) (.const _)) (decide_eq_false oQ)) ?_
   refine HW.pp (.move (.t rfl)) ?_
   refine HW.N ?_
   refine HW.N ?_
   refine HW.N ?_
   refine HW.N ?_
   refine HW.N ?_
   refine HW.N ?_
   refine HW.N ?_
   refine HW.N ?_
   refine HW.N ?_
   refine HW.N ?_
   refine HW.no' rfl rfl rfl rfl rfl ?_
   refine HW.no' rfl rfl rfl rfl rfl ?_
   refine HW.no' rfl rfl rfl rfl rfl ?_
   refine HW.no' rfl rfl rfl rfl rfl ?_
   refine HW.no' rfl rfl rfl rfl rfl ?_
   refine HW.no' rfl rfl rfl rfl rfl ?_
   refine HW.no' rfl rfl rfl rfl rfl ?_
   refine HW.no' rfl rfl rfl rfl rfl ?_
   refine HW.no' rfl rfl rfl rfl rfl ?_
   refine HW.no' rfl rfl rfl rfl rfl ?_
   refine HW.no' rfl rfl rfl rfl rfl ?_
   refine HW.no' rfl rfl rfl rfl rfl ?_
   refine HW.no' rfl rfl rfl rfl rfl ?_
   refine HW.no' rfl rfl rfl rfl rfl ?_
   refine HW.no' rfl rfl rfl rfl rfl ?_
   refine HW.no' rfl rfl rfl rfl rfl ?_
   refine HW.no' rfl rfl rfl rfl rfl ?_
   refine HW.no' rfl rfl rfl rfl rfl ?_
   refine HW.no' rfl rfl rfl rfl rfl ?_
   refine HW.no' rfl rfl rfl rfl rfl ?_
   refine HW.N ?_
   refine HW.pp (.pick_and (b := false) (.t rfl) (fun hp => absurd (show false = true from hp) cQ)) ?_
   refine HW.nil ?_
   intro w6 uw6
   have zw6 := uw6.size
   replace hW := hW.up uw6
   replace hB3 := hB3.up uw6
   replace hEv := hEv.up uw6
   replace hB9 := hB9.up uw6
   refine KW.then ?_
   refine CW.cond_false (.t rfl) ?_
   refine CW.exit (KW.then_exit (KW.then_exit (KW.block_hit (KW.then ?_))))
   have hput : isPutR (runL b.Processes t c i) f k := ⟨hk, hd, by first | exact .inl oQ | exact .inr ⟨y, hy, hnl⟩⟩
   refine CW.free 11 [.eq (.slice adv (runL b.Processes t c i).length cpv), .eq (vi (k : Int)), .eq (vi (k : Int)), .eq (.slice adv ((runL b.Processes t c i).take k).length ((runL b.Processes t c i).take k).length), .eq (.agg f.cells), .pred fun v W => ∃ B, v = .slice (some ⟨B, 0, none⟩) [f].length [f].length ∧ Els W (some ⟨B, 0, none⟩) 19 Fact.cells [f], .eq (.slice adv (runL b.Processes t c i).length cpv), .eq (vi (k : Int)), .eq (.slice (if cpv = k then adv else adv.map (·.add (k * 19))) ((runL b.Processes t c i).length - k) (cpv - k)), .pred fun v W => Sl W v 19 Fact.cells ([f] ++ ((runL b.Processes t c i).drop k)), .pred fun v W => OwnS W 0 50 19 Fact.cells v (insAt (runL b.Processes t c i) f k)] [82] kQ rfl kQ kQ kQ kQ kQ kQ kQ ⟨PhU.eq _, PhU.eq _, PhU.eq _, PhU.eq _, PhU.eq _, PhU.pred fun _ _ _ h u => let ⟨B, e, hE⟩ := h; ⟨B, e, hE.up u⟩, PhU.eq _, PhU.eq _, PhU.eq _, PhU.pred fun _ _ _ h u => Sl.up h u, PhU.pred fun _ _ _ h u => OwnS.up h u, trivial⟩ ?_ ?_
   ·intro W hU0
    have hU := (Up.drew w6).trans hU0
    have hEW := hEv.up hU
    have hlk : ((runL b.Processes t c i).take k).length = k := by rw [List.length_take]; omega
    refine aC ⟨rfl, TU.p (.move (.t rfl)) rfl⟩ ?_
    refine aC ⟨rfl, TU.p (.move (.t rfl)) rfl⟩ ?_
    refine aC ⟨rfl, TU.p (.move (.t rfl)) rfl⟩ ?_
    refine aC ⟨rfl, TU.p (.val (v' := .slice adv ((runL b.Processes t c i).take k).length ((runL b.Processes t c i).take k).length) (PEv.slice3 underlying22 sizeOf50 (.t rfl) (.t rfl) (.t rfl) oQ) (by rw [hlk])) rfl⟩ ?_
    refine aC ⟨rfl, TU.p (.la isAgg50 sizeOf50 rfl ((hB9.up hU).agg)) rfl⟩ ?_
    refine aC ⟨rfl, TU.r (REv.buildSlice (xs := [f]) (enc := Fact.cells) (mk := fun f : Fact => .agg f.cells) underlying22 sizeOf50 zeroValue50 rfl (Nat.le_of_ble_eq_true rfl) (fun _ => rfl) (fun _ => rfl) (.cons (.t rfl) .nil) rfl) (fun v W' h => let ⟨B, cs, e, N, _, hE1⟩ := h; ⟨N.up, B, e, hE1⟩)⟩ ?_
    refine aC ⟨rfl, TU.p (.move (.t rfl)) rfl⟩ ?_
    refine aC ⟨rfl, TU.p (.move (.t rfl)) rfl⟩ ?_
    refine aC ⟨rfl, TU.p (.sliceFrom underlying22 sizeOf50 (.t rfl) (.t rfl) oQ) rfl⟩ ?_
    refine aC ⟨rfl, TU.open (d := 77) rfl fun v hv => by obtain ⟨B, rfl, hE5⟩ := hv; exact TU.r (REv.appendC (enc := Fact.cells) (k := 19) (bytes := 160) (i := Tryz.t50) (xs := [f]) (ys := ((runL b.Processes t c i).drop k)) underlying22 kQ rfl rfl rfl rfl cQ (fun _ => rfl) (.t rfl) (.t rfl) hE5 (Els.drop hEW hcp) (by simp [maxLen]; omega) (by simp; omega)) (fun _ _ h => ⟨h.1, h.2.1⟩)⟩ ?_
    refine aC ⟨rfl, TU.open (d := 81) rfl fun v hv => TU.r (REv.appendC (enc := Fact.cells) (k := 19) (bytes := 160) (i := Tryz.t50) (xs := ((runL b.Processes t c i).take k)) (ys := ([f] ++ ((runL b.Processes t c i).drop k))) underlying22 kQ rfl rfl rfl rfl cQ (fun _ => rfl) (.t rfl) (.t rfl) (Els.take hEW) hv (by simp [maxLen]; omega) (by simp; omega)) (fun _ _ h => ⟨h.1, (h.2.2 (by simp)).mono (Nat.zero_le _)⟩)⟩ ?_
    exact allL.nil
   intro w7 g hU0 hg
   have hU := (Up.drew w6).trans hU0
   have zw7 := hU.size
   replace hW := hW.up hU
   replace hB3 := hB3.up hU
   replace hEv := hEv.up hU
   replace hB9 := hB9.up hU
   have hO : OwnS w7 0 50 19 Fact.cells (g 82) (insAt (runL b.Processes t c i) f k) := hg 10 _ 82 cQ rfl rfl
   refine LW.A rfl (LW.nil (KW.inBlock (KW.then (CW.region (LW.M rfl ?_)))))
   refine LW.pp (.inc (.t rfl) oQ) ?_
   refine LW.A rfl (LW.nil (KW.round ?_))
   exact ⟨(i + 1, g 82), ⟨by show i + 1 ≤ _; omega, hW, hB3, by show OwnS _ _ _ _ _ (g 82) _; rw [runL_yes hf hrp hput]; exact hO⟩, ⟨rfl, rfl, rfl, rfl, rfl, rfl, trivial⟩, by show b.Processes.length - (i + 1) < b.Processes.length - i; omega⟩
  | true =>
   have hk0 := of_decide_eq_true hq8
   obtain ⟨y, hy⟩ := getElem?_of_lt (xs := (runL b.Processes t c i)) (i := k - 1) oQ
   obtain ⟨By, oy, ay, hcy⟩ := hEv (k - 1) y hy
   cases hq8 : decide (f.Time < y.Time) with
   | true =>
    have ht1 := hq8
    have hlt : ltK (runK f) (runK y) = true := by rw [ltK_run, ht1]; rfl
    refine CW.draws kQ kQ rfl rfl ?_
    refine HW.pp (.move (.t rfl)) ?_
    refine HW.pp (.tr (PEv.gtr (.t rfl) (.const _)) (decide_eq_true oQ)) ?_
    refine HW.pp (.move (.t rfl)) ?_
    refine HW.yy (.fA 5 underlying50 rfl sizeOf3 rfl) ?_
    refine HW.yy (.ld isAgg3 rfl (hB9.celln rfl)) ?_
    refine HW.yy (.move (.t rfl)) ?_
    refine HW.yy (.move (.t rfl)) ?_
    refine HW.yy (.dec (.t rfl) oQ oQ) ?_
    refine HW.yy (.indexAddr' underlying22 sizeOf50 (.t rfl) (.t rfl) oQ ay) ?_
    refine HW.yy (.fA 5 underlying50 rfl sizeOf3 rfl) ?_
    refine HW.yy (.ld isAgg3 rfl (hcy.nth (j := 5) rfl)) ?_
    refine HW.yy (.tr (PEv.lss (.t rfl) (.t rfl)) (ht1)) ?_
    refine HW.yy (.move (.t rfl)) ?_
    refine HW.N ?_
    refine HW.N ?_
    refine HW.N ?_
    refine HW.N ?_
    refine HW.N ?_
    refine HW.N ?_
    refine HW.N ?_
    refine HW.N ?_
    refine HW.N ?_
    refine HW.N ?_
    refine HW.no' rfl rfl rfl rfl rfl ?_
    refine HW.no' rfl rfl rfl rfl rfl ?_
    refine HW.no' rfl rfl rfl rfl rfl ?_
    refine HW.no' rfl rfl rfl rfl rfl ?_
    refine HW.no' rfl rfl rfl rfl rfl ?_
    refine HW.no' rfl rfl rfl rfl rfl ?_
    refine HW.no' rfl rfl rfl rfl rfl ?_
    refine HW.no' rfl rfl rfl rfl rfl ?_
    refine HW.no' rfl rfl rfl rfl rfl ?_
    refine HW.N ?_
    refine HW.yy (.pick_or (b := false) (.t rfl) (fun hp => absurd (show true = false from hp) cQ)) ?_
    refine HW.pp (.pick_and (.t rfl) (fun hp => (by first | exact .const _ | exact .tmp rfl | exact .cond rfl (by first | assumption | simp_all)))) ?_
    refine HW.nil ?_
    intro w8 uw8
    have zw8 := uw8.size
    replace hW := hW.up uw8
    replace hB3 := hB3.up uw8
    replace hEv := hEv.up uw8
    replace hB9 := hB9.up uw8
    refine KW.then ?_
    refine CW.cond_true (.t rfl) ?_
    refine CW.skip (KW.then (CW.block (CW.region (LW.M rfl ?_))))
    refine LW.pp (.dec (.t rfl) oQ oQ) ?_
    refine LW.A rfl (LW.nil (KW.inBlock (KW.round ?_)))
    exact ⟨k - 1, ⟨by omega, (fun z hz => by rw [List.drop_eq_getElem_cons oQ, show k - 1 + 1 = k by omega] at hz; exact (List.mem_cons.1 hz).elim (fun h => by rw [h, (List.getElem?_eq_some_iff.1 hy).2]; exact hlt) (fun h => hd z h)), hW, hB3, hEv, hB9⟩, ⟨rfl, rfl, rfl, rfl, rfl, rfl, rfl, rfl, trivial⟩, by first | omega | (dsimp only; omega)⟩
   | false =>
    have ht1 := hq8
    cases hq8 : decide (f.Time = y.Time) with
    | false =>
     have ht2 := hq8
     have hnl : ltK (runK f) (runK y) = false := by rw [ltK_run, ht1, ht2]; rfl
     refine CW.draws kQ kQ rfl rfl ?_
     refine HW.pp (.move (.t rfl)) ?_
     refine HW.pp (.tr (PEv.gtr (.t rfl) (.const _)) (decide_eq_true oQ)) ?_
     refine HW.pp (.move (.t rfl)) ?_
     refine HW.yy (.fA 5 underlying50 rfl sizeOf3 rfl) ?_
     refine HW.yy (.ld isAgg3 rfl (hB9.celln rfl)) ?_
     refine HW.yy (.move (.t rfl)) ?_
     refine HW.yy (.move (.t rfl)) ?_
     refine HW.yy (.dec (.t rfl) oQ oQ) ?_
     refine HW.yy (.indexAddr' underlying22 sizeOf50 (.t rfl) (.t rfl) oQ ay) ?_
     refine HW.yy (.fA 5 underlying50 rfl sizeOf3 rfl) ?_
     refine HW.yy (.ld isAgg3 rfl (hcy.nth (j := 5) rfl)) ?_
     refine HW.yy (.fa (PEv.lss (.t rfl) (.t rfl)) (ht1)) ?_
     refine HW.yy (.move (.t rfl)) ?_
     refine HW.yy (.fA 5 underlying50 rfl sizeOf3 rfl) ?_
     refine HW.yy (.ld isAgg3 rfl (hB9.celln rfl)) ?_
     refine HW.yy (.move (.t rfl)) ?_
     refine HW.yy (.move (.t rfl)) ?_
     refine HW.yy (.dec (.t rfl) oQ oQ) ?_
     refine HW.yy (.indexAddr' underlying22 sizeOf50 (.t rfl) (.t rfl) oQ ay) ?_
     refine HW.yy (.fA 5 underlying50 rfl sizeOf3 rfl) ?_
     refine HW.yy (.ld isAgg3 rfl (hcy.nth (j := 5) rfl)) ?_
     refine HW.yy (.fa (PEv.eql (.t rfl) (.t rfl)) (ht2)) ?_
     refine HW.yy (.move (.t rfl)) ?_
     refine HW.N ?_
     refine HW.N ?_
     refine HW.N ?_
     refine HW.N ?_
     refine HW.N ?_
     refine HW.N ?_
     refine HW.N ?_
     refine HW.N ?_
     refine HW.N ?_
     refine HW.yy (.pick_and (b := false) (.t rfl) (fun hp => absurd (show false = true from hp) cQ)) ?_
     refine HW.yy (.pick_or (.t rfl) (fun hp => (by first | exact .const _ | exact .tmp rfl | exact .cond rfl (by first | assumption | simp_all)))) ?_
     refine HW.pp (.pick_and (.t rfl) (fun hp => (by first | exact .const _ | exact .tmp rfl | exact .cond rfl (by first | assumption | simp_all)))) ?_
     refine HW.nil ?_
     intro w9 uw9
     have zw9 := uw9.size
     replace hW := hW.up uw9
     replace hB3 := hB3.up uw9
     replace hEv := hEv.up uw9
     replace hB9 := hB9.up uw9
     refine KW.then ?_
     refine CW.cond_false (.t rfl) ?_
     refine CW.exit (KW.then_exit (KW.then_exit (KW.block_hit (KW.then ?_))))
     have hput : isPutR (runL b.Processes t c i) f k := ⟨hk, hd, by first | exact .inl oQ | exact .inr ⟨y, hy, hnl⟩⟩
     refine CW.free 11 [.eq (.slice adv (runL b.Processes t c i).length cpv), .eq (vi (k : Int)), .eq (vi (k : Int)), .eq (.slice adv ((runL b.Processes t c i).take k).length ((runL b.Processes t c i).take k).length), .eq (.agg f.cells), .pred fun v W => ∃ B, v = .slice (some ⟨B, 0, none⟩) [f].length [f].length ∧ Els W (some ⟨B, 0, none⟩) 19 Fact.cells [f], .eq (.slice adv (runL b.Processes t c i).length cpv), .eq (vi (k : Int)), .eq (.slice (if cpv = k then adv else adv.map (·.add (k * 19))) ((runL b.Processes t c i).length - k) (cpv - k)), .pred fun v W => Sl W v 19 Fact.cells ([f] ++ ((runL b.Processes t c i).drop k)), .pred fun v W => OwnS W 0 50 19 Fact.cells v (insAt (runL b.Processes t c i) f k)] [82] kQ rfl kQ kQ kQ kQ kQ kQ kQ ⟨PhU.eq _, PhU.eq _, PhU.eq _, PhU.eq _, PhU.eq _, PhU.pred fun _ _ _ h u => let ⟨B, e, hE⟩ := h; ⟨B, e, hE.up u⟩, PhU.eq _, PhU.eq _, PhU.eq _, PhU.pred fun _ _ _ h u => Sl.up h u, PhU.pred fun _ _ _ h u => OwnS.up h u, trivial⟩ ?_ ?_
     ·intro W hU0
      have hU := (Up.drew w9).trans hU0
      have hEW := hEv.up hU
      have hlk : ((runL b.Processes t c i).take k).length = k := by rw [List.length_take]; omega
      refine aC ⟨rfl, TU.p (.move (.t rfl)) rfl⟩ ?_
      refine aC ⟨rfl, TU.p (.move (.t rfl)) rfl⟩ ?_
      refine aC ⟨rfl, TU.p (.move (.t rfl)) rfl⟩ ?_
      refine aC ⟨rfl, TU.p (.val (v' := .slice adv ((runL b.Processes t c i).take k).length ((runL b.Processes t c i).take k).length) (PEv.slice3 underlying22 sizeOf50 (.t rfl) (.t rfl) (.t rfl) oQ) (by rw [hlk])) rfl⟩ ?_
      refine aC ⟨rfl, TU.p (.la isAgg50 sizeOf50 rfl ((hB9.up hU).agg)) rfl⟩ ?_
      refine aC ⟨rfl, TU.r (REv.buildSlice (xs := [f]) (enc := Fact.cells) (mk := fun f : Fact => .agg f.cells) underlying22 sizeOf50 zeroValue50 rfl (Nat.le_of_ble_eq_true rfl) (fun _ => rfl) (fun _ => rfl) (.cons (.t rfl) .nil) rfl) (fun v W' h => let ⟨B, cs, e, N, _, hE1⟩ := h; ⟨N.up, B, e, hE1⟩)⟩ ?_
      refine aC ⟨rfl, TU.p (.move (.t rfl)) rfl⟩ ?_
      refine aC ⟨rfl, TU.p (.move (.t rfl)) rfl⟩ ?_
      refine aC ⟨rfl, TU.p (.sliceFrom underlying22 sizeOf50 (.t rfl) (.t rfl) oQ) rfl⟩ ?_
      refine aC ⟨rfl, TU.open (d := 77) rfl fun v hv => by obtain ⟨B, rfl, hE5⟩ := hv; exact TU.r (REv.appendC (enc := Fact.cells) (k := 19) (bytes := 160) (i := Tryz.t50) (xs := [f]) (ys := ((runL b.Processes t c i).drop k)) underlying22 kQ rfl rfl rfl rfl cQ (fun _ => rfl) (.t rfl) (.t rfl) hE5 (Els.drop hEW hcp) (by simp [maxLen]; omega) (by simp; omega)) (fun _ _ h => ⟨h.1, h.2.1⟩)⟩ ?_
      refine aC ⟨rfl, TU.open (d := 81) rfl fun v hv => TU.r (REv.appendC (enc := Fact.cells) (k := 19) (bytes := 160) (i := Tryz.t50) (xs := ((runL b.Processes t c i).take k)) (ys := ([f] ++ ((runL b.Processes t c i).drop k))) underlying22 kQ rfl rfl rfl rfl cQ (fun _ => rfl) (.t rfl) (.t rfl) (Els.take hEW) hv (by simp [maxLen]; omega) (by simp; omega)) (fun _ _ h => ⟨h.1, (h.2.2 (by simp)).mono (Nat.zero_le _)⟩)⟩ ?_
      exact allL.nil
     intro w10 g hU0 hg
     have hU := (Up.drew w9).trans hU0
     have zw10 := hU.size
     replace hW := hW.up hU
     replace hB3 := hB3.up hU
     replace hEv := hEv.up hU
     replace hB9 := hB9.up hU
     have hO : OwnS w10 0 50 19 Fact.cells (g 82) (insAt (runL b.Processes t c i) f k) := hg 10 _ 82 cQ rfl rfl
     refine LW.A rfl (LW.nil (KW.inBlock (KW.then (CW.region (LW.M rfl ?_)))))
     refine LW.pp (.inc (.t rfl) oQ) ?_
     refine LW.A rfl (LW.nil (KW.round ?_))
     exact ⟨(i + 1, g 82), ⟨by show i + 1 ≤ _; omega, hW, hB3, by show OwnS _ _ _ _ _ (g 82) _; rw [runL_yes hf hrp hput]; exact hO⟩, ⟨rfl, rfl, rfl, rfl, rfl, rfl, trivial⟩, by show b.Processes.length - (i + 1) < b.Processes.length - i; omega⟩
    | true =>
     have ht2 := hq8
     cases hq8 : decide (f.ID < y.ID) with
     | true =>
      have ht3 := hq8
      have hlt : ltK (runK f) (runK y) = true := by rw [ltK_run, ht1, ht2, ht3]; rfl
      refine CW.draws kQ kQ rfl rfl ?_
      refine HW.pp (.move (.t rfl)) ?_
      refine HW.pp (.tr (PEv.gtr (.t rfl) (.const _)) (decide_eq_true oQ)) ?_
      refine HW.pp (.move (.t rfl)) ?_
      refine HW.yy (.fA 5 underlying50 rfl sizeOf3 rfl) ?_
      refine HW.yy (.ld isAgg3 rfl (hB9.celln rfl)) ?_
      refine HW.yy (.move (.t rfl)) ?_
      refine HW.yy (.move (.t rfl)) ?_
      refine HW.yy (.dec (.t rfl) oQ oQ) ?_
      refine HW.yy (.indexAddr' underlying22 sizeOf50 (.t rfl) (.t rfl) oQ ay) ?_
      refine HW.yy (.fA 5 underlying50 rfl sizeOf3 rfl) ?_
      refine HW.yy (.ld isAgg3 rfl (hcy.nth (j := 5) rfl)) ?_
      refine HW.yy (.fa (PEv.lss (.t rfl) (.t rfl)) (ht1)) ?_
      refine HW.yy (.move (.t rfl)) ?_
      refine HW.yy (.fA 5 underlying50 rfl sizeOf3 rfl) ?_
      refine HW.yy (.ld isAgg3 rfl (hB9.celln rfl)) ?_
      refine HW.yy (.move (.t rfl)) ?_
      refine HW.yy (.move (.t rfl)) ?_
      refine HW.yy (.dec (.t rfl) oQ oQ) ?_
      refine HW.yy (.indexAddr' underlying22 sizeOf50 (.t rfl) (.t rfl) oQ ay) ?_
      refine HW.yy (.fA 5 underlying50 rfl sizeOf3 rfl) ?_
      refine HW.yy (.ld isAgg3 rfl (hcy.nth (j := 5) rfl)) ?_
      refine HW.yy (.tr (PEv.eql (.t rfl) (.t rfl)) (ht2)) ?_
      refine HW.yy (.move (.t rfl)) ?_
      refine HW.yy (.fA 1 underlying50 rfl sizeOf3 rfl) ?_
      refine HW.yy (.ld isAgg3 rfl (hB9.celln rfl)) ?_
      refine HW.yy (.move (.t rfl)) ?_
      refine HW.yy (.move (.t rfl)) ?_
      refine HW.yy (.dec (.t rfl) oQ oQ) ?_
      refine HW.yy (.indexAddr' underlying22 sizeOf50 (.t rfl) (.t rfl) oQ ay) ?_
      refine HW.yy (.fA 1 underlying50 rfl sizeOf3 rfl) ?_
      refine HW.yy (.ld isAgg3 rfl (hcy.nth (j := 1) rfl)) ?_
      refine HW.yy (.tr (PEv.lss (.t rfl) (.t rfl)) (ht3)) ?_
      refine HW.yy (.pick_and (.t rfl) (fun hp => (by first | exact .const _ | exact .tmp rfl | exact .cond rfl (by first | assumption | simp_all)))) ?_
      refine HW.yy (.pick_or (.t rfl) (fun hp => (by first | exact .const _ | exact .tmp rfl | exact .cond rfl (by first | assumption | simp_all)))) ?_
      refine HW.pp (.pick_and (.t rfl) (fun hp => (by first | exact .const _ | exact .tmp rfl | exact .cond rfl (by first | assumption | simp_all)))) ?_
      refine HW.nil ?_
      intro w11 uw11
      have zw11 := uw11.size
      replace hW := hW.up uw11
      replace hB3 := hB3.up uw11
      replace hEv := hEv.up uw11
      replace hB9 := hB9.up uw11
      refine KW.then ?_
      refine CW.cond_true (.t rfl) ?_
      refine CW.skip (KW.then (CW.block (CW.region (LW.M rfl ?_))))
      refine LW.pp (.dec (.t rfl) oQ oQ) ?_
      refine LW.A rfl (LW.nil (KW.inBlock (KW.round ?_)))
      exact ⟨k - 1, ⟨by omega, (fun z hz => by rw [List.drop_eq_getElem_cons oQ, show k - 1 + 1 = k by omega] at hz; exact (List.mem_cons.1 hz).elim (fun h => by rw [h, (List.getElem?_eq_some_iff.1 hy).2]; exact hlt) (fun h => hd z h)), hW, hB3, hEv, hB9⟩, ⟨rfl, rfl, rfl, rfl, rfl, rfl, rfl, rfl, trivial⟩, by first | omega | (dsimp only; omega)⟩
     | false =>
      have ht3 := hq8
      have hnl : ltK (runK f) (runK y) = false := by rw [ltK_run, ht1, ht2, ht3]; rfl
      refine CW.draws kQ kQ rfl rfl ?_
      refine HW.pp (.move (.t rfl)) ?_
      refine HW.pp (.tr (PEv.gtr (.t rfl) (.const _)) (decide_eq_true oQ)) ?_
      refine HW.pp (.move (.t rfl)) ?_
      refine HW.yy (.fA 5 underlying50 rfl sizeOf3 rfl) ?_
      refine HW.yy (.ld isAgg3 rfl (hB9.celln rfl)) ?_
      refine HW.yy (.move (.t rfl)) ?_
      refine HW.yy (.move (.t rfl)) ?_
      refine HW.yy (.dec (.t rfl) oQ oQ) ?_
      refine HW.yy (.indexAddr' underlying22 sizeOf50 (.t rfl) (.t rfl) oQ ay) ?_
      refine HW.yy (.fA 5 underlying50 rfl sizeOf3 rfl) ?_
      refine HW.yy (.ld isAgg3 rfl (hcy.nth (j := 5) rfl)) ?_
      refine HW.yy (.fa (PEv.lss (.t rfl) (.t rfl)) (ht1)) ?_
      refine HW.yy (.move (.t rfl)) ?_
      refine HW.yy (.fA 5 underlying50 rfl sizeOf3 rfl) ?_
      refine HW.yy (.ld isAgg3 rfl (hB9.celln rfl)) ?_
      refine HW.yy (.move (.t rfl)) ?_
      refine HW.yy (.move (.t rfl)) ?_
      refine HW.yy (.dec (.t rfl) oQ oQ) ?_
      refine HW.yy (.indexAddr' underlying22 sizeOf50 (.t rfl) (.t rfl) oQ ay) ?_
      refine HW.yy (.fA 5 underlying50 rfl sizeOf3 rfl) ?_
      refine HW.yy (.ld isAgg3 rfl (hcy.nth (j := 5) rfl)) ?_
      refine HW.yy (.tr (PEv.eql (.t rfl) (.t rfl)) (ht2)) ?_
      refine HW.yy (.move (.t rfl)) ?_
      refine HW.yy (.fA 1 underlying50 rfl sizeOf3 rfl) ?_
      refine HW.yy (.ld isAgg3 rfl (hB9.celln rfl)) ?_
      refine HW.yy (.move (.t rfl)) ?_
      refine HW.yy (.move (.t rfl)) ?_
      refine HW.yy (.dec (.t rfl) oQ oQ) ?_
      refine HW.yy (.indexAddr' underlying22 sizeOf50 (.t rfl) (.t rfl) oQ ay) ?_
      refine HW.yy (.fA 1 underlying50 rfl sizeOf3 rfl) ?_
      refine HW.yy (.ld isAgg3 rfl (hcy.nth (j := 1) rfl)) ?_
      refine HW.yy (.fa (PEv.lss (.t rfl) (.t rfl)) (ht3)) ?_
      refine HW.yy (.pick_and (.t rfl) (fun hp => (by first | exact .const _ | exact .tmp rfl | exact .cond rfl (by first | assumption | simp_all)))) ?_
      refine HW.yy (.pick_or (.t rfl) (fun hp => (by first | exact .const _ | exact .tmp rfl | exact .cond rfl (by first | assumption | simp_all)))) ?_
      refine HW.pp (.pick_and (.t rfl) (fun hp => (by first | exact .const _ | exact .tmp rfl | exact .cond rfl (by first | assumption | simp_all)))) ?_
      refine HW.nil ?_
      intro w12 uw12
      have zw12 := uw12.size
      replace hW := hW.up uw12
      replace hB3 := hB3.up uw12
      replace hEv := hEv.up uw12
      replace hB9 := hB9.up uw12
      refine KW.then ?_
      refine CW.cond_false (.t rfl) ?_
      refine CW.exit (KW.then_exit (KW.then_exit (KW.block_hit (KW.then ?_))))
      have hput : isPutR (runL b.Processes t c i) f k := ⟨hk, hd, by first | exact .inl oQ | exact .inr ⟨y, hy, hnl⟩⟩
      refine CW.free 11 [.eq (.slice adv (runL b.Processes t c i).length cpv), .eq (vi (k : Int)), .eq (vi (k : Int)), .eq (.slice adv ((runL b.Processes t c i).take k).length ((runL b.Processes t c i).take k).length), .eq (.agg f.cells), .pred fun v W => ∃ B, v = .slice (some ⟨B, 0, none⟩) [f].length [f].length ∧ Els W (some ⟨B, 0, none⟩) 19 Fact.cells [f], .eq (.slice adv (runL b.Processes t c i).length cpv), .eq (vi (k : Int)), .eq (.slice (if cpv = k then adv else adv.map (·.add (k * 19))) ((runL b.Processes t c i).length - k) (cpv - k)), .pred fun v W => Sl W v 19 Fact.cells ([f] ++ ((runL b.Processes t c i).drop k)), .pred fun v W => OwnS W 0 50 19 Fact.cells v (insAt (runL b.Processes t c i) f k)] [82] kQ rfl kQ kQ kQ kQ kQ kQ kQ ⟨PhU.eq _, PhU.eq _, PhU.eq _, PhU.eq _, PhU.eq _, PhU.pred fun _ _ _ h u => let ⟨B, e, hE⟩ := h; ⟨B, e, hE.up u⟩, PhU.eq _, PhU.eq _, PhU.eq _, PhU.pred fun _ _ _ h u => Sl.up h u, PhU.pred fun _ _ _ h u => OwnS.up h u, trivial⟩ ?_ ?_
      ·intro W hU0
       have hU := (Up.drew w12).trans hU0
       have hEW := hEv.up hU
       have hlk : ((runL b.Processes t c i).take k).length = k := by rw [List.length_take]; omega
       refine aC ⟨rfl, TU.p (.move (.t rfl)) rfl⟩ ?_
       refine aC ⟨rfl, TU.p (.move (.t rfl)) rfl⟩ ?_
       refine aC ⟨rfl, TU.p (.move (.t rfl)) rfl⟩ ?_
       refine aC ⟨rfl, TU.p (.val (v' := .slice adv ((runL b.Processes t c i).take k).length ((runL b.Processes t c i).take k).length) (PEv.slice3 underlying22 sizeOf50 (.t rfl) (.t rfl) (.t rfl) oQ) (by rw [hlk])) rfl⟩ ?_
       refine aC ⟨rfl, TU.p (.la isAgg50 sizeOf50 rfl ((hB9.up hU).agg)) rfl⟩ ?_
       refine aC ⟨rfl, TU.r (REv.buildSlice (xs := [f]) (enc := Fact.cells) (mk := fun f : Fact => .agg f.cells) underlying22 sizeOf50 zeroValue50 rfl (Nat.le_of_ble_eq_true rfl) (fun _ => rfl) (fun _ => rfl) (.cons (.t rfl) .nil) rfl) (fun v W' h => let ⟨B, cs, e, N, _, hE1⟩ := h; ⟨N.up, B, e, hE1⟩)⟩ ?_
       refine aC ⟨rfl, TU.p (.move (.t rfl)) rfl⟩ ?_
       refine aC ⟨rfl, TU.p (.move (.t rfl)) rfl⟩ ?_
       refine aC ⟨rfl, TU.p (.sliceFrom underlying22 sizeOf50 (.t rfl) (.t rfl) oQ) rfl⟩ ?_
       refine aC ⟨rfl, TU.open (d := 77) rfl fun v hv => by obtain ⟨B, rfl, hE5⟩ := hv; exact TU.r (REv.appendC (enc := Fact.cells) (k := 19) (bytes := 160) (i := Tryz.t50) (xs := [f]) (ys := ((runL b.Processes t c i).drop k)) underlying22 kQ rfl rfl rfl rfl cQ (fun _ => rfl) (.t rfl) (.t rfl) hE5 (Els.drop hEW hcp) (by simp [maxLen]; omega) (by simp; omega)) (fun _ _ h => ⟨h.1, h.2.1⟩)⟩ ?_
       refine aC ⟨rfl, TU.open (d := 81) rfl fun v hv => TU.r (REv.appendC (enc := Fact.cells) (k := 19) (bytes := 160) (i := Tryz.t50) (xs := ((runL b.Processes t c i).take k)) (ys := ([f] ++ ((runL b.Processes t c i).drop k))) underlying22 kQ rfl rfl rfl rfl cQ (fun _ => rfl) (.t rfl) (.t rfl) (Els.take hEW) hv (by simp [maxLen]; omega) (by simp; omega)) (fun _ _ h => ⟨h.1, (h.2.2 (by simp)).mono (Nat.zero_le _)⟩)⟩ ?_
       exact allL.nil
      intro w13 g hU0 hg
      have hU := (Up.drew w12).trans hU0
      have zw13 := hU.size
      replace hW := hW.up hU
      replace hB3 := hB3.up hU
      replace hEv := hEv.up hU
      replace hB9 := hB9.up hU
      have hO : OwnS w13 0 50 19 Fact.cells (g 82) (insAt (runL b.Processes t c i) f k) := hg 10 _ 82 cQ rfl rfl
      refine LW.A rfl (LW.nil (KW.inBlock (KW.then (CW.region (LW.M rfl ?_)))))
      refine LW.pp (.inc (.t rfl) oQ) ?_
      refine LW.A rfl (LW.nil (KW.round ?_))
      exact ⟨(i + 1, g 82), ⟨by show i + 1 ≤ _; omega, hW, hB3, by show OwnS _ _ _ _ _ (g 82) _; rw [runL_yes hf hrp hput]; exact hO⟩, ⟨rfl, rfl, rfl, rfl, rfl, rfl, trivial⟩, by show b.Processes.length - (i + 1) < b.Processes.length - i; omega⟩
 replace h15 := dQ h15
 refine CW.exit (KW.then_exit (KW.then_exit (KW.block_hit (KW.then (CW.S (LW.M rfl (LW.A rfl (LW.T (CW.ret ?_)))))))))
 refine KW.ret1 rfl rfl ⟨_, rfl, ?_⟩
 have hie : i = b.Processes.length := by omega
 rw [show runsB b t c = runL b.Processes t c i by unfold runsB runL; rw [hie, List.take_length]]
 exact ⟨hO, hW⟩
end Go.Proofs.YtgffaeachbbjoaaGreatDoor
end
section
namespace Go.Wx
theorem size_neg {i : Int} (hi : inI i) (h : i < 0) : IntKind.u64.wrap (IntKind.u64.wrap (IntKind.i64.wrap (-(i + 1))) + 1) = (i.natAbs : Int) := by
 have h1 := hi.1
 have h2 := hi.2
 rw [wrap_i64_in (i := -(i + 1)) oQ (by omega)]
 have e : IntKind.u64.wrap (-(i + 1)) = -(i + 1) := by
   show (-(i + 1)) % (18446744073709551616 : Int) = _
   exact Int.emod_eq_of_lt oQ oQ
 rw [e]
 show (-(i + 1) + 1) % (18446744073709551616 : Int) = _
 rw [Int.emod_eq_of_lt oQ (by omega)]
 omega
theorem subW {a b : Rt} (ha : a.ok) (hb : b.ok) : IntKind.i64.wrap (IntKind.i64.wrap (a.n * b.d) - IntKind.i64.wrap (b.n * a.d)) = addN a ⟨-b.n, b.d⟩ := by
 have h := addN_in ha hb.neg
 rw [mulW ha hb, mulW hb ha]
 have e : a.n * b.d - b.n * a.d = addN a ⟨-b.n, b.d⟩ := by
   unfold addN
   show _ = a.n * b.d + -b.n * a.d
   rw [Int.neg_mul]; omega
 rw [e]
 exact wrap_i64_in oQ oQ
theorem rfloor_eq {n d : Int} (h : flB n d) : IntKind.i64.wrap (n.tdiv d) = n.tdiv d ∧ (n.tmod d < 0 → n.tdiv d - 1 = n / d) ∧ (¬ n.tmod d < 0 → n.tdiv d = n / d) ∧ -4000000000000000000 ≤ n.tdiv d ∧ n.tdiv d ≤ 4000000000000000000 := by
 obtain ⟨h1, h2, h3, h4⟩ := h
 have e := Int.mul_tdiv_add_tmod n d
 have e2 := Int.mul_ediv_add_emod n d
 have b1 := Int.emod_nonneg n (show d ≠ 0 by omega)
 have b2 := Int.emod_lt_of_pos n h3
 have b3 := Int.tmod_lt_of_pos n h3
 have hq : n.tdiv d = n / d ∨ n.tdiv d = n / d + 1 := by
   by_cases hn : 0 ≤ n
   · exact .inl (Int.tdiv_eq_ediv_of_nonneg hn)
   have h5 := Int.tdiv_eq_ediv (a := n) (b := d)
   rw [h5]
   split
   · left; omega
   right; rw [Int.sign_eq_one_of_pos h3]
 have hlo : -4000000000000000000 ≤ n / d := by
   refine Int.le_ediv_of_mul_le h3 ?_
   have : -4000000000000000000 * d ≤ -4000000000000000000 * 1 := Int.mul_le_mul_of_nonpos_left oQ oQ
   omega
 have hhi : n / d ≤ 4000000000000000000 := by
   by_cases hn : 0 ≤ n
   · have := Int.ediv_le_self d hn; omega
   have : n / d < 0 := Int.ediv_neg_of_neg_of_pos oQ h3
   omega
 have hb : -4000000000000000000 ≤ n.tdiv d ∧ n.tdiv d ≤ 4000000000000000000 := by
   rcases hq with h5 | h5
   · omega
   by_cases hn : 0 ≤ n
   · have := Int.tdiv_eq_ediv_of_nonneg (b := d) hn; omega
   have : n / d < 0 := Int.ediv_neg_of_neg_of_pos oQ h3
   omega
 refine ⟨wrap_i64_in oQ oQ, fun hm => ?_, fun hm => ?_, hb⟩
 · rcases hq with h5 | h5
   · rw [h5] at e; omega
   omega
 rcases hq with h5 | h5
 · exact h5
 exfalso
 rw [h5, Int.mul_add, Int.mul_one] at e
 omega
theorem cmp3 {x y : Int} : cmpI x y = if x = y then 0 else if x < y then -1 else 1 := by
 unfold cmpI
 split
 · rw [if_neg (by omega)]
 split
 · rw [if_neg (by omega)]
 rw [if_pos (by omega)]
theorem red_one (T : Int) : redF T 1 = rI T := by
 have h := redF_mul (n := T) (d := 1) cQ
 have h2 : (redF T 1).d = 1 := by
   show (((1 : Int).natAbs / gcdA T 1 : Nat) : Int) = 1
   unfold gcdA
   rw [show (1 : Int).natAbs = 1 from rfl, Nat.gcd_one_right]
   rfl
 rw [h2, Int.mul_one, Int.mul_one] at h
 exact (show redF T 1 = ⟨(redF T 1).n, (redF T 1).d⟩ from rfl).trans (by rw [h, h2]; rfl)
end Go.Wx
namespace Go.Proofs.YtgffaeachbbjoaaGreatDoor
open Go.Proofs.Tryz
open Go.Wx Go.RowKit
theorem rsize_any (i : Int) (w : World) (hi : inI i) : Ret Tryz.prog 85 #[vi i] w fun r w' => r = vu i.natAbs ∧ Up w w' := by
 have hW := Up.refl w
 refine cS (n := 12) (m := 9) func85 rfl rfl rfl ?_
 refine CW.S (LW.C (LW.S (CW.S (LW.M rfl ?_))))
 refine LW.pp (.lss (.t rfl) (.const _)) ?_
 refine LW.T ?_
 refine CW.cond (.t rfl) (fun h4 => ?_) (fun h4 => ?_)
 ·replace h4 := dQ h4
  have hneg := h4
  have h1 := hi.1
  have h2 := hi.2
  refine CW.S (LW.M rfl ?_)
  refine LW.pp (.add (.t rfl) (.const _) oQ oQ) ?_
  refine LW.pp (.neg underlying3 (.t rfl)) ?_
  refine LW.pp (.conv (k' := .u64) (by rw [underlying3]; rfl) underlying95 (.t rfl)) ?_
  refine LW.pp (.add_w (.t rfl) (.const _)) ?_
  refine LW.A rfl (LW.T (CW.ret (KW.then_ret ?_)))
  refine KW.ret1 rfl rfl ⟨_, rfl, ?_⟩
  first | exact ⟨congrArg (Go.Value.int .u64) (size_neg hi hneg), hW⟩ | exact ⟨congrArg (Go.Value.int .u64) (abs_pos hi oQ), hW⟩
 replace h4 := dQ h4
 have hpos := h4
 refine CW.skip (KW.then (CW.S (LW.M rfl ?_)))
 refine LW.pp (.conv (k' := .u64) (by rw [underlying3]; rfl) underlying95 (.t rfl)) ?_
 refine LW.A rfl (LW.T (CW.ret ?_))
 refine KW.ret1 rfl rfl ⟨_, rfl, ?_⟩
 first | exact ⟨congrArg (Go.Value.int .u64) (size_neg hi hneg), hW⟩ | exact ⟨congrArg (Go.Value.int .u64) (abs_pos hi oQ), hW⟩
theorem rdiv_any (a b : Nat) (w : World) : Ret Tryz.prog 84 #[vu a, vu b] w fun r w' => r = vu (Nat.gcd a b) ∧ Up w w' := by
 have hW := Up.refl w
 obtain ⟨w0, rfl⟩ : ∃ w0, w0 = w := ⟨_, rfl⟩
 refine cS (n := 12) (m := 9) func84 rfl rfl rfl ?_
 refine CW.S (LW.C (LW.S (CW.block ?_)))
 refine CW.loopB (σ := Nat × Nat) (fun s w => (Nat.gcd s.1 s.2 = Nat.gcd a b) ∧ (Up w0 w)) (fun s => [(0, .eq (vu s.1)), (1, .eq (vu s.2))]) ([(4, .eq _)]) (fun s => s.2) (a, b) ?_ ⟨rfl, rfl, rfl, trivial⟩ ?_
 ·exact ⟨rfl, hW⟩
 rintro ⟨x, y⟩ w1 ⟨hg, hW⟩
 dsimp only at hg
 change CW _ _ _ _ _ _ _ ([(0, .eq (vu x)), (1, .eq (vu y))] ++ _) _
 refine CW.seq (CW.S (LW.M rfl ?_))
 refine LW.pp (.gtr (.t rfl) (.const _)) ?_
 refine LW.T ?_
 refine CW.cond (.t rfl) (fun h6 => ?_) (fun h6 => ?_)
 ·replace h6 := dQ h6
  have hy0 : y ≠ 0 := by omega
  refine CW.skip (KW.then (CW.block ?_))
  refine CW.explode kQ rfl ?_
  obtain ⟨w2, hdr⟩ : ∃ W, W = w1.drew := ⟨_, rfl⟩
  have uw2 : Up w1 w2 := by rw [hdr]; exact Up.drew _
  rw [← hdr]
  clear hdr
  have zw2 := uw2.size
  replace hW := hW.up uw2
  refine AW.step (rs := [0, 1, 2]) kQ cQ ?_
  intro i hi
  simp only [List.mem_cons, List.mem_nil_iff, or_false] at hi
  rcases hi with rfl | rfl | rfl
  ·skip
   refine ⟨_, rfl, rfl, ?_⟩
   refine OW.p (PEv.move (.t rfl)) rfl rfl ?_
   refine AW.step (rs := [1, 2]) kQ cQ ?_
   intro i hi
   simp only [List.mem_cons, List.mem_nil_iff, or_false] at hi
   rcases hi with rfl | rfl
   ·skip
    refine ⟨_, rfl, rfl, ?_⟩
    refine OW.p (PEv.move (.t rfl)) rfl rfl ?_
    refine AW.step (rs := [2, 4]) kQ cQ ?_
    intro i hi
    simp only [List.mem_cons, List.mem_nil_iff, or_false] at hi
    rcases hi with rfl | rfl
    ·skip
     refine ⟨_, rfl, rfl, ?_⟩
     refine OW.p (PEv.move (.t rfl)) rfl rfl ?_
     refine AW.step (rs := [3, 4]) kQ cQ ?_
     intro i hi
     simp only [List.mem_cons, List.mem_nil_iff, or_false] at hi
     rcases hi with rfl | rfl
     ·skip
      refine ⟨_, rfl, rfl, ?_⟩
      refine OW.p (PEv.vl (v' := vu (x % y)) (PEv.rem (.t rfl) (.t rfl) oQ) (congrArg (Go.Value.int .u64) (by rfl))) rfl rfl ?_
      refine AW.step (rs := [4]) kQ cQ ?_
      intro i hi
      obtain rfl := List.mem_singleton.1 hi
      refine ⟨_, rfl, rfl, ?_⟩
      refine OW.p (PEv.assign (.t rfl)) rfl rfl ?_
      refine AW.step (rs := [5]) kQ cQ ?_
      intro i hi
      obtain rfl := List.mem_singleton.1 hi
      refine ⟨_, rfl, rfl, ?_⟩
      refine OW.p (PEv.assign (.t rfl)) rfl rfl ?_
      refine AW.done kQ ?_
      refine KW.inBlock (KW.round ?_)
      exact ⟨(y, x % y), ⟨by rw [← hg]; exact (gcd_step x y).symm, hW⟩, ⟨rfl, rfl, rfl, trivial⟩, by show x % y < y; exact Nat.mod_lt _ oQ⟩
     skip
     refine ⟨_, rfl, rfl, ?_⟩
     refine OW.p (PEv.assign (.t rfl)) rfl rfl ?_
     refine AW.step (rs := [3]) kQ cQ ?_
     intro i hi
     obtain rfl := List.mem_singleton.1 hi
     refine ⟨_, rfl, rfl, ?_⟩
     refine OW.p (PEv.vl (v' := vu (x % y)) (PEv.rem (.t rfl) (.t rfl) oQ) (congrArg (Go.Value.int .u64) (by rfl))) rfl rfl ?_
     refine AW.step (rs := [5]) kQ cQ ?_
     intro i hi
     obtain rfl := List.mem_singleton.1 hi
     refine ⟨_, rfl, rfl, ?_⟩
     refine OW.p (PEv.assign (.t rfl)) rfl rfl ?_
     refine AW.done kQ ?_
     refine KW.inBlock (KW.round ?_)
     exact ⟨(y, x % y), ⟨by rw [← hg]; exact (gcd_step x y).symm, hW⟩, ⟨rfl, rfl, rfl, trivial⟩, by show x % y < y; exact Nat.mod_lt _ oQ⟩
    skip
    refine ⟨_, rfl, rfl, ?_⟩
    refine OW.p (PEv.assign (.t rfl)) rfl rfl ?_
    refine AW.step (rs := [2]) kQ cQ ?_
    intro i hi
    obtain rfl := List.mem_singleton.1 hi
    refine ⟨_, rfl, rfl, ?_⟩
    refine OW.p (PEv.move (.t rfl)) rfl rfl ?_
    refine AW.step (rs := [3]) kQ cQ ?_
    intro i hi
    obtain rfl := List.mem_singleton.1 hi
    refine ⟨_, rfl, rfl, ?_⟩
    refine OW.p (PEv.vl (v' := vu (x % y)) (PEv.rem (.t rfl) (.t rfl) oQ) (congrArg (Go.Value.int .u64) (by rfl))) rfl rfl ?_
    refine AW.step (rs := [5]) kQ cQ ?_
    intro i hi
    obtain rfl := List.mem_singleton.1 hi
    refine ⟨_, rfl, rfl, ?_⟩
    refine OW.p (PEv.assign (.t rfl)) rfl rfl ?_
    refine AW.done kQ ?_
    refine KW.inBlock (KW.round ?_)
    exact ⟨(y, x % y), ⟨by rw [← hg]; exact (gcd_step x y).symm, hW⟩, ⟨rfl, rfl, rfl, trivial⟩, by show x % y < y; exact Nat.mod_lt _ oQ⟩
   skip
   refine ⟨_, rfl, rfl, ?_⟩
   refine OW.p (PEv.move (.t rfl)) rfl rfl ?_
   refine AW.step (rs := [1]) kQ cQ ?_
   intro i hi
   obtain rfl := List.mem_singleton.1 hi
   refine ⟨_, rfl, rfl, ?_⟩
   refine OW.p (PEv.move (.t rfl)) rfl rfl ?_
   refine AW.step (rs := [3, 4]) kQ cQ ?_
   intro i hi
   simp only [List.mem_cons, List.mem_nil_iff, or_false] at hi
   rcases hi with rfl | rfl
   ·skip
    refine ⟨_, rfl, rfl, ?_⟩
    refine OW.p (PEv.vl (v' := vu (x % y)) (PEv.rem (.t rfl) (.t rfl) oQ) (congrArg (Go.Value.int .u64) (by rfl))) rfl rfl ?_
    refine AW.step (rs := [4]) kQ cQ ?_
    intro i hi
    obtain rfl := List.mem_singleton.1 hi
    refine ⟨_, rfl, rfl, ?_⟩
    refine OW.p (PEv.assign (.t rfl)) rfl rfl ?_
    refine AW.step (rs := [5]) kQ cQ ?_
    intro i hi
    obtain rfl := List.mem_singleton.1 hi
    refine ⟨_, rfl, rfl, ?_⟩
    refine OW.p (PEv.assign (.t rfl)) rfl rfl ?_
    refine AW.done kQ ?_
    refine KW.inBlock (KW.round ?_)
    exact ⟨(y, x % y), ⟨by rw [← hg]; exact (gcd_step x y).symm, hW⟩, ⟨rfl, rfl, rfl, trivial⟩, by show x % y < y; exact Nat.mod_lt _ oQ⟩
   skip
   refine ⟨_, rfl, rfl, ?_⟩
   refine OW.p (PEv.assign (.t rfl)) rfl rfl ?_
   refine AW.step (rs := [3]) kQ cQ ?_
   intro i hi
   obtain rfl := List.mem_singleton.1 hi
   refine ⟨_, rfl, rfl, ?_⟩
   refine OW.p (PEv.vl (v' := vu (x % y)) (PEv.rem (.t rfl) (.t rfl) oQ) (congrArg (Go.Value.int .u64) (by rfl))) rfl rfl ?_
   refine AW.step (rs := [5]) kQ cQ ?_
   intro i hi
   obtain rfl := List.mem_singleton.1 hi
   refine ⟨_, rfl, rfl, ?_⟩
   refine OW.p (PEv.assign (.t rfl)) rfl rfl ?_
   refine AW.done kQ ?_
   refine KW.inBlock (KW.round ?_)
   exact ⟨(y, x % y), ⟨by rw [← hg]; exact (gcd_step x y).symm, hW⟩, ⟨rfl, rfl, rfl, trivial⟩, by show x % y < y; exact Nat.mod_lt _ oQ⟩
  ·skip
   refine ⟨_, rfl, rfl, ?_⟩
   refine OW.p (PEv.move (.t rfl)) rfl rfl ?_
   refine AW.step (rs := [0, 2]) kQ cQ ?_
   intro i hi
   simp only [List.mem_cons, List.mem_nil_iff, or_false] at hi
   rcases hi with rfl | rfl
   ·skip
    refine ⟨_, rfl, rfl, ?_⟩
    refine OW.p (PEv.move (.t rfl)) rfl rfl ?_
    refine AW.step (rs := [2, 4]) kQ cQ ?_
    intro i hi
    simp only [List.mem_cons, List.mem_nil_iff, or_false] at hi
    rcases hi with rfl | rfl
    ·skip
     refine ⟨_, rfl, rfl, ?_⟩
     refine OW.p (PEv.move (.t rfl)) rfl rfl ?_
     refine AW.step (rs := [3, 4]) kQ cQ ?_
     intro i hi
     simp only [List.mem_cons, List.mem_nil_iff, or_false] at hi
     rcases hi with rfl | rfl
     ·skip
      refine ⟨_, rfl, rfl, ?_⟩
      refine OW.p (PEv.vl (v' := vu (x % y)) (PEv.rem (.t rfl) (.t rfl) oQ) (congrArg (Go.Value.int .u64) (by rfl))) rfl rfl ?_
      refine AW.step (rs := [4]) kQ cQ ?_
      intro i hi
      obtain rfl := List.mem_singleton.1 hi
      refine ⟨_, rfl, rfl, ?_⟩
      refine OW.p (PEv.assign (.t rfl)) rfl rfl ?_
      refine AW.step (rs := [5]) kQ cQ ?_
      intro i hi
      obtain rfl := List.mem_singleton.1 hi
      refine ⟨_, rfl, rfl, ?_⟩
      refine OW.p (PEv.assign (.t rfl)) rfl rfl ?_
      refine AW.done kQ ?_
      refine KW.inBlock (KW.round ?_)
      exact ⟨(y, x % y), ⟨by rw [← hg]; exact (gcd_step x y).symm, hW⟩, ⟨rfl, rfl, rfl, trivial⟩, by show x % y < y; exact Nat.mod_lt _ oQ⟩
     skip
     refine ⟨_, rfl, rfl, ?_⟩
     refine OW.p (PEv.assign (.t rfl)) rfl rfl ?_
     refine AW.step (rs := [3]) kQ cQ ?_
     intro i hi
     obtain rfl := List.mem_singleton.1 hi
     refine ⟨_, rfl, rfl, ?_⟩
     refine OW.p (PEv.vl (v' := vu (x % y)) (PEv.rem (.t rfl) (.t rfl) oQ) (congrArg (Go.Value.int .u64) (by rfl))) rfl rfl ?_
     refine AW.step (rs := [5]) kQ cQ ?_
     intro i hi
     obtain rfl := List.mem_singleton.1 hi
     refine ⟨_, rfl, rfl, ?_⟩
     refine OW.p (PEv.assign (.t rfl)) rfl rfl ?_
     refine AW.done kQ ?_
     refine KW.inBlock (KW.round ?_)
     exact ⟨(y, x % y), ⟨by rw [← hg]; exact (gcd_step x y).symm, hW⟩, ⟨rfl, rfl, rfl, trivial⟩, by show x % y < y; exact Nat.mod_lt _ oQ⟩
    skip
    refine ⟨_, rfl, rfl, ?_⟩
    refine OW.p (PEv.assign (.t rfl)) rfl rfl ?_
    refine AW.step (rs := [2]) kQ cQ ?_
    intro i hi
    obtain rfl := List.mem_singleton.1 hi
    refine ⟨_, rfl, rfl, ?_⟩
    refine OW.p (PEv.move (.t rfl)) rfl rfl ?_
    refine AW.step (rs := [3]) kQ cQ ?_
    intro i hi
    obtain rfl := List.mem_singleton.1 hi
    refine ⟨_, rfl, rfl, ?_⟩
    refine OW.p (PEv.vl (v' := vu (x % y)) (PEv.rem (.t rfl) (.t rfl) oQ) (congrArg (Go.Value.int .u64) (by rfl))) rfl rfl ?_
    refine AW.step (rs := [5]) kQ cQ ?_
    intro i hi
    obtain rfl := List.mem_singleton.1 hi
    refine ⟨_, rfl, rfl, ?_⟩
    refine OW.p (PEv.assign (.t rfl)) rfl rfl ?_
    refine AW.done kQ ?_
    refine KW.inBlock (KW.round ?_)
    exact ⟨(y, x % y), ⟨by rw [← hg]; exact (gcd_step x y).symm, hW⟩, ⟨rfl, rfl, rfl, trivial⟩, by show x % y < y; exact Nat.mod_lt _ oQ⟩
   skip
   refine ⟨_, rfl, rfl, ?_⟩
   refine OW.p (PEv.move (.t rfl)) rfl rfl ?_
   refine AW.step (rs := [0, 3]) kQ cQ ?_
   intro i hi
   simp only [List.mem_cons, List.mem_nil_iff, or_false] at hi
   rcases hi with rfl | rfl
   ·skip
    refine ⟨_, rfl, rfl, ?_⟩
    refine OW.p (PEv.move (.t rfl)) rfl rfl ?_
    refine AW.step (rs := [3, 4]) kQ cQ ?_
    intro i hi
    simp only [List.mem_cons, List.mem_nil_iff, or_false] at hi
    rcases hi with rfl | rfl
    ·skip
     refine ⟨_, rfl, rfl, ?_⟩
     refine OW.p (PEv.vl (v' := vu (x % y)) (PEv.rem (.t rfl) (.t rfl) oQ) (congrArg (Go.Value.int .u64) (by rfl))) rfl rfl ?_
     refine AW.step (rs := [4]) kQ cQ ?_
     intro i hi
     obtain rfl := List.mem_singleton.1 hi
     refine ⟨_, rfl, rfl, ?_⟩
     refine OW.p (PEv.assign (.t rfl)) rfl rfl ?_
     refine AW.step (rs := [5]) kQ cQ ?_
     intro i hi
     obtain rfl := List.mem_singleton.1 hi
     refine ⟨_, rfl, rfl, ?_⟩
     refine OW.p (PEv.assign (.t rfl)) rfl rfl ?_
     refine AW.done kQ ?_
     refine KW.inBlock (KW.round ?_)
     exact ⟨(y, x % y), ⟨by rw [← hg]; exact (gcd_step x y).symm, hW⟩, ⟨rfl, rfl, rfl, trivial⟩, by show x % y < y; exact Nat.mod_lt _ oQ⟩
    skip
    refine ⟨_, rfl, rfl, ?_⟩
    refine OW.p (PEv.assign (.t rfl)) rfl rfl ?_
    refine AW.step (rs := [3]) kQ cQ ?_
    intro i hi
    obtain rfl := List.mem_singleton.1 hi
    refine ⟨_, rfl, rfl, ?_⟩
    refine OW.p (PEv.vl (v' := vu (x % y)) (PEv.rem (.t rfl) (.t rfl) oQ) (congrArg (Go.Value.int .u64) (by rfl))) rfl rfl ?_
    refine AW.step (rs := [5]) kQ cQ ?_
    intro i hi
    obtain rfl := List.mem_singleton.1 hi
    refine ⟨_, rfl, rfl, ?_⟩
    refine OW.p (PEv.assign (.t rfl)) rfl rfl ?_
    refine AW.done kQ ?_
    refine KW.inBlock (KW.round ?_)
    exact ⟨(y, x % y), ⟨by rw [← hg]; exact (gcd_step x y).symm, hW⟩, ⟨rfl, rfl, rfl, trivial⟩, by show x % y < y; exact Nat.mod_lt _ oQ⟩
   skip
   refine ⟨_, rfl, rfl, ?_⟩
   refine OW.p (PEv.vl (v' := vu (x % y)) (PEv.rem (.t rfl) (.t rfl) oQ) (congrArg (Go.Value.int .u64) (by rfl))) rfl rfl ?_
   refine AW.step (rs := [0]) kQ cQ ?_
   intro i hi
   obtain rfl := List.mem_singleton.1 hi
   refine ⟨_, rfl, rfl, ?_⟩
   refine OW.p (PEv.move (.t rfl)) rfl rfl ?_
   refine AW.step (rs := [4]) kQ cQ ?_
   intro i hi
   obtain rfl := List.mem_singleton.1 hi
   refine ⟨_, rfl, rfl, ?_⟩
   refine OW.p (PEv.assign (.t rfl)) rfl rfl ?_
   refine AW.step (rs := [5]) kQ cQ ?_
   intro i hi
   obtain rfl := List.mem_singleton.1 hi
   refine ⟨_, rfl, rfl, ?_⟩
   refine OW.p (PEv.assign (.t rfl)) rfl rfl ?_
   refine AW.done kQ ?_
   refine KW.inBlock (KW.round ?_)
   exact ⟨(y, x % y), ⟨by rw [← hg]; exact (gcd_step x y).symm, hW⟩, ⟨rfl, rfl, rfl, trivial⟩, by show x % y < y; exact Nat.mod_lt _ oQ⟩
  skip
  refine ⟨_, rfl, rfl, ?_⟩
  refine OW.p (PEv.move (.t rfl)) rfl rfl ?_
  refine AW.step (rs := [0, 1]) kQ cQ ?_
  intro i hi
  simp only [List.mem_cons, List.mem_nil_iff, or_false] at hi
  rcases hi with rfl | rfl
  ·skip
   refine ⟨_, rfl, rfl, ?_⟩
   refine OW.p (PEv.move (.t rfl)) rfl rfl ?_
   refine AW.step (rs := [1]) kQ cQ ?_
   intro i hi
   obtain rfl := List.mem_singleton.1 hi
   refine ⟨_, rfl, rfl, ?_⟩
   refine OW.p (PEv.move (.t rfl)) rfl rfl ?_
   refine AW.step (rs := [3, 4]) kQ cQ ?_
   intro i hi
   simp only [List.mem_cons, List.mem_nil_iff, or_false] at hi
   rcases hi with rfl | rfl
   ·skip
    refine ⟨_, rfl, rfl, ?_⟩
    refine OW.p (PEv.vl (v' := vu (x % y)) (PEv.rem (.t rfl) (.t rfl) oQ) (congrArg (Go.Value.int .u64) (by rfl))) rfl rfl ?_
    refine AW.step (rs := [4]) kQ cQ ?_
    intro i hi
    obtain rfl := List.mem_singleton.1 hi
    refine ⟨_, rfl, rfl, ?_⟩
    refine OW.p (PEv.assign (.t rfl)) rfl rfl ?_
    refine AW.step (rs := [5]) kQ cQ ?_
    intro i hi
    obtain rfl := List.mem_singleton.1 hi
    refine ⟨_, rfl, rfl, ?_⟩
    refine OW.p (PEv.assign (.t rfl)) rfl rfl ?_
    refine AW.done kQ ?_
    refine KW.inBlock (KW.round ?_)
    exact ⟨(y, x % y), ⟨by rw [← hg]; exact (gcd_step x y).symm, hW⟩, ⟨rfl, rfl, rfl, trivial⟩, by show x % y < y; exact Nat.mod_lt _ oQ⟩
   skip
   refine ⟨_, rfl, rfl, ?_⟩
   refine OW.p (PEv.assign (.t rfl)) rfl rfl ?_
   refine AW.step (rs := [3]) kQ cQ ?_
   intro i hi
   obtain rfl := List.mem_singleton.1 hi
   refine ⟨_, rfl, rfl, ?_⟩
   refine OW.p (PEv.vl (v' := vu (x % y)) (PEv.rem (.t rfl) (.t rfl) oQ) (congrArg (Go.Value.int .u64) (by rfl))) rfl rfl ?_
   refine AW.step (rs := [5]) kQ cQ ?_
   intro i hi
   obtain rfl := List.mem_singleton.1 hi
   refine ⟨_, rfl, rfl, ?_⟩
   refine OW.p (PEv.assign (.t rfl)) rfl rfl ?_
   refine AW.done kQ ?_
   refine KW.inBlock (KW.round ?_)
   exact ⟨(y, x % y), ⟨by rw [← hg]; exact (gcd_step x y).symm, hW⟩, ⟨rfl, rfl, rfl, trivial⟩, by show x % y < y; exact Nat.mod_lt _ oQ⟩
  skip
  refine ⟨_, rfl, rfl, ?_⟩
  refine OW.p (PEv.move (.t rfl)) rfl rfl ?_
  refine AW.step (rs := [0, 3]) kQ cQ ?_
  intro i hi
  simp only [List.mem_cons, List.mem_nil_iff, or_false] at hi
  rcases hi with rfl | rfl
  ·skip
   refine ⟨_, rfl, rfl, ?_⟩
   refine OW.p (PEv.move (.t rfl)) rfl rfl ?_
   refine AW.step (rs := [3, 4]) kQ cQ ?_
   intro i hi
   simp only [List.mem_cons, List.mem_nil_iff, or_false] at hi
   rcases hi with rfl | rfl
   ·skip
    refine ⟨_, rfl, rfl, ?_⟩
    refine OW.p (PEv.vl (v' := vu (x % y)) (PEv.rem (.t rfl) (.t rfl) oQ) (congrArg (Go.Value.int .u64) (by rfl))) rfl rfl ?_
    refine AW.step (rs := [4]) kQ cQ ?_
    intro i hi
    obtain rfl := List.mem_singleton.1 hi
    refine ⟨_, rfl, rfl, ?_⟩
    refine OW.p (PEv.assign (.t rfl)) rfl rfl ?_
    refine AW.step (rs := [5]) kQ cQ ?_
    intro i hi
    obtain rfl := List.mem_singleton.1 hi
    refine ⟨_, rfl, rfl, ?_⟩
    refine OW.p (PEv.assign (.t rfl)) rfl rfl ?_
    refine AW.done kQ ?_
    refine KW.inBlock (KW.round ?_)
    exact ⟨(y, x % y), ⟨by rw [← hg]; exact (gcd_step x y).symm, hW⟩, ⟨rfl, rfl, rfl, trivial⟩, by show x % y < y; exact Nat.mod_lt _ oQ⟩
   skip
   refine ⟨_, rfl, rfl, ?_⟩
   refine OW.p (PEv.assign (.t rfl)) rfl rfl ?_
   refine AW.step (rs := [3]) kQ cQ ?_
   intro i hi
   obtain rfl := List.mem_singleton.1 hi
   refine ⟨_, rfl, rfl, ?_⟩
   refine OW.p (PEv.vl (v' := vu (x % y)) (PEv.rem (.t rfl) (.t rfl) oQ) (congrArg (Go.Value.int .u64) (by rfl))) rfl rfl ?_
   refine AW.step (rs := [5]) kQ cQ ?_
   intro i hi
   obtain rfl := List.mem_singleton.1 hi
   refine ⟨_, rfl, rfl, ?_⟩
   refine OW.p (PEv.assign (.t rfl)) rfl rfl ?_
   refine AW.done kQ ?_
   refine KW.inBlock (KW.round ?_)
   exact ⟨(y, x % y), ⟨by rw [← hg]; exact (gcd_step x y).symm, hW⟩, ⟨rfl, rfl, rfl, trivial⟩, by show x % y < y; exact Nat.mod_lt _ oQ⟩
  skip
  refine ⟨_, rfl, rfl, ?_⟩
  refine OW.p (PEv.vl (v' := vu (x % y)) (PEv.rem (.t rfl) (.t rfl) oQ) (congrArg (Go.Value.int .u64) (by rfl))) rfl rfl ?_
  refine AW.step (rs := [0]) kQ cQ ?_
  intro i hi
  obtain rfl := List.mem_singleton.1 hi
  refine ⟨_, rfl, rfl, ?_⟩
  refine OW.p (PEv.move (.t rfl)) rfl rfl ?_
  refine AW.step (rs := [4]) kQ cQ ?_
  intro i hi
  obtain rfl := List.mem_singleton.1 hi
  refine ⟨_, rfl, rfl, ?_⟩
  refine OW.p (PEv.assign (.t rfl)) rfl rfl ?_
  refine AW.step (rs := [5]) kQ cQ ?_
  intro i hi
  obtain rfl := List.mem_singleton.1 hi
  refine ⟨_, rfl, rfl, ?_⟩
  refine OW.p (PEv.assign (.t rfl)) rfl rfl ?_
  refine AW.done kQ ?_
  refine KW.inBlock (KW.round ?_)
  exact ⟨(y, x % y), ⟨by rw [← hg]; exact (gcd_step x y).symm, hW⟩, ⟨rfl, rfl, rfl, trivial⟩, by show x % y < y; exact Nat.mod_lt _ oQ⟩
 replace h6 := dQ h6
 have hy0 : y = 0 := by omega
 refine CW.exit (KW.then_exit (KW.then_exit (KW.block_hit (KW.then (CW.S (LW.M rfl (LW.A rfl (LW.T (CW.ret ?_)))))))))
 refine KW.ret1 rfl rfl ⟨_, rfl, ?_⟩
 exact ⟨by rw [← hg, hy0, Nat.gcd_zero_right], hW⟩
theorem rvalid_any (a : Rt) (w : World) (h : a.ok) : Ret Tryz.prog 129 #[.agg a.cells] w fun r w' => r = .bool true ∧ Up w w' := by
 have hW := Up.refl w
 refine cS (n := 31) (m := 9) func129 rfl rfl rfl ?_
 refine CW.S ?_
 refine LW.rr (.boxA (.t rfl)) rfl ?_
 rintro _ w1 ⟨B1, rfl, NB1⟩
 have eB1 := NB1.at_
 have zB1 := NB1.size
 replace hW := hW.up NB1.up
 have hB1 := NB1.blk
 refine LW.C (LW.S ?_)
 refine CW.draws kQ kQ rfl rfl ?_
 refine HW.pp (.fA 1 underlying34 rfl sizeOf3 rfl) ?_
 refine HW.pp (.ld isAgg3 rfl (hB1.celln rfl)) ?_
 refine HW.pp (.tr (PEv.geq (.t rfl) (.const _)) (decide_eq_true (by have := h.pos; omega))) ?_
 refine HW.pp (.move (.t rfl)) ?_
 refine HW.yy (.fA 1 underlying34 rfl sizeOf3 rfl) ?_
 refine HW.yy (.ld isAgg3 rfl (hB1.celln rfl)) ?_
 refine HW.yy (.tr (PEv.leq (.t rfl) (.const _)) (decide_eq_true h.den)) ?_
 refine HW.pp (.pick_and (.t rfl) (fun hp => (by first | exact .const _ | exact .tmp rfl | exact .cond rfl (by first | assumption | (rw [hp]; rfl) | (rw [hc, hp]; rfl) | simp_all)))) ?_
 refine HW.pp (.move (.t rfl)) ?_
 refine HW.yy (.fA 0 underlying34 rfl sizeOf3 rfl) ?_
 refine HW.yy (.ld isAgg3 rfl (hB1.celln rfl)) ?_
 refine HW.yy (.tr (PEv.geq (.t rfl) (.const _)) (decide_eq_true (by have := h.num; omega))) ?_
 refine HW.pp (.pick_and (.t rfl) (fun hp => (by first | exact .const _ | exact .tmp rfl | exact .cond rfl (by first | assumption | (rw [hp]; rfl) | (rw [hc, hp]; rfl) | simp_all)))) ?_
 refine HW.pp (.move (.t rfl)) ?_
 refine HW.yy (.fA 0 underlying34 rfl sizeOf3 rfl) ?_
 refine HW.yy (.ld isAgg3 rfl (hB1.celln rfl)) ?_
 refine HW.yy (.tr (PEv.leq (.t rfl) (.const _)) (decide_eq_true (by have := h.num; omega))) ?_
 refine HW.pp (.pick_and (.t rfl) (fun hp => (by first | exact .const _ | exact .tmp rfl | exact .cond rfl (by first | assumption | (rw [hp]; rfl) | (rw [hc, hp]; rfl) | simp_all)))) ?_
 refine HW.pp (.move (.t rfl)) ?_
 refine HW.yy (.fA 0 underlying34 rfl sizeOf3 rfl) ?_
 refine HW.yy (.ld isAgg3 rfl (hB1.celln rfl)) ?_
 refine HW.yc rfl rfl rfl rfl rfl (fun a w _ ha => enter_call0 (.cons (.t rfl) .nil) (en85) a ha) rfl (fun w hu => rsize_any a.n w h.nI) ?_
 refine HW.yy (.fA 1 underlying34 rfl sizeOf3 rfl) ?_
 refine HW.yy (.ld isAgg3 rfl (hB1.celln rfl)) ?_
 refine HW.yc rfl rfl rfl rfl rfl (fun a w _ ha => enter_call0 (.cons (.t rfl) .nil) (en85) a ha) rfl (fun w hu => rsize_any a.d w h.dI) ?_
 refine HW.yc rfl rfl rfl rfl rfl (fun a w _ ha => enter_call0 (.cons (.t rfl) (.cons (.t rfl) .nil)) (en84) a ha) rfl (fun w hu => rdiv_any a.n.natAbs a.d.natAbs w) ?_
 refine HW.yy (.tr (PEv.eql (.t rfl) (.const _)) (decide_eq_true (by have := h.co; unfold gcdA at this; omega))) ?_
 refine HW.pp (.pick_and (.t rfl) (fun hp => (by first | exact .const _ | exact .tmp rfl | exact .cond rfl (by first | assumption | (rw [hp]; rfl) | (rw [hc, hp]; rfl) | simp_all)))) ?_
 refine HW.pp (.assign (.t rfl)) ?_
 refine HW.nil ?_
 intro w2 uw2
 have zw2 := uw2.size
 replace hW := hW.up uw2
 replace hB1 := hB1.up uw2
 refine KW.then (CW.ret ?_)
 refine KW.ret1 rfl rfl ⟨_, rfl, ?_⟩
 exact ⟨rfl, hW⟩
theorem rboth_any (a b : Rt) (w : World) (ha : a.ok) (hb : b.ok) : Ret Tryz.prog 127 #[.agg a.cells, .agg b.cells] w fun r w' => r = .bool true ∧ Up w w' := by
 have hW := Up.refl w
 refine cS (n := 15) (m := 9) func127 rfl rfl rfl ?_
 refine CW.S ?_
 refine LW.rr (.boxA (.t rfl)) rfl ?_
 rintro _ w1 ⟨B2, rfl, NB2⟩
 have eB2 := NB2.at_
 have zB2 := NB2.size
 replace hW := hW.up NB2.up
 have hB2 := NB2.blk
 refine LW.rr (.boxA (.t rfl)) rfl ?_
 rintro _ w2 ⟨B3, rfl, NB3⟩
 have eB3 := NB3.at_
 have zB3 := NB3.size
 replace hW := hW.up NB3.up
 replace hB2 := hB2.up NB3.up
 have hB3 := NB3.blk
 refine LW.C (LW.S (CW.region ?_))
 refine LW.pp (.la isAgg34 sizeOf34 rfl (hB2.agg)) ?_
 refine LW.K (eC (.o rfl) (en129)) rfl (rvalid_any a _ ha) ?_
 rintro _ w3 ⟨rfl, uw3⟩
 have zw3 := uw3.size
 replace hW := hW.up uw3
 replace hB2 := hB2.up uw3
 replace hB3 := hB3.up uw3
 refine LW.A rfl (LW.S (CW.region ?_))
 refine LW.pp (.la isAgg34 sizeOf34 rfl (hB3.agg)) ?_
 refine LW.K (eC (.o rfl) (en129)) rfl (rvalid_any b _ hb) ?_
 rintro _ w4 ⟨rfl, uw4⟩
 have zw4 := uw4.size
 replace hW := hW.up uw4
 replace hB2 := hB2.up uw4
 replace hB3 := hB3.up uw4
 refine LW.A rfl (LW.S (CW.region (LW.M rfl (LW.M rfl ?_))))
 refine LW.Y ?_
 refine LW.M rfl ?_
 refine LW.pp (.pick_and (.t rfl) (fun hp => (by first | exact .const _ | exact .tmp rfl | exact .cond rfl (by first | assumption | (rw [hp]; rfl) | (rw [hc, hp]; rfl) | simp_all)))) ?_
 refine LW.A rfl (LW.T (CW.ret ?_))
 refine KW.ret1 rfl rfl ⟨_, rfl, ?_⟩
 exact ⟨rfl, hW⟩
theorem rmake_any (n d : Int) (w : World) (hn : inI n) (hd : 0 < d) (hdi : inI d) : Ret Tryz.prog 43 #[vi n, vi d] w fun r w' => r = .tuple #[.agg (mkF n d).1.cells, vi (mkF n d).2] ∧ Up w w' := by
 obtain ⟨w0, rfl⟩ : ∃ w0, w0 = w := ⟨_, rfl⟩
 have hS := Sep.start no w0
 refine cS (n := 48) (m := 9) func43 rfl rfl rfl ?_
 refine CW.S ?_
 refine LW.rr (.allocA zeroValue34) rfl ?_
 rintro _ w1 ⟨B4, rfl, NB4⟩
 have eB4 := NB4.at_
 have zB4 := NB4.size
 replace hS := hS.addB NB4
 change Wx.Sep _ _ _ [_] at hS
 refine LW.C (LW.S (CW.S (LW.M rfl ?_)))
 refine LW.pp (.fa (PEv.eql (.t rfl) (.const _)) (decide_eq_false oQ)) ?_
 refine LW.T ?_
 refine CW.cond_false (.t rfl) ?_
 refine CW.skip (KW.then (CW.S (LW.M rfl ?_)))
 refine LW.K (eC (.o rfl) (en85)) rfl (rsize_any n _ hn) ?_
 rintro _ w2 ⟨rfl, uw2⟩
 have zw2 := uw2.size
 replace hS := hS.up uw2
 refine LW.M rfl ?_
 refine LW.K (eC (.o rfl) (en85)) rfl (rsize_any d _ hdi) ?_
 rintro _ w3 ⟨rfl, uw3⟩
 have zw3 := uw3.size
 replace hS := hS.up uw3
 refine LW.K (eC (.u rfl rfl) (en84)) rfl (rdiv_any n.natAbs d.natAbs _) ?_
 rintro _ w4 ⟨rfl, uw4⟩
 have zw4 := uw4.size
 replace hS := hS.up uw4
 refine LW.A rfl (LW.S (CW.region (LW.M rfl ?_)))
 refine LW.K (eC (.o rfl) (en85)) rfl (rsize_any n _ hn) ?_
 rintro _ w5 ⟨rfl, uw5⟩
 have zw5 := uw5.size
 replace hS := hS.up uw5
 refine LW.M rfl ?_
 refine LW.pp (.vl (v' := vu (n.natAbs / gcdA n d)) (PEv.quo (.t rfl) (.t rfl) (by have := gcdA_pos (n := n) hd; unfold gcdA at this; omega)) (quoU _ _ (by have h1 := hn.1; have h2 := hn.2; omega))) ?_
 refine LW.A rfl (LW.S (CW.region (LW.M rfl ?_)))
 refine LW.K (eC (.o rfl) (en85)) rfl (rsize_any d _ hdi) ?_
 rintro _ w6 ⟨rfl, uw6⟩
 have zw6 := uw6.size
 replace hS := hS.up uw6
 refine LW.M rfl ?_
 refine LW.pp (.vl (v' := vu (d.natAbs / gcdA n d)) (PEv.quo (.t rfl) (.t rfl) (by have := gcdA_pos (n := n) hd; unfold gcdA at this; omega)) (quoU _ _ (by have h1 := hdi.1; have h2 := hdi.2; omega))) ?_
 refine LW.A rfl (LW.S (CW.S (LW.M rfl ?_)))
 refine LW.pp (.gtr (.t rfl) (.const _)) ?_
 refine LW.M rfl ?_
 refine LW.g rfl rfl rfl rfl rfl rfl rfl (fun hc => PEv.move (.t rfl)) ?_
 refine LW.g rfl rfl rfl rfl rfl rfl rfl (fun hc => PEv.gtr vQ (.const _)) ?_
 refine LW.pp (.pick_or (.t rfl) (fun hp => (by first | exact .const _ | exact .tmp rfl | exact .cond rfl (by first | assumption | (rw [hp]; rfl) | (rw [hc, hp]; rfl) | simp_all)))) ?_
 refine LW.T ?_
 refine CW.cond (.t rfl) (fun h31 => ?_) (fun h31 => ?_)
 ·replace h31 := dQ h31
  have hmx : ¬ (n.natAbs / gcdA n d ≤ 1000000000 ∧ d.natAbs / gcdA n d ≤ 1000000000) := fun e => by simp at h31; omega
  refine CW.S ?_
  refine LW.pp (.build (cs := rt0.cells) underlying34 zeroValue34 Tryz.places34 .nil rfl) ?_
  refine LW.E (.storeA sizeOf34 rfl (.t rfl) (.t rfl) (Rt.one _) (hS.blk 0 rfl) rfl) ?_
  intro w7 Nw7
  have zw7 := Nw7.size
  replace hS := hS.putB 0 rfl (show Set_ _ w7 _ (rt0.cells) _ from Nw7)
  change Wx.Sep _ _ _ [_] at hS
  refine LW.C (LW.T (CW.ret (KW.then_ret ?_)))
  refine KW.retAT rfl rfl rfl isAgg34 sizeOf34 rfl ((hS.blk 0 rfl)).agg ⟨_, rfl, ?_⟩
  first | exact ⟨by rw [mkF_no hmx], hS.upd⟩ | exact ⟨by rw [mkF_neg hmx hng], hS.upd⟩ | exact ⟨by rw [mkF_pos hmx hng], hS.upd⟩
 replace h31 := dQ h31
 have hmx : n.natAbs / gcdA n d ≤ 1000000000 ∧ d.natAbs / gcdA n d ≤ 1000000000 := by simp at h31; omega
 refine CW.skip (KW.then (CW.S (LW.M rfl ?_)))
 refine LW.pp (.vl (v' := vi ((n.natAbs / gcdA n d : Nat) : Int)) (PEv.conv (k' := .i64) (by rw [underlying95]; rfl) underlying3 (.t rfl)) (convU hmx.1)) ?_
 refine LW.M rfl ?_
 refine LW.pp (.vl (v' := vi ((d.natAbs / gcdA n d : Nat) : Int)) (PEv.conv (k' := .i64) (by rw [underlying95]; rfl) underlying3 (.t rfl)) (convU hmx.2)) ?_
 refine LW.pp (.build (cs := (Rt.mk ((n.natAbs / gcdA n d : Nat) : Int) ((d.natAbs / gcdA n d : Nat) : Int)).cells) underlying34 zeroValue34 Tryz.places34 (.cons (.t rfl) (.cons (.t rfl) .nil)) rfl) ?_
 refine LW.rr (.allocA zeroValue34) rfl ?_
 rintro _ w8 ⟨B9, rfl, MB9⟩
 refine LW.E (.storeA sizeOf34 rfl (.t rfl) (.t rfl) (Rt.one _) MB9.blk rfl) ?_
 intro w9 LB9
 have NB9 := MB9.set LB9
 clear LB9 MB9
 have eB9 := NB9.at_
 have zB9 := NB9.size
 replace hS := hS.addB NB9
 change Wx.Sep _ _ _ [_, _] at hS
 refine LW.S (CW.S (LW.M rfl ?_))
 refine LW.pp (.lss (.t rfl) (.const _)) ?_
 refine LW.M rfl ?_
 refine LW.pp (.fa (PEv.lss (.t rfl) (.const _)) (decide_eq_false oQ)) ?_
 refine LW.pp (.neqB underlying4 (.t rfl) (.t rfl)) ?_
 refine LW.T ?_
 refine CW.cond (.t rfl) (fun h42 => ?_) (fun h42 => ?_)
 ·replace h42 := dQ h42
  have hng : n < 0 := by revert h42; by_cases h : n < 0 <;> simp [h]
  refine CW.region ?_
  refine LW.pp (.fA 0 underlying34 rfl sizeOf3 rfl) ?_
  refine LW.pp (.ld isAgg3 rfl ((hS.blk 1 rfl).celln rfl)) ?_
  refine LW.pp (.vl (v' := vi (-((n.natAbs / gcdA n d : Nat) : Int))) (PEv.neg underlying3 (.t rfl)) (congrArg (Go.Value.int .i64) (negW hmx.1))) ?_
  refine LW.pp (.fA 0 underlying34 rfl sizeOf3 rfl) ?_
  refine LW.E (.store sizeOf3 (.t rfl) (.t rfl) rfl (hS.blk 1 rfl) (Nat.le_of_ble_eq_true rfl)) ?_
  intro w10 Nw10
  have zw10 := Nw10.size
  replace hS := hS.putB 1 rfl (show Set_ _ w10 _ ((Rt.mk (-((n.natAbs / gcdA n d : Nat) : Int)) ((d.natAbs / gcdA n d : Nat) : Int)).cells) _ from Nw10)
  change Wx.Sep _ _ _ [_, _] at hS
  refine LW.S (CW.region ?_)
  refine LW.pp (.la isAgg34 sizeOf34 rfl ((hS.blk 1 rfl).agg)) ?_
  refine LW.E (.storeA sizeOf34 rfl (.t rfl) (.t rfl) (Rt.one _) (hS.blk 0 rfl) rfl) ?_
  intro w11 Nw11
  have zw11 := Nw11.size
  replace hS := hS.putB 0 rfl Nw11
  change Wx.Sep _ _ _ [_, _] at hS
  refine LW.C (LW.T (CW.ret ?_))
  refine KW.retAT rfl rfl rfl isAgg34 sizeOf34 rfl ((hS.blk 0 rfl)).agg ⟨_, rfl, ?_⟩
  first | exact ⟨by rw [mkF_no hmx], hS.upd⟩ | exact ⟨by rw [mkF_neg hmx hng], hS.upd⟩ | exact ⟨by rw [mkF_pos hmx hng], hS.upd⟩
 replace h42 := dQ h42
 have hng : ¬ n < 0 := by revert h42; by_cases h : n < 0 <;> simp [h]
 refine CW.skip (KW.then (CW.S ?_))
 refine LW.pp (.la isAgg34 sizeOf34 rfl ((hS.blk 1 rfl).agg)) ?_
 refine LW.E (.storeA sizeOf34 rfl (.t rfl) (.t rfl) (Rt.one _) (hS.blk 0 rfl) rfl) ?_
 intro w12 Nw12
 have zw12 := Nw12.size
 replace hS := hS.putB 0 rfl Nw12
 change Wx.Sep _ _ _ [_, _] at hS
 refine LW.C (LW.T (CW.ret ?_))
 refine KW.retAT rfl rfl rfl isAgg34 sizeOf34 rfl ((hS.blk 0 rfl)).agg ⟨_, rfl, ?_⟩
 first | exact ⟨by rw [mkF_no hmx], hS.upd⟩ | exact ⟨by rw [mkF_neg hmx hng], hS.upd⟩ | exact ⟨by rw [mkF_pos hmx hng], hS.upd⟩
theorem radd_any (a b : Rt) (w : World) (ha : a.ok) (hb : b.ok) : Ret Tryz.prog 77 #[.agg a.cells, .agg b.cells] w fun r w' => r = .tuple #[.agg (mkF (addN a b) (a.d * b.d)).1.cells, vi (mkF (addN a b) (a.d * b.d)).2] ∧ Up w w' := by
 obtain ⟨w0, rfl⟩ : ∃ w0, w0 = w := ⟨_, rfl⟩
 have hS := Sep.start no w0
 refine cS (n := 32) (m := 9) func77 rfl rfl rfl ?_
 refine CW.S ?_
 refine LW.rr (.boxA (.t rfl)) rfl ?_
 rintro _ w1 ⟨B2, rfl, NB2⟩
 have eB2 := NB2.at_
 have zB2 := NB2.size
 replace hS := hS.addB NB2
 change Wx.Sep _ _ _ [_] at hS
 refine LW.rr (.boxA (.t rfl)) rfl ?_
 rintro _ w2 ⟨B3, rfl, NB3⟩
 have eB3 := NB3.at_
 have zB3 := NB3.size
 replace hS := hS.addB NB3
 change Wx.Sep _ _ _ [_, _] at hS
 refine LW.rr (.allocA zeroValue34) rfl ?_
 rintro _ w3 ⟨B4, rfl, NB4⟩
 have eB4 := NB4.at_
 have zB4 := NB4.size
 replace hS := hS.addB NB4
 change Wx.Sep _ _ _ [_, _, _] at hS
 refine LW.C (LW.S (CW.region ?_))
 refine LW.pp (.la isAgg34 sizeOf34 rfl ((hS.blk 0 rfl).agg)) ?_
 refine LW.pp (.la isAgg34 sizeOf34 rfl ((hS.blk 1 rfl).agg)) ?_
 refine LW.K (eC (.u rfl rfl) (en127)) rfl (rboth_any a b _ ha hb) ?_
 rintro _ w4 ⟨rfl, uw4⟩
 have zw4 := uw4.size
 replace hS := hS.up uw4
 refine LW.A rfl (LW.S (CW.S (LW.M rfl ?_)))
 refine LW.pp (.fa (PEv.not (.t rfl)) (rfl)) ?_
 refine LW.T ?_
 refine CW.cond_false (.t rfl) ?_
 refine CW.skip (KW.then (CW.S ?_))
 refine LW.pp (.fA 0 underlying34 rfl sizeOf3 rfl) ?_
 refine LW.pp (.ld isAgg3 rfl ((hS.blk 0 rfl).celln rfl)) ?_
 refine LW.pp (.fA 1 underlying34 rfl sizeOf3 rfl) ?_
 refine LW.pp (.ld isAgg3 rfl ((hS.blk 1 rfl).celln rfl)) ?_
 refine LW.pp (.mul_w (.t rfl) (.t rfl)) ?_
 refine LW.pp (.fA 0 underlying34 rfl sizeOf3 rfl) ?_
 refine LW.pp (.ld isAgg3 rfl ((hS.blk 1 rfl).celln rfl)) ?_
 refine LW.pp (.fA 1 underlying34 rfl sizeOf3 rfl) ?_
 refine LW.pp (.ld isAgg3 rfl ((hS.blk 0 rfl).celln rfl)) ?_
 refine LW.pp (.mul_w (.t rfl) (.t rfl)) ?_
 refine LW.pp (.vl (v' := vi (addN a b)) (PEv.add_w (.t rfl) (.t rfl)) (congrArg (Go.Value.int .i64) (addW ha hb))) ?_
 refine LW.pp (.fA 1 underlying34 rfl sizeOf3 rfl) ?_
 refine LW.pp (.ld isAgg3 rfl ((hS.blk 0 rfl).celln rfl)) ?_
 refine LW.pp (.fA 1 underlying34 rfl sizeOf3 rfl) ?_
 refine LW.pp (.ld isAgg3 rfl ((hS.blk 1 rfl).celln rfl)) ?_
 refine LW.pp (.vl (v' := vi (a.d * b.d)) (PEv.mul_w (.t rfl) (.t rfl)) (congrArg (Go.Value.int .i64) (ddW ha hb))) ?_
 refine LW.K (eC (.u rfl rfl) (en43)) rfl (rmake_any (addN a b) (a.d * b.d) _ (by have h := addN_in ha hb; exact ⟨by omega, by omega⟩) (dd_in ha hb).1 (by have h := dd_in ha hb; exact ⟨by omega, by omega⟩)) ?_
 rintro _ w5 ⟨rfl, uw5⟩
 have zw5 := uw5.size
 replace hS := hS.up uw5
 refine LW.pp (.extract (.t rfl) rfl) (LW.pp (.extract (.t rfl) rfl) ?_)
 refine LW.E (.storeA sizeOf34 rfl (.t rfl) (.t rfl) (Rt.one _) (hS.blk 2 rfl) rfl) ?_
 intro w6 Nw6
 have zw6 := Nw6.size
 replace hS := hS.putB 2 rfl (show Set_ _ w6 _ ((mkF (addN a b) (a.d * b.d)).1.cells) _ from Nw6)
 change Wx.Sep _ _ _ [_, _, _] at hS
 refine LW.A rfl (LW.T (CW.ret ?_))
 refine KW.retAT rfl rfl rfl isAgg34 sizeOf34 rfl ((hS.blk 2 rfl)).agg ⟨_, rfl, ?_⟩
 exact ⟨rfl, hS.upd⟩
theorem rsub_any (a b : Rt) (w : World) (ha : a.ok) (hb : b.ok) : Ret Tryz.prog 78 #[.agg a.cells, .agg b.cells] w fun r w' => r = .tuple #[.agg (mkF (addN a (Rt.mk (-b.n) b.d)) (a.d * b.d)).1.cells, vi (mkF (addN a (Rt.mk (-b.n) b.d)) (a.d * b.d)).2] ∧ Up w w' := by
 obtain ⟨w0, rfl⟩ : ∃ w0, w0 = w := ⟨_, rfl⟩
 have hS := Sep.start no w0
 refine cS (n := 32) (m := 9) func78 rfl rfl rfl ?_
 refine CW.S ?_
 refine LW.rr (.boxA (.t rfl)) rfl ?_
 rintro _ w1 ⟨B2, rfl, NB2⟩
 have eB2 := NB2.at_
 have zB2 := NB2.size
 replace hS := hS.addB NB2
 change Wx.Sep _ _ _ [_] at hS
 refine LW.rr (.boxA (.t rfl)) rfl ?_
 rintro _ w2 ⟨B3, rfl, NB3⟩
 have eB3 := NB3.at_
 have zB3 := NB3.size
 replace hS := hS.addB NB3
 change Wx.Sep _ _ _ [_, _] at hS
 refine LW.rr (.allocA zeroValue34) rfl ?_
 rintro _ w3 ⟨B4, rfl, NB4⟩
 have eB4 := NB4.at_
 have zB4 := NB4.size
 replace hS := hS.addB NB4
 change Wx.Sep _ _ _ [_, _, _] at hS
 refine LW.C (LW.S (CW.region ?_))
 refine LW.pp (.la isAgg34 sizeOf34 rfl ((hS.blk 0 rfl).agg)) ?_
 refine LW.pp (.la isAgg34 sizeOf34 rfl ((hS.blk 1 rfl).agg)) ?_
 refine LW.K (eC (.u rfl rfl) (en127)) rfl (rboth_any a b _ ha hb) ?_
 rintro _ w4 ⟨rfl, uw4⟩
 have zw4 := uw4.size
 replace hS := hS.up uw4
 refine LW.A rfl (LW.S (CW.S (LW.M rfl ?_)))
 refine LW.pp (.fa (PEv.not (.t rfl)) (rfl)) ?_
 refine LW.T ?_
 refine CW.cond_false (.t rfl) ?_
 refine CW.skip (KW.then (CW.S ?_))
 refine LW.pp (.fA 0 underlying34 rfl sizeOf3 rfl) ?_
 refine LW.pp (.ld isAgg3 rfl ((hS.blk 0 rfl).celln rfl)) ?_
 refine LW.pp (.fA 1 underlying34 rfl sizeOf3 rfl) ?_
 refine LW.pp (.ld isAgg3 rfl ((hS.blk 1 rfl).celln rfl)) ?_
 refine LW.pp (.mul_w (.t rfl) (.t rfl)) ?_
 refine LW.pp (.fA 0 underlying34 rfl sizeOf3 rfl) ?_
 refine LW.pp (.ld isAgg3 rfl ((hS.blk 1 rfl).celln rfl)) ?_
 refine LW.pp (.fA 1 underlying34 rfl sizeOf3 rfl) ?_
 refine LW.pp (.ld isAgg3 rfl ((hS.blk 0 rfl).celln rfl)) ?_
 refine LW.pp (.mul_w (.t rfl) (.t rfl)) ?_
 refine LW.pp (.vl (v' := vi (addN a (Rt.mk (-b.n) b.d))) (PEv.sub_w (.t rfl) (.t rfl)) (congrArg (Go.Value.int .i64) (subW ha hb))) ?_
 refine LW.pp (.fA 1 underlying34 rfl sizeOf3 rfl) ?_
 refine LW.pp (.ld isAgg3 rfl ((hS.blk 0 rfl).celln rfl)) ?_
 refine LW.pp (.fA 1 underlying34 rfl sizeOf3 rfl) ?_
 refine LW.pp (.ld isAgg3 rfl ((hS.blk 1 rfl).celln rfl)) ?_
 refine LW.pp (.vl (v' := vi (a.d * b.d)) (PEv.mul_w (.t rfl) (.t rfl)) (congrArg (Go.Value.int .i64) (ddW ha hb))) ?_
 refine LW.K (eC (.u rfl rfl) (en43)) rfl (rmake_any (addN a (Rt.mk (-b.n) b.d)) (a.d * b.d) _ (by have h := addN_in ha hb.neg; exact ⟨by omega, by omega⟩) (dd_in ha hb).1 (by have h := dd_in ha hb; exact ⟨by omega, by omega⟩)) ?_
 rintro _ w5 ⟨rfl, uw5⟩
 have zw5 := uw5.size
 replace hS := hS.up uw5
 refine LW.pp (.extract (.t rfl) rfl) (LW.pp (.extract (.t rfl) rfl) ?_)
 refine LW.E (.storeA sizeOf34 rfl (.t rfl) (.t rfl) (Rt.one _) (hS.blk 2 rfl) rfl) ?_
 intro w6 Nw6
 have zw6 := Nw6.size
 replace hS := hS.putB 2 rfl (show Set_ _ w6 _ ((mkF (addN a (Rt.mk (-b.n) b.d)) (a.d * b.d)).1.cells) _ from Nw6)
 change Wx.Sep _ _ _ [_, _, _] at hS
 refine LW.A rfl (LW.T (CW.ret ?_))
 refine KW.retAT rfl rfl rfl isAgg34 sizeOf34 rfl ((hS.blk 2 rfl)).agg ⟨_, rfl, ?_⟩
 exact ⟨rfl, hS.upd⟩
theorem rfloor_any (n d : Int) (w : World) (h : flB n d) : Ret Tryz.prog 130 #[vi n, vi d] w fun r w' => r = vi (n / d) ∧ Up w w' := by
 have hW := Up.refl w
 refine cS (n := 16) (m := 9) func130 rfl rfl rfl ?_
 refine CW.S (LW.C (LW.S (CW.region (LW.M rfl (LW.M rfl ?_)))))
 refine LW.pp (.vl (v' := vi (n.tdiv d)) (PEv.quo (.t rfl) (.t rfl) (by have := h.2.2.1; omega)) (congrArg vi (rfloor_eq h).1)) ?_
 refine LW.A rfl (LW.S (CW.S (LW.M rfl (LW.M rfl ?_))))
 refine LW.pp (.rem (.t rfl) (.t rfl) (by have := h.2.2.1; omega)) ?_
 refine LW.pp (.lss (.t rfl) (.const _)) ?_
 refine LW.T ?_
 refine CW.cond (.t rfl) (fun h12 => ?_) (fun h12 => ?_)
 ·replace h12 := dQ h12
  have hm := h12
  have hb := (rfloor_eq h).2.2.2
  refine CW.region (LW.M rfl ?_)
  refine LW.pp (.sub (.t rfl) (.const _) oQ oQ) ?_
  refine LW.A rfl (LW.S (CW.region (LW.M rfl (LW.A rfl (LW.T (CW.ret ?_))))))
  refine KW.ret1 rfl rfl ⟨_, rfl, ?_⟩
  first | exact ⟨congrArg vi ((rfloor_eq h).2.1 hm), hW⟩ | exact ⟨congrArg vi ((rfloor_eq h).2.2.1 hm), hW⟩
 replace h12 := dQ h12
 have hm : ¬ n.tmod d < 0 := by omega
 refine CW.skip (KW.then (CW.S (LW.M rfl (LW.A rfl (LW.T (CW.ret ?_))))))
 refine KW.ret1 rfl rfl ⟨_, rfl, ?_⟩
 first | exact ⟨congrArg vi ((rfloor_eq h).2.1 hm), hW⟩ | exact ⟨congrArg vi ((rfloor_eq h).2.2.1 hm), hW⟩
theorem rround_any (a : Rt) (d : Int) (w : World) (ha : a.ok) (hd : 1 ≤ d ∧ d ≤ 1000000) : Ret Tryz.prog 80 #[.agg a.cells, vi d] w fun r w' => r = .tuple #[.agg (mkF (rndN a d) d).1.cells, vi (mkF (rndN a d) d).2] ∧ Up w w' := by
 obtain ⟨w0, rfl⟩ : ∃ w0, w0 = w := ⟨_, rfl⟩
 have hS := Sep.start no w0
 refine cS (n := 36) (m := 9) func80 rfl rfl rfl ?_
 refine CW.S ?_
 refine LW.rr (.boxA (.t rfl)) rfl ?_
 rintro _ w1 ⟨B2, rfl, NB2⟩
 have eB2 := NB2.at_
 have zB2 := NB2.size
 replace hS := hS.addB NB2
 change Wx.Sep _ _ _ [_] at hS
 refine LW.rr (.allocA zeroValue34) rfl ?_
 rintro _ w2 ⟨B4, rfl, NB4⟩
 have eB4 := NB4.at_
 have zB4 := NB4.size
 replace hS := hS.addB NB4
 change Wx.Sep _ _ _ [_, _] at hS
 refine LW.C (LW.S (CW.region ?_))
 refine LW.pp (.la isAgg34 sizeOf34 rfl ((hS.blk 0 rfl).agg)) ?_
 refine LW.K (eC (.o rfl) (en129)) rfl (rvalid_any a _ ha) ?_
 rintro _ w3 ⟨rfl, uw3⟩
 have zw3 := uw3.size
 replace hS := hS.up uw3
 refine LW.A rfl (LW.S (CW.S (LW.M rfl ?_)))
 refine LW.pp (.fa (PEv.not (.t rfl)) (rfl)) ?_
 refine LW.M rfl ?_
 refine LW.Y ?_
 refine LW.M rfl ?_
 refine LW.Y ?_
 refine LW.pp (.fa (PEv.lss (.t rfl) (.const _)) (decide_eq_false oQ)) ?_
 refine LW.pp (.pick_or (.t rfl) (fun hp => (by first | exact .const _ | exact .tmp rfl | exact .cond rfl (by first | assumption | (rw [hp]; rfl) | (rw [hc, hp]; rfl) | simp_all)))) ?_
 refine LW.M rfl ?_
 refine LW.Y ?_
 refine LW.M rfl ?_
 refine LW.Y ?_
 refine LW.pp (.fa (PEv.gtr (.t rfl) (.const _)) (decide_eq_false oQ)) ?_
 refine LW.pp (.pick_or (.t rfl) (fun hp => (by first | exact .const _ | exact .tmp rfl | exact .cond rfl (by first | assumption | (rw [hp]; rfl) | (rw [hc, hp]; rfl) | simp_all)))) ?_
 refine LW.T ?_
 refine CW.cond_false (.t rfl) ?_
 refine CW.skip (KW.then (CW.S ?_))
 refine LW.pp (.fA 0 underlying34 rfl sizeOf3 rfl) ?_
 refine LW.pp (.ld isAgg3 rfl ((hS.blk 0 rfl).celln rfl)) ?_
 refine LW.pp (.mul_w (.const _) (.t rfl)) ?_
 refine LW.M rfl ?_
 refine LW.pp (.mul_w (.t rfl) (.t rfl)) ?_
 refine LW.pp (.fA 1 underlying34 rfl sizeOf3 rfl) ?_
 refine LW.pp (.ld isAgg3 rfl ((hS.blk 0 rfl).celln rfl)) ?_
 refine LW.pp (.vl (v' := vi (rndM a d)) (PEv.add_w (.t rfl) (.t rfl)) (congrArg (Go.Value.int .i64) ((rndW ha hd).1))) ?_
 refine LW.pp (.fA 1 underlying34 rfl sizeOf3 rfl) ?_
 refine LW.pp (.ld isAgg3 rfl ((hS.blk 0 rfl).celln rfl)) ?_
 refine LW.pp (.vl (v' := vi (2 * a.d)) (PEv.mul_w (.const _) (.t rfl)) (congrArg (Go.Value.int .i64) ((rndW ha hd).2.1))) ?_
 refine LW.K (eC (.u rfl rfl) (en130)) rfl (rfloor_any (rndM a d) (2 * a.d) _ (rndW ha hd).2.2) ?_
 rintro _ w4 ⟨rfl, uw4⟩
 have zw4 := uw4.size
 replace hS := hS.up uw4
 refine LW.M rfl ?_
 refine LW.K (eC (.u rfl rfl) (en43)) rfl (rmake_any (rndN a d) d _ (rnd_in ha hd) oQ ⟨by omega, by omega⟩) ?_
 rintro _ w5 ⟨rfl, uw5⟩
 have zw5 := uw5.size
 replace hS := hS.up uw5
 refine LW.pp (.extract (.t rfl) rfl) (LW.pp (.extract (.t rfl) rfl) ?_)
 refine LW.E (.storeA sizeOf34 rfl (.t rfl) (.t rfl) (Rt.one _) (hS.blk 1 rfl) rfl) ?_
 intro w6 Nw6
 have zw6 := Nw6.size
 replace hS := hS.putB 1 rfl (show Set_ _ w6 _ ((mkF (rndN a d) d).1.cells) _ from Nw6)
 change Wx.Sep _ _ _ [_, _] at hS
 refine LW.A rfl (LW.T (CW.ret ?_))
 refine KW.retAT rfl rfl rfl isAgg34 sizeOf34 rfl ((hS.blk 1 rfl)).agg ⟨_, rfl, ?_⟩
 exact ⟨rfl, hS.upd⟩
theorem rcmp_any (a b : Rt) (w : World) (ha : a.ok) (hb : b.ok) : Ret Tryz.prog 131 #[.agg a.cells, .agg b.cells] w fun r w' => r = vi (cmpI (a.n * b.d) (b.n * a.d)) ∧ Up w w' := by
 obtain ⟨w0, rfl⟩ : ∃ w0, w0 = w := ⟨_, rfl⟩
 have hS := Sep.start no w0
 refine cS (n := 31) (m := 9) func131 rfl rfl rfl ?_
 refine CW.S ?_
 refine LW.rr (.boxA (.t rfl)) rfl ?_
 rintro _ w1 ⟨B2, rfl, NB2⟩
 have eB2 := NB2.at_
 have zB2 := NB2.size
 replace hS := hS.addB NB2
 change Wx.Sep _ _ _ [_] at hS
 refine LW.rr (.boxA (.t rfl)) rfl ?_
 rintro _ w2 ⟨B3, rfl, NB3⟩
 have eB3 := NB3.at_
 have zB3 := NB3.size
 replace hS := hS.addB NB3
 change Wx.Sep _ _ _ [_, _] at hS
 refine LW.C (LW.S (CW.region ?_))
 refine LW.pp (.la isAgg34 sizeOf34 rfl ((hS.blk 0 rfl).agg)) ?_
 refine LW.pp (.la isAgg34 sizeOf34 rfl ((hS.blk 1 rfl).agg)) ?_
 refine LW.K (eC (.u rfl rfl) (en127)) rfl (rboth_any a b _ ha hb) ?_
 rintro _ w3 ⟨rfl, uw3⟩
 have zw3 := uw3.size
 replace hS := hS.up uw3
 refine LW.A rfl (LW.S (CW.region ?_))
 refine LW.pp (.fA 0 underlying34 rfl sizeOf3 rfl) ?_
 refine LW.pp (.ld isAgg3 rfl ((hS.blk 0 rfl).celln rfl)) ?_
 refine LW.pp (.fA 1 underlying34 rfl sizeOf3 rfl) ?_
 refine LW.pp (.ld isAgg3 rfl ((hS.blk 1 rfl).celln rfl)) ?_
 refine LW.pp (.vl (v' := vi (a.n * b.d)) (PEv.mul_w (.t rfl) (.t rfl)) (congrArg (Go.Value.int .i64) (mulW ha hb))) ?_
 refine LW.A rfl (LW.S (CW.region ?_))
 refine LW.pp (.fA 0 underlying34 rfl sizeOf3 rfl) ?_
 refine LW.pp (.ld isAgg3 rfl ((hS.blk 1 rfl).celln rfl)) ?_
 refine LW.pp (.fA 1 underlying34 rfl sizeOf3 rfl) ?_
 refine LW.pp (.ld isAgg3 rfl ((hS.blk 0 rfl).celln rfl)) ?_
 refine LW.pp (.vl (v' := vi (b.n * a.d)) (PEv.mul_w (.t rfl) (.t rfl)) (congrArg (Go.Value.int .i64) (mulW hb ha))) ?_
 refine LW.A rfl (LW.S (CW.S (LW.M rfl ?_)))
 refine LW.pp (.fa (PEv.not (.t rfl)) (rfl)) ?_
 refine LW.M rfl ?_
 refine LW.Y ?_
 refine LW.M rfl ?_
 refine LW.Y ?_
 refine LW.M rfl ?_
 refine LW.Y ?_
 refine LW.pp (.eql (.t rfl) (.t rfl)) ?_
 refine LW.pp (.pick_or (.t rfl) (fun hp => (by first | exact .const _ | exact .tmp rfl | exact .cond rfl (by first | assumption | (rw [hp]; rfl) | (rw [hc, hp]; rfl) | simp_all)))) ?_
 refine LW.T ?_
 refine CW.cond (.t rfl) (fun h27 => ?_) (fun h27 => ?_)
 ·replace h27 := dQ h27
  have h1 : a.n * b.d = b.n * a.d := by simpa using h27
  refine CW.S (LW.C (LW.T (CW.ret (KW.then_ret ?_))))
  refine KW.ret1 rfl rfl ⟨_, rfl, ?_⟩
  rw [cmp3]
  first | exact ⟨by rw [if_pos h1], hS.upd⟩ | exact ⟨by rw [if_neg h1, if_pos h2], hS.upd⟩ | exact ⟨by rw [if_neg h1, if_neg h2], hS.upd⟩
 replace h27 := dQ h27
 have h1 : ¬ a.n * b.d = b.n * a.d := by simpa using h27
 refine CW.skip (KW.then (CW.seq (CW.S (LW.M rfl (LW.M rfl ?_)))))
 refine LW.pp (.lss (.t rfl) (.t rfl)) ?_
 refine LW.T ?_
 refine CW.cond (.t rfl) (fun h30 => ?_) (fun h30 => ?_)
 ·replace h30 := dQ h30
  have h2 := h30
  refine CW.S (LW.C (LW.T (CW.ret (KW.then_ret ?_))))
  refine KW.ret1 rfl rfl ⟨_, rfl, ?_⟩
  rw [cmp3]
  first | exact ⟨by rw [if_pos h1], hS.upd⟩ | exact ⟨by rw [if_neg h1, if_pos h2], hS.upd⟩ | exact ⟨by rw [if_neg h1, if_neg h2], hS.upd⟩
 replace h30 := dQ h30
 have h2 : ¬ a.n * b.d < b.n * a.d := by omega
 refine CW.skip (KW.then (CW.S (LW.C (LW.T (CW.ret ?_)))))
 refine KW.ret1 rfl rfl ⟨_, rfl, ?_⟩
 rw [cmp3]
 first | exact ⟨by rw [if_pos h1], hS.upd⟩ | exact ⟨by rw [if_neg h1, if_pos h2], hS.upd⟩ | exact ⟨by rw [if_neg h1, if_neg h2], hS.upd⟩
theorem rclamp_any (a lo hi : Rt) (w : World) (ha : a.ok) (hlo : lo.ok) (hhi : hi.ok) : Ret Tryz.prog 81 #[.agg a.cells, .agg lo.cells, .agg hi.cells] w fun r w' => r = .agg (clampF a lo hi).cells ∧ Up w w' := by
 obtain ⟨w0, rfl⟩ : ∃ w0, w0 = w := ⟨_, rfl⟩
 have hS := Sep.start no w0
 refine cS (n := 32) (m := 9) func81 rfl rfl rfl ?_
 refine CW.S ?_
 refine LW.rr (.boxA (.t rfl)) rfl ?_
 rintro _ w1 ⟨B3, rfl, NB3⟩
 have eB3 := NB3.at_
 have zB3 := NB3.size
 replace hS := hS.addB NB3
 change Wx.Sep _ _ _ [_] at hS
 refine LW.rr (.boxA (.t rfl)) rfl ?_
 rintro _ w2 ⟨B4, rfl, NB4⟩
 have eB4 := NB4.at_
 have zB4 := NB4.size
 replace hS := hS.addB NB4
 change Wx.Sep _ _ _ [_, _] at hS
 refine LW.rr (.boxA (.t rfl)) rfl ?_
 rintro _ w3 ⟨B5, rfl, NB5⟩
 have eB5 := NB5.at_
 have zB5 := NB5.size
 replace hS := hS.addB NB5
 change Wx.Sep _ _ _ [_, _, _] at hS
 refine LW.rr (.allocA zeroValue34) rfl ?_
 rintro _ w4 ⟨B6, rfl, NB6⟩
 have eB6 := NB6.at_
 have zB6 := NB6.size
 replace hS := hS.addB NB6
 change Wx.Sep _ _ _ [_, _, _, _] at hS
 refine LW.S (CW.region ?_)
 refine LW.pp (.la isAgg34 sizeOf34 rfl ((hS.blk 0 rfl).agg)) ?_
 refine LW.pp (.la isAgg34 sizeOf34 rfl ((hS.blk 1 rfl).agg)) ?_
 refine LW.K (eC (.u rfl rfl) (en127)) rfl (rboth_any a lo _ ha hlo) ?_
 rintro _ w5 ⟨rfl, uw5⟩
 have zw5 := uw5.size
 replace hS := hS.up uw5
 refine LW.A rfl (LW.S (CW.region ?_))
 refine LW.pp (.la isAgg34 sizeOf34 rfl ((hS.blk 2 rfl).agg)) ?_
 refine LW.K (eC (.o rfl) (en129)) rfl (rvalid_any hi _ hhi) ?_
 rintro _ w6 ⟨rfl, uw6⟩
 have zw6 := uw6.size
 replace hS := hS.up uw6
 refine LW.A rfl (LW.S (CW.S (LW.M rfl ?_)))
 refine LW.pp (.fa (PEv.not (.t rfl)) (rfl)) ?_
 refine LW.M rfl ?_
 refine LW.Y ?_
 refine LW.M rfl ?_
 refine LW.Y ?_
 refine LW.pp (.fa (PEv.not (.t rfl)) (rfl)) ?_
 refine LW.pp (.pick_or (.t rfl) (fun hp => (by first | exact .const _ | exact .tmp rfl | exact .cond rfl (by first | assumption | (rw [hp]; rfl) | (rw [hc, hp]; rfl) | simp_all)))) ?_
 refine LW.T ?_
 refine CW.cond_false (.t rfl) ?_
 refine CW.skip (KW.then (CW.seq (CW.S ?_)))
 refine LW.pp (.la isAgg34 sizeOf34 rfl ((hS.blk 0 rfl).agg)) ?_
 refine LW.pp (.la isAgg34 sizeOf34 rfl ((hS.blk 1 rfl).agg)) ?_
 refine LW.K (eC (.u rfl rfl) (en131)) rfl (rcmp_any a lo _ ha hlo) ?_
 rintro _ w7 ⟨rfl, uw7⟩
 have zw7 := uw7.size
 replace hS := hS.up uw7
 refine LW.pp (.lss (.t rfl) (.const _)) ?_
 refine LW.T ?_
 refine CW.cond (.t rfl) (fun h24 => ?_) (fun h24 => ?_)
 ·replace h24 := dQ h24
  have h1 := h24
  refine CW.S ?_
  refine LW.pp (.la isAgg34 sizeOf34 rfl ((hS.blk 1 rfl).agg)) ?_
  refine LW.E (.storeA sizeOf34 rfl (.t rfl) (.t rfl) (Rt.one _) (hS.blk 3 rfl) rfl) ?_
  intro w8 Nw8
  have zw8 := Nw8.size
  replace hS := hS.putB 3 rfl Nw8
  change Wx.Sep _ _ _ [_, _, _, _] at hS
  refine LW.T (CW.ret (KW.then_ret ?_))
  refine KW.retA rfl rfl isAgg34 sizeOf34 rfl ((hS.blk 3 rfl).agg) ⟨_, rfl, ?_⟩
  first | exact ⟨by unfold clampF; rw [if_pos h1], hS.upd⟩ | exact ⟨by unfold clampF; rw [if_neg h1, if_pos h2], hS.upd⟩ | exact ⟨by unfold clampF; rw [if_neg h1, if_neg h2], hS.upd⟩
 replace h24 := dQ h24
 have h1 := h24
 refine CW.skip (KW.then (CW.seq (CW.S ?_)))
 refine LW.pp (.la isAgg34 sizeOf34 rfl ((hS.blk 0 rfl).agg)) ?_
 refine LW.pp (.la isAgg34 sizeOf34 rfl ((hS.blk 2 rfl).agg)) ?_
 refine LW.K (eC (.u rfl rfl) (en131)) rfl (rcmp_any a hi _ ha hhi) ?_
 rintro _ w9 ⟨rfl, uw9⟩
 have zw9 := uw9.size
 replace hS := hS.up uw9
 refine LW.pp (.gtr (.t rfl) (.const _)) ?_
 refine LW.T ?_
 refine CW.cond (.t rfl) (fun h29 => ?_) (fun h29 => ?_)
 ·replace h29 := dQ h29
  have h2 := h29
  refine CW.S ?_
  refine LW.pp (.la isAgg34 sizeOf34 rfl ((hS.blk 2 rfl).agg)) ?_
  refine LW.E (.storeA sizeOf34 rfl (.t rfl) (.t rfl) (Rt.one _) (hS.blk 3 rfl) rfl) ?_
  intro w10 Nw10
  have zw10 := Nw10.size
  replace hS := hS.putB 3 rfl Nw10
  change Wx.Sep _ _ _ [_, _, _, _] at hS
  refine LW.T (CW.ret (KW.then_ret ?_))
  refine KW.retA rfl rfl isAgg34 sizeOf34 rfl ((hS.blk 3 rfl).agg) ⟨_, rfl, ?_⟩
  first | exact ⟨by unfold clampF; rw [if_pos h1], hS.upd⟩ | exact ⟨by unfold clampF; rw [if_neg h1, if_pos h2], hS.upd⟩ | exact ⟨by unfold clampF; rw [if_neg h1, if_neg h2], hS.upd⟩
 replace h29 := dQ h29
 have h2 := h29
 refine CW.skip (KW.then (CW.S ?_))
 refine LW.pp (.la isAgg34 sizeOf34 rfl ((hS.blk 0 rfl).agg)) ?_
 refine LW.E (.storeA sizeOf34 rfl (.t rfl) (.t rfl) (Rt.one _) (hS.blk 3 rfl) rfl) ?_
 intro w11 Nw11
 have zw11 := Nw11.size
 replace hS := hS.putB 3 rfl Nw11
 change Wx.Sep _ _ _ [_, _, _, _] at hS
 refine LW.T (CW.ret ?_)
 refine KW.retA rfl rfl isAgg34 sizeOf34 rfl ((hS.blk 3 rfl).agg) ⟨_, rfl, ?_⟩
 first | exact ⟨by unfold clampF; rw [if_pos h1], hS.upd⟩ | exact ⟨by unfold clampF; rw [if_neg h1, if_pos h2], hS.upd⟩ | exact ⟨by unfold clampF; rw [if_neg h1, if_neg h2], hS.upd⟩
end Go.Proofs.YtgffaeachbbjoaaGreatDoor
end
section
namespace Go.Wx
theorem sortK_filter {α : Type} {key : α → K2} (p : α → Bool) (l : List α) : (sortK key l).filter p = sortK key (l.filter p) :=
 StS.unique ⟨(sortK_sts l).ord.sublist List.filter_sublist, fun k => by
   rw [List.filter_filter, List.filter_filter]
   have h := (sortK_sts (key := key) l).same k
   rw [show (fun x => (key x == k) && p x) = fun x => p x && (key x == k) from funext fun x => Bool.and_comm _ _, ← List.filter_filter, ← List.filter_filter, h]⟩ (sortK_sts _)
theorem rnsF_sort (b : Base) (t c r : Int) : rnsF b t c r = sortK runK ((b.Processes.filter (runP t c)).filter fun x => decide (x.Recipe = r)) := by unfold rnsF runsB; rw [sortK_filter]
theorem rns_mem {b : Base} {t c r : Int} {x : Fact} : x ∈ rnsF b t c r ↔ x ∈ b.Processes ∧ x.Tool = t ∧ x.Chamber = c ∧ x.Recipe = r := by
 rw [rnsF_sort, (sortK_sts _).same.mem, List.mem_filter, List.mem_filter]
 unfold runP
 simp only [Bool.and_eq_true, decide_eq_true_eq]
 exact ⟨fun ⟨⟨a, b, c⟩, d⟩ => ⟨a, b, c, d⟩, fun ⟨a, b, c, d⟩ => ⟨⟨a, b, c⟩, d⟩⟩
theorem since_filter : ∀ (rs a : List Fact), sinceF rs a = a.filter fun x => rs.all fun y => decide (y.Time ≤ x.Time)
 | [], a => (List.filter_eq_self.2 fun _ _ => rfl).symm
 | y :: rs, a => by
   have e : sinceF (y :: rs) a = sinceF rs (a.filter fun x => decide (y.Time ≤ x.Time)) := rfl
   rw [e, since_filter rs, List.filter_filter]
   congr 1
   funext x
   rw [List.all_cons, Bool.and_comm]
theorem nil11 (i : Nat) (n : Int) : (#[.slice none 0 0, .slice none 0 0, .slice none 0 0, .slice none 0 0, .slice none 0 0, .slice none 0 0, .slice none 0 0, .slice none 0 0, .slice none 0 0, .slice none 0 0, .slice none 0 0] : Array Value)[i]? ≠ some (vi n) := by
 match i with
 | 0 | 1 | 2 | 3 | 4 | 5 | 6 | 7 | 8 | 9 | 10 => simp
 | i + 11 => simp
end Go.Wx
namespace Go.Proofs.YtgffaeachbbjoaaGreatDoor
open Go.Proofs.Tryz
open Go.Wx Go.RowKit
theorem known_any (ad : Option Addr) (cp : Nat) (xs : List I6) (day : Int) (w : World) (hE0 : Els w ad 6 I6.cells xs) : Ret Tryz.prog 12 #[.slice ad xs.length cp, vi day] w fun r w' => ∃ bc, r = .agg bc ∧ BaseC w' bc (ofB (soL xs) (pickI day 11)) ∧ Up w w' := by
 obtain ⟨w0, rfl⟩ : ∃ w0, w0 = w := ⟨_, rfl⟩
 have hS := Sep.start no w0
 refine cS (n := 10) (m := 9) func12 rfl rfl rfl ?_
 refine CW.S ?_
 refine LW.rr (.allocA zeroValue24) rfl ?_
 rintro _ w1 ⟨B4, rfl, NB4⟩
 have eB4 := NB4.at_
 have zB4 := NB4.size
 replace hS := hS.addB NB4
 change Wx.Sep _ _ _ [_] at hS
 refine LW.S (CW.region (LW.M rfl ?_))
 refine LW.K (eC (.o rfl) (en22)) rfl (Some_any ad cp xs _ (Els.up hE0 hS.upd)) ?_
 rintro v6 w2 ⟨hO6, uw2⟩
 have zw2 := uw2.size
 replace hS := hS.up uw2
 obtain ⟨ad6, cp6, rfl, hE6_⟩ := hO6.sl (fun _ => rfl)
 have hE6 : Els w2 ad6 19 Fact.cells (soL xs) := hE6_
 clear hO6 hE6_
 refine LW.M rfl ?_
 refine LW.K (eC (.cons (.t rfl) (.cons (.const _) .nil)) (en13)) rfl (pick_any _ _ _ cQ) ?_
 rintro _ w3 ⟨rfl, uw3⟩
 have zw3 := uw3.size
 replace hS := hS.up uw3
 replace hE6 := hE6.up uw3
 refine LW.K (eC (.u rfl rfl) (en23)) rfl (Of_any ad6 cp6 (soL xs) _ _ hE6 (Nat.le_trans (soL_len xs) cQ)) ?_
 rintro _ w4 ⟨bc, rfl, hC, uw4⟩
 have zw4 := uw4.size
 replace hS := hS.up uw4
 replace hE6 := hE6.up uw4
 have hB4o := hS.blk 0 rfl
 have hno4 : ∀ (i : Nat) (n : Int), (#[.slice none 0 0, .slice none 0 0, .slice none 0 0, .slice none 0 0, .slice none 0 0, .slice none 0 0, .slice none 0 0, .slice none 0 0, .slice none 0 0, .slice none 0 0, .slice none 0 0] : Array Go.Value)[i]? ≠ some (vi n) := nil11
 refine LW.E (.storeA sizeOf24 hC.size (.t rfl) (.t rfl) hC.one (hS.blk 0 rfl) rfl) ?_
 intro w5 Nw5
 have zw5 := Nw5.size
 replace hS := hS.putB 0 rfl (show Set_ _ w5 _ (bc) _ from Nw5)
 change Wx.Sep _ _ _ [_] at hS
 clear hE6
 replace hC := base_sto hC hB4o hno4 Nw5.sto
 refine LW.T (CW.ret ?_)
 refine KW.retA rfl rfl isAgg24 sizeOf24 hC.size ((hS.blk 0 rfl).agg) ⟨_, rfl, ?_⟩
 exact ⟨bc, rfl, hC, hS.upd⟩
end Go.Proofs.YtgffaeachbbjoaaGreatDoor
end
section
namespace Go.Wx
def RInv (L : List Fact) (a : Bool) (rs : Int) : Prop := (a = false → L = []) ∧ (a = true → (∃ y ∈ L, y.Time = rs) ∧ ∀ y ∈ L, y.Time ≤ rs)
theorem RInv.nil : RInv [] false 0 := ⟨fun _ => rfl, fun h => (by cases h)⟩
theorem RInv.put {p : Fact → Bool} {l : List Fact} {k : Nat} {x : Fact} {a : Bool} {rs : Int} (h : RInv ((l.take k).filter p) a rs) (hx : l[k]? = some x) (hy : (p x && (!a || decide (rs < x.Time))) = true) : RInv ((l.take (k + 1)).filter p) true x.Time := by
 rw [Bool.and_eq_true] at hy
 rw [fp_yes hx hy.1]
 refine ⟨fun h => (by cases h), fun _ => ⟨⟨x, List.mem_append_right _ (List.mem_singleton.2 rfl), rfl⟩, fun y hyl => ?_⟩⟩
 rcases List.mem_append.1 hyl with hyl | hyl
 · cases a with
   | false => rw [h.1 rfl] at hyl; cases hyl
   | true =>
     have h1 := (h.2 rfl).2 y hyl
     have h2 : rs < x.Time := by simpa using hy.2
     omega
 rw [List.mem_singleton.1 hyl]; exact Int.le_refl _
theorem RInv.skip {p : Fact → Bool} {l : List Fact} {k : Nat} {x : Fact} {a : Bool} {rs : Int} (h : RInv ((l.take k).filter p) a rs) (hx : l[k]? = some x) (hy : (p x && (!a || decide (rs < x.Time))) = false) : RInv ((l.take (k + 1)).filter p) a rs := by
 cases hp : p x with
 | false => rw [fp_no hx hp]; exact h
 | true =>
   rw [hp, Bool.true_and] at hy
   rw [fp_yes hx hp]
   cases a with
   | false => cases hy
   | true =>
     have h2 : ¬ rs < x.Time := by simpa using hy
     refine ⟨fun h => (by cases h), fun _ => ⟨?_, fun y hyl => ?_⟩⟩
     · obtain ⟨y, hy1, hy2⟩ := (h.2 rfl).1
       exact ⟨y, List.mem_append_left _ hy1, hy2⟩
     rcases List.mem_append.1 hyl with hyl | hyl
     · exact (h.2 rfl).2 y hyl
     rw [List.mem_singleton.1 hyl]; omega
theorem RInv.all {L : List Fact} {a : Bool} {rs : Int} (h : RInv L a rs) (x : Fact) : L.all (fun y => decide (y.Time ≤ x.Time)) = !(a && decide (x.Time < rs)) := by
 cases a with
 | false => rw [h.1 rfl]; rfl
 | true =>
   obtain ⟨⟨y, hy, e⟩, hle⟩ := h.2 rfl
   rw [Bool.true_and]
   by_cases hx : x.Time < rs
   · rw [decide_eq_true hx]
     refine List.all_eq_false.2 ⟨y, hy, ?_⟩
     simp; omega
   rw [decide_eq_false hx]
   refine List.all_eq_true.2 fun z hz => ?_
   have := hle z hz
   exact decide_eq_true oQ
theorem skip_eq {L : List Fact} {a : Bool} {rs : Int} (h : RInv L a rs) (x : Fact) (d : Int × Bool) : ((!d.2 || (a && decide (x.Time < rs))) || (decide (-2 ≤ d.1) && decide (d.1 ≤ 2))) = !(L.all (fun y => decide (y.Time ≤ x.Time)) && clears d) := by
 rw [h.all]
 unfold clears
 have e1 : decide (-2 ≤ d.1) = !decide (d.1 < -2) := by rw [← decide_not]; congr 1; simp
 have e2 : decide (d.1 ≤ 2) = !decide (2 < d.1) := by rw [← decide_not]; congr 1; simp
 rw [e1, e2]
 cases d.2 <;> cases (a && decide (x.Time < rs)) <;> cases decide (d.1 < -2) <;> cases decide (2 < d.1) <;> rfl
theorem ref_step {M T : List Fact} {r t : Int} {RS a : List Fact} {k : Nat} {x : Fact} (hx : a[k]? = some x) : sumF M T r t (sinceF RS (a.take (k + 1))) = if (RS.all (fun y => decide (y.Time ≤ x.Time)) && clears (devF M T r x t)) = true then ((sumF M T r t (sinceF RS (a.take k))).1 + (devF M T r x t).1, (sumF M T r t (sinceF RS (a.take k))).2 ++ [x.ID]) else sumF M T r t (sinceF RS (a.take k)) := by
 rw [since_filter, since_filter]
 cases hp : RS.all (fun y => decide (y.Time ≤ x.Time)) with
 | false => rw [fp_no hx hp]; rfl
 | true =>
   rw [fp_yes hx hp, Bool.true_and]
   unfold sumF
   rw [List.foldl_append]
   show sumStep M T r t _ x = _
   cases hc : clears (devF M T r x t) with
   | false => rw [sum_no hc]; rfl
   | true => rw [sum_yes hc]; rfl
theorem ref_keep {M T : List Fact} {r t : Int} {RS a : List Fact} {k : Nat} {x : Fact} (hx : a[k]? = some x) (h : (RS.all (fun y => decide (y.Time ≤ x.Time)) && clears (devF M T r x t)) = true) : sumF M T r t (sinceF RS (a.take (k + 1))) = ((sumF M T r t (sinceF RS (a.take k))).1 + (devF M T r x t).1, (sumF M T r t (sinceF RS (a.take k))).2 ++ [x.ID]) := by rw [ref_step hx, if_pos h]
theorem ref_skip {M T : List Fact} {r t : Int} {RS a : List Fact} {k : Nat} {x : Fact} (hx : a[k]? = some x) (h : (RS.all (fun y => decide (y.Time ≤ x.Time)) && clears (devF M T r x t)) = false) : sumF M T r t (sinceF RS (a.take (k + 1))) = sumF M T r t (sinceF RS (a.take k)) := by rw [ref_step hx, if_neg (by rw [h]; exact Bool.false_ne_true)]
theorem rI0 : rI 0 = redF 0 4 := by kernel_rfl
end Go.Wx
namespace Go.Proofs.YtgffaeachbbjoaaGreatDoor
open Go.Proofs.Tryz
open Go.Wx Go.RowKit
theorem rval_any (n : Int) (w : World) : Ret Tryz.prog 126 #[vi n] w fun r w' => r = .bool (isVal n) ∧ Up w w' := by
 have hW := Up.refl w
 refine cS (n := 9) (m := 9) func126 rfl rfl rfl ?_
 refine CW.S (LW.C (LW.S (CW.region (LW.M rfl ?_))))
 refine LW.pp (.geq (.t rfl) (.const _)) ?_
 refine LW.M rfl ?_
 refine LW.g rfl rfl rfl rfl rfl rfl rfl (fun hc => PEv.move (.t rfl)) ?_
 refine LW.g rfl rfl rfl rfl rfl rfl rfl (fun hc => PEv.leq vQ (.const _)) ?_
 refine LW.pp (.pick_and (.t rfl) (fun hp => (by first | exact .const _ | exact .tmp rfl | exact .cond rfl (by first | assumption | (rw [hp]; rfl) | (rw [hc, hp]; rfl) | simp_all)))) ?_
 refine LW.A rfl (LW.T (CW.ret ?_))
 refine KW.ret1 rfl rfl ⟨_, rfl, ?_⟩
 exact ⟨rfl, hW⟩
theorem rtar_any (bc : Array Go.Value) (b : Base) (r t : Int) (w : World) (hC : BaseC w bc b) (hl : b.Targets.length ≤ 100000) : Ret Tryz.prog 79 #[.agg bc, vi r, vi t] w fun r0 w' => r0 = vi (tarF b.Targets r t) ∧ Up w w' := by
 obtain ⟨w0, rfl⟩ : ∃ w0, w0 = w := ⟨_, rfl⟩
 have hS := Sep.start no w0
 refine cS (n := 24) (m := 9) func79 rfl rfl rfl ?_
 refine CW.S ?_
 refine LW.rr (.boxA (.t rfl)) rfl ?_
 rintro _ w1 ⟨B3, rfl, NB3⟩
 have eB3 := NB3.at_
 have zB3 := NB3.size
 replace hS := hS.addB NB3
 change Wx.Sep _ _ _ [_] at hS
 refine LW.C (LW.S (CW.region ?_))
 refine LW.pp (.loadA isAgg24 sizeOf24 (hC.size) (.t rfl) ((hS.blk 0 rfl).agg)) ?_
 refine LW.M rfl (LW.M rfl ?_)
 refine LW.K (eC (.cons (.t rfl) (.cons (.t rfl) (.cons (.t rfl) .nil))) (en128)) rfl (rTarget_any bc b r t _ (hC.up hS.upd) hl) ?_
 rintro _ w2 ⟨rfl, uw2⟩
 have zw2 := uw2.size
 replace hS := hS.up uw2
 refine LW.M rfl (LW.pp (.extract (.t rfl) rfl) (LW.pp (.extract (.t rfl) rfl) (LW.A rfl (LW.A rfl (LW.S (CW.S (LW.M rfl ?_)))))))
 refine LW.pp (.not (.t rfl)) ?_
 refine LW.M rfl ?_
 refine LW.g rfl rfl rfl rfl rfl rfl rfl (fun hc => PEv.move (.t rfl)) ?_
 refine LW.gc rfl rfl rfl rfl rfl rfl rfl rfl (fun hc => enter_call0 (.cons vQ .nil) (en126)) (fun hc => rval_any (tgF r t b.Targets).1.Value _) ?_
 intro w3 uw3
 have zw3 := uw3.size
 replace hS := hS.up uw3
 refine LW.g rfl rfl rfl rfl rfl rfl rfl (fun hc => PEv.not vQ) ?_
 refine LW.pp (.pick_or (.t rfl) (fun hp => (by first | exact .const _ | exact .tmp rfl | exact .cond rfl (by first | assumption | (rw [hp]; rfl) | (rw [hc, hp]; rfl) | simp_all)))) ?_
 refine LW.T ?_
 refine CW.cond (.t rfl) (fun h22 => ?_) (fun h22 => ?_)
 ·replace h22 := dQ h22
  have hv : ((tgF r t b.Targets).2 && isVal (tgF r t b.Targets).1.Value) = false := by revert h22; cases (tgF r t b.Targets).2 <;> cases isVal (tgF r t b.Targets).1.Value <;> simp
  refine CW.S (LW.C (LW.T (CW.ret (KW.then_ret ?_))))
  refine KW.ret1 rfl rfl ⟨_, rfl, ?_⟩
  first | exact ⟨by rw [tarF_no hv], hS.upd⟩ | exact ⟨by rw [tarF_yes hv], hS.upd⟩
 replace h22 := dQ h22
 have hv : ((tgF r t b.Targets).2 && isVal (tgF r t b.Targets).1.Value) = true := by revert h22; cases (tgF r t b.Targets).2 <;> cases isVal (tgF r t b.Targets).1.Value <;> simp
 refine CW.skip (KW.then (CW.S (LW.M rfl (LW.A rfl (LW.T (CW.ret ?_))))))
 refine KW.ret1 rfl rfl ⟨_, rfl, ?_⟩
 first | exact ⟨by rw [tarF_no hv], hS.upd⟩ | exact ⟨by rw [tarF_yes hv], hS.upd⟩
theorem rdev_any (bc : Array Go.Value) (b : Base) (r : Int) (x : Fact) (time : Int) (w : World) (hC : BaseC w bc b) (hr : x.Recipe = r) (hlM : b.Measures.length ≤ 100000) (hlT : b.Targets.length ≤ 100000) : Ret Tryz.prog 76 #[.agg bc, .agg x.cells, vi time] w fun r0 w' => r0 = .tuple #[vi (devF b.Measures b.Targets r x time).1, .bool (devF b.Measures b.Targets r x time).2] ∧ Up w w' := by
 obtain ⟨w0, rfl⟩ : ∃ w0, w0 = w := ⟨_, rfl⟩
 have hS := Sep.start no w0
 refine cS (n := 40) (m := 9) func76 rfl rfl rfl ?_
 refine CW.S ?_
 refine LW.rr (.boxA (.t rfl)) rfl ?_
 rintro _ w1 ⟨B3, rfl, NB3⟩
 have eB3 := NB3.at_
 have zB3 := NB3.size
 replace hS := hS.addB NB3
 change Wx.Sep _ _ _ [_] at hS
 refine LW.rr (.boxA (.t rfl)) rfl ?_
 rintro _ w2 ⟨B4, rfl, NB4⟩
 have eB4 := NB4.at_
 have zB4 := NB4.size
 replace hS := hS.addB NB4
 change Wx.Sep _ _ _ [_, _] at hS
 refine LW.C (LW.C (LW.S (CW.region ?_)))
 refine LW.pp (.loadA isAgg24 sizeOf24 (hC.size) (.t rfl) ((hS.blk 0 rfl).agg)) ?_
 refine LW.pp (.fA 1 underlying50 rfl sizeOf3 rfl) ?_
 refine LW.pp (.ld isAgg3 rfl ((hS.blk 1 rfl).celln rfl)) ?_
 refine LW.K (eC (.u rfl rfl) (en125)) rfl (rMeasure_any bc b x.ID _ (hC.up hS.upd) hlM) ?_
 rintro _ w3 ⟨rfl, uw3⟩
 have zw3 := uw3.size
 replace hS := hS.up uw3
 generalize hm : measB b x.ID = m
 refine LW.M rfl (LW.pp (.extract (.t rfl) rfl) (LW.pp (.extract (.t rfl) rfl) ?_))
 refine LW.rr (.allocA zeroValue50) rfl ?_
 rintro _ w4 ⟨B8, rfl, MB8⟩
 refine LW.E (.storeA sizeOf50 rfl (.t rfl) (.t rfl) (Fact.one _) MB8.blk rfl) ?_
 intro w5 LB8
 have NB8 := MB8.set LB8
 clear LB8 MB8
 have eB8 := NB8.at_
 have zB8 := NB8.size
 replace hS := hS.addB NB8
 change Wx.Sep _ _ _ [_, _, _] at hS
 refine LW.A rfl (LW.S (CW.S (LW.M rfl ?_)))
 refine LW.pp (.not (.t rfl)) ?_
 refine LW.M rfl ?_
 refine LW.g rfl rfl rfl rfl rfl rfl rfl (fun hc => PEv.fA 16 underlying50 rfl sizeOf3 rfl) ?_
 refine LW.g rfl rfl rfl rfl rfl rfl rfl (fun hc => PEv.load isAgg3 vQ ((hS.blk 2 rfl).celln rfl)) ?_
 refine LW.gc rfl rfl rfl rfl rfl rfl rfl rfl (fun hc => enter_call0 (.cons vQ .nil) (en126)) (fun hc => rval_any (m.getD zeroF).Value _) ?_
 intro w6 uw6
 have zw6 := uw6.size
 replace hS := hS.up uw6
 refine LW.g rfl rfl rfl rfl rfl rfl rfl (fun hc => PEv.not vQ) ?_
 refine LW.pp (.pick_or (.t rfl) (fun hp => (by first | exact .const _ | exact .tmp rfl | exact .cond rfl (by first | assumption | (rw [hp]; rfl) | (rw [hc, hp]; rfl) | simp_all)))) ?_
 refine LW.M rfl ?_
 refine LW.g rfl rfl rfl rfl rfl rfl rfl (fun hc => PEv.fA 5 underlying50 rfl sizeOf3 rfl) ?_
 refine LW.g rfl rfl rfl rfl rfl rfl rfl (fun hc => PEv.load isAgg3 vQ ((hS.blk 2 rfl).celln rfl)) ?_
 refine LW.g rfl rfl rfl rfl rfl rfl rfl (fun hc => PEv.move (.t rfl)) ?_
 refine LW.g rfl rfl rfl rfl rfl rfl rfl (fun hc => PEv.gtr vQ vQ) ?_
 refine LW.pp (.pick_or (.t rfl) (fun hp => (by first | exact .const _ | exact .tmp rfl | exact .cond rfl (by first | assumption | (rw [hp]; rfl) | (rw [hc, hp]; rfl) | simp_all)))) ?_
 refine LW.T ?_
 refine CW.cond (.t rfl) (fun h30 => ?_) (fun h30 => ?_)
 ·replace h30 := dQ h30
  have hv : notCounts m time = true := by simpa [notCounts] using h30
  refine CW.S (LW.C (LW.C (LW.T (CW.ret (KW.then_ret ?_)))))
  refine KW.ret2 rfl rfl rfl ⟨_, rfl, ?_⟩
  first | exact ⟨by subst hm; rw [devF_no hv], hS.upd⟩ | exact ⟨by subst hm; rw [devF_yes hv]; rfl, hS.upd⟩
 replace h30 := dQ h30
 have hv : notCounts m time = false := by simpa [notCounts] using h30
 refine CW.skip (KW.then (CW.seq ?_))
 have hvi := val_in hv
 have hti := tarF_in b.Targets r x.Time
 refine CW.free 9 [.eq (.pointer (some ⟨B8, 16, none⟩)), .eq (vi (m.getD zeroF).Value), .eq (.agg bc), .eq (.pointer (some ⟨B4, 14, none⟩)), .eq (vi r), .eq (.pointer (some ⟨B4, 5, none⟩)), .eq (vi x.Time), .eq (vi (tarF b.Targets r x.Time)), .eq (vi ((m.getD zeroF).Value - tarF b.Targets r x.Time))] [39] kQ rfl kQ kQ kQ kQ kQ kQ kQ ⟨PhU.eq _, PhU.eq _, PhU.eq _, PhU.eq _, PhU.eq _, PhU.eq _, PhU.eq _, PhU.eq _, PhU.eq _, trivial⟩ ?_ ?_
 ·intro W hU0
  have hU := (Up.drew w6).trans hU0
  have hSW := hS.up hU
  refine aC ⟨rfl, TU.p (.fA 16 underlying50 rfl sizeOf3 rfl) rfl⟩ ?_
  refine aC ⟨rfl, TU.p (.ld isAgg3 rfl ((hSW.blk 2 rfl).celln rfl)) rfl⟩ ?_
  refine aC ⟨rfl, TU.p (.loadA isAgg24 sizeOf24 hC.size (.t rfl) ((hSW.blk 0 rfl).agg)) rfl⟩ ?_
  refine aC ⟨rfl, TU.p (.fA 14 underlying50 rfl sizeOf3 rfl) rfl⟩ ?_
  refine aC ⟨rfl, TU.p (.ld isAgg3 rfl (by rw [← hr]; exact (hSW.blk 1 rfl).celln rfl)) rfl⟩ ?_
  refine aC ⟨rfl, TU.p (.fA 5 underlying50 rfl sizeOf3 rfl) rfl⟩ ?_
  refine aC ⟨rfl, TU.p (.ld isAgg3 rfl ((hSW.blk 1 rfl).celln rfl)) rfl⟩ ?_
  refine aC ⟨rfl, TU.c (eC (.cons (.t rfl) (.cons (.t rfl) (.cons (.t rfl) .nil))) (en79)) (rtar_any bc b r x.Time W (hC.up (hS.upd.trans hU)) hlT) sQ⟩ ?_
  refine aC ⟨rfl, TU.p (.vl (v' := vi ((m.getD zeroF).Value - tarF b.Targets r x.Time)) (PEv.sub_w (.t rfl) (.t rfl)) (congrArg (Go.Value.int .i64) (wrap_i64_in oQ oQ))) rfl⟩ ?_
  exact allL.nil
 intro w7 g hU0 hg
 have hU := (Up.drew w6).trans hU0
 have zw7 := hU.size
 replace hS := hS.up hU
 have e39 : g 39 = _ := hg 8 _ 39 cQ rfl rfl
 dsimp only [List.map]
 rw [e39]
 clear e39 hg
 refine LW.A rfl (LW.C (LW.T (CW.ret ?_)))
 refine KW.ret2 rfl rfl rfl ⟨_, rfl, ?_⟩
 first | exact ⟨by subst hm; rw [devF_no hv], hS.upd⟩ | exact ⟨by subst hm; rw [devF_yes hv]; rfl, hS.upd⟩
theorem rruns_any (bc : Array Go.Value) (b : Base) (t c r : Int) (w : World) (hC : BaseC w bc b) (hl : b.Processes.length ≤ 100000) : Ret Tryz.prog 37 #[.agg bc, vi t, vi c, vi r] w fun r0 w' => OwnS w' w.heap.size 50 19 Fact.cells r0 (rnsF b t c r) ∧ Up w w' := by
 obtain ⟨w0, rfl⟩ : ∃ w0, w0 = w := ⟨_, rfl⟩
 have hS := Sep.start no w0
 refine cS (n := 37) (m := 9) func37 rfl rfl rfl ?_
 refine CW.S ?_
 refine LW.rr (.boxA (.t rfl)) rfl ?_
 rintro _ w1 ⟨B4, rfl, NB4⟩
 have eB4 := NB4.at_
 have zB4 := NB4.size
 replace hS := hS.addB NB4
 change Wx.Sep _ _ _ [_] at hS
 refine LW.C (LW.S (CW.region ?_))
 refine LW.pp (.loadA isAgg24 sizeOf24 (hC.size) (.t rfl) ((hS.blk 0 rfl).agg)) ?_
 refine LW.M rfl (LW.M rfl ?_)
 refine LW.K (eC (.cons (.t rfl) (.cons (.t rfl) (.cons (.t rfl) .nil))) (en75)) rfl (rRuns_any bc b t c _ (hC.up hS.upd) hl) ?_
 rintro v15 w2 ⟨hO15, uw2⟩
 have zw2 := uw2.size
 replace hS := hS.up uw2
 obtain ⟨ad15, cp15, rfl, hE15_⟩ := hO15.sl (fun _ => rfl)
 have hE15 : Els w2 ad15 19 Fact.cells (runsB b t c) := hE15_
 clear hO15 hE15_
 have hrl := runsB_len b t c
 refine LW.A rfl (LW.S (CW.region (LW.C (LW.S (CW.seq ?_)))))
 have hU0 := hS.upd
 obtain ⟨wE, ewE⟩ : ∃ W, W = w2 := ⟨_, rfl⟩
 replace hS : Wx.Sep no wE w2 [] := by rw [ewE]; exact Sep.start no _
 rw [← ewE] at hE15 hU0
 replace hS := hS.add (Up.refl _) (A' := aOwn 50 19 Fact.cells (.slice none 0 0) ([] : List Fact)) (OwnS.nil _ _ _ _ _) (by intro i h; cases h)
 change Wx.Sep _ _ _ [_] at hS
 refine CW.region (LW.C (LW.T (CW.block ?_)))
 refine CW.loopB (σ := Nat × Go.Value) (fun s w => (s.1 ≤ (runsB b t c).length) ∧ (Wx.Sep no wE w [aOwn 50 19 Fact.cells (s.2) (((runsB b t c).take s.1).filter (fun x => decide (x.Recipe = r)))])) (fun s => [(11, .eq (vi (s.1 : Int))), (10, .eq (s.2))]) ([(3, .eq _), (8, .eq _), (9, .eq _)]) (fun s => (runsB b t c).length - s.1) (0, .slice none 0 0) ?_ ⟨rfl, rfl, rfl, rfl, rfl, trivial⟩ ?_
 ·exact ⟨Nat.zero_le _, hS⟩
 rintro ⟨k, v⟩ w3 ⟨hk, hS⟩
 dsimp only at hk hS
 change CW _ _ _ _ _ _ _ ([(11, .eq (vi (k : Int))), (10, .eq (v))] ++ _) _
 refine CW.seq (CW.S (LW.M rfl (LW.M rfl ?_)))
 refine LW.pp (.lenS underlying22 (.t rfl)) ?_
 refine LW.pp (.lss (.t rfl) (.t rfl)) ?_
 refine LW.T ?_
 refine CW.cond (.t rfl) (fun h19 => ?_) (fun h19 => ?_)
 ·replace h19 := dQ h19
  refine CW.skip (KW.then (CW.seq (CW.block (CW.seq ?_))))
  obtain ⟨x, hx⟩ := getElem?_of_lt (xs := (runsB b t c)) (i := k) oQ
  obtain ⟨Bx, ox, ax, hcx⟩ := (hE15.up hS.upd) k x hx
  refine CW.region (LW.M rfl (LW.M rfl ?_))
  refine LW.pp (.indexAddr' underlying22 sizeOf50 (.t rfl) (.t rfl) oQ ax) ?_
  refine LW.pp (.fA 14 underlying50 rfl sizeOf3 rfl) ?_
  refine LW.pp (.ld isAgg3 rfl (hcx.nth (j := 14) rfl)) ?_
  refine LW.M rfl ?_
  refine LW.pp (.eql (.t rfl) (.t rfl)) ?_
  refine LW.T ?_
  refine CW.cond (.t rfl) (fun h28 => ?_) (fun h28 => ?_)
  ·replace h28 := dQ h28
   have hp : (fun x => decide (x.Recipe = r)) x = true := decide_eq_true h28
   refine CW.region (LW.M rfl (LW.M rfl (LW.M rfl ?_)))
   refine LW.pp (.indexAddr' underlying22 sizeOf50 (.t rfl) (.t rfl) oQ ax) ?_
   refine LW.pp (.la isAgg50 sizeOf50 rfl (hcx)) ?_
   refine LW.rr (.buildSlice (xs := [x]) (enc := Fact.cells) (mk := fun f : Fact => .agg f.cells) underlying22 sizeOf50 zeroValue50 rfl cQ (fun _ => rfl) (fun _ => rfl) (.cons (.t rfl) .nil) rfl) rfl ?_
   rintro _ w4 ⟨B34, cB34, rfl, NB34, yB34, xB34⟩
   have eB34 := NB34.at_
   have zB34 := NB34.size
   replace hS := hS.up NB34.up
   replace hcx := hcx.up NB34.up
   have hE34 := xB34
   refine LW.rr (.appendF (enc := Fact.cells) (bytes := 160) (i := Tryz.t50) underlying22 kQ rfl rfl rfl rfl cQ (fun _ => rfl) Fact.one (.t rfl) (.t rfl) (hS.own 0 rfl) (Sl.of_els hE34) (by have := filt_len (fun x => decide (x.Recipe = r)) (runsB b t c) k; simp [maxLen]; omega) (by have := filt_len (fun x => decide (x.Recipe = r)) (runsB b t c) k; simp; omega)) rfl ?_
   intro v35 w5 Gw5
   have zw5 := Gw5.fr.size
   replace hS := hS.stp 0 rfl Gw5
   change Wx.Sep _ _ _ [_] at hS
   refine LW.A rfl (LW.nil (KW.inBlock (KW.then (CW.region (LW.M rfl ?_)))))
   refine LW.pp (.add (.t rfl) (.const _) oQ oQ) ?_
   refine LW.A rfl (LW.nil (KW.round ?_))
   first | exact ⟨(k + 1, v35), ⟨by show k + 1 ≤ _; omega, by first | (rw [fp_yes hx hp]; exact hS.take 1) | (rw [fp_no hx hp]; exact hS.take 1)⟩, ⟨rfl, rfl, rfl, rfl, rfl, trivial⟩, by show (runsB b t c).length - (k + 1) < (runsB b t c).length - k; omega⟩ | exact ⟨(k + 1, v), ⟨by show k + 1 ≤ _; omega, by first | (rw [fp_yes hx hp]; exact hS.take 1) | (rw [fp_no hx hp]; exact hS.take 1)⟩, ⟨rfl, rfl, rfl, rfl, rfl, trivial⟩, by show (runsB b t c).length - (k + 1) < (runsB b t c).length - k; omega⟩
  replace h28 := dQ h28
  have hp : (fun x => decide (x.Recipe = r)) x = false := decide_eq_false h28
  refine CW.skip (KW.inBlock (KW.then (CW.region (LW.M rfl ?_))))
  refine LW.pp (.add (.t rfl) (.const _) oQ oQ) ?_
  refine LW.A rfl (LW.nil (KW.round ?_))
  first | exact ⟨(k + 1, v35), ⟨by show k + 1 ≤ _; omega, by first | (rw [fp_yes hx hp]; exact hS.take 1) | (rw [fp_no hx hp]; exact hS.take 1)⟩, ⟨rfl, rfl, rfl, rfl, rfl, trivial⟩, by show (runsB b t c).length - (k + 1) < (runsB b t c).length - k; omega⟩ | exact ⟨(k + 1, v), ⟨by show k + 1 ≤ _; omega, by first | (rw [fp_yes hx hp]; exact hS.take 1) | (rw [fp_no hx hp]; exact hS.take 1)⟩, ⟨rfl, rfl, rfl, rfl, rfl, trivial⟩, by show (runsB b t c).length - (k + 1) < (runsB b t c).length - k; omega⟩
 replace h19 := dQ h19
 refine CW.exit (KW.then_exit (KW.then_exit (KW.block_hit (KW.then (CW.seq ?_)))))
 have hkl : k = (runsB b t c).length := by omega
 rw [hkl, List.take_length] at hS
 refine CW.region (LW.M rfl (LW.A rfl (LW.T (CW.ret ?_))))
 refine KW.ret1 rfl rfl ⟨_, rfl, ?_⟩
 exact ⟨(hS.own 0 rfl).rebase (fun i h => Nat.le_trans hU0.size ((hS.foot 0 rfl i h).resolve_left (fun h => h))), hU0.trans hS.upd⟩
end Go.Proofs.YtgffaeachbbjoaaGreatDoor
end
section
namespace Go.Wx
theorem els_again {α : Type} {w : World} {ad : Option Addr} {k i B o : Nat} {enc : α → Array Value} {xs : List α} {x : α} (h : Els w ad k enc xs) (hx : xs[i]? = some x) (e : ad = some ⟨B, o, none⟩) : AggAt w B (o + i * k) (enc x) := by
 obtain ⟨B2, o2, e2, h2⟩ := h i x hx
 rw [e] at e2
 cases e2
 exact h2
end Go.Wx
namespace Go.Proofs.YtgffaeachbbjoaaGreatDoor
open Go.Proofs.Tryz
open Go.Wx Go.RowKit
set_option maxHeartbeats 4000000 in
theorem rdecide_any (bc : Array Go.Value) (b : Base) (t c r time : Int) (ada : Option Addr) (cpa : Nat) (ahead : List Fact) (w : World) (hC : BaseC w bc b) (hE0 : Els w ada 19 Fact.cells ahead) (hr : ∀ x ∈ ahead, x.Recipe = r) (hlA : ahead.length ≤ 400) (hlR : b.Resets.length ≤ 100000) (hlM : b.Measures.length ≤ 100000) (hlT : b.Targets.length ≤ 100000) : Ret Tryz.prog 38 #[.agg bc, vi t, vi c, vi r, vi time, .slice ada ahead.length cpa] w fun r0 w' => ∃ ad cp, r0 = .tuple #[.agg (DP.cells ⟨decF b t c r time ahead, ad, cp⟩), .bool true] ∧ OwnS w' w.heap.size 3 1 eInt (.slice ad (decF b t c r time ahead).uses.length cp) (decF b t c r time ahead).uses ∧ Up w w' := by
 obtain ⟨w0, rfl⟩ : ∃ w0, w0 = w := ⟨_, rfl⟩
 have hS := Sep.start no w0
 obtain ⟨v8, h8, adR, cpR, rfl, hER_⟩ := hC.at8
 have hER : Els w0 adR 19 Fact.cells b.Resets := hER_
 refine cS (n := 170) (m := 9) func38 rfl rfl rfl ?_
 refine CW.S ?_
 refine LW.rr (.boxA (.t rfl)) rfl ?_
 rintro _ w1 ⟨B6, rfl, NB6⟩
 have eB6 := NB6.at_
 have zB6 := NB6.size
 replace hS := hS.addB NB6
 change Wx.Sep _ _ _ [_] at hS
 refine LW.rr (.allocA zeroValue37) rfl ?_
 rintro _ w2 ⟨B12, rfl, NB12⟩
 have eB12 := NB12.at_
 have zB12 := NB12.size
 replace hS := hS.addB NB12
 change Wx.Sep _ _ _ [_, _] at hS
 refine LW.C (LW.S (CW.region (LW.C (LW.S (CW.region (LW.C (LW.S ?_)))))))
 refine CW.S (LW.C (LW.T (CW.block ?_)))
 refine CW.loopB (σ := Nat × Bool × Int) (fun s w => (s.1 ≤ b.Resets.length) ∧ (RInv ((b.Resets.take s.1).filter (hereF t c time)) s.2.1 s.2.2) ∧ (Wx.Sep no w0 w [aBlk B6 bc 24, aBlk B12 (DP.cells ⟨dec0, none, 0⟩) 37])) (fun s => [(16, .eq (vi (s.1 : Int))), (15, .eq (.bool s.2.1)), (14, .eq (vi s.2.2))]) ([(1, .eq _), (2, .eq _), (3, .eq _), (4, .eq _), (5, .eq _), (6, .eq _), (12, .eq _), (13, .eq _)]) (fun s => b.Resets.length - s.1) (0, false, 0) ?_ ⟨rfl, rfl, rfl, rfl, rfl, rfl, rfl, rfl, rfl, rfl, rfl, trivial⟩ ?_
 ·exact ⟨Nat.zero_le _, RInv.nil, hS⟩
 rintro ⟨j, a, rs⟩ w3 ⟨hj, hR, hS⟩
 dsimp only at hj hR
 change CW _ _ _ _ _ _ _ ([(16, .eq (vi (j : Int))), (15, .eq (.bool a)), (14, .eq (vi rs))] ++ _) _
 refine CW.seq (CW.S (LW.M rfl ?_))
 refine LW.pp (.fA 8 underlying24 rfl sizeOf22 rfl) ?_
 refine LW.pp (.ld isAgg22 rfl ((hS.blk 0 rfl).cell h8)) ?_
 refine LW.pp (.lenS underlying22 (.t rfl)) ?_
 refine LW.pp (.lss (.t rfl) (.t rfl)) ?_
 refine LW.T ?_
 refine CW.cond (.t rfl) (fun h34 => ?_) (fun h34 => ?_)
 ·replace h34 := dQ h34
  refine CW.skip (KW.then (CW.seq (CW.block (CW.seq ?_))))
  obtain ⟨x, hx⟩ := getElem?_of_lt (xs := b.Resets) (i := j) oQ
  obtain ⟨Bx, ox, ax, hcx⟩ := (Els.up hER hS.upd) j x hx
  refine CW.region ?_
  refine LW.pp (.fA 8 underlying24 rfl sizeOf22 rfl) ?_
  refine LW.pp (.ld isAgg22 rfl ((hS.blk 0 rfl).cell h8)) ?_
  refine LW.M rfl ?_
  refine LW.pp (.indexAddr' underlying22 sizeOf50 (.t rfl) (.t rfl) oQ ax) ?_
  refine LW.pp (.la isAgg50 sizeOf50 rfl (hcx)) ?_
  refine LW.rr (.allocA zeroValue50) rfl ?_
  rintro _ w4 ⟨B17, rfl, MB17⟩
  refine LW.E (.storeA sizeOf50 rfl (.t rfl) (.t rfl) (Fact.one _) MB17.blk rfl) ?_
  intro w5 LB17
  have NB17 := MB17.set LB17
  clear LB17 MB17
  have eB17 := NB17.at_
  have zB17 := NB17.size
  replace hcx := hcx.up NB17.up
  replace hS := hS.addB NB17
  change Wx.Sep _ _ _ [_, _, _] at hS
  refine LW.S (CW.region ?_)
  refine LW.pp (.fA 11 underlying50 rfl sizeOf3 rfl) ?_
  refine LW.pp (.ld isAgg3 rfl ((hS.blk 2 rfl).celln rfl)) ?_
  refine LW.M rfl ?_
  refine LW.pp (.eql (.t rfl) (.t rfl)) ?_
  refine LW.M rfl ?_
  refine LW.g rfl rfl rfl rfl rfl rfl rfl (fun hc => PEv.fA 12 underlying50 rfl sizeOf3 rfl) ?_
  refine LW.g rfl rfl rfl rfl rfl rfl rfl (fun hc => PEv.load isAgg3 vQ ((hS.blk 2 rfl).celln rfl)) ?_
  refine LW.g rfl rfl rfl rfl rfl rfl rfl (fun hc => PEv.move (.t rfl)) ?_
  refine LW.g rfl rfl rfl rfl rfl rfl rfl (fun hc => PEv.eql vQ vQ) ?_
  refine LW.pp (.pick_and (.t rfl) (fun hp => (by first | exact .const _ | exact .tmp rfl | exact .cond rfl (by first | assumption | (rw [hp]; rfl) | (rw [hc, hp]; rfl) | simp_all)))) ?_
  refine LW.M rfl ?_
  refine LW.g rfl rfl rfl rfl rfl rfl rfl (fun hc => PEv.fA 5 underlying50 rfl sizeOf3 rfl) ?_
  refine LW.g rfl rfl rfl rfl rfl rfl rfl (fun hc => PEv.load isAgg3 vQ ((hS.blk 2 rfl).celln rfl)) ?_
  refine LW.g rfl rfl rfl rfl rfl rfl rfl (fun hc => PEv.move (.t rfl)) ?_
  refine LW.g rfl rfl rfl rfl rfl rfl rfl (fun hc => PEv.leq vQ vQ) ?_
  refine LW.pp (.pick_and (.t rfl) (fun hp => (by first | exact .const _ | exact .tmp rfl | exact .cond rfl (by first | assumption | (rw [hp]; rfl) | (rw [hc, hp]; rfl) | simp_all)))) ?_
  refine LW.M rfl ?_
  refine LW.g rfl rfl rfl rfl rfl rfl rfl (fun hc => PEv.move (.t rfl)) ?_
  refine LW.g rfl rfl rfl rfl rfl rfl rfl (fun hc => PEv.not vQ) ?_
  refine LW.g rfl rfl rfl rfl rfl rfl rfl (fun hc => PEv.move vQ) ?_
  refine LW.gg rfl rfl rfl rfl rfl rfl rfl (fun hc => PEv.fA 5 underlying50 rfl sizeOf3 rfl) ?_
  refine LW.gg rfl rfl rfl rfl rfl rfl rfl (fun hc => PEv.load isAgg3 vQ ((hS.blk 2 rfl).celln rfl)) ?_
  refine LW.gg rfl rfl rfl rfl rfl rfl rfl (fun hc => PEv.move (.t rfl)) ?_
  refine LW.gg rfl rfl rfl rfl rfl rfl rfl (fun hc => PEv.gtr vQ vQ) ?_
  refine LW.g rfl rfl rfl rfl rfl rfl rfl (fun hc => PEv.pick_or vQ (fun hp => (by first | exact .const _ | exact .tmp rfl | exact .cond rfl (by first | assumption | (rw [hp]; rfl) | (rw [hc, hp]; rfl) | simp_all)))) ?_
  refine LW.pp (.pick_and (.t rfl) (fun hp => (by first | exact .const _ | exact .tmp rfl | exact .cond rfl (by first | assumption | (rw [hp]; rfl) | (rw [hc, hp]; rfl) | simp_all)))) ?_
  refine LW.T ?_
  refine CW.cond (.t rfl) (fun h67 => ?_) (fun h67 => ?_)
  ·replace h67 := dQ h67
   have hy : (hereF t c time x && (!a || decide (rs < x.Time))) = true := by unfold hereF; exact h67
   refine CW.S ?_
   refine LW.pp (.fA 5 underlying50 rfl sizeOf3 rfl) ?_
   refine LW.pp (.ld isAgg3 rfl ((hS.blk 2 rfl).celln rfl)) ?_
   refine LW.A rfl (LW.T (CW.region (LW.C (LW.nil (KW.inBlock (KW.then (CW.region (LW.M rfl ?_))))))))
   refine LW.pp (.inc (.t rfl) oQ) ?_
   refine LW.A rfl (LW.nil (KW.round ?_))
   first | exact ⟨(j + 1, true, x.Time), ⟨by show j + 1 ≤ _; omega, hR.put hx hy, hS.take 2⟩, ⟨rfl, rfl, rfl, rfl, rfl, rfl, rfl, rfl, rfl, rfl, rfl, trivial⟩, by show b.Resets.length - (j + 1) < b.Resets.length - j; omega⟩ | exact ⟨(j + 1, a, rs), ⟨by show j + 1 ≤ _; omega, hR.skip hx hy, hS.take 2⟩, ⟨rfl, rfl, rfl, rfl, rfl, rfl, rfl, rfl, rfl, rfl, rfl, trivial⟩, by show b.Resets.length - (j + 1) < b.Resets.length - j; omega⟩
  replace h67 := dQ h67
  have hy : (hereF t c time x && (!a || decide (rs < x.Time))) = false := by unfold hereF; exact h67
  refine CW.skip (KW.inBlock (KW.then (CW.region (LW.M rfl ?_))))
  refine LW.pp (.inc (.t rfl) oQ) ?_
  refine LW.A rfl (LW.nil (KW.round ?_))
  first | exact ⟨(j + 1, true, x.Time), ⟨by show j + 1 ≤ _; omega, hR.put hx hy, hS.take 2⟩, ⟨rfl, rfl, rfl, rfl, rfl, rfl, rfl, rfl, rfl, rfl, rfl, trivial⟩, by show b.Resets.length - (j + 1) < b.Resets.length - j; omega⟩ | exact ⟨(j + 1, a, rs), ⟨by show j + 1 ≤ _; omega, hR.skip hx hy, hS.take 2⟩, ⟨rfl, rfl, rfl, rfl, rfl, rfl, rfl, rfl, rfl, rfl, rfl, trivial⟩, by show b.Resets.length - (j + 1) < b.Resets.length - j; omega⟩
 replace h34 := dQ h34
 refine CW.exit (KW.then_exit (KW.then_exit (KW.block_hit (KW.then (CW.seq ?_)))))
 have hjl : j = b.Resets.length := by omega
 rw [hjl, List.take_length] at hR
 replace hR : RInv (resL b t c time) a rs := hR
 refine CW.region ?_
 refine LW.pp (.build (cs := (rI 0).cells) underlying34 zeroValue34 Tryz.places34 (.cons (.const _) .nil) rfl) ?_
 refine LW.pp (.build (cs := DecV.cells ⟨0, rz, rI 0, .slice none 0 0⟩) underlying37 zeroValue37 Tryz.places37 (.cons (.t rfl) .nil) kQ) ?_
 refine LW.rr (.allocA zeroValue37) rfl ?_
 rintro _ w6 ⟨B18, rfl, MB18⟩
 refine LW.E (.storeA sizeOf37 rfl (.t rfl) (.t rfl) (decV_one _ rfl) MB18.blk rfl) ?_
 intro w7 LB18
 have NB18 := MB18.set LB18
 clear LB18 MB18
 have eB18 := NB18.at_
 have zB18 := NB18.size
 replace hS := hS.addB NB18
 change Wx.Sep _ _ _ [_, _, _] at hS
 refine LW.S (CW.seq ?_)
 rw [rI0] at hS
 replace hS := hS.add (Up.refl _) (A' := aOwn 3 1 eInt (.slice none 0 0) ([] : List Int)) (OwnS.nil _ _ _ _ _) (by intro i h; cases h)
 change Wx.Sep _ _ _ [_, _, _, _] at hS
 refine CW.region (LW.C (LW.T (CW.block ?_)))
 refine CW.loopB (σ := Nat × Go.Value × Int × List Int) (fun s w => (s.1 ≤ ahead.length) ∧ (s.2.2 = sumF b.Measures b.Targets r time (sinceF (resL b t c time) (ahead.take s.1))) ∧ (Wx.Sep no w0 w [aBlk B6 bc 24, aBlk B12 (DP.cells ⟨dec0, none, 0⟩) 37, aBlk B18 (DecV.cells ⟨0, rz, redF (s.2.2.1) 4, s.2.1⟩) 37, aOwn 3 1 eInt (s.2.1) (s.2.2.2)])) (fun s => [(19, .eq (vi (s.1 : Int)))]) ([(3, .eq _), (4, .eq _), (5, .eq _), (6, .eq _), (12, .eq _), (14, .eq _), (15, .eq _), (18, .eq _)]) (fun s => ahead.length - s.1) (0, .slice none 0 0, 0, []) ?_ ⟨rfl, rfl, rfl, rfl, rfl, rfl, rfl, rfl, rfl, trivial⟩ ?_
 ·exact ⟨Nat.zero_le _, by rw [List.take_zero, since_filter]; rfl, hS⟩
 rintro ⟨k, vu, E, U⟩ w8 ⟨hk, hEU, hS⟩
 dsimp only at hk hEU hS
 change CW _ _ _ _ _ _ _ ([(19, .eq (vi (k : Int)))] ++ _) _
 refine CW.seq (CW.S (LW.M rfl (LW.M rfl ?_)))
 refine LW.pp (.lenS underlying22 (.t rfl)) ?_
 refine LW.pp (.lss (.t rfl) (.t rfl)) ?_
 refine LW.T ?_
 refine CW.cond (.t rfl) (fun h75 => ?_) (fun h75 => ?_)
 ·replace h75 := dQ h75
  refine CW.skip (KW.then (CW.seq (CW.block (CW.seq ?_))))
  obtain ⟨x, hx⟩ := getElem?_of_lt (xs := ahead) (i := k) oQ
  obtain ⟨Bx, ox, ax, hcx⟩ := (Els.up hE0 hS.upd) k x hx
  have hxr := hr x (List.mem_of_getElem? hx)
  have hdi := devF_in b.Measures b.Targets r x time
  have hbd := sumF_bd b.Measures b.Targets r time (sinceF (resL b t c time) (ahead.take k))
  rw [← hEU] at hbd
  dsimp only at hbd
  have hsl := sinceF_len (resL b t c time) (ahead.take k)
  rw [List.length_take] at hsl
  refine CW.draws kQ kQ rfl rfl ?_
  refine HW.pp (.loadA isAgg24 sizeOf24 (hC.size) (.t rfl) ((hS.blk 0 rfl).agg)) ?_
  refine HW.pp (.move (.t rfl)) ?_
  refine HW.pp (.move (.t rfl)) ?_
  refine HW.pp (.indexAddr' underlying22 sizeOf50 (.t rfl) (.t rfl) oQ ax) ?_
  refine HW.pp (.la isAgg50 sizeOf50 rfl (hcx)) ?_
  refine HW.pp (.move (.t rfl)) ?_
  refine HW.c (fun a w _ ha => enter_call0 (.cons (.t rfl) (.cons (.t rfl) (.cons (.t rfl) .nil))) (en76) a ha) rfl rfl (fun w hu => rdev_any bc b r x time w (hC.up (hS.upd.trans hu)) hxr hlM hlT) ?_
  refine HW.pp (.move (.t rfl)) ?_
  refine HW.pp (.extract (.t rfl) rfl) ?_
  refine HW.pp (.extract (.t rfl) rfl) ?_
  refine HW.pp (.assign (.t rfl)) ?_
  refine HW.pp (.assign (.t rfl)) ?_
  refine HW.nil ?_
  intro w9 uw9
  have zw9 := uw9.size
  replace hS := hS.up uw9
  replace hcx := hcx.up uw9
  refine KW.then (CW.seq (CW.S (LW.M rfl ?_)))
  refine LW.pp (.not (.t rfl)) ?_
  refine LW.M rfl ?_
  refine LW.g rfl rfl rfl rfl rfl rfl rfl (fun hc => PEv.move (.t rfl)) ?_
  refine LW.g rfl rfl rfl rfl rfl rfl rfl (fun hc => PEv.move vQ) ?_
  refine LW.gg rfl rfl rfl rfl rfl rfl rfl (fun hc => PEv.move (.t rfl)) ?_
  refine LW.gg rfl rfl rfl rfl rfl rfl rfl (fun hc => PEv.move (.t rfl)) ?_
  refine LW.gg rfl rfl rfl rfl rfl rfl rfl (fun hc => PEv.indexAddr' underlying22 sizeOf50 vQ vQ oQ ax) ?_
  refine LW.gg rfl rfl rfl rfl rfl rfl rfl (fun hc => PEv.fieldAddr (off := 5) underlying50 rfl rfl sizeOf3 rfl vQ) ?_
  refine LW.gg rfl rfl rfl rfl rfl rfl rfl (fun hc => PEv.load isAgg3 vQ (hcx.nth (j := 5) rfl)) ?_
  refine LW.gg rfl rfl rfl rfl rfl rfl rfl (fun hc => PEv.move (.t rfl)) ?_
  refine LW.gg rfl rfl rfl rfl rfl rfl rfl (fun hc => PEv.lss vQ vQ) ?_
  refine LW.g rfl rfl rfl rfl rfl rfl rfl (fun hc => PEv.pick_and vQ (fun hp => (by first | exact .const _ | exact .tmp rfl | exact .cond rfl (by first | assumption | (rw [hp]; rfl) | (rw [hc, hp]; rfl) | simp_all)))) ?_
  refine LW.pp (.pick_or (.t rfl) (fun hp => (by first | exact .const _ | exact .tmp rfl | exact .cond rfl (by first | assumption | (rw [hp]; rfl) | (rw [hc, hp]; rfl) | simp_all)))) ?_
  refine LW.M rfl ?_
  refine LW.g rfl rfl rfl rfl rfl rfl rfl (fun hc => PEv.move (.t rfl)) ?_
  refine LW.g rfl rfl rfl rfl rfl rfl rfl (fun hc => PEv.geq vQ (.const _)) ?_
  refine LW.g rfl rfl rfl rfl rfl rfl rfl (fun hc => PEv.move vQ) ?_
  refine LW.gg rfl rfl rfl rfl rfl rfl rfl (fun hc => PEv.move (.t rfl)) ?_
  refine LW.gg rfl rfl rfl rfl rfl rfl rfl (fun hc => PEv.leq vQ (.const _)) ?_
  refine LW.g rfl rfl rfl rfl rfl rfl rfl (fun hc => PEv.pick_and vQ (fun hp => (by first | exact .const _ | exact .tmp rfl | exact .cond rfl (by first | assumption | (rw [hp]; rfl) | (rw [hc, hp]; rfl) | simp_all)))) ?_
  refine LW.pp (.pick_or (.t rfl) (fun hp => (by first | exact .const _ | exact .tmp rfl | exact .cond rfl (by first | assumption | (rw [hp]; rfl) | (rw [hc, hp]; rfl) | simp_all)))) ?_
  refine LW.T ?_
  refine CW.cond (.t rfl) (fun h109 => ?_) (fun h109 => ?_)
  ·replace h109 := dQ h109
   have hkp : ((resL b t c time).all (fun y => decide (y.Time ≤ x.Time)) && clears (devF b.Measures b.Targets r x time)) = false := by have h9 := (skip_eq hR x (devF b.Measures b.Targets r x time)).symm.trans h109; rw [Bool.not_eq_true'] at h9; exact h9
   refine CW.exit (KW.then_exit (KW.block_hit (KW.then (CW.region (LW.M rfl ?_)))))
   refine LW.pp (.inc (.t rfl) oQ) ?_
   refine LW.A rfl (LW.nil (KW.round ?_))
   first | exact ⟨(k + 1, v139, E + (devF b.Measures b.Targets r x time).1, U ++ [x.ID]), ⟨by show k + 1 ≤ _; omega, by rw [ref_keep hx hkp, ← hEU], hS.take 4⟩, ⟨rfl, rfl, rfl, rfl, rfl, rfl, rfl, rfl, rfl, trivial⟩, by show ahead.length - (k + 1) < ahead.length - k; omega⟩ | exact ⟨(k + 1, vu, E, U), ⟨by show k + 1 ≤ _; omega, by rw [ref_skip hx hkp]; exact hEU, hS.take 4⟩, ⟨rfl, rfl, rfl, rfl, rfl, rfl, rfl, rfl, rfl, trivial⟩, by show ahead.length - (k + 1) < ahead.length - k; omega⟩
  replace h109 := dQ h109
  have hkp : ((resL b t c time).all (fun y => decide (y.Time ≤ x.Time)) && clears (devF b.Measures b.Targets r x time)) = true := by have h9 := (skip_eq hR x (devF b.Measures b.Targets r x time)).symm.trans h109; rw [Bool.not_eq_false'] at h9; exact h9
  refine CW.skip (KW.then (CW.S (LW.M rfl ?_)))
  refine LW.K (eC (.cons (.t rfl) (.cons (.const _) .nil)) (en43)) rfl (rmake_any (devF b.Measures b.Targets r x time).1 4 _ ⟨by omega, by omega⟩ cQ ⟨by decide, by decide⟩) ?_
  rintro _ w10 ⟨rfl, uw10⟩
  have zw10 := uw10.size
  replace hS := hS.up uw10
  replace hcx := hcx.up uw10
  rw [mkF_fits (fits_small oQ cQ)]
  refine LW.M rfl (LW.pp (.extract (.t rfl) rfl) (LW.pp (.extract (.t rfl) rfl) ?_))
  refine LW.rr (.allocA zeroValue34) rfl ?_
  rintro _ w11 ⟨B22, rfl, MB22⟩
  refine LW.E (.storeA sizeOf34 rfl (.t rfl) (.t rfl) (Rt.one _) MB22.blk rfl) ?_
  intro w12 LB22
  have NB22 := MB22.set LB22
  clear LB22 MB22
  have eB22 := NB22.at_
  have zB22 := NB22.size
  replace hcx := hcx.up NB22.up
  replace hS := hS.addB NB22
  change Wx.Sep _ _ _ [_, _, _, _, _] at hS
  refine LW.A rfl (LW.S (CW.region ?_))
  refine LW.pp (.fA 3 underlying37 rfl sizeOf34 rfl) ?_
  refine LW.pp (.la isAgg34 sizeOf34 rfl (decV_est (hS.blk 2 rfl))) ?_
  refine LW.pp (.la isAgg34 sizeOf34 rfl ((hS.blk 4 rfl).agg)) ?_
  refine LW.K (eC (.u rfl rfl) (en77)) rfl (radd_any (redF E 4) (redF (devF b.Measures b.Targets r x time).1 4) _ (redQ_ok oQ) (redQ_ok oQ)) ?_
  rintro _ w13 ⟨rfl, uw13⟩
  have zw13 := uw13.size
  replace hS := hS.up uw13
  replace hcx := hcx.up uw13
  rw [addQ_mk (by omega)]
  refine LW.M rfl (LW.pp (.extract (.t rfl) rfl) (LW.pp (.extract (.t rfl) rfl) ?_))
  refine LW.rr (.allocA zeroValue34) rfl ?_
  rintro _ w14 ⟨B24, rfl, MB24⟩
  refine LW.E (.storeA sizeOf34 rfl (.t rfl) (.t rfl) (Rt.one _) MB24.blk rfl) ?_
  intro w15 LB24
  have NB24 := MB24.set LB24
  clear LB24 MB24
  have eB24 := NB24.at_
  have zB24 := NB24.size
  replace hcx := hcx.up NB24.up
  replace hS := hS.addB NB24
  change Wx.Sep _ _ _ [_, _, _, _, _, _] at hS
  refine LW.A rfl (LW.S (CW.S (LW.M rfl ?_)))
  refine LW.pp (.fa (PEv.neq (.t rfl) (.const _)) (rfl)) ?_
  refine LW.M rfl ?_
  refine LW.Y ?_
  refine LW.M rfl ?_
  refine LW.Y ?_
  refine LW.pp (.fa (PEv.neq (.t rfl) (.const _)) (rfl)) ?_
  refine LW.pp (.pick_or (.t rfl) (fun hp => (by first | exact .const _ | exact .tmp rfl | exact .cond rfl (by first | assumption | (rw [hp]; rfl) | (rw [hc, hp]; rfl) | simp_all)))) ?_
  refine LW.T ?_
  refine CW.cond_false (.t rfl) ?_
  refine CW.skip (KW.then (CW.S ?_))
  refine LW.pp (.la isAgg34 sizeOf34 rfl ((hS.blk 5 rfl).agg)) ?_
  refine LW.pp (.fA 3 underlying37 rfl sizeOf34 rfl) ?_
  refine LW.E (.storePart sizeOf34 rfl (.t rfl) (.t rfl) (Rt.one _) (hS.blk 2 rfl) (Nat.le_of_ble_eq_true rfl)) ?_
  intro w16 Nw16
  have zw16 := Nw16.size
  replace hS := hS.putB 2 rfl (show Set_ _ w16 _ (DecV.cells ⟨0, rz, redF (E + (devF b.Measures b.Targets r x time).1) 4, vu⟩) _ from Nw16)
  change Wx.Sep _ _ _ [_, _, _, _, _, _] at hS
  replace hcx := els_again (Els.up hE0 hS.upd) hx ax
  refine LW.T ?_
  refine CW.draws_heavy 8 (fun v w'' => Wx.Sep no w0 w'' [aBlk B6 bc 24, aBlk B12 (DP.cells ⟨dec0, none, 0⟩) 37, aBlk B18 (DecV.cells ⟨0, rz, redF (E + (devF b.Measures b.Targets r x time).1) 4, vu⟩) 37, aOwn 3 1 eInt (v) (U ++ [x.ID]), aBlk B22 (redF (devF b.Measures b.Targets r x time).1 4).cells 34, aBlk B24 (redF (E + (devF b.Measures b.Targets r x time).1) 4).cells 34]) kQ kQ kQ kQ kQ kQ rfl rfl rfl rfl rfl ?_
  refine HW.pp (.fA 5 underlying37 rfl sizeOf35 rfl) ?_
  refine HW.pp (.ld isAgg35 rfl ((hS.blk 2 rfl).celln rfl)) ?_
  refine HW.pp (.move (.t rfl)) ?_
  refine HW.pp (.move (.t rfl)) ?_
  refine HW.pp (.indexAddr' underlying22 sizeOf50 (.t rfl) (.t rfl) oQ ax) ?_
  refine HW.pp (.fA 1 underlying50 rfl sizeOf3 rfl) ?_
  refine HW.pp (.ld isAgg3 rfl (hcx.nth (j := 1) rfl)) ?_
  refine HW.r (p := fun v w => Sl w v 1 (eInt) [x.ID]) (fun _ _ _ h u => Sl.up h u) rfl (fun w hu a ha => let ⟨v, w', h1, h2⟩ := REv.buildSlice (xs := [x.ID]) (enc := eInt) (mk := vi) underlying35 sizeOf3 zeroValue3 rfl (Nat.le_of_ble_eq_true rfl) (fun _ => rfl) (fun _ => rfl) (.cons (.t rfl) .nil) rfl a ha; ⟨v, w', h1, h2.q⟩) rfl ?_
  refine HW.nil ⟨fun a w' hu ha => ?_, ?_⟩
  ·exact (REv.open (d := 138) (p := fun v w => Sl w v 1 eInt [x.ID]) rfl fun vv hv => (REv.appendF (enc := eInt) (bytes := 8) (i := Tryz.t3) underlying35 kQ rfl rfl rfl rfl cQ (fun _ => rfl) eInt_one (.t rfl) (.t rfl) ((hS.up hu).own 3 rfl) hv (by simp [maxLen]; omega) (by simp; omega)).mono fun v' w'' h => (hS.up hu).stp 3 rfl h).y ha
  intro v139 w17 hS
  refine LW.pp (.fA 5 underlying37 rfl sizeOf35 rfl) ?_
  refine LW.E (.store sizeOf35 (.t rfl) (.t rfl) ((hS.own 3 rfl).oneV (fun _ => rfl)) (hS.blk 2 rfl) (Nat.le_of_ble_eq_true rfl)) ?_
  intro w18 Nw18
  have zw18 := Nw18.size
  replace hS := hS.putB 2 rfl (show Set_ _ w18 _ (DecV.cells ⟨0, rz, redF (E + (devF b.Measures b.Targets r x time).1) 4, v139⟩) _ from Nw18)
  change Wx.Sep _ _ _ [_, _, _, _, _, _] at hS
  replace hcx := els_again (Els.up hE0 hS.upd) hx ax
  refine LW.nil (KW.inBlock (KW.then (CW.region (LW.M rfl ?_))))
  refine LW.pp (.inc (.t rfl) oQ) ?_
  refine LW.A rfl (LW.nil (KW.round ?_))
  first | exact ⟨(k + 1, v139, E + (devF b.Measures b.Targets r x time).1, U ++ [x.ID]), ⟨by show k + 1 ≤ _; omega, by rw [ref_keep hx hkp, ← hEU], hS.take 4⟩, ⟨rfl, rfl, rfl, rfl, rfl, rfl, rfl, rfl, rfl, trivial⟩, by show ahead.length - (k + 1) < ahead.length - k; omega⟩ | exact ⟨(k + 1, vu, E, U), ⟨by show k + 1 ≤ _; omega, by rw [ref_skip hx hkp]; exact hEU, hS.take 4⟩, ⟨rfl, rfl, rfl, rfl, rfl, rfl, rfl, rfl, rfl, trivial⟩, by show ahead.length - (k + 1) < ahead.length - k; omega⟩
 replace h75 := dQ h75
 refine CW.exit (KW.then_exit (KW.then_exit (KW.block_hit (KW.then (CW.seq ?_)))))
 have hkl : k = ahead.length := by omega
 rw [hkl, List.take_length] at hEU
 have hti := tarF_in b.Targets r time
 have hbd := sumF_bd b.Measures b.Targets r time (sinceF (resL b t c time) ahead)
 rw [← hEU] at hbd
 dsimp only at hbd
 have hsl := sinceF_len (resL b t c time) ahead
 refine CW.boxU 14 11 12 9 26 150 (rz.cells) [.eq (.agg bc), .eq (vi r), .eq (vi time), .eq (vi (tarF b.Targets r time)), .eq (.agg (rI (tarF b.Targets r time)).cells), .eq (.pointer (some ⟨B18, 3, none⟩)), .eq (.agg (redF E 4).cells), .eq (.tuple #[.agg (redF (4 * tarF b.Targets r time - E) 4).cells, vi 0]), .eq (.tuple #[.agg (redF (4 * tarF b.Targets r time - E) 4).cells, vi 0]), .eq (.agg (redF (4 * tarF b.Targets r time - E) 4).cells), .eq (vi 0), .pred fun v _ => ∃ B, v = .pointer (some ⟨B, 0, none⟩), .eq (undef), .eq (vi 0)] [27] zeroValue34 sizeOf34 kQ rfl kQ kQ kQ kQ kQ kQ kQ rfl rfl ⟨_, _, _, rfl⟩ _ rfl ⟨_, _, _, rfl⟩ ⟨PhT.eq _ _, PhT.eq _ _, PhT.eq _ _, PhT.eq _ _, PhT.eq _ _, PhT.eq _ _, PhT.eq _ _, PhT.eq _ _, PhT.eq _ _, PhT.eq _ _, PhT.eq _ _, PhT.pred fun _ _ _ h _ => h, PhT.eq _ _, PhT.eq _ _, trivial⟩ rfl (fun v W h => ⟨_, h, rfl, Rt.one _⟩) (fun B W => ⟨B, rfl⟩) ?_ ?_
 ·intro W hU0
  have hU := (Up.drew w8).trans hU0
  have hSW := hS.up hU
  refine aC (.inr ⟨rfl, TU.p (.loadA isAgg24 sizeOf24 hC.size (.t rfl) ((hSW.blk 0 rfl).agg)) rfl⟩) ?_
  refine aC (.inr ⟨rfl, TU.p (.move (.t rfl)) rfl⟩) ?_
  refine aC (.inr ⟨rfl, TU.p (.move (.t rfl)) rfl⟩) ?_
  refine aC (.inr ⟨rfl, TU.c (eC (.cons (.t rfl) (.cons (.t rfl) (.cons (.t rfl) .nil))) (en79)) (rtar_any bc b r time W (hC.up (hS.upd.trans hU)) hlT) sQ⟩) ?_
  refine aC (.inr ⟨rfl, TU.p (.build (cs := (rI (tarF b.Targets r time)).cells) underlying34 zeroValue34 Tryz.places34 (.cons (.t rfl) (.cons (.const _) .nil)) rfl) rfl⟩) ?_
  refine aC (.inr ⟨rfl, TU.p (.fA 3 underlying37 rfl sizeOf34 rfl) rfl⟩) ?_
  refine aC (.inr ⟨rfl, TU.p (.la isAgg34 sizeOf34 rfl (decV_est (hSW.blk 2 rfl))) rfl⟩) ?_
  refine aC (.inr ⟨rfl, TU.c (eC (.u rfl rfl) (en78)) (rsub_any (rI (tarF b.Targets r time)) (redF E 4) W (by rw [← red_one]; exact red1_ok oQ) (redQ_ok oQ)) (by rintro _ W1 ⟨rfl, u_⟩; refine ⟨u_, ?_⟩; have e := subQ_mk (T := tarF b.Targets r time) (e := E) (by omega); unfold negR at e; rw [red_one] at e; rw [e]; rfl)⟩) ?_
  refine aC (.inr ⟨rfl, TU.p (.move (.t rfl)) rfl⟩) ?_
  refine aC (.inr ⟨rfl, TU.p (.extract (.t rfl) rfl) rfl⟩) ?_
  refine aC (.inr ⟨rfl, TU.p (.extract (.t rfl) rfl) rfl⟩) ?_
  refine aC (.inl (.inl rfl)) ?_
  refine aC (.inl (.inr rfl)) ?_
  refine aC (.inr ⟨rfl, TU.p (.assign (.t rfl)) rfl⟩) ?_
  exact allL.nil
 intro w19 B26 g hU0 zB26_ hB26 hg
 have hU := (Up.drew w8).trans hU0
 have zw19 := hU.size
 have zdr : w8.drew.heap.size = w8.heap.size := rfl
 have g150_ : g 150 = .agg (redF (4 * tarF b.Targets r time - E) 4).cells := hg 9 _ 150 cQ rfl rfl
 have g27_ : g 27 = vi 0 := hg 13 _ 27 cQ rfl rfl
 rw [g150_] at hB26
 replace hB26 : Blk w19 B26 ((redF (4 * tarF b.Targets r time - E) 4).cells) 34 := hB26
 change LW _ _ _ _ _ _ _ _ ((26, _) :: (27, .eq (g 27)) :: _) _
 rw [g27_]
 clear hg
 replace hS := (hS.up (Up.drew _)).add hU0 (A' := aBlk B26 ((redF (4 * tarF b.Targets r time - E) 4).cells) 34) hB26 (fun i (e : i = B26) => by omega)
 change Wx.Sep _ _ _ [_, _, _, _, _] at hS
 clear hB26
 refine LW.S (CW.region ?_)
 refine LW.pp (.la isAgg34 sizeOf34 rfl ((hS.blk 4 rfl).agg)) ?_
 refine LW.K (eC (.cons (.t rfl) (.cons (.const _) .nil)) (en80)) rfl (rround_any (redF (4 * tarF b.Targets r time - E) 4) 1000 _ (redQ_ok oQ) cQ) ?_
 rintro _ w20 ⟨rfl, uw20⟩
 have zw20 := uw20.size
 replace hS := hS.up uw20
 rw [rndQ_mk (by omega)]
 refine LW.M rfl (LW.pp (.extract (.t rfl) rfl) (LW.pp (.extract (.t rfl) rfl) ?_))
 refine LW.rr (.allocA zeroValue34) rfl ?_
 rintro _ w21 ⟨B28, rfl, MB28⟩
 refine LW.E (.storeA sizeOf34 rfl (.t rfl) (.t rfl) (Rt.one _) MB28.blk rfl) ?_
 intro w22 LB28
 have NB28 := MB28.set LB28
 clear LB28 MB28
 have eB28 := NB28.at_
 have zB28 := NB28.size
 replace hS := hS.addB NB28
 change Wx.Sep _ _ _ [_, _, _, _, _, _] at hS
 refine LW.A rfl (LW.S (CW.S (LW.M rfl ?_)))
 refine LW.pp (.fa (PEv.neq (.t rfl) (.const _)) (rfl)) ?_
 refine LW.M rfl ?_
 refine LW.Y ?_
 refine LW.M rfl ?_
 refine LW.Y ?_
 refine LW.pp (.fa (PEv.neq (.t rfl) (.const _)) (rfl)) ?_
 refine LW.pp (.pick_or (.t rfl) (fun hp => (by first | exact .const _ | exact .tmp rfl | exact .cond rfl (by first | assumption | (rw [hp]; rfl) | (rw [hc, hp]; rfl) | simp_all)))) ?_
 refine LW.T ?_
 refine CW.cond_false (.t rfl) ?_
 refine CW.skip (KW.then (CW.seq ?_))
 obtain ⟨adu, cpu, rfl, _⟩ := (hS.own 3 rfl).sl (fun _ => rfl)
 refine CW.region ?_
 refine LW.pp (.la isAgg34 sizeOf34 rfl ((hS.blk 5 rfl).agg)) ?_
 refine LW.pp (.build (cs := (redF (-10000) 1).cells) underlying34 zeroValue34 Tryz.places34 (.cons (.const _) (.cons (.const _) .nil)) kQ) ?_
 refine LW.pp (.build (cs := (redF 10000 1).cells) underlying34 zeroValue34 Tryz.places34 (.cons (.const _) (.cons (.const _) .nil)) kQ) ?_
 refine LW.K (eC (.cons (.t rfl) (.cons (.t rfl) (.cons (.t rfl) .nil))) (en81)) rfl (rclamp_any (redF (4 * tarF b.Targets r time - E) 4) _ _ _ (redQ_ok oQ) (red1_ok cQ) (red1_ok cQ)) ?_
 rintro _ w23 ⟨rfl, uw23⟩
 have zw23 := uw23.size
 replace hS := hS.up uw23
 refine LW.pp (.fA 1 underlying37 rfl sizeOf34 rfl) ?_
 refine LW.E (.storePart sizeOf34 rfl (.t rfl) (.t rfl) (Rt.one _) (hS.blk 2 rfl) (Nat.le_of_ble_eq_true rfl)) ?_
 intro w24 Nw24
 have zw24 := Nw24.size
 replace hS := hS.putB 2 rfl (show Set_ _ w24 _ (DecV.cells ⟨0, parF (tarF b.Targets r time) E, redF E 4, .slice adu U.length cpu⟩) _ from Nw24)
 change Wx.Sep _ _ _ [_, _, _, _, _, _] at hS
 refine LW.S (CW.region ?_)
 refine LW.pp (.la isAgg37 sizeOf37 rfl ((hS.blk 2 rfl).agg)) ?_
 refine LW.E (.storeA sizeOf37 rfl (.t rfl) (.t rfl) (decV_one _ rfl) (hS.blk 1 rfl) rfl) ?_
 intro w25 Nw25
 have zw25 := Nw25.size
 replace hS := hS.putB 1 rfl (show Set_ _ w25 _ (DecV.cells ⟨0, parF (tarF b.Targets r time) E, redF E 4, .slice adu U.length cpu⟩) _ from Nw25)
 change Wx.Sep _ _ _ [_, _, _, _, _, _] at hS
 refine LW.C (LW.T (CW.ret ?_))
 refine KW.retAT rfl rfl rfl isAgg37 sizeOf37 rfl (hS.blk 1 rfl).agg ⟨_, rfl, ?_⟩
 have e1 : decF b t c r time ahead = ⟨0, parF (tarF b.Targets r time) E, redF E 4, U⟩ := by unfold decF; rw [← hEU]
 rw [e1]
 exact ⟨adu, cpu, rfl, (hS.own 3 rfl).rebase (fun i h => (hS.foot 3 rfl i h).resolve_left (fun h => h)), hS.upd⟩
end Go.Proofs.YtgffaeachbbjoaaGreatDoor
end
