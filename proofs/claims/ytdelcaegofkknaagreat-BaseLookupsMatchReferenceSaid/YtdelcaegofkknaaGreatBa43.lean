import Derived.Test.YtdelcaegofkknaaGreatBn1
import Derived.Test.YtdelcaegofkknaaGreatSx
namespace Go.Wx

def flowB (b : Base) (p : Int) : Option Fact := b.Flows.find? fun f => decide (f.Product = p)
theorem pre_step {l : List Fact} {i : Nat} {x : Fact} {p : Fact → Bool} (h : ∀ y ∈ l.take i, p y = false) (hx : l[i]? = some x) (hp : p x = false) : ∀ y ∈ l.take (i + 1), p y = false := fun y hy => by
  rw [take_succ_of hx, List.mem_append, List.mem_singleton] at hy
  exact hy.elim (h y) (fun e => by rw [e]; exact hp)
theorem pre_all {l : List Fact} {i : Nat} {p : Fact → Bool} (h : ∀ y ∈ l.take i, p y = false) (hi : l.length ≤ i) : ∀ y ∈ l, p y = false := by rw [List.take_of_length_le hi] at h; exact h
def bestI : Option Nat → Int
  | none => -1
  | some q => (q : Int)
def TInv (r t : Int) (l : List Fact) (i : Nat) : Option Nat → Prop
  | none => tgF r t (l.take i) = (zeroF, false)
  | some q => ∃ x, l[q]? = some x ∧ tgF r t (l.take i) = (x, true)
theorem TInv.skip {r t : Int} {l : List Fact} {i : Nat} {x : Fact} {m : Option Nat} (h : TInv r t l i m) (hx : l[i]? = some x) (hn : ∀ s : Fact × Bool, s = tgF r t (l.take i) → (decide (x.Recipe = r) && decide (x.Time ≤ t) && (!s.2 || decide (s.1.Time < x.Time))) = false) : TInv r t l (i + 1) m := by
  have e : tgF r t (l.take (i + 1)) = tgF r t (l.take i) := by rw [tgF_take hx]; exact tg_no (hn _ rfl)
  cases m with
  | none => exact e.trans h
  | some q => obtain ⟨y, h1, h2⟩ := h; exact ⟨y, h1, e.trans h2⟩
theorem TInv.put {r t : Int} {l : List Fact} {i : Nat} {x : Fact} (hx : l[i]? = some x) (hn : ∀ s : Fact × Bool, s = tgF r t (l.take i) → (decide (x.Recipe = r) && decide (x.Time ≤ t) && (!s.2 || decide (s.1.Time < x.Time))) = true) : TInv r t l (i + 1) (some i) := ⟨x, hx, by rw [tgF_take hx]; exact tg_yes (hn _ rfl)⟩
def isPutR (l : List Fact) (f : Fact) (p : Nat) : Prop := p ≤ l.length ∧ (∀ y ∈ l.drop p, ltK (runK f) (runK y) = true) ∧ (p = 0 ∨ ∃ y, l[p - 1]? = some y ∧ ltK (runK f) (runK y) = false)
theorem putR_ins {l : List Fact} {f : Fact} {p : Nat} (h : isPutR l f p) (hs : srt runK l) : insAt l f p = insK runK f l := by
  obtain ⟨q, e, hq, h1, h2⟩ := insK_put (key := runK) f l hs
  rw [e]
  obtain ⟨hp, g1, g2⟩ := h
  have key : ∀ {p q : Nat}, q ≤ l.length → (∀ y ∈ l.drop p, ltK (runK f) (runK y) = true) → (q = 0 ∨ ∃ y, l[q - 1]? = some y ∧ ltK (runK f) (runK y) = false) → q ≤ p := fun {p q} hq g1 g2 => by
    rcases g2 with rfl | ⟨y, hy, hl⟩
    · omega
    · rcases Nat.lt_or_ge p q with h | h
      · have := g1 y (List.mem_iff_getElem?.2 ⟨q - 1 - p, by rw [List.getElem?_drop, show p + (q - 1 - p) = q - 1 by omega]; exact hy⟩)
        rw [hl] at this; cases this
      · exact h
  rw [Nat.le_antisymm (key hp h1 g2) (key hq g1 h2)]
def runL (l : List Fact) (t c : Int) (i : Nat) : List Fact := sortK runK ((l.take i).filter (runP t c))
theorem runL_srt (l : List Fact) (t c : Int) (i : Nat) : srt runK (runL l t c i) := (sortK_sts _).ord
theorem runL_len (l : List Fact) (t c : Int) (i : Nat) : (runL l t c i).length ≤ i := by
  unfold runL
  rw [(sortK_sts (key := runK) ((l.take i).filter (runP t c))).same.length]
  exact filt_len _ _ _
theorem runL_no {l : List Fact} {t c : Int} {i : Nat} {x : Fact} (hx : l[i]? = some x) (h : runP t c x = false) : runL l t c (i + 1) = runL l t c i := by unfold runL; rw [fp_no hx h]
theorem runL_yes {l : List Fact} {t c : Int} {i p : Nat} {x : Fact} (hx : l[i]? = some x) (h : runP t c x = true) (hp : isPutR (runL l t c i) x p) : runL l t c (i + 1) = insAt (runL l t c i) x p := by
  rw [putR_ins hp (runL_srt l t c i)]
  unfold runL
  rw [fp_yes hx h]
  unfold sortK
  rw [List.foldl_append]; rfl
theorem ltK_run (f y : Fact) : ltK (runK f) (runK y) = (decide (f.Time < y.Time) || (decide (f.Time = y.Time) && decide (f.ID < y.ID))) := rfl

end Go.Wx
namespace Go.Proofs.YtdelcaegofkknaaGreat
open Go.Wx Go.RowKit
theorem Flow1_any (f : Fact) (id : Int) (B : Nat) (w : World) (hB : Blk w B #[vi id] 3) : Ret Tryz.prog 39 #[.agg f.cells, .pointer (some ⟨B, 0, none⟩)] w fun r w' => r = .bool (decide (f.Product = id)) ∧ Up w w' := by
  have hW := Up.refl w
  obtain ⟨w0, rfl⟩ : ∃ w0, w0 = w := ⟨_, rfl⟩
  refine Calls_start (n := 8) (m := 9) Tryz.func39 rfl rfl rfl ?_
  refine CW.seq (CW.region ?_)
  refine LW.r (REv.boxA (.tmp rfl)) rfl rfl rfl rfl ?_
  rintro _ w1 ⟨B2, rfl, NB2⟩
  have eB2 := NB2.at_
  have zB2 := NB2.size
  replace hW := hW.up NB2.up
  have hB2 := NB2.blk
  refine LW.p (PEv.assign (.const _)) rfl rfl rfl (LW.nil (KW.then (CW.seq (CW.region ?_))))
  refine LW.p (PEv.fieldAddr (off := 10) Tryz.underlying35 rfl rfl Tryz.sizeOf3 rfl (.tmp rfl)) rfl rfl rfl ?_
  refine LW.p (PEv.load Tryz.isAgg3 (.tmp rfl) (hB2.celln rfl)) rfl rfl rfl ?_
  refine LW.p (PEv.load Tryz.isAgg3 (.tmp rfl) ((hB.up hW).celln rfl)) rfl rfl rfl ?_
  refine LW.p (PEv.eql (.tmp rfl) (.tmp rfl)) rfl rfl rfl ?_
  refine LW.p (PEv.assign (.tmp rfl)) rfl rfl rfl (LW.nil (KW.then (CW.ret ?_)))
  refine KW.ret1 rfl rfl ⟨_, rfl, ?_⟩
  exact ⟨rfl, hW⟩

theorem Flow_any (bc : Array Go.Value) (b : Base) (id : Int) (w : World) (hC : BaseC w bc b) (hl : b.Flows.length ≤ 100000) : Ret Tryz.prog 16 #[.agg bc, vi id] w fun r w' => r = .tuple #[.agg ((flowB b id).getD zeroF).cells, .bool (flowB b id).isSome] ∧ Up w w' := by
  obtain ⟨w0, rfl⟩ : ∃ w0, w0 = w := ⟨_, rfl⟩
  have hS := Sep.start no w0
  obtain ⟨v4, h4, hr4⟩ := hC.at4
  obtain ⟨ad, cp, rfl, hE0⟩ := hr4
  refine Calls_start (n := 12) (m := 9) Tryz.func16 rfl rfl rfl ?_
  refine CW.seq (CW.region ?_)
  refine LW.r (REv.boxA (.tmp rfl)) rfl rfl rfl rfl ?_
  rintro _ w1 ⟨B2, rfl, NB2⟩
  have eB2 := NB2.at_
  have zB2 := NB2.size
  replace hS := hS.addB NB2
  change Wx.Sep _ _ _ [_] at hS
  refine LW.r (REv.box1 (.tmp rfl) rfl) rfl rfl rfl rfl ?_
  rintro _ w2 ⟨B3, rfl, NB3⟩
  have eB3 := NB3.at_
  have zB3 := NB3.size
  replace hS := hS.addB NB3
  change Wx.Sep _ _ _ [_, _] at hS
  refine LW.r (REv.allocA Tryz.zeroValue35) rfl rfl rfl rfl ?_
  rintro _ w3 ⟨B4, rfl, NB4⟩
  have eB4 := NB4.at_
  have zB4 := NB4.size
  replace hS := hS.addB NB4
  change Wx.Sep _ _ _ [_, _, _] at hS
  refine LW.p (PEv.assign (.const _)) rfl rfl rfl (LW.nil (KW.then (CW.seq (CW.region ?_))))
  refine LW.p (PEv.fieldAddr (off := 4) Tryz.underlying26 rfl rfl Tryz.sizeOf22 rfl (.tmp rfl)) rfl rfl rfl ?_
  refine LW.p (PEv.load Tryz.isAgg22 (.tmp rfl) ((hS.blk 0 rfl).cell h4)) rfl rfl rfl ?_
  refine LW.p (PEv.makeFunc (.cons (.tmp rfl) .nil)) rfl rfl rfl ?_
  refine LW.c (enter_call0 (.cons (.tmp rfl) (.cons (.tmp rfl) .nil)) (Tryz.en35)) rfl rfl rfl rfl (first_any 39 #[.pointer (some ⟨B3, 0, none⟩)] (fun f => decide (f.Product = id)) Tryz.en39 ad cp b.Flows _ (Els.up hE0 hS.upd) hl (fun W u x => Flow1_any x id B3 W ((hS.blk 1 rfl).up u))) ?_
  rintro _ w4 ⟨rfl, uw4⟩
  have zw4 := uw4.size
  replace hS := hS.up uw4
  refine LW.p (PEv.extract (.tmp rfl) rfl) rfl rfl rfl (LW.p (PEv.extract (.tmp rfl) rfl) rfl rfl rfl ?_)
  refine LW.s (SEv.storeA Tryz.sizeOf35 rfl (.tmp rfl) (.tmp rfl) (by first | rfl | exact Fact.one _ | exact GAct.one _ | exact holdCells_one _ _ | exact hold0_one | (simp [Value.oneCell'])) (hS.blk 2 rfl) rfl) rfl rfl rfl ?_
  intro w5 Nw5
  have zw5 := Nw5.size
  replace hS := hS.putB 2 rfl Nw5
  change Wx.Sep _ _ _ [_, _, _] at hS
  refine LW.p (PEv.assign (.tmp rfl)) rfl rfl rfl (LW.nil (KW.then (CW.ret ?_)))
  refine KW.retAT rfl rfl rfl Tryz.isAgg35 Tryz.sizeOf35 rfl ((hS.blk 2 rfl)).agg ⟨_, rfl, ?_⟩
  exact ⟨rfl, hS.upd⟩

theorem rFind_any (ad : Option Addr) (cp : Nat) (l : List Fact) (j : Nat) (n : Int) (w : World) (hE : Els w ad 19 Fact.cells l) (hj : j < 14) (hl : l.length ≤ 100000) : Ret Tryz.prog 37 #[.slice ad l.length cp, vi (j : Int), vi n] w fun r w' => r = .tuple #[.agg ((l.find? (fun f => decide (getN f (j : Int) = n))).getD zeroF).cells, .bool (l.find? (fun f => decide (getN f (j : Int) = n))).isSome] ∧ Up w w' := by
  have hW := Up.refl w
  obtain ⟨w0, rfl⟩ : ∃ w0, w0 = w := ⟨_, rfl⟩
  refine Calls_start (n := 28) (m := 9) Tryz.func37 rfl rfl rfl ?_
  refine CW.seq (CW.region ?_)
  refine LW.r (REv.allocA Tryz.zeroValue35) rfl rfl rfl rfl ?_
  rintro _ w1 ⟨B6, rfl, NB6⟩
  have eB6 := NB6.at_
  have zB6 := NB6.size
  replace hW := hW.up NB6.up
  have hB6 := NB6.blk
  refine LW.p (PEv.assign (.const _)) rfl rfl rfl (LW.nil (KW.then (CW.seq (CW.seq (CW.region (LW.p (PEv.assign (.const _)) rfl rfl rfl (LW.nil (KW.then (CW.block ?_)))))))))
  refine CW.loopB (σ := Nat) (fun s w => (s ≤ l.length) ∧ (∀ y ∈ l.take s, (fun f => decide (getN f (j : Int) = n)) y = false) ∧ (Up w0 w) ∧ (Blk w B6 zeroF.cells 35)) (fun s => [(8, .eq (vi (s : Int)))]) ([(0, .eq _), (1, .eq _), (2, .eq _), (6, .eq _)]) (fun s => l.length - s) 0 ?_ ⟨rfl, rfl, rfl, rfl, rfl, trivial⟩ ?_
  ·exact ⟨Nat.zero_le _, (fun y hy => by rw [List.take_zero] at hy; cases hy), hW, hB6⟩
  ·rintro i w2 ⟨hi, hq, hW, hB6⟩
   refine CW.seq (CW.seq (CW.region (LW.p (PEv.move (.tmp rfl)) rfl rfl rfl (LW.p (PEv.move (.tmp rfl)) rfl rfl rfl ?_))))
   refine LW.p (PEv.lenS Tryz.underlying22 (.tmp rfl)) rfl rfl rfl ?_
   refine LW.p (PEv.lss (.tmp rfl) (.tmp rfl)) rfl rfl rfl ?_
   refine LW.nil (KW.then ?_)
   refine CW.cond (.tmp rfl) (fun h12 => ?_) (fun h12 => ?_)
   ·first | replace h12 := of_decide_eq_true h12 | replace h12 := of_decide_eq_false h12 | skip
    refine CW.skip (KW.then (CW.seq (CW.block (CW.seq ?_))))
    obtain ⟨x, hx⟩ := getElem?_of_lt (xs := l) (i := i) (by omega)
    obtain ⟨Bx, ox, ax, hcx⟩ := (Els.up hE hW) i x hx
    refine CW.region (LW.p (PEv.move (.tmp rfl)) rfl rfl rfl (LW.p (PEv.move (.tmp rfl)) rfl rfl rfl ?_))
    refine LW.p (PEv.indexAddr' Tryz.underlying22 Tryz.sizeOf35 (.tmp rfl) (.tmp rfl) (by omega) ax) rfl rfl rfl ?_
    refine LW.p (PEv.loadA Tryz.isAgg35 Tryz.sizeOf35 rfl (.tmp rfl) (hcx)) rfl rfl rfl ?_
    refine LW.p (PEv.move (.tmp rfl)) rfl rfl rfl ?_
    refine LW.c (enter_call0 (.cons (.tmp rfl) (.cons (.tmp rfl) .nil)) (Tryz.en77)) rfl rfl rfl rfl (Get_any x j _ hj) ?_
    rintro _ w3 ⟨rfl, uw3⟩
    have zw3 := uw3.size
    replace hW := hW.up uw3
    replace hB6 := hB6.up uw3
    refine LW.p (PEv.move (.tmp rfl)) rfl rfl rfl ?_
    refine LW.p (PEv.eql (.tmp rfl) (.tmp rfl)) rfl rfl rfl ?_
    refine LW.nil (KW.then ?_)
    refine CW.cond (.tmp rfl) (fun h22 => ?_) (fun h22 => ?_)
    ·first | replace h22 := of_decide_eq_true h22 | replace h22 := of_decide_eq_false h22 | skip
     refine CW.seq ?_
     obtain ⟨Bx, ox, ax, hcx⟩ := (Els.up hE hW) i x hx
     refine CW.region (LW.p (PEv.move (.tmp rfl)) rfl rfl rfl (LW.p (PEv.move (.tmp rfl)) rfl rfl rfl ?_))
     refine LW.p (PEv.indexAddr' Tryz.underlying22 Tryz.sizeOf35 (.tmp rfl) (.tmp rfl) (by omega) ax) rfl rfl rfl ?_
     refine LW.p (PEv.loadA Tryz.isAgg35 Tryz.sizeOf35 rfl (.tmp rfl) (hcx)) rfl rfl rfl ?_
     refine LW.s (SEv.storeA Tryz.sizeOf35 rfl (.tmp rfl) (.tmp rfl) (by first | rfl | exact Fact.one _ | exact GAct.one _ | exact holdCells_one _ _ | exact hold0_one | (simp [Value.oneCell'])) hB6 rfl) rfl rfl rfl ?_
     intro w4 Nw4
     have zw4 := Nw4.size
     replace hW := hW.sto Nw4.sto (by omega)
     replace hB6 := Nw4.blk
     replace hB6 : Blk w4 B6 x.cells _ := hB6
     refine LW.p (PEv.assign (.const _)) rfl rfl rfl (LW.nil (KW.then (CW.ret (KW.block_ret (KW.then_ret (KW.then_ret (KW.block_ret (KW.then_ret ?_))))))))
     refine KW.retAT rfl rfl rfl Tryz.isAgg35 Tryz.sizeOf35 rfl (hB6).agg ⟨_, rfl, ?_⟩
     first | (rw [find_at (p := (fun f => decide (getN f (j : Int) = n))) hx hq (decide_eq_true h22)]; exact ⟨rfl, hW⟩) | (rw [find_no (p := (fun f => decide (getN f (j : Int) = n))) (pre_all hq (by omega))]; exact ⟨rfl, hW⟩)
    ·first | replace h22 := of_decide_eq_true h22 | replace h22 := of_decide_eq_false h22 | skip
     refine CW.skip (KW.inBlock (KW.then (CW.region (LW.p (PEv.move (.tmp rfl)) rfl rfl rfl ?_))))
     refine LW.p (PEv.inc (.tmp rfl) (by omega)) rfl rfl rfl ?_
     refine LW.p (PEv.assign (.tmp rfl)) rfl rfl rfl (LW.nil (KW.round ?_))
     exact ⟨i + 1, ⟨by omega, pre_step hq hx (decide_eq_false h22), hW, hB6⟩, ⟨rfl, rfl, rfl, rfl, rfl, trivial⟩, by first | omega | (dsimp only; omega)⟩
   ·first | replace h12 := of_decide_eq_true h12 | replace h12 := of_decide_eq_false h12 | skip
    refine CW.exit (KW.then_exit (KW.then_exit (KW.block_hit (KW.then (CW.seq (CW.region ?_))))))
    refine LW.p (PEv.build (cs := zeroF.cells) Tryz.underlying35 Tryz.zeroValue35 Tryz.places35 .nil rfl) rfl rfl rfl ?_
    refine LW.s (SEv.storeA Tryz.sizeOf35 rfl (.tmp rfl) (.tmp rfl) (by first | rfl | exact Fact.one _ | exact GAct.one _ | exact holdCells_one _ _ | exact hold0_one | (simp [Value.oneCell'])) hB6 rfl) rfl rfl rfl ?_
    intro w5 Nw5
    have zw5 := Nw5.size
    replace hW := hW.sto Nw5.sto (by omega)
    replace hB6 := Nw5.blk
    replace hB6 : Blk w5 B6 zeroF.cells _ := hB6
    refine LW.p (PEv.assign (.const _)) rfl rfl rfl (LW.nil (KW.then (CW.ret ?_)))
    refine KW.retAT rfl rfl rfl Tryz.isAgg35 Tryz.sizeOf35 rfl (hB6).agg ⟨_, rfl, ?_⟩
    first | (rw [find_at (p := (fun f => decide (getN f (j : Int) = n))) hx hq (decide_eq_true h22)]; exact ⟨rfl, hW⟩) | (rw [find_no (p := (fun f => decide (getN f (j : Int) = n))) (pre_all hq (by omega))]; exact ⟨rfl, hW⟩)

theorem rProcess_any (bc : Array Go.Value) (b : Base) (id : Int) (w : World) (hC : BaseC w bc b) (hl : b.Processes.length ≤ 100000) : Ret Tryz.prog 13 #[.agg bc, vi id] w fun r w' => r = .tuple #[.agg ((procB b id).getD zeroF).cells, .bool (procB b id).isSome] ∧ Up w w' := by
  have hW := Up.refl w
  obtain ⟨w0, rfl⟩ : ∃ w0, w0 = w := ⟨_, rfl⟩
  obtain ⟨v0, h0, hr0⟩ := hC.at0
  obtain ⟨ad, cp, rfl, hE0⟩ := hr0
  refine Calls_start (n := 12) (m := 9) Tryz.func13 rfl rfl rfl ?_
  refine CW.seq (CW.region ?_)
  refine LW.r (REv.boxA (.tmp rfl)) rfl rfl rfl rfl ?_
  rintro _ w1 ⟨B2, rfl, NB2⟩
  have eB2 := NB2.at_
  have zB2 := NB2.size
  replace hW := hW.up NB2.up
  have hB2 := NB2.blk
  refine LW.r (REv.allocA Tryz.zeroValue35) rfl rfl rfl rfl ?_
  rintro _ w2 ⟨B4, rfl, NB4⟩
  have eB4 := NB4.at_
  have zB4 := NB4.size
  replace hW := hW.up NB4.up
  replace hB2 := hB2.up NB4.up
  have hB4 := NB4.blk
  refine LW.p (PEv.assign (.const _)) rfl rfl rfl (LW.nil (KW.then (CW.seq (CW.region ?_))))
  refine LW.p (PEv.fieldAddr (off := 0) Tryz.underlying26 rfl rfl Tryz.sizeOf22 rfl (.tmp rfl)) rfl rfl rfl ?_
  refine LW.p (PEv.load Tryz.isAgg22 (.tmp rfl) (hB2.cell h0)) rfl rfl rfl ?_
  refine LW.p (PEv.move (.tmp rfl)) rfl rfl rfl ?_
  refine LW.c (enter_call0 (.cons (.tmp rfl) (.cons (.const _) (.cons (.tmp rfl) .nil))) (Tryz.en37)) rfl rfl rfl rfl (rFind_any ad cp b.Processes 0 id _ (Els.up hE0 hW) (by decide) hl) ?_
  rintro _ w3 ⟨rfl, uw3⟩
  have zw3 := uw3.size
  replace hW := hW.up uw3
  replace hB2 := hB2.up uw3
  replace hB4 := hB4.up uw3
  refine LW.p (PEv.extract (.tmp rfl) rfl) rfl rfl rfl (LW.p (PEv.extract (.tmp rfl) rfl) rfl rfl rfl ?_)
  refine LW.s (SEv.storeA Tryz.sizeOf35 rfl (.tmp rfl) (.tmp rfl) (by first | rfl | exact Fact.one _ | exact GAct.one _ | exact holdCells_one _ _ | exact hold0_one | (simp [Value.oneCell'])) hB4 rfl) rfl rfl rfl ?_
  intro w4 Nw4
  have zw4 := Nw4.size
  replace hW := hW.sto Nw4.sto (by omega)
  replace hB2 := hB2.sto Nw4.sto (by omega)
  replace hB4 := Nw4.blk
  replace hB4 : Blk w4 B4 ((procB b id).getD zeroF).cells _ := hB4
  refine LW.p (PEv.assign (.tmp rfl)) rfl rfl rfl (LW.nil (KW.then (CW.ret ?_)))
  refine KW.retAT rfl rfl rfl Tryz.isAgg35 Tryz.sizeOf35 rfl (hB4).agg ⟨_, rfl, ?_⟩
  exact ⟨rfl, hW⟩

theorem rMeasure_any (bc : Array Go.Value) (b : Base) (id : Int) (w : World) (hC : BaseC w bc b) (hl : b.Measures.length ≤ 100000) : Ret Tryz.prog 15 #[.agg bc, vi id] w fun r w' => r = .tuple #[.agg ((measB b id).getD zeroF).cells, .bool (measB b id).isSome] ∧ Up w w' := by
  have hW := Up.refl w
  obtain ⟨w0, rfl⟩ : ∃ w0, w0 = w := ⟨_, rfl⟩
  obtain ⟨v1, h1, hr1⟩ := hC.at1
  obtain ⟨ad, cp, rfl, hE0⟩ := hr1
  refine Calls_start (n := 12) (m := 9) Tryz.func15 rfl rfl rfl ?_
  refine CW.seq (CW.region ?_)
  refine LW.r (REv.boxA (.tmp rfl)) rfl rfl rfl rfl ?_
  rintro _ w1 ⟨B2, rfl, NB2⟩
  have eB2 := NB2.at_
  have zB2 := NB2.size
  replace hW := hW.up NB2.up
  have hB2 := NB2.blk
  refine LW.r (REv.allocA Tryz.zeroValue35) rfl rfl rfl rfl ?_
  rintro _ w2 ⟨B4, rfl, NB4⟩
  have eB4 := NB4.at_
  have zB4 := NB4.size
  replace hW := hW.up NB4.up
  replace hB2 := hB2.up NB4.up
  have hB4 := NB4.blk
  refine LW.p (PEv.assign (.const _)) rfl rfl rfl (LW.nil (KW.then (CW.seq (CW.region ?_))))
  refine LW.p (PEv.fieldAddr (off := 1) Tryz.underlying26 rfl rfl Tryz.sizeOf22 rfl (.tmp rfl)) rfl rfl rfl ?_
  refine LW.p (PEv.load Tryz.isAgg22 (.tmp rfl) (hB2.cell h1)) rfl rfl rfl ?_
  refine LW.p (PEv.move (.tmp rfl)) rfl rfl rfl ?_
  refine LW.c (enter_call0 (.cons (.tmp rfl) (.cons (.const _) (.cons (.tmp rfl) .nil))) (Tryz.en37)) rfl rfl rfl rfl (rFind_any ad cp b.Measures 0 id _ (Els.up hE0 hW) (by decide) hl) ?_
  rintro _ w3 ⟨rfl, uw3⟩
  have zw3 := uw3.size
  replace hW := hW.up uw3
  replace hB2 := hB2.up uw3
  replace hB4 := hB4.up uw3
  refine LW.p (PEv.extract (.tmp rfl) rfl) rfl rfl rfl (LW.p (PEv.extract (.tmp rfl) rfl) rfl rfl rfl ?_)
  refine LW.s (SEv.storeA Tryz.sizeOf35 rfl (.tmp rfl) (.tmp rfl) (by first | rfl | exact Fact.one _ | exact GAct.one _ | exact holdCells_one _ _ | exact hold0_one | (simp [Value.oneCell'])) hB4 rfl) rfl rfl rfl ?_
  intro w4 Nw4
  have zw4 := Nw4.size
  replace hW := hW.sto Nw4.sto (by omega)
  replace hB2 := hB2.sto Nw4.sto (by omega)
  replace hB4 := Nw4.blk
  replace hB4 : Blk w4 B4 ((measB b id).getD zeroF).cells _ := hB4
  refine LW.p (PEv.assign (.tmp rfl)) rfl rfl rfl (LW.nil (KW.then (CW.ret ?_)))
  refine KW.retAT rfl rfl rfl Tryz.isAgg35 Tryz.sizeOf35 rfl (hB4).agg ⟨_, rfl, ?_⟩
  exact ⟨rfl, hW⟩

theorem rFlow_any (bc : Array Go.Value) (b : Base) (id : Int) (w : World) (hC : BaseC w bc b) (hl : b.Flows.length ≤ 100000) : Ret Tryz.prog 17 #[.agg bc, vi id] w fun r w' => r = .tuple #[.agg ((flowB b id).getD zeroF).cells, .bool (flowB b id).isSome] ∧ Up w w' := by
  have hW := Up.refl w
  obtain ⟨w0, rfl⟩ : ∃ w0, w0 = w := ⟨_, rfl⟩
  obtain ⟨v4, h4, hr4⟩ := hC.at4
  obtain ⟨ad, cp, rfl, hE0⟩ := hr4
  refine Calls_start (n := 12) (m := 9) Tryz.func17 rfl rfl rfl ?_
  refine CW.seq (CW.region ?_)
  refine LW.r (REv.boxA (.tmp rfl)) rfl rfl rfl rfl ?_
  rintro _ w1 ⟨B2, rfl, NB2⟩
  have eB2 := NB2.at_
  have zB2 := NB2.size
  replace hW := hW.up NB2.up
  have hB2 := NB2.blk
  refine LW.r (REv.allocA Tryz.zeroValue35) rfl rfl rfl rfl ?_
  rintro _ w2 ⟨B4, rfl, NB4⟩
  have eB4 := NB4.at_
  have zB4 := NB4.size
  replace hW := hW.up NB4.up
  replace hB2 := hB2.up NB4.up
  have hB4 := NB4.blk
  refine LW.p (PEv.assign (.const _)) rfl rfl rfl (LW.nil (KW.then (CW.seq (CW.region ?_))))
  refine LW.p (PEv.fieldAddr (off := 4) Tryz.underlying26 rfl rfl Tryz.sizeOf22 rfl (.tmp rfl)) rfl rfl rfl ?_
  refine LW.p (PEv.load Tryz.isAgg22 (.tmp rfl) (hB2.cell h4)) rfl rfl rfl ?_
  refine LW.p (PEv.move (.tmp rfl)) rfl rfl rfl ?_
  refine LW.c (enter_call0 (.cons (.tmp rfl) (.cons (.const _) (.cons (.tmp rfl) .nil))) (Tryz.en37)) rfl rfl rfl rfl (rFind_any ad cp b.Flows 4 id _ (Els.up hE0 hW) (by decide) hl) ?_
  rintro _ w3 ⟨rfl, uw3⟩
  have zw3 := uw3.size
  replace hW := hW.up uw3
  replace hB2 := hB2.up uw3
  replace hB4 := hB4.up uw3
  refine LW.p (PEv.extract (.tmp rfl) rfl) rfl rfl rfl (LW.p (PEv.extract (.tmp rfl) rfl) rfl rfl rfl ?_)
  refine LW.s (SEv.storeA Tryz.sizeOf35 rfl (.tmp rfl) (.tmp rfl) (by first | rfl | exact Fact.one _ | exact GAct.one _ | exact holdCells_one _ _ | exact hold0_one | (simp [Value.oneCell'])) hB4 rfl) rfl rfl rfl ?_
  intro w4 Nw4
  have zw4 := Nw4.size
  replace hW := hW.sto Nw4.sto (by omega)
  replace hB2 := hB2.sto Nw4.sto (by omega)
  replace hB4 := Nw4.blk
  replace hB4 : Blk w4 B4 ((flowB b id).getD zeroF).cells _ := hB4
  refine LW.p (PEv.assign (.tmp rfl)) rfl rfl rfl (LW.nil (KW.then (CW.ret ?_)))
  refine KW.retAT rfl rfl rfl Tryz.isAgg35 Tryz.sizeOf35 rfl (hB4).agg ⟨_, rfl, ?_⟩
  exact ⟨rfl, hW⟩

set_option maxHeartbeats 2000000 in
theorem rTarget_any (bc : Array Go.Value) (b : Base) (r t : Int) (w : World) (hC : BaseC w bc b) (hl : b.Targets.length ≤ 100000) : Ret Tryz.prog 19 #[.agg bc, vi r, vi t] w fun r0 w' => r0 = .tuple #[vi (tgF r t b.Targets).1.Value, .bool (tgF r t b.Targets).2] ∧ Up w w' := by
  have hW := Up.refl w
  obtain ⟨w0, rfl⟩ : ∃ w0, w0 = w := ⟨_, rfl⟩
  obtain ⟨v9, h9, hr9⟩ := hC.at9
  obtain ⟨ad, cp, rfl, hE0⟩ := hr9
  refine Calls_start (n := 57) (m := 9) Tryz.func19 rfl rfl rfl ?_
  refine CW.seq (CW.region ?_)
  refine LW.r (REv.boxA (.tmp rfl)) rfl rfl rfl rfl ?_
  rintro _ w1 ⟨B3, rfl, NB3⟩
  have eB3 := NB3.at_
  have zB3 := NB3.size
  replace hW := hW.up NB3.up
  have hB3 := NB3.blk
  refine LW.p (PEv.assign (.const _)) rfl rfl rfl (LW.p (PEv.assign (.const _)) rfl rfl rfl (LW.nil (KW.then (CW.seq (CW.region (LW.p (PEv.assign (.const _)) rfl rfl rfl (LW.nil (KW.then (CW.seq (CW.seq (CW.region (LW.p (PEv.assign (.const _)) rfl rfl rfl (LW.nil ?_)))))))))))))
  refine KW.then (CW.block ?_)
  refine CW.loopB (σ := Nat × Option Nat) (fun s w => (s.1 ≤ b.Targets.length) ∧ (TInv r t b.Targets s.1 s.2) ∧ (Up w0 w) ∧ (Blk w B3 bc 26)) (fun s => [(9, .eq (vi (s.1 : Int))), (8, .eq (vi (bestI s.2)))]) ([(1, .eq _), (2, .eq _), (3, .eq _), (6, .eq _), (7, .eq _)]) (fun s => b.Targets.length - s.1) (0, none) ?_ ⟨rfl, rfl, rfl, rfl, rfl, rfl, rfl, trivial⟩ ?_
  ·exact ⟨Nat.zero_le _, rfl, hW, hB3⟩
  ·rintro ⟨i, m⟩ w2 ⟨hi, hT, hW, hB3⟩
   dsimp only at hi hT
   change CW _ _ _ _ _ _ _ ([(9, .eq (vi (i : Int))), (8, .eq (vi (bestI m)))] ++ _) _
   refine CW.seq (CW.seq (CW.region (LW.p (PEv.move (.tmp rfl)) rfl rfl rfl ?_)))
   refine LW.p (PEv.fieldAddr (off := 9) Tryz.underlying26 rfl rfl Tryz.sizeOf22 rfl (.tmp rfl)) rfl rfl rfl ?_
   refine LW.p (PEv.load Tryz.isAgg22 (.tmp rfl) (hB3.cell h9)) rfl rfl rfl ?_
   refine LW.p (PEv.lenS Tryz.underlying22 (.tmp rfl)) rfl rfl rfl ?_
   refine LW.p (PEv.lss (.tmp rfl) (.tmp rfl)) rfl rfl rfl ?_
   refine LW.nil (KW.then ?_)
   refine CW.cond (.tmp rfl) (fun h15 => ?_) (fun h15 => ?_)
   ·first | replace h15 := of_decide_eq_true h15 | replace h15 := of_decide_eq_false h15 | skip
    refine CW.skip (KW.then (CW.seq (CW.block (CW.seq ?_))))
    obtain ⟨x, hx⟩ := getElem?_of_lt (xs := b.Targets) (i := i) (by omega)
    obtain ⟨Bx, ox, ax, hcx⟩ := (Els.up hE0 hW) i x hx
    refine CW.region ?_
    refine LW.p (PEv.fieldAddr (off := 9) Tryz.underlying26 rfl rfl Tryz.sizeOf22 rfl (.tmp rfl)) rfl rfl rfl ?_
    refine LW.p (PEv.load Tryz.isAgg22 (.tmp rfl) (hB3.cell h9)) rfl rfl rfl ?_
    refine LW.p (PEv.move (.tmp rfl)) rfl rfl rfl ?_
    refine LW.p (PEv.indexAddr' Tryz.underlying22 Tryz.sizeOf35 (.tmp rfl) (.tmp rfl) (by omega) ax) rfl rfl rfl ?_
    refine LW.p (PEv.loadA Tryz.isAgg35 Tryz.sizeOf35 rfl (.tmp rfl) (hcx)) rfl rfl rfl ?_
    refine LW.r (REv.allocA Tryz.zeroValue35) rfl rfl rfl rfl ?_
    rintro _ w3 ⟨B10, rfl, MB10⟩
    refine LW.s (SEv.storeA Tryz.sizeOf35 rfl (.tmp rfl) (.tmp rfl) (by first | rfl | exact Fact.one _ | exact GAct.one _ | exact holdCells_one _ _ | exact hold0_one | (simp [Value.oneCell'])) MB10.blk rfl) rfl rfl rfl ?_
    intro w4 LB10
    have NB10 := MB10.set LB10
    clear LB10 MB10
    have eB10 := NB10.at_
    have zB10 := NB10.size
    replace hW := hW.up NB10.up
    replace hB3 := hB3.up NB10.up
    have hB10 := NB10.blk
    refine LW.nil (KW.then (CW.seq ?_))
    cases hq6 : decide (x.Recipe = r) with
    | false =>
     have hrc := hq6
     have hno : ∀ s : Fact × Bool, s = tgF r t (b.Targets.take i) → (decide (x.Recipe = r) && decide (x.Time ≤ t) && (!s.2 || decide (s.1.Time < x.Time))) = false := fun s _ => by rw [hrc]; rfl
     cases m with
     | none =>
      refine CW.draws (by kernel_rfl) (by kernel_rfl) rfl rfl ?_
      refine HW.p (PEv.fieldAddr (off := 14) Tryz.underlying35 rfl rfl Tryz.sizeOf3 rfl (.tmp rfl)) rfl rfl ?_
      refine HW.p (PEv.load Tryz.isAgg3 (.tmp rfl) (hB10.celln rfl)) rfl rfl ?_
      refine HW.p (PEv.move (.tmp rfl)) rfl rfl ?_
      refine HW.p (PEv.fa (PEv.eql (.tmp rfl) (.tmp rfl)) (hrc)) rfl rfl ?_
      refine HW.p (PEv.move (.tmp rfl)) rfl rfl ?_
      refine HW.no rfl rfl rfl rfl rfl rfl rfl ?_
      refine HW.no rfl rfl rfl rfl rfl rfl rfl ?_
      refine HW.no rfl rfl rfl rfl rfl rfl rfl ?_
      refine HW.no rfl rfl rfl rfl rfl rfl rfl ?_
      refine HW.p (PEv.pick_and (b := false) (.tmp rfl) (fun hp => absurd (show false = true from hp) (by decide))) rfl rfl ?_
      refine HW.p (PEv.move (.tmp rfl)) rfl rfl ?_
      refine HW.no rfl rfl rfl rfl rfl rfl rfl ?_
      refine HW.no rfl rfl rfl rfl rfl rfl rfl ?_
      refine HW.no rfl rfl rfl rfl rfl rfl rfl ?_
      refine HW.no' rfl rfl rfl rfl rfl ?_
      refine HW.no' rfl rfl rfl rfl rfl ?_
      refine HW.no' rfl rfl rfl rfl rfl ?_
      refine HW.no' rfl rfl rfl rfl rfl ?_
      refine HW.no' rfl rfl rfl rfl rfl ?_
      refine HW.no' rfl rfl rfl rfl rfl ?_
      refine HW.no' rfl rfl rfl rfl rfl ?_
      refine HW.no' rfl rfl rfl rfl rfl ?_
      refine HW.no' rfl rfl rfl rfl rfl ?_
      refine HW.no rfl rfl rfl rfl rfl rfl rfl ?_
      refine HW.p (PEv.pick_and (b := false) (.tmp rfl) (fun hp => absurd (show false = true from hp) (by decide))) rfl rfl ?_
      refine HW.nil ?_
      intro w5 uw5
      have zw5 := uw5.size
      replace hW := hW.up uw5
      replace hB3 := hB3.up uw5
      replace hB10 := hB10.up uw5
      refine KW.then ?_
      refine CW.cond_false (.tmp rfl) ?_
      refine CW.skip (KW.inBlock (KW.then (CW.region (LW.p (PEv.move (.tmp rfl)) rfl rfl rfl ?_))))
      refine LW.p (PEv.inc (.tmp rfl) (by omega)) rfl rfl rfl ?_
      refine LW.p (PEv.assign (.tmp rfl)) rfl rfl rfl (LW.nil (KW.round ?_))
      first | exact ⟨(i + 1, none), ⟨by show i + 1 ≤ _; omega, TInv.skip hT hx hno, hW, hB3⟩, ⟨rfl, rfl, rfl, rfl, rfl, rfl, rfl, trivial⟩, by show b.Targets.length - (i + 1) < b.Targets.length - i; omega⟩ | exact ⟨(i + 1, some q), ⟨by show i + 1 ≤ _; omega, TInv.skip (m := some q) ⟨y, hyq, hty⟩ hx hno, hW, hB3⟩, ⟨rfl, rfl, rfl, rfl, rfl, rfl, rfl, trivial⟩, by show b.Targets.length - (i + 1) < b.Targets.length - i; omega⟩
     | some q =>
      obtain ⟨y, hyq, hty⟩ := hT
      have hql := (List.getElem?_eq_some_iff.1 hyq).1
      obtain ⟨By, oy, ay, hcy⟩ := (Els.up hE0 hW) q y hyq
      refine CW.draws (by kernel_rfl) (by kernel_rfl) rfl rfl ?_
      refine HW.p (PEv.fieldAddr (off := 14) Tryz.underlying35 rfl rfl Tryz.sizeOf3 rfl (.tmp rfl)) rfl rfl ?_
      refine HW.p (PEv.load Tryz.isAgg3 (.tmp rfl) (hB10.celln rfl)) rfl rfl ?_
      refine HW.p (PEv.move (.tmp rfl)) rfl rfl ?_
      refine HW.p (PEv.fa (PEv.eql (.tmp rfl) (.tmp rfl)) (hrc)) rfl rfl ?_
      refine HW.p (PEv.move (.tmp rfl)) rfl rfl ?_
      refine HW.no rfl rfl rfl rfl rfl rfl rfl ?_
      refine HW.no rfl rfl rfl rfl rfl rfl rfl ?_
      refine HW.no rfl rfl rfl rfl rfl rfl rfl ?_
      refine HW.no rfl rfl rfl rfl rfl rfl rfl ?_
      refine HW.p (PEv.pick_and (b := false) (.tmp rfl) (fun hp => absurd (show false = true from hp) (by decide))) rfl rfl ?_
      refine HW.p (PEv.move (.tmp rfl)) rfl rfl ?_
      refine HW.no rfl rfl rfl rfl rfl rfl rfl ?_
      refine HW.no rfl rfl rfl rfl rfl rfl rfl ?_
      refine HW.no rfl rfl rfl rfl rfl rfl rfl ?_
      refine HW.no' rfl rfl rfl rfl rfl ?_
      refine HW.no' rfl rfl rfl rfl rfl ?_
      refine HW.no' rfl rfl rfl rfl rfl ?_
      refine HW.no' rfl rfl rfl rfl rfl ?_
      refine HW.no' rfl rfl rfl rfl rfl ?_
      refine HW.no' rfl rfl rfl rfl rfl ?_
      refine HW.no' rfl rfl rfl rfl rfl ?_
      refine HW.no' rfl rfl rfl rfl rfl ?_
      refine HW.no' rfl rfl rfl rfl rfl ?_
      refine HW.no rfl rfl rfl rfl rfl rfl rfl ?_
      refine HW.p (PEv.pick_and (b := false) (.tmp rfl) (fun hp => absurd (show false = true from hp) (by decide))) rfl rfl ?_
      refine HW.nil ?_
      intro w6 uw6
      have zw6 := uw6.size
      replace hW := hW.up uw6
      replace hB3 := hB3.up uw6
      replace hB10 := hB10.up uw6
      refine KW.then ?_
      refine CW.cond_false (.tmp rfl) ?_
      refine CW.skip (KW.inBlock (KW.then (CW.region (LW.p (PEv.move (.tmp rfl)) rfl rfl rfl ?_))))
      refine LW.p (PEv.inc (.tmp rfl) (by omega)) rfl rfl rfl ?_
      refine LW.p (PEv.assign (.tmp rfl)) rfl rfl rfl (LW.nil (KW.round ?_))
      first | exact ⟨(i + 1, none), ⟨by show i + 1 ≤ _; omega, TInv.skip hT hx hno, hW, hB3⟩, ⟨rfl, rfl, rfl, rfl, rfl, rfl, rfl, trivial⟩, by show b.Targets.length - (i + 1) < b.Targets.length - i; omega⟩ | exact ⟨(i + 1, some q), ⟨by show i + 1 ≤ _; omega, TInv.skip (m := some q) ⟨y, hyq, hty⟩ hx hno, hW, hB3⟩, ⟨rfl, rfl, rfl, rfl, rfl, rfl, rfl, trivial⟩, by show b.Targets.length - (i + 1) < b.Targets.length - i; omega⟩
    | true =>
     have hrc := hq6
     cases hq6 : decide (x.Time ≤ t) with
     | false =>
      have htc := hq6
      have hno : ∀ s : Fact × Bool, s = tgF r t (b.Targets.take i) → (decide (x.Recipe = r) && decide (x.Time ≤ t) && (!s.2 || decide (s.1.Time < x.Time))) = false := fun s _ => by rw [htc]; simp
      cases m with
      | none =>
       refine CW.draws (by kernel_rfl) (by kernel_rfl) rfl rfl ?_
       refine HW.p (PEv.fieldAddr (off := 14) Tryz.underlying35 rfl rfl Tryz.sizeOf3 rfl (.tmp rfl)) rfl rfl ?_
       refine HW.p (PEv.load Tryz.isAgg3 (.tmp rfl) (hB10.celln rfl)) rfl rfl ?_
       refine HW.p (PEv.move (.tmp rfl)) rfl rfl ?_
       refine HW.p (PEv.tr (PEv.eql (.tmp rfl) (.tmp rfl)) (hrc)) rfl rfl ?_
       refine HW.p (PEv.move (.tmp rfl)) rfl rfl ?_
       refine HW.yp rfl rfl rfl rfl rfl (PEv.fieldAddr (off := 5) Tryz.underlying35 rfl rfl Tryz.sizeOf3 rfl (.tmp rfl)) rfl ?_
       refine HW.yp rfl rfl rfl rfl rfl (PEv.load Tryz.isAgg3 (.tmp rfl) (hB10.celln rfl)) rfl ?_
       refine HW.yp rfl rfl rfl rfl rfl (PEv.move (.tmp rfl)) rfl ?_
       refine HW.yp rfl rfl rfl rfl rfl (PEv.fa (PEv.leq (.tmp rfl) (.tmp rfl)) (htc)) rfl ?_
       refine HW.p (PEv.pick_and (.tmp rfl) (fun hp => (by first | exact .const _ | exact .tmp rfl | exact .cond rfl (by first | assumption | simp_all)))) rfl rfl ?_
       refine HW.p (PEv.move (.tmp rfl)) rfl rfl ?_
       refine HW.no rfl rfl rfl rfl rfl rfl rfl ?_
       refine HW.no rfl rfl rfl rfl rfl rfl rfl ?_
       refine HW.no rfl rfl rfl rfl rfl rfl rfl ?_
       refine HW.no' rfl rfl rfl rfl rfl ?_
       refine HW.no' rfl rfl rfl rfl rfl ?_
       refine HW.no' rfl rfl rfl rfl rfl ?_
       refine HW.no' rfl rfl rfl rfl rfl ?_
       refine HW.no' rfl rfl rfl rfl rfl ?_
       refine HW.no' rfl rfl rfl rfl rfl ?_
       refine HW.no' rfl rfl rfl rfl rfl ?_
       refine HW.no' rfl rfl rfl rfl rfl ?_
       refine HW.no' rfl rfl rfl rfl rfl ?_
       refine HW.no rfl rfl rfl rfl rfl rfl rfl ?_
       refine HW.p (PEv.pick_and (b := false) (.tmp rfl) (fun hp => absurd (show false = true from hp) (by decide))) rfl rfl ?_
       refine HW.nil ?_
       intro w7 uw7
       have zw7 := uw7.size
       replace hW := hW.up uw7
       replace hB3 := hB3.up uw7
       replace hB10 := hB10.up uw7
       refine KW.then ?_
       refine CW.cond_false (.tmp rfl) ?_
       refine CW.skip (KW.inBlock (KW.then (CW.region (LW.p (PEv.move (.tmp rfl)) rfl rfl rfl ?_))))
       refine LW.p (PEv.inc (.tmp rfl) (by omega)) rfl rfl rfl ?_
       refine LW.p (PEv.assign (.tmp rfl)) rfl rfl rfl (LW.nil (KW.round ?_))
       first | exact ⟨(i + 1, none), ⟨by show i + 1 ≤ _; omega, TInv.skip hT hx hno, hW, hB3⟩, ⟨rfl, rfl, rfl, rfl, rfl, rfl, rfl, trivial⟩, by show b.Targets.length - (i + 1) < b.Targets.length - i; omega⟩ | exact ⟨(i + 1, some q), ⟨by show i + 1 ≤ _; omega, TInv.skip (m := some q) ⟨y, hyq, hty⟩ hx hno, hW, hB3⟩, ⟨rfl, rfl, rfl, rfl, rfl, rfl, rfl, trivial⟩, by show b.Targets.length - (i + 1) < b.Targets.length - i; omega⟩
      | some q =>
       obtain ⟨y, hyq, hty⟩ := hT
       have hql := (List.getElem?_eq_some_iff.1 hyq).1
       obtain ⟨By, oy, ay, hcy⟩ := (Els.up hE0 hW) q y hyq
       refine CW.draws (by kernel_rfl) (by kernel_rfl) rfl rfl ?_
       refine HW.p (PEv.fieldAddr (off := 14) Tryz.underlying35 rfl rfl Tryz.sizeOf3 rfl (.tmp rfl)) rfl rfl ?_
       refine HW.p (PEv.load Tryz.isAgg3 (.tmp rfl) (hB10.celln rfl)) rfl rfl ?_
       refine HW.p (PEv.move (.tmp rfl)) rfl rfl ?_
       refine HW.p (PEv.tr (PEv.eql (.tmp rfl) (.tmp rfl)) (hrc)) rfl rfl ?_
       refine HW.p (PEv.move (.tmp rfl)) rfl rfl ?_
       refine HW.yp rfl rfl rfl rfl rfl (PEv.fieldAddr (off := 5) Tryz.underlying35 rfl rfl Tryz.sizeOf3 rfl (.tmp rfl)) rfl ?_
       refine HW.yp rfl rfl rfl rfl rfl (PEv.load Tryz.isAgg3 (.tmp rfl) (hB10.celln rfl)) rfl ?_
       refine HW.yp rfl rfl rfl rfl rfl (PEv.move (.tmp rfl)) rfl ?_
       refine HW.yp rfl rfl rfl rfl rfl (PEv.fa (PEv.leq (.tmp rfl) (.tmp rfl)) (htc)) rfl ?_
       refine HW.p (PEv.pick_and (.tmp rfl) (fun hp => (by first | exact .const _ | exact .tmp rfl | exact .cond rfl (by first | assumption | simp_all)))) rfl rfl ?_
       refine HW.p (PEv.move (.tmp rfl)) rfl rfl ?_
       refine HW.no rfl rfl rfl rfl rfl rfl rfl ?_
       refine HW.no rfl rfl rfl rfl rfl rfl rfl ?_
       refine HW.no rfl rfl rfl rfl rfl rfl rfl ?_
       refine HW.no' rfl rfl rfl rfl rfl ?_
       refine HW.no' rfl rfl rfl rfl rfl ?_
       refine HW.no' rfl rfl rfl rfl rfl ?_
       refine HW.no' rfl rfl rfl rfl rfl ?_
       refine HW.no' rfl rfl rfl rfl rfl ?_
       refine HW.no' rfl rfl rfl rfl rfl ?_
       refine HW.no' rfl rfl rfl rfl rfl ?_
       refine HW.no' rfl rfl rfl rfl rfl ?_
       refine HW.no' rfl rfl rfl rfl rfl ?_
       refine HW.no rfl rfl rfl rfl rfl rfl rfl ?_
       refine HW.p (PEv.pick_and (b := false) (.tmp rfl) (fun hp => absurd (show false = true from hp) (by decide))) rfl rfl ?_
       refine HW.nil ?_
       intro w8 uw8
       have zw8 := uw8.size
       replace hW := hW.up uw8
       replace hB3 := hB3.up uw8
       replace hB10 := hB10.up uw8
       refine KW.then ?_
       refine CW.cond_false (.tmp rfl) ?_
       refine CW.skip (KW.inBlock (KW.then (CW.region (LW.p (PEv.move (.tmp rfl)) rfl rfl rfl ?_))))
       refine LW.p (PEv.inc (.tmp rfl) (by omega)) rfl rfl rfl ?_
       refine LW.p (PEv.assign (.tmp rfl)) rfl rfl rfl (LW.nil (KW.round ?_))
       first | exact ⟨(i + 1, none), ⟨by show i + 1 ≤ _; omega, TInv.skip hT hx hno, hW, hB3⟩, ⟨rfl, rfl, rfl, rfl, rfl, rfl, rfl, trivial⟩, by show b.Targets.length - (i + 1) < b.Targets.length - i; omega⟩ | exact ⟨(i + 1, some q), ⟨by show i + 1 ≤ _; omega, TInv.skip (m := some q) ⟨y, hyq, hty⟩ hx hno, hW, hB3⟩, ⟨rfl, rfl, rfl, rfl, rfl, rfl, rfl, trivial⟩, by show b.Targets.length - (i + 1) < b.Targets.length - i; omega⟩
     | true =>
      have htc := hq6
      cases m with
      | none =>
       have hyes : ∀ s : Fact × Bool, s = tgF r t (b.Targets.take i) → (decide (x.Recipe = r) && decide (x.Time ≤ t) && (!s.2 || decide (s.1.Time < x.Time))) = true := fun s e => by rw [e, show tgF r t (b.Targets.take i) = (zeroF, false) from hT, hrc, htc]; rfl
       refine CW.draws (by kernel_rfl) (by kernel_rfl) rfl rfl ?_
       refine HW.p (PEv.fieldAddr (off := 14) Tryz.underlying35 rfl rfl Tryz.sizeOf3 rfl (.tmp rfl)) rfl rfl ?_
       refine HW.p (PEv.load Tryz.isAgg3 (.tmp rfl) (hB10.celln rfl)) rfl rfl ?_
       refine HW.p (PEv.move (.tmp rfl)) rfl rfl ?_
       refine HW.p (PEv.tr (PEv.eql (.tmp rfl) (.tmp rfl)) (hrc)) rfl rfl ?_
       refine HW.p (PEv.move (.tmp rfl)) rfl rfl ?_
       refine HW.yp rfl rfl rfl rfl rfl (PEv.fieldAddr (off := 5) Tryz.underlying35 rfl rfl Tryz.sizeOf3 rfl (.tmp rfl)) rfl ?_
       refine HW.yp rfl rfl rfl rfl rfl (PEv.load Tryz.isAgg3 (.tmp rfl) (hB10.celln rfl)) rfl ?_
       refine HW.yp rfl rfl rfl rfl rfl (PEv.move (.tmp rfl)) rfl ?_
       refine HW.yp rfl rfl rfl rfl rfl (PEv.tr (PEv.leq (.tmp rfl) (.tmp rfl)) (htc)) rfl ?_
       refine HW.p (PEv.pick_and (.tmp rfl) (fun hp => (by first | exact .const _ | exact .tmp rfl | exact .cond rfl (by first | assumption | simp_all)))) rfl rfl ?_
       refine HW.p (PEv.move (.tmp rfl)) rfl rfl ?_
       refine HW.yp rfl rfl rfl rfl rfl (PEv.move (.tmp rfl)) rfl ?_
       refine HW.yp rfl rfl rfl rfl rfl (PEv.tr (PEv.lss (.tmp rfl) (.const _)) (decide_eq_true (by decide))) rfl ?_
       refine HW.yp rfl rfl rfl rfl rfl (PEv.move (.tmp rfl)) rfl ?_
       refine HW.no rfl rfl rfl rfl rfl rfl rfl ?_
       refine HW.no rfl rfl rfl rfl rfl rfl rfl ?_
       refine HW.no rfl rfl rfl rfl rfl rfl rfl ?_
       refine HW.no rfl rfl rfl rfl rfl rfl rfl ?_
       refine HW.no rfl rfl rfl rfl rfl rfl rfl ?_
       refine HW.no rfl rfl rfl rfl rfl rfl rfl ?_
       refine HW.no rfl rfl rfl rfl rfl rfl rfl ?_
       refine HW.no rfl rfl rfl rfl rfl rfl rfl ?_
       refine HW.no rfl rfl rfl rfl rfl rfl rfl ?_
       refine HW.yp rfl rfl rfl rfl rfl (PEv.pick_or (b := false) (.tmp rfl) (fun hp => absurd (show true = false from hp) (by decide))) rfl ?_
       refine HW.p (PEv.pick_and (.tmp rfl) (fun hp => (by first | exact .const _ | exact .tmp rfl | exact .cond rfl (by first | assumption | simp_all)))) rfl rfl ?_
       refine HW.nil ?_
       intro w9 uw9
       have zw9 := uw9.size
       replace hW := hW.up uw9
       replace hB3 := hB3.up uw9
       replace hB10 := hB10.up uw9
       refine KW.then ?_
       refine CW.cond_true (.tmp rfl) ?_
       refine CW.region (LW.p (PEv.move (.tmp rfl)) rfl rfl rfl (LW.p (PEv.assign (.tmp rfl)) rfl rfl rfl (LW.nil (KW.inBlock (KW.then (CW.region (LW.p (PEv.move (.tmp rfl)) rfl rfl rfl ?_)))))))
       refine LW.p (PEv.inc (.tmp rfl) (by omega)) rfl rfl rfl ?_
       refine LW.p (PEv.assign (.tmp rfl)) rfl rfl rfl (LW.nil (KW.round ?_))
       exact ⟨(i + 1, some i), ⟨by show i + 1 ≤ _; omega, TInv.put hx hyes, hW, hB3⟩, ⟨rfl, rfl, rfl, rfl, rfl, rfl, rfl, trivial⟩, by show b.Targets.length - (i + 1) < b.Targets.length - i; omega⟩
      | some q =>
       obtain ⟨y, hyq, hty⟩ := hT
       have hql := (List.getElem?_eq_some_iff.1 hyq).1
       obtain ⟨By, oy, ay, hcy⟩ := (Els.up hE0 hW) q y hyq
       refine CW.draws (by kernel_rfl) (by kernel_rfl) rfl rfl ?_
       refine HW.p (PEv.fieldAddr (off := 14) Tryz.underlying35 rfl rfl Tryz.sizeOf3 rfl (.tmp rfl)) rfl rfl ?_
       refine HW.p (PEv.load Tryz.isAgg3 (.tmp rfl) (hB10.celln rfl)) rfl rfl ?_
       refine HW.p (PEv.move (.tmp rfl)) rfl rfl ?_
       refine HW.p (PEv.tr (PEv.eql (.tmp rfl) (.tmp rfl)) (hrc)) rfl rfl ?_
       refine HW.p (PEv.move (.tmp rfl)) rfl rfl ?_
       refine HW.yp rfl rfl rfl rfl rfl (PEv.fieldAddr (off := 5) Tryz.underlying35 rfl rfl Tryz.sizeOf3 rfl (.tmp rfl)) rfl ?_
       refine HW.yp rfl rfl rfl rfl rfl (PEv.load Tryz.isAgg3 (.tmp rfl) (hB10.celln rfl)) rfl ?_
       refine HW.yp rfl rfl rfl rfl rfl (PEv.move (.tmp rfl)) rfl ?_
       refine HW.yp rfl rfl rfl rfl rfl (PEv.tr (PEv.leq (.tmp rfl) (.tmp rfl)) (htc)) rfl ?_
       refine HW.p (PEv.pick_and (.tmp rfl) (fun hp => (by first | exact .const _ | exact .tmp rfl | exact .cond rfl (by first | assumption | simp_all)))) rfl rfl ?_
       refine HW.p (PEv.move (.tmp rfl)) rfl rfl ?_
       refine HW.yp rfl rfl rfl rfl rfl (PEv.move (.tmp rfl)) rfl ?_
       refine HW.yp rfl rfl rfl rfl rfl (PEv.fa (PEv.lss (.tmp rfl) (.const _)) (decide_eq_false (by show ¬ ((q : Int) < 0); omega))) rfl ?_
       refine HW.yp rfl rfl rfl rfl rfl (PEv.move (.tmp rfl)) rfl ?_
       refine HW.yp rfl rfl rfl rfl rfl (PEv.fieldAddr (off := 5) Tryz.underlying35 rfl rfl Tryz.sizeOf3 rfl (.tmp rfl)) rfl ?_
       refine HW.yp rfl rfl rfl rfl rfl (PEv.load Tryz.isAgg3 (.tmp rfl) (hB10.celln rfl)) rfl ?_
       refine HW.yp rfl rfl rfl rfl rfl (PEv.fieldAddr (off := 9) Tryz.underlying26 rfl rfl Tryz.sizeOf22 rfl (.tmp rfl)) rfl ?_
       refine HW.yp rfl rfl rfl rfl rfl (PEv.load Tryz.isAgg22 (.tmp rfl) (hB3.cell h9)) rfl ?_
       refine HW.yp rfl rfl rfl rfl rfl (PEv.move (.tmp rfl)) rfl ?_
       refine HW.yp rfl rfl rfl rfl rfl (PEv.indexAddr' Tryz.underlying22 Tryz.sizeOf35 (.tmp rfl) (.tmp rfl) (by omega) ay) rfl ?_
       refine HW.yp rfl rfl rfl rfl rfl (PEv.fieldAddr (off := 5) Tryz.underlying35 rfl rfl Tryz.sizeOf3 rfl (.tmp rfl)) rfl ?_
       refine HW.yp rfl rfl rfl rfl rfl (PEv.load Tryz.isAgg3 (.tmp rfl) (hcy.nth (j := 5) rfl)) rfl ?_
       refine HW.yp rfl rfl rfl rfl rfl (PEv.gtr (.tmp rfl) (.tmp rfl)) rfl ?_
       refine HW.yp rfl rfl rfl rfl rfl (PEv.pick_or (.tmp rfl) (fun hp => (by first | exact .const _ | exact .tmp rfl | exact .cond rfl (by first | assumption | simp_all)))) rfl ?_
       refine HW.p (PEv.pick_and (.tmp rfl) (fun hp => (by first | exact .const _ | exact .tmp rfl | exact .cond rfl (by first | assumption | simp_all)))) rfl rfl ?_
       refine HW.nil ?_
       intro w10 uw10
       have zw10 := uw10.size
       replace hW := hW.up uw10
       replace hB3 := hB3.up uw10
       replace hB10 := hB10.up uw10
       refine KW.then ?_
       refine CW.cond (.tmp rfl) (fun h47 => ?_) (fun h47 => ?_)
       ·first | replace h47 := of_decide_eq_true h47 | replace h47 := of_decide_eq_false h47 | skip
        have hyes : ∀ s : Fact × Bool, s = tgF r t (b.Targets.take i) → (decide (x.Recipe = r) && decide (x.Time ≤ t) && (!s.2 || decide (s.1.Time < x.Time))) = true := fun s e => by rw [e, hty, hrc, htc]; simpa using h47
        refine CW.region (LW.p (PEv.move (.tmp rfl)) rfl rfl rfl (LW.p (PEv.assign (.tmp rfl)) rfl rfl rfl (LW.nil (KW.inBlock (KW.then (CW.region (LW.p (PEv.move (.tmp rfl)) rfl rfl rfl ?_)))))))
        refine LW.p (PEv.inc (.tmp rfl) (by omega)) rfl rfl rfl ?_
        refine LW.p (PEv.assign (.tmp rfl)) rfl rfl rfl (LW.nil (KW.round ?_))
        exact ⟨(i + 1, some i), ⟨by show i + 1 ≤ _; omega, TInv.put hx hyes, hW, hB3⟩, ⟨rfl, rfl, rfl, rfl, rfl, rfl, rfl, trivial⟩, by show b.Targets.length - (i + 1) < b.Targets.length - i; omega⟩
       ·first | replace h47 := of_decide_eq_true h47 | replace h47 := of_decide_eq_false h47 | skip
        have hno : ∀ s : Fact × Bool, s = tgF r t (b.Targets.take i) → (decide (x.Recipe = r) && decide (x.Time ≤ t) && (!s.2 || decide (s.1.Time < x.Time))) = false := fun s e => by rw [e, hty, hrc, htc]; simpa using h47
        refine CW.skip (KW.inBlock (KW.then (CW.region (LW.p (PEv.move (.tmp rfl)) rfl rfl rfl ?_))))
        refine LW.p (PEv.inc (.tmp rfl) (by omega)) rfl rfl rfl ?_
        refine LW.p (PEv.assign (.tmp rfl)) rfl rfl rfl (LW.nil (KW.round ?_))
        first | exact ⟨(i + 1, none), ⟨by show i + 1 ≤ _; omega, TInv.skip hT hx hno, hW, hB3⟩, ⟨rfl, rfl, rfl, rfl, rfl, rfl, rfl, trivial⟩, by show b.Targets.length - (i + 1) < b.Targets.length - i; omega⟩ | exact ⟨(i + 1, some q), ⟨by show i + 1 ≤ _; omega, TInv.skip (m := some q) ⟨y, hyq, hty⟩ hx hno, hW, hB3⟩, ⟨rfl, rfl, rfl, rfl, rfl, rfl, rfl, trivial⟩, by show b.Targets.length - (i + 1) < b.Targets.length - i; omega⟩
   ·first | replace h15 := of_decide_eq_true h15 | replace h15 := of_decide_eq_false h15 | skip
    have hie : i = b.Targets.length := by omega
    rw [hie] at hT
    unfold TInv at hT
    rw [List.take_length] at hT
    refine CW.exit (KW.then_exit (KW.then_exit (KW.block_hit (KW.then (CW.seq (CW.seq ?_))))))
    cases m with
    | none =>
     refine CW.region (LW.p (PEv.move (.tmp rfl)) rfl rfl rfl ?_)
     refine LW.p (PEv.tr (PEv.lss (.tmp rfl) (.const _)) (decide_eq_true (by decide))) rfl rfl rfl ?_
     refine LW.nil (KW.then ?_)
     refine CW.cond_true (.tmp rfl) ?_
     refine CW.seq (CW.region (LW.p (PEv.assign (.const _)) rfl rfl rfl (LW.p (PEv.assign (.const _)) rfl rfl rfl (LW.nil (KW.then (CW.ret (KW.then_ret ?_)))))))
     refine KW.ret2 rfl rfl rfl ⟨_, rfl, ?_⟩
     first | (rw [hT]; exact ⟨rfl, hW⟩) | (rw [hty]; exact ⟨rfl, hW⟩)
    | some q =>
     obtain ⟨y, hyq, hty⟩ := hT
     have hql := (List.getElem?_eq_some_iff.1 hyq).1
     obtain ⟨By, oy, ay, hcy⟩ := (Els.up hE0 hW) q y hyq
     refine CW.region (LW.p (PEv.move (.tmp rfl)) rfl rfl rfl ?_)
     refine LW.p (PEv.fa (PEv.lss (.tmp rfl) (.const _)) (decide_eq_false (by show ¬ ((q : Int) < 0); omega))) rfl rfl rfl ?_
     refine LW.nil (KW.then ?_)
     refine CW.cond_false (.tmp rfl) ?_
     refine CW.skip (KW.then (CW.seq (CW.region ?_)))
     refine LW.p (PEv.fieldAddr (off := 9) Tryz.underlying26 rfl rfl Tryz.sizeOf22 rfl (.tmp rfl)) rfl rfl rfl ?_
     refine LW.p (PEv.load Tryz.isAgg22 (.tmp rfl) (hB3.cell h9)) rfl rfl rfl ?_
     refine LW.p (PEv.move (.tmp rfl)) rfl rfl rfl ?_
     refine LW.p (PEv.indexAddr' Tryz.underlying22 Tryz.sizeOf35 (.tmp rfl) (.tmp rfl) (by omega) ay) rfl rfl rfl ?_
     refine LW.p (PEv.fieldAddr (off := 16) Tryz.underlying35 rfl rfl Tryz.sizeOf3 rfl (.tmp rfl)) rfl rfl rfl ?_
     refine LW.p (PEv.load Tryz.isAgg3 (.tmp rfl) (hcy.nth (j := 16) rfl)) rfl rfl rfl ?_
     refine LW.p (PEv.assign (.tmp rfl)) rfl rfl rfl (LW.p (PEv.assign (.const _)) rfl rfl rfl (LW.nil (KW.then (CW.ret ?_))))
     refine KW.ret2 rfl rfl rfl ⟨_, rfl, ?_⟩
     first | (rw [hT]; exact ⟨rfl, hW⟩) | (rw [hty]; exact ⟨rfl, hW⟩)

set_option maxHeartbeats 2000000 in
theorem rQualified_any (bc : Array Go.Value) (b : Base) (a c r v t : Int) (w : World) (hC : BaseC w bc b) (hl : b.Qualified.length ≤ 100000) : Ret Tryz.prog 21 #[.agg bc, vi a, vi c, vi r, vi v, vi t] w fun r0 w' => r0 = .bool (qualifiedB b a c r v t) ∧ Up w w' := by
  have hW := Up.refl w
  obtain ⟨w0, rfl⟩ : ∃ w0, w0 = w := ⟨_, rfl⟩
  obtain ⟨v5, h5, hr5⟩ := hC.at5
  obtain ⟨ad, cp, rfl, hE0⟩ := hr5
  refine Calls_start (n := 61) (m := 9) Tryz.func21 rfl rfl rfl ?_
  refine CW.seq (CW.region ?_)
  refine LW.r (REv.boxA (.tmp rfl)) rfl rfl rfl rfl ?_
  rintro _ w1 ⟨B6, rfl, NB6⟩
  have eB6 := NB6.at_
  have zB6 := NB6.size
  replace hW := hW.up NB6.up
  have hB6 := NB6.blk
  refine LW.p (PEv.assign (.const _)) rfl rfl rfl (LW.nil (KW.then (CW.seq (CW.seq (CW.region (LW.p (PEv.assign (.const _)) rfl rfl rfl (LW.nil (KW.then (CW.block ?_)))))))))
  refine CW.loopB (σ := Nat) (fun s w => (s ≤ b.Qualified.length) ∧ (∀ y ∈ b.Qualified.take s, qualB a c r v t y = false) ∧ (Up w0 w) ∧ (Blk w B6 bc 26)) (fun s => [(13, .eq (vi (s : Int)))]) ([(1, .eq _), (2, .eq _), (3, .eq _), (4, .eq _), (5, .eq _), (6, .eq _)]) (fun s => b.Qualified.length - s) 0 ?_ ⟨rfl, rfl, rfl, rfl, rfl, rfl, rfl, trivial⟩ ?_
  ·exact ⟨Nat.zero_le _, (fun y hy => by rw [List.take_zero] at hy; cases hy), hW, hB6⟩
  ·rintro i w2 ⟨hi, hq, hW, hB6⟩
   refine CW.seq (CW.seq (CW.region (LW.p (PEv.move (.tmp rfl)) rfl rfl rfl ?_)))
   refine LW.p (PEv.fieldAddr (off := 5) Tryz.underlying26 rfl rfl Tryz.sizeOf22 rfl (.tmp rfl)) rfl rfl rfl ?_
   refine LW.p (PEv.load Tryz.isAgg22 (.tmp rfl) (hB6.cell h5)) rfl rfl rfl ?_
   refine LW.p (PEv.lenS Tryz.underlying22 (.tmp rfl)) rfl rfl rfl ?_
   refine LW.p (PEv.lss (.tmp rfl) (.tmp rfl)) rfl rfl rfl ?_
   refine LW.nil (KW.then ?_)
   refine CW.cond (.tmp rfl) (fun h19 => ?_) (fun h19 => ?_)
   ·first | replace h19 := of_decide_eq_true h19 | replace h19 := of_decide_eq_false h19 | skip
    refine CW.skip (KW.then (CW.seq (CW.block (CW.seq ?_))))
    obtain ⟨x, hx⟩ := getElem?_of_lt (xs := b.Qualified) (i := i) (by omega)
    obtain ⟨Bx, ox, ax, hcx⟩ := (Els.up hE0 hW) i x hx
    refine CW.region ?_
    refine LW.p (PEv.fieldAddr (off := 5) Tryz.underlying26 rfl rfl Tryz.sizeOf22 rfl (.tmp rfl)) rfl rfl rfl ?_
    refine LW.p (PEv.load Tryz.isAgg22 (.tmp rfl) (hB6.cell h5)) rfl rfl rfl ?_
    refine LW.p (PEv.move (.tmp rfl)) rfl rfl rfl ?_
    refine LW.p (PEv.indexAddr' Tryz.underlying22 Tryz.sizeOf35 (.tmp rfl) (.tmp rfl) (by omega) ax) rfl rfl rfl ?_
    refine LW.p (PEv.loadA Tryz.isAgg35 Tryz.sizeOf35 rfl (.tmp rfl) (hcx)) rfl rfl rfl ?_
    refine LW.r (REv.allocA Tryz.zeroValue35) rfl rfl rfl rfl ?_
    rintro _ w3 ⟨B14, rfl, MB14⟩
    refine LW.s (SEv.storeA Tryz.sizeOf35 rfl (.tmp rfl) (.tmp rfl) (by first | rfl | exact Fact.one _ | exact GAct.one _ | exact holdCells_one _ _ | exact hold0_one | (simp [Value.oneCell'])) MB14.blk rfl) rfl rfl rfl ?_
    intro w4 LB14
    have NB14 := MB14.set LB14
    clear LB14 MB14
    have eB14 := NB14.at_
    have zB14 := NB14.size
    replace hW := hW.up NB14.up
    replace hB6 := hB6.up NB14.up
    have hB14 := NB14.blk
    refine LW.nil (KW.then (CW.seq (CW.region ?_)))
    refine LW.p (PEv.fieldAddr (off := 11) Tryz.underlying35 rfl rfl Tryz.sizeOf3 rfl (.tmp rfl)) rfl rfl rfl ?_
    refine LW.p (PEv.load Tryz.isAgg3 (.tmp rfl) (hB14.celln rfl)) rfl rfl rfl ?_
    refine LW.p (PEv.move (.tmp rfl)) rfl rfl rfl ?_
    refine LW.p (PEv.eql (.tmp rfl) (.tmp rfl)) rfl rfl rfl ?_
    refine LW.p (PEv.move (.tmp rfl)) rfl rfl rfl ?_
    refine LW.g rfl rfl rfl rfl rfl rfl rfl (fun hc => PEv.fieldAddr (off := 12) Tryz.underlying35 rfl rfl Tryz.sizeOf3 rfl (.tmp rfl)) ?_
    refine LW.g rfl rfl rfl rfl rfl rfl rfl (fun hc => PEv.load Tryz.isAgg3 (by first | exact .tmp rfl | exact .cond rfl (by first | assumption | simp_all)) (hB14.celln rfl)) ?_
    refine LW.g rfl rfl rfl rfl rfl rfl rfl (fun hc => PEv.move (.tmp rfl)) ?_
    refine LW.g rfl rfl rfl rfl rfl rfl rfl (fun hc => PEv.eql (by first | exact .tmp rfl | exact .cond rfl (by first | assumption | simp_all)) (by first | exact .tmp rfl | exact .cond rfl (by first | assumption | simp_all))) ?_
    refine LW.p (PEv.pick_and (.tmp rfl) (fun hp => (by first | exact .const _ | exact .tmp rfl | exact .cond rfl (by first | assumption | (rw [hp]; rfl) | simp_all)))) rfl rfl rfl ?_
    refine LW.p (PEv.move (.tmp rfl)) rfl rfl rfl ?_
    refine LW.g rfl rfl rfl rfl rfl rfl rfl (fun hc => PEv.fieldAddr (off := 14) Tryz.underlying35 rfl rfl Tryz.sizeOf3 rfl (.tmp rfl)) ?_
    refine LW.g rfl rfl rfl rfl rfl rfl rfl (fun hc => PEv.load Tryz.isAgg3 (by first | exact .tmp rfl | exact .cond rfl (by first | assumption | simp_all)) (hB14.celln rfl)) ?_
    refine LW.g rfl rfl rfl rfl rfl rfl rfl (fun hc => PEv.move (.tmp rfl)) ?_
    refine LW.g rfl rfl rfl rfl rfl rfl rfl (fun hc => PEv.eql (by first | exact .tmp rfl | exact .cond rfl (by first | assumption | simp_all)) (by first | exact .tmp rfl | exact .cond rfl (by first | assumption | simp_all))) ?_
    refine LW.p (PEv.pick_and (.tmp rfl) (fun hp => (by first | exact .const _ | exact .tmp rfl | exact .cond rfl (by first | assumption | (rw [hp]; rfl) | simp_all)))) rfl rfl rfl ?_
    refine LW.p (PEv.move (.tmp rfl)) rfl rfl rfl ?_
    refine LW.g rfl rfl rfl rfl rfl rfl rfl (fun hc => PEv.fieldAddr (off := 15) Tryz.underlying35 rfl rfl Tryz.sizeOf3 rfl (.tmp rfl)) ?_
    refine LW.g rfl rfl rfl rfl rfl rfl rfl (fun hc => PEv.load Tryz.isAgg3 (by first | exact .tmp rfl | exact .cond rfl (by first | assumption | simp_all)) (hB14.celln rfl)) ?_
    refine LW.g rfl rfl rfl rfl rfl rfl rfl (fun hc => PEv.move (.tmp rfl)) ?_
    refine LW.g rfl rfl rfl rfl rfl rfl rfl (fun hc => PEv.eql (by first | exact .tmp rfl | exact .cond rfl (by first | assumption | simp_all)) (by first | exact .tmp rfl | exact .cond rfl (by first | assumption | simp_all))) ?_
    refine LW.p (PEv.pick_and (.tmp rfl) (fun hp => (by first | exact .const _ | exact .tmp rfl | exact .cond rfl (by first | assumption | (rw [hp]; rfl) | simp_all)))) rfl rfl rfl ?_
    refine LW.p (PEv.move (.tmp rfl)) rfl rfl rfl ?_
    refine LW.g rfl rfl rfl rfl rfl rfl rfl (fun hc => PEv.fieldAddr (off := 5) Tryz.underlying35 rfl rfl Tryz.sizeOf3 rfl (.tmp rfl)) ?_
    refine LW.g rfl rfl rfl rfl rfl rfl rfl (fun hc => PEv.load Tryz.isAgg3 (by first | exact .tmp rfl | exact .cond rfl (by first | assumption | simp_all)) (hB14.celln rfl)) ?_
    refine LW.g rfl rfl rfl rfl rfl rfl rfl (fun hc => PEv.move (.tmp rfl)) ?_
    refine LW.g rfl rfl rfl rfl rfl rfl rfl (fun hc => PEv.leq (by first | exact .tmp rfl | exact .cond rfl (by first | assumption | simp_all)) (by first | exact .tmp rfl | exact .cond rfl (by first | assumption | simp_all))) ?_
    refine LW.p (PEv.pick_and (.tmp rfl) (fun hp => (by first | exact .const _ | exact .tmp rfl | exact .cond rfl (by first | assumption | (rw [hp]; rfl) | simp_all)))) rfl rfl rfl ?_
    refine LW.p (PEv.move (.tmp rfl)) rfl rfl rfl ?_
    refine LW.g rfl rfl rfl rfl rfl rfl rfl (fun hc => PEv.move (.tmp rfl)) ?_
    refine LW.g rfl rfl rfl rfl rfl rfl rfl (fun hc => PEv.fieldAddr (off := 6) Tryz.underlying35 rfl rfl Tryz.sizeOf3 rfl (.tmp rfl)) ?_
    refine LW.g rfl rfl rfl rfl rfl rfl rfl (fun hc => PEv.load Tryz.isAgg3 (by first | exact .tmp rfl | exact .cond rfl (by first | assumption | simp_all)) (hB14.celln rfl)) ?_
    refine LW.g rfl rfl rfl rfl rfl rfl rfl (fun hc => PEv.leq (by first | exact .tmp rfl | exact .cond rfl (by first | assumption | simp_all)) (by first | exact .tmp rfl | exact .cond rfl (by first | assumption | simp_all))) ?_
    refine LW.p (PEv.pick_and (.tmp rfl) (fun hp => (by first | exact .const _ | exact .tmp rfl | exact .cond rfl (by first | assumption | (rw [hp]; rfl) | simp_all)))) rfl rfl rfl ?_
    refine LW.nil (KW.then ?_)
    refine CW.cond (.tmp rfl) (fun h60 => ?_) (fun h60 => ?_)
    ·first | replace h60 := of_decide_eq_true h60 | replace h60 := of_decide_eq_false h60 | skip
     have hqy : qualB a c r v t x = true := by unfold qualB; simpa [and_assoc] using h60
     refine CW.seq (CW.region (LW.p (PEv.assign (.const _)) rfl rfl rfl (LW.nil (KW.then (CW.ret (KW.block_ret (KW.then_ret (KW.then_ret (KW.block_ret (KW.then_ret ?_))))))))))
     refine KW.ret1 rfl rfl ⟨_, rfl, ?_⟩
     unfold qualifiedB
     first | (rw [find_at (p := qualB a c r v t) hx hq hqy]; exact ⟨rfl, hW⟩) | (rw [find_no (p := qualB a c r v t) (pre_all hq (by omega))]; exact ⟨rfl, hW⟩)
    ·first | replace h60 := of_decide_eq_true h60 | replace h60 := of_decide_eq_false h60 | skip
     have hqn : qualB a c r v t x = false := by unfold qualB; rw [← Bool.not_eq_true]; simpa [and_assoc] using h60
     refine CW.skip (KW.inBlock (KW.then (CW.region (LW.p (PEv.move (.tmp rfl)) rfl rfl rfl ?_))))
     refine LW.p (PEv.inc (.tmp rfl) (by omega)) rfl rfl rfl ?_
     refine LW.p (PEv.assign (.tmp rfl)) rfl rfl rfl (LW.nil (KW.round ?_))
     exact ⟨i + 1, ⟨by omega, pre_step hq hx hqn, hW, hB6⟩, ⟨rfl, rfl, rfl, rfl, rfl, rfl, rfl, trivial⟩, by first | omega | (dsimp only; omega)⟩
   ·first | replace h19 := of_decide_eq_true h19 | replace h19 := of_decide_eq_false h19 | skip
    refine CW.exit (KW.then_exit (KW.then_exit (KW.block_hit (KW.then (CW.seq (CW.region (LW.p (PEv.assign (.const _)) rfl rfl rfl (LW.nil (KW.then (CW.ret ?_))))))))))
    refine KW.ret1 rfl rfl ⟨_, rfl, ?_⟩
    unfold qualifiedB
    first | (rw [find_at (p := qualB a c r v t) hx hq hqy]; exact ⟨rfl, hW⟩) | (rw [find_no (p := qualB a c r v t) (pre_all hq (by omega))]; exact ⟨rfl, hW⟩)

set_option maxHeartbeats 4000000 in
theorem rRuns_any (bc : Array Go.Value) (b : Base) (t c : Int) (w : World) (hC : BaseC w bc b) (hl : b.Processes.length ≤ 100000) : Ret Tryz.prog 24 #[.agg bc, vi t, vi c] w fun r w' => OwnS w' 0 35 19 Fact.cells r (runsB b t c) ∧ Up w w' := by
  have hW := Up.refl w
  obtain ⟨w0, rfl⟩ : ∃ w0, w0 = w := ⟨_, rfl⟩
  obtain ⟨v0, h0, hr0⟩ := hC.at0
  obtain ⟨ad, cp, rfl, hE0⟩ := hr0
  refine Calls_start (n := 84) (m := 9) Tryz.func24 rfl rfl rfl ?_
  refine CW.seq (CW.region ?_)
  refine LW.r (REv.boxA (.tmp rfl)) rfl rfl rfl rfl ?_
  rintro _ w1 ⟨B3, rfl, NB3⟩
  have eB3 := NB3.at_
  have zB3 := NB3.size
  replace hW := hW.up NB3.up
  have hB3 := NB3.blk
  refine LW.p (PEv.assign (.const _)) rfl rfl rfl (LW.nil (KW.then (CW.seq (CW.region (LW.p (PEv.assign (.const _)) rfl rfl rfl (LW.nil (KW.then (CW.seq (CW.seq (CW.region (LW.p (PEv.assign (.const _)) rfl rfl rfl (LW.nil (KW.then ?_)))))))))))))
  refine CW.block ?_
  refine CW.loopB (σ := Nat × Go.Value) (fun s w => (s.1 ≤ b.Processes.length) ∧ (Up w0 w) ∧ (Blk w B3 bc 26) ∧ (OwnS w 0 35 19 Fact.cells s.2 (runL b.Processes t c s.1))) (fun s => [(8, .eq (vi (s.1 : Int))), (7, .eq (s.2))]) ([(1, .eq _), (2, .eq _), (3, .eq _), (6, .eq _)]) (fun s => b.Processes.length - s.1) (0, .slice none 0 0) ?_ ⟨rfl, rfl, rfl, rfl, rfl, rfl, trivial⟩ ?_
  ·exact ⟨Nat.zero_le _, hW, hB3, OwnS.nil _ _ _ _ _⟩
  ·rintro ⟨i, v⟩ w2 ⟨hi, hW, hB3, hO⟩
   dsimp only at hi hO
   change CW _ _ _ _ _ _ _ ([(8, .eq (vi (i : Int))), (7, .eq (v))] ++ _) _
   refine CW.seq (CW.seq (CW.region (LW.p (PEv.move (.tmp rfl)) rfl rfl rfl ?_)))
   refine LW.p (PEv.fieldAddr (off := 0) Tryz.underlying26 rfl rfl Tryz.sizeOf22 rfl (.tmp rfl)) rfl rfl rfl ?_
   refine LW.p (PEv.load Tryz.isAgg22 (.tmp rfl) (hB3.cell h0)) rfl rfl rfl ?_
   refine LW.p (PEv.lenS Tryz.underlying22 (.tmp rfl)) rfl rfl rfl ?_
   refine LW.p (PEv.lss (.tmp rfl) (.tmp rfl)) rfl rfl rfl ?_
   refine LW.nil (KW.then ?_)
   refine CW.cond (.tmp rfl) (fun h15 => ?_) (fun h15 => ?_)
   ·first | replace h15 := of_decide_eq_true h15 | replace h15 := of_decide_eq_false h15 | skip
    refine CW.skip (KW.then (CW.seq (CW.block (CW.seq ?_))))
    obtain ⟨f, hf⟩ := getElem?_of_lt (xs := b.Processes) (i := i) (by omega)
    obtain ⟨Bx, ox, ax, hcx⟩ := (Els.up hE0 hW) i f hf
    refine CW.region ?_
    refine LW.p (PEv.fieldAddr (off := 0) Tryz.underlying26 rfl rfl Tryz.sizeOf22 rfl (.tmp rfl)) rfl rfl rfl ?_
    refine LW.p (PEv.load Tryz.isAgg22 (.tmp rfl) (hB3.cell h0)) rfl rfl rfl ?_
    refine LW.p (PEv.move (.tmp rfl)) rfl rfl rfl ?_
    refine LW.p (PEv.indexAddr' Tryz.underlying22 Tryz.sizeOf35 (.tmp rfl) (.tmp rfl) (by omega) ax) rfl rfl rfl ?_
    refine LW.p (PEv.loadA Tryz.isAgg35 Tryz.sizeOf35 rfl (.tmp rfl) (hcx)) rfl rfl rfl ?_
    refine LW.r (REv.allocA Tryz.zeroValue35) rfl rfl rfl rfl ?_
    rintro _ w3 ⟨B9, rfl, MB9⟩
    refine LW.s (SEv.storeA Tryz.sizeOf35 rfl (.tmp rfl) (.tmp rfl) (by first | rfl | exact Fact.one _ | exact GAct.one _ | exact holdCells_one _ _ | exact hold0_one | (simp [Value.oneCell'])) MB9.blk rfl) rfl rfl rfl ?_
    intro w4 LB9
    have NB9 := MB9.set LB9
    clear LB9 MB9
    have eB9 := NB9.at_
    have zB9 := NB9.size
    replace hW := hW.up NB9.up
    replace hB3 := hB3.up NB9.up
    replace hO := hO.up NB9.up
    have hB9 := NB9.blk
    refine LW.nil (KW.then (CW.seq (CW.seq (CW.region ?_))))
    refine LW.p (PEv.fieldAddr (off := 11) Tryz.underlying35 rfl rfl Tryz.sizeOf3 rfl (.tmp rfl)) rfl rfl rfl ?_
    refine LW.p (PEv.load Tryz.isAgg3 (.tmp rfl) (hB9.celln rfl)) rfl rfl rfl ?_
    refine LW.p (PEv.move (.tmp rfl)) rfl rfl rfl ?_
    refine LW.p (PEv.neq (.tmp rfl) (.tmp rfl)) rfl rfl rfl ?_
    refine LW.p (PEv.move (.tmp rfl)) rfl rfl rfl ?_
    refine LW.g rfl rfl rfl rfl rfl rfl rfl (fun hc => PEv.fieldAddr (off := 12) Tryz.underlying35 rfl rfl Tryz.sizeOf3 rfl (.tmp rfl)) ?_
    refine LW.g rfl rfl rfl rfl rfl rfl rfl (fun hc => PEv.load Tryz.isAgg3 (by first | exact .tmp rfl | exact .cond rfl (by first | assumption | simp_all)) (hB9.celln rfl)) ?_
    refine LW.g rfl rfl rfl rfl rfl rfl rfl (fun hc => PEv.move (.tmp rfl)) ?_
    refine LW.g rfl rfl rfl rfl rfl rfl rfl (fun hc => PEv.neq (by first | exact .tmp rfl | exact .cond rfl (by first | assumption | simp_all)) (by first | exact .tmp rfl | exact .cond rfl (by first | assumption | simp_all))) ?_
    refine LW.p (PEv.pick_or (.tmp rfl) (fun hp => (by first | exact .const _ | exact .tmp rfl | exact .cond rfl (by first | assumption | simp_all)))) rfl rfl rfl ?_
    refine LW.nil (KW.then ?_)
    refine CW.cond (.tmp rfl) (fun h32 => ?_) (fun h32 => ?_)
    ·first | replace h32 := of_decide_eq_true h32 | replace h32 := of_decide_eq_false h32 | skip
     have hrn : runP t c f = false := by unfold runP; rw [← Bool.not_eq_true]; simp at h32 ⊢; omega
     refine CW.exit (KW.then_exit (KW.block_hit (KW.then (CW.region (LW.p (PEv.move (.tmp rfl)) rfl rfl rfl ?_)))))
     refine LW.p (PEv.inc (.tmp rfl) (by omega)) rfl rfl rfl ?_
     refine LW.p (PEv.assign (.tmp rfl)) rfl rfl rfl (LW.nil (KW.round ?_))
     exact ⟨(i + 1, v), ⟨by show i + 1 ≤ _; omega, hW, hB3, by show OwnS _ _ _ _ _ v _; rw [runL_no hf hrn]; exact hO⟩, ⟨rfl, rfl, rfl, rfl, rfl, rfl, trivial⟩, by show b.Processes.length - (i + 1) < b.Processes.length - i; omega⟩
    ·first | replace h32 := of_decide_eq_true h32 | replace h32 := of_decide_eq_false h32 | skip
     have hrp : runP t c f = true := by unfold runP; simp at h32 ⊢; omega
     refine CW.skip (KW.then (CW.seq ?_))
     obtain ⟨adv, cpv, rfl, hEv⟩ := hO.sl (fun _ => rfl)
     have hrl := runL_len b.Processes t c i
     have hcp := own_cap hO
     refine CW.region (LW.p (PEv.move (.tmp rfl)) rfl rfl rfl ?_)
     refine LW.p (PEv.lenS Tryz.underlying22 (.tmp rfl)) rfl rfl rfl ?_
     refine LW.p (PEv.assign (.tmp rfl)) rfl rfl rfl (LW.nil (KW.then (CW.seq (CW.block ?_))))
     refine CW.loopB (σ := Nat) (fun s w => (s ≤ (runL b.Processes t c i).length) ∧ (∀ y ∈ (runL b.Processes t c i).drop s, ltK (runK f) (runK y) = true) ∧ (Up w0 w) ∧ (Blk w B3 bc 26) ∧ (Els w adv 19 Fact.cells (runL b.Processes t c i)) ∧ (Blk w B9 f.cells 35)) (fun s => [(10, .eq (vi (s : Int)))]) ([(1, .eq _), (2, .eq _), (3, .eq _), (6, .eq _), (7, .eq _), (8, .eq _), (9, .eq _)]) (fun s => s) (runL b.Processes t c i).length ?_ ⟨rfl, rfl, rfl, rfl, rfl, rfl, rfl, rfl, trivial⟩ ?_
     ·exact ⟨Nat.le_refl _, (fun y hy => by rw [List.drop_length] at hy; cases hy), hW, hB3, hEv, hB9⟩
     ·rintro k w5 ⟨hk, hd, hW, hB3, hEv, hB9⟩
      refine CW.seq (CW.seq ?_)
      cases hq8 : decide (0 < k) with
      | false =>
       have hk0 := of_decide_eq_false hq8
       refine CW.draws (by kernel_rfl) (by kernel_rfl) rfl rfl ?_
       refine HW.p (PEv.move (.tmp rfl)) rfl rfl ?_
       refine HW.p (PEv.fa (PEv.gtr (.tmp rfl) (.const _)) (decide_eq_false (by omega))) rfl rfl ?_
       refine HW.p (PEv.move (.tmp rfl)) rfl rfl ?_
       refine HW.no rfl rfl rfl rfl rfl rfl rfl ?_
       refine HW.no rfl rfl rfl rfl rfl rfl rfl ?_
       refine HW.no rfl rfl rfl rfl rfl rfl rfl ?_
       refine HW.no rfl rfl rfl rfl rfl rfl rfl ?_
       refine HW.no rfl rfl rfl rfl rfl rfl rfl ?_
       refine HW.no rfl rfl rfl rfl rfl rfl rfl ?_
       refine HW.no rfl rfl rfl rfl rfl rfl rfl ?_
       refine HW.no rfl rfl rfl rfl rfl rfl rfl ?_
       refine HW.no rfl rfl rfl rfl rfl rfl rfl ?_
       refine HW.no rfl rfl rfl rfl rfl rfl rfl ?_
       refine HW.no' rfl rfl rfl rfl rfl ?_
       refine HW.no' rfl rfl rfl rfl rfl ?_
       refine HW.no' rfl rfl rfl rfl rfl ?_
       refine HW.no' rfl rfl rfl rfl rfl ?_
       refine HW.no' rfl rfl rfl rfl rfl ?_
       refine HW.no' rfl rfl rfl rfl rfl ?_
       refine HW.no' rfl rfl rfl rfl rfl ?_
       refine HW.no' rfl rfl rfl rfl rfl ?_
       refine HW.no' rfl rfl rfl rfl rfl ?_
       refine HW.no' rfl rfl rfl rfl rfl ?_
       refine HW.no' rfl rfl rfl rfl rfl ?_
       refine HW.no' rfl rfl rfl rfl rfl ?_
       refine HW.no' rfl rfl rfl rfl rfl ?_
       refine HW.no' rfl rfl rfl rfl rfl ?_
       refine HW.no' rfl rfl rfl rfl rfl ?_
       refine HW.no' rfl rfl rfl rfl rfl ?_
       refine HW.no' rfl rfl rfl rfl rfl ?_
       refine HW.no' rfl rfl rfl rfl rfl ?_
       refine HW.no' rfl rfl rfl rfl rfl ?_
       refine HW.no' rfl rfl rfl rfl rfl ?_
       refine HW.no rfl rfl rfl rfl rfl rfl rfl ?_
       refine HW.p (PEv.pick_and (b := false) (.tmp rfl) (fun hp => absurd (show false = true from hp) (by decide))) rfl rfl ?_
       refine HW.nil ?_
       intro w6 uw6
       have zw6 := uw6.size
       replace hW := hW.up uw6
       replace hB3 := hB3.up uw6
       replace hEv := hEv.up uw6
       replace hB9 := hB9.up uw6
       refine KW.then ?_
       refine CW.cond_false (.tmp rfl) ?_
       refine CW.exit (KW.then_exit (KW.then_exit (KW.block_hit (KW.then ?_))))
       have hput : isPutR (runL b.Processes t c i) f k := ⟨hk, hd, by first | exact .inl (by omega) | exact .inr ⟨y, hy, hnl⟩⟩
       refine CW.free 11 [.eq (.slice adv (runL b.Processes t c i).length cpv), .eq (vi (k : Int)), .eq (vi (k : Int)), .eq (.slice adv ((runL b.Processes t c i).take k).length ((runL b.Processes t c i).take k).length), .eq (.agg f.cells), .pred fun v W => ∃ B, v = .slice (some ⟨B, 0, none⟩) [f].length [f].length ∧ Els W (some ⟨B, 0, none⟩) 19 Fact.cells [f], .eq (.slice adv (runL b.Processes t c i).length cpv), .eq (vi (k : Int)), .eq (.slice (if cpv = k then adv else adv.map (·.add (k * 19))) ((runL b.Processes t c i).length - k) (cpv - k)), .pred fun v W => Sl W v 19 Fact.cells ([f] ++ ((runL b.Processes t c i).drop k)), .pred fun v W => OwnS W 0 35 19 Fact.cells v (insAt (runL b.Processes t c i) f k)] [82] (by kernel_rfl) rfl (by kernel_rfl) (by kernel_rfl) (by kernel_rfl) (by kernel_rfl) (by kernel_rfl) (by kernel_rfl) (by kernel_rfl) ⟨PhU.eq _, PhU.eq _, PhU.eq _, PhU.eq _, PhU.eq _, PhU.pred fun _ _ _ h u => let ⟨B, e, hE⟩ := h; ⟨B, e, hE.up u⟩, PhU.eq _, PhU.eq _, PhU.eq _, PhU.pred fun _ _ _ h u => Sl.up h u, PhU.pred fun _ _ _ h u => OwnS.up h u, trivial⟩ ?_ ?_
       ·intro W hU0
        have hU := (Up.drew w6).trans hU0
        have hEW := hEv.up hU
        have hlk : ((runL b.Processes t c i).take k).length = k := by rw [List.length_take]; omega
        refine allL.cons ⟨rfl, TU.p (PEv.move (.tmp rfl)) rfl⟩ ?_
        refine allL.cons ⟨rfl, TU.p (PEv.move (.tmp rfl)) rfl⟩ ?_
        refine allL.cons ⟨rfl, TU.p (PEv.move (.tmp rfl)) rfl⟩ ?_
        refine allL.cons ⟨rfl, TU.p (PEv.val (v' := .slice adv ((runL b.Processes t c i).take k).length ((runL b.Processes t c i).take k).length) (PEv.slice3 Tryz.underlying22 Tryz.sizeOf35 (.tmp rfl) (.tmp rfl) (.tmp rfl) (by omega)) (by rw [hlk])) rfl⟩ ?_
        refine allL.cons ⟨rfl, TU.p (PEv.loadA Tryz.isAgg35 Tryz.sizeOf35 rfl (.tmp rfl) ((hB9.up hU).agg)) rfl⟩ ?_
        refine allL.cons ⟨rfl, TU.r (REv.buildSlice (xs := [f]) (enc := Fact.cells) (mk := fun f : Fact => .agg f.cells) Tryz.underlying22 Tryz.sizeOf35 Tryz.zeroValue35 rfl (Nat.le_of_ble_eq_true rfl) (fun _ => rfl) (fun _ => rfl) (.cons (.tmp rfl) .nil) rfl) (fun v W' h => let ⟨B, cs, e, N, _, hE1⟩ := h; ⟨N.up, B, e, hE1⟩)⟩ ?_
        refine allL.cons ⟨rfl, TU.p (PEv.move (.tmp rfl)) rfl⟩ ?_
        refine allL.cons ⟨rfl, TU.p (PEv.move (.tmp rfl)) rfl⟩ ?_
        refine allL.cons ⟨rfl, TU.p (PEv.sliceFrom Tryz.underlying22 Tryz.sizeOf35 (.tmp rfl) (.tmp rfl) (by omega)) rfl⟩ ?_
        refine allL.cons ⟨rfl, TU.open (d := 77) rfl fun v hv => by obtain ⟨B, rfl, hE5⟩ := hv; exact TU.r (REv.appendC (enc := Fact.cells) (k := 19) (bytes := 160) (i := Tryz.t35) (xs := [f]) (ys := ((runL b.Processes t c i).drop k)) Tryz.underlying22 (by kernel_rfl) rfl rfl rfl rfl (by decide) (fun _ => rfl) (.tmp rfl) (.tmp rfl) hE5 (Els.drop hEW hcp) (by simp [maxLen]; omega) (by simp; omega)) (fun _ _ h => ⟨h.1, h.2.1⟩)⟩ ?_
        refine allL.cons ⟨rfl, TU.open (d := 81) rfl fun v hv => TU.r (REv.appendC (enc := Fact.cells) (k := 19) (bytes := 160) (i := Tryz.t35) (xs := ((runL b.Processes t c i).take k)) (ys := ([f] ++ ((runL b.Processes t c i).drop k))) Tryz.underlying22 (by kernel_rfl) rfl rfl rfl rfl (by decide) (fun _ => rfl) (.tmp rfl) (.tmp rfl) (Els.take hEW) hv (by simp [maxLen]; omega) (by simp; omega)) (fun _ _ h => ⟨h.1, (h.2.2 (by simp)).mono (Nat.zero_le _)⟩)⟩ ?_
        exact allL.nil
       ·intro w7 g hU0 hg
        have hU := (Up.drew w6).trans hU0
        have zw7 := hU.size
        replace hW := hW.up hU
        replace hB3 := hB3.up hU
        replace hEv := hEv.up hU
        replace hB9 := hB9.up hU
        have hO : OwnS w7 0 35 19 Fact.cells (g 82) (insAt (runL b.Processes t c i) f k) := hg 10 _ 82 (by decide) rfl rfl
        refine LW.p (PEv.assign (.tmp rfl)) rfl rfl rfl (LW.nil (KW.inBlock (KW.then (CW.region (LW.p (PEv.move (.tmp rfl)) rfl rfl rfl ?_)))))
        refine LW.p (PEv.inc (.tmp rfl) (by omega)) rfl rfl rfl ?_
        refine LW.p (PEv.assign (.tmp rfl)) rfl rfl rfl (LW.nil (KW.round ?_))
        exact ⟨(i + 1, g 82), ⟨by show i + 1 ≤ _; omega, hW, hB3, by show OwnS _ _ _ _ _ (g 82) _; rw [runL_yes hf hrp hput]; exact hO⟩, ⟨rfl, rfl, rfl, rfl, rfl, rfl, trivial⟩, by show b.Processes.length - (i + 1) < b.Processes.length - i; omega⟩
      | true =>
       have hk0 := of_decide_eq_true hq8
       obtain ⟨y, hy⟩ := getElem?_of_lt (xs := (runL b.Processes t c i)) (i := k - 1) (by omega)
       obtain ⟨By, oy, ay, hcy⟩ := hEv (k - 1) y hy
       cases hq8 : decide (f.Time < y.Time) with
       | true =>
        have ht1 := hq8
        have hlt : ltK (runK f) (runK y) = true := by rw [ltK_run, ht1]; rfl
        refine CW.draws (by kernel_rfl) (by kernel_rfl) rfl rfl ?_
        refine HW.p (PEv.move (.tmp rfl)) rfl rfl ?_
        refine HW.p (PEv.tr (PEv.gtr (.tmp rfl) (.const _)) (decide_eq_true (by omega))) rfl rfl ?_
        refine HW.p (PEv.move (.tmp rfl)) rfl rfl ?_
        refine HW.yp rfl rfl rfl rfl rfl (PEv.fieldAddr (off := 5) Tryz.underlying35 rfl rfl Tryz.sizeOf3 rfl (.tmp rfl)) rfl ?_
        refine HW.yp rfl rfl rfl rfl rfl (PEv.load Tryz.isAgg3 (.tmp rfl) (hB9.celln rfl)) rfl ?_
        refine HW.yp rfl rfl rfl rfl rfl (PEv.move (.tmp rfl)) rfl ?_
        refine HW.yp rfl rfl rfl rfl rfl (PEv.move (.tmp rfl)) rfl ?_
        refine HW.yp rfl rfl rfl rfl rfl (PEv.dec (.tmp rfl) (by omega) (by omega)) rfl ?_
        refine HW.yp rfl rfl rfl rfl rfl (PEv.indexAddr' Tryz.underlying22 Tryz.sizeOf35 (.tmp rfl) (.tmp rfl) (by omega) ay) rfl ?_
        refine HW.yp rfl rfl rfl rfl rfl (PEv.fieldAddr (off := 5) Tryz.underlying35 rfl rfl Tryz.sizeOf3 rfl (.tmp rfl)) rfl ?_
        refine HW.yp rfl rfl rfl rfl rfl (PEv.load Tryz.isAgg3 (.tmp rfl) (hcy.nth (j := 5) rfl)) rfl ?_
        refine HW.yp rfl rfl rfl rfl rfl (PEv.tr (PEv.lss (.tmp rfl) (.tmp rfl)) (ht1)) rfl ?_
        refine HW.yp rfl rfl rfl rfl rfl (PEv.move (.tmp rfl)) rfl ?_
        refine HW.no rfl rfl rfl rfl rfl rfl rfl ?_
        refine HW.no rfl rfl rfl rfl rfl rfl rfl ?_
        refine HW.no rfl rfl rfl rfl rfl rfl rfl ?_
        refine HW.no rfl rfl rfl rfl rfl rfl rfl ?_
        refine HW.no rfl rfl rfl rfl rfl rfl rfl ?_
        refine HW.no rfl rfl rfl rfl rfl rfl rfl ?_
        refine HW.no rfl rfl rfl rfl rfl rfl rfl ?_
        refine HW.no rfl rfl rfl rfl rfl rfl rfl ?_
        refine HW.no rfl rfl rfl rfl rfl rfl rfl ?_
        refine HW.no rfl rfl rfl rfl rfl rfl rfl ?_
        refine HW.no' rfl rfl rfl rfl rfl ?_
        refine HW.no' rfl rfl rfl rfl rfl ?_
        refine HW.no' rfl rfl rfl rfl rfl ?_
        refine HW.no' rfl rfl rfl rfl rfl ?_
        refine HW.no' rfl rfl rfl rfl rfl ?_
        refine HW.no' rfl rfl rfl rfl rfl ?_
        refine HW.no' rfl rfl rfl rfl rfl ?_
        refine HW.no' rfl rfl rfl rfl rfl ?_
        refine HW.no' rfl rfl rfl rfl rfl ?_
        refine HW.no rfl rfl rfl rfl rfl rfl rfl ?_
        refine HW.yp rfl rfl rfl rfl rfl (PEv.pick_or (b := false) (.tmp rfl) (fun hp => absurd (show true = false from hp) (by decide))) rfl ?_
        refine HW.p (PEv.pick_and (.tmp rfl) (fun hp => (by first | exact .const _ | exact .tmp rfl | exact .cond rfl (by first | assumption | simp_all)))) rfl rfl ?_
        refine HW.nil ?_
        intro w8 uw8
        have zw8 := uw8.size
        replace hW := hW.up uw8
        replace hB3 := hB3.up uw8
        replace hEv := hEv.up uw8
        replace hB9 := hB9.up uw8
        refine KW.then ?_
        refine CW.cond_true (.tmp rfl) ?_
        refine CW.skip (KW.then (CW.block (CW.region (LW.p (PEv.move (.tmp rfl)) rfl rfl rfl ?_))))
        refine LW.p (PEv.dec (.tmp rfl) (by omega) (by omega)) rfl rfl rfl ?_
        refine LW.p (PEv.assign (.tmp rfl)) rfl rfl rfl (LW.nil (KW.inBlock (KW.round ?_)))
        exact ⟨k - 1, ⟨by omega, (fun z hz => by rw [List.drop_eq_getElem_cons (by omega), show k - 1 + 1 = k by omega] at hz; exact (List.mem_cons.1 hz).elim (fun h => by rw [h, (List.getElem?_eq_some_iff.1 hy).2]; exact hlt) (fun h => hd z h)), hW, hB3, hEv, hB9⟩, ⟨rfl, rfl, rfl, rfl, rfl, rfl, rfl, rfl, trivial⟩, by first | omega | (dsimp only; omega)⟩
       | false =>
        have ht1 := hq8
        cases hq8 : decide (f.Time = y.Time) with
        | false =>
         have ht2 := hq8
         have hnl : ltK (runK f) (runK y) = false := by rw [ltK_run, ht1, ht2]; rfl
         refine CW.draws (by kernel_rfl) (by kernel_rfl) rfl rfl ?_
         refine HW.p (PEv.move (.tmp rfl)) rfl rfl ?_
         refine HW.p (PEv.tr (PEv.gtr (.tmp rfl) (.const _)) (decide_eq_true (by omega))) rfl rfl ?_
         refine HW.p (PEv.move (.tmp rfl)) rfl rfl ?_
         refine HW.yp rfl rfl rfl rfl rfl (PEv.fieldAddr (off := 5) Tryz.underlying35 rfl rfl Tryz.sizeOf3 rfl (.tmp rfl)) rfl ?_
         refine HW.yp rfl rfl rfl rfl rfl (PEv.load Tryz.isAgg3 (.tmp rfl) (hB9.celln rfl)) rfl ?_
         refine HW.yp rfl rfl rfl rfl rfl (PEv.move (.tmp rfl)) rfl ?_
         refine HW.yp rfl rfl rfl rfl rfl (PEv.move (.tmp rfl)) rfl ?_
         refine HW.yp rfl rfl rfl rfl rfl (PEv.dec (.tmp rfl) (by omega) (by omega)) rfl ?_
         refine HW.yp rfl rfl rfl rfl rfl (PEv.indexAddr' Tryz.underlying22 Tryz.sizeOf35 (.tmp rfl) (.tmp rfl) (by omega) ay) rfl ?_
         refine HW.yp rfl rfl rfl rfl rfl (PEv.fieldAddr (off := 5) Tryz.underlying35 rfl rfl Tryz.sizeOf3 rfl (.tmp rfl)) rfl ?_
         refine HW.yp rfl rfl rfl rfl rfl (PEv.load Tryz.isAgg3 (.tmp rfl) (hcy.nth (j := 5) rfl)) rfl ?_
         refine HW.yp rfl rfl rfl rfl rfl (PEv.fa (PEv.lss (.tmp rfl) (.tmp rfl)) (ht1)) rfl ?_
         refine HW.yp rfl rfl rfl rfl rfl (PEv.move (.tmp rfl)) rfl ?_
         refine HW.yp rfl rfl rfl rfl rfl (PEv.fieldAddr (off := 5) Tryz.underlying35 rfl rfl Tryz.sizeOf3 rfl (.tmp rfl)) rfl ?_
         refine HW.yp rfl rfl rfl rfl rfl (PEv.load Tryz.isAgg3 (.tmp rfl) (hB9.celln rfl)) rfl ?_
         refine HW.yp rfl rfl rfl rfl rfl (PEv.move (.tmp rfl)) rfl ?_
         refine HW.yp rfl rfl rfl rfl rfl (PEv.move (.tmp rfl)) rfl ?_
         refine HW.yp rfl rfl rfl rfl rfl (PEv.dec (.tmp rfl) (by omega) (by omega)) rfl ?_
         refine HW.yp rfl rfl rfl rfl rfl (PEv.indexAddr' Tryz.underlying22 Tryz.sizeOf35 (.tmp rfl) (.tmp rfl) (by omega) ay) rfl ?_
         refine HW.yp rfl rfl rfl rfl rfl (PEv.fieldAddr (off := 5) Tryz.underlying35 rfl rfl Tryz.sizeOf3 rfl (.tmp rfl)) rfl ?_
         refine HW.yp rfl rfl rfl rfl rfl (PEv.load Tryz.isAgg3 (.tmp rfl) (hcy.nth (j := 5) rfl)) rfl ?_
         refine HW.yp rfl rfl rfl rfl rfl (PEv.fa (PEv.eql (.tmp rfl) (.tmp rfl)) (ht2)) rfl ?_
         refine HW.yp rfl rfl rfl rfl rfl (PEv.move (.tmp rfl)) rfl ?_
         refine HW.no rfl rfl rfl rfl rfl rfl rfl ?_
         refine HW.no rfl rfl rfl rfl rfl rfl rfl ?_
         refine HW.no rfl rfl rfl rfl rfl rfl rfl ?_
         refine HW.no rfl rfl rfl rfl rfl rfl rfl ?_
         refine HW.no rfl rfl rfl rfl rfl rfl rfl ?_
         refine HW.no rfl rfl rfl rfl rfl rfl rfl ?_
         refine HW.no rfl rfl rfl rfl rfl rfl rfl ?_
         refine HW.no rfl rfl rfl rfl rfl rfl rfl ?_
         refine HW.no rfl rfl rfl rfl rfl rfl rfl ?_
         refine HW.yp rfl rfl rfl rfl rfl (PEv.pick_and (b := false) (.tmp rfl) (fun hp => absurd (show false = true from hp) (by decide))) rfl ?_
         refine HW.yp rfl rfl rfl rfl rfl (PEv.pick_or (.tmp rfl) (fun hp => (by first | exact .const _ | exact .tmp rfl | exact .cond rfl (by first | assumption | simp_all)))) rfl ?_
         refine HW.p (PEv.pick_and (.tmp rfl) (fun hp => (by first | exact .const _ | exact .tmp rfl | exact .cond rfl (by first | assumption | simp_all)))) rfl rfl ?_
         refine HW.nil ?_
         intro w9 uw9
         have zw9 := uw9.size
         replace hW := hW.up uw9
         replace hB3 := hB3.up uw9
         replace hEv := hEv.up uw9
         replace hB9 := hB9.up uw9
         refine KW.then ?_
         refine CW.cond_false (.tmp rfl) ?_
         refine CW.exit (KW.then_exit (KW.then_exit (KW.block_hit (KW.then ?_))))
         have hput : isPutR (runL b.Processes t c i) f k := ⟨hk, hd, by first | exact .inl (by omega) | exact .inr ⟨y, hy, hnl⟩⟩
         refine CW.free 11 [.eq (.slice adv (runL b.Processes t c i).length cpv), .eq (vi (k : Int)), .eq (vi (k : Int)), .eq (.slice adv ((runL b.Processes t c i).take k).length ((runL b.Processes t c i).take k).length), .eq (.agg f.cells), .pred fun v W => ∃ B, v = .slice (some ⟨B, 0, none⟩) [f].length [f].length ∧ Els W (some ⟨B, 0, none⟩) 19 Fact.cells [f], .eq (.slice adv (runL b.Processes t c i).length cpv), .eq (vi (k : Int)), .eq (.slice (if cpv = k then adv else adv.map (·.add (k * 19))) ((runL b.Processes t c i).length - k) (cpv - k)), .pred fun v W => Sl W v 19 Fact.cells ([f] ++ ((runL b.Processes t c i).drop k)), .pred fun v W => OwnS W 0 35 19 Fact.cells v (insAt (runL b.Processes t c i) f k)] [82] (by kernel_rfl) rfl (by kernel_rfl) (by kernel_rfl) (by kernel_rfl) (by kernel_rfl) (by kernel_rfl) (by kernel_rfl) (by kernel_rfl) ⟨PhU.eq _, PhU.eq _, PhU.eq _, PhU.eq _, PhU.eq _, PhU.pred fun _ _ _ h u => let ⟨B, e, hE⟩ := h; ⟨B, e, hE.up u⟩, PhU.eq _, PhU.eq _, PhU.eq _, PhU.pred fun _ _ _ h u => Sl.up h u, PhU.pred fun _ _ _ h u => OwnS.up h u, trivial⟩ ?_ ?_
         ·intro W hU0
          have hU := (Up.drew w9).trans hU0
          have hEW := hEv.up hU
          have hlk : ((runL b.Processes t c i).take k).length = k := by rw [List.length_take]; omega
          refine allL.cons ⟨rfl, TU.p (PEv.move (.tmp rfl)) rfl⟩ ?_
          refine allL.cons ⟨rfl, TU.p (PEv.move (.tmp rfl)) rfl⟩ ?_
          refine allL.cons ⟨rfl, TU.p (PEv.move (.tmp rfl)) rfl⟩ ?_
          refine allL.cons ⟨rfl, TU.p (PEv.val (v' := .slice adv ((runL b.Processes t c i).take k).length ((runL b.Processes t c i).take k).length) (PEv.slice3 Tryz.underlying22 Tryz.sizeOf35 (.tmp rfl) (.tmp rfl) (.tmp rfl) (by omega)) (by rw [hlk])) rfl⟩ ?_
          refine allL.cons ⟨rfl, TU.p (PEv.loadA Tryz.isAgg35 Tryz.sizeOf35 rfl (.tmp rfl) ((hB9.up hU).agg)) rfl⟩ ?_
          refine allL.cons ⟨rfl, TU.r (REv.buildSlice (xs := [f]) (enc := Fact.cells) (mk := fun f : Fact => .agg f.cells) Tryz.underlying22 Tryz.sizeOf35 Tryz.zeroValue35 rfl (Nat.le_of_ble_eq_true rfl) (fun _ => rfl) (fun _ => rfl) (.cons (.tmp rfl) .nil) rfl) (fun v W' h => let ⟨B, cs, e, N, _, hE1⟩ := h; ⟨N.up, B, e, hE1⟩)⟩ ?_
          refine allL.cons ⟨rfl, TU.p (PEv.move (.tmp rfl)) rfl⟩ ?_
          refine allL.cons ⟨rfl, TU.p (PEv.move (.tmp rfl)) rfl⟩ ?_
          refine allL.cons ⟨rfl, TU.p (PEv.sliceFrom Tryz.underlying22 Tryz.sizeOf35 (.tmp rfl) (.tmp rfl) (by omega)) rfl⟩ ?_
          refine allL.cons ⟨rfl, TU.open (d := 77) rfl fun v hv => by obtain ⟨B, rfl, hE5⟩ := hv; exact TU.r (REv.appendC (enc := Fact.cells) (k := 19) (bytes := 160) (i := Tryz.t35) (xs := [f]) (ys := ((runL b.Processes t c i).drop k)) Tryz.underlying22 (by kernel_rfl) rfl rfl rfl rfl (by decide) (fun _ => rfl) (.tmp rfl) (.tmp rfl) hE5 (Els.drop hEW hcp) (by simp [maxLen]; omega) (by simp; omega)) (fun _ _ h => ⟨h.1, h.2.1⟩)⟩ ?_
          refine allL.cons ⟨rfl, TU.open (d := 81) rfl fun v hv => TU.r (REv.appendC (enc := Fact.cells) (k := 19) (bytes := 160) (i := Tryz.t35) (xs := ((runL b.Processes t c i).take k)) (ys := ([f] ++ ((runL b.Processes t c i).drop k))) Tryz.underlying22 (by kernel_rfl) rfl rfl rfl rfl (by decide) (fun _ => rfl) (.tmp rfl) (.tmp rfl) (Els.take hEW) hv (by simp [maxLen]; omega) (by simp; omega)) (fun _ _ h => ⟨h.1, (h.2.2 (by simp)).mono (Nat.zero_le _)⟩)⟩ ?_
          exact allL.nil
         ·intro w10 g hU0 hg
          have hU := (Up.drew w9).trans hU0
          have zw10 := hU.size
          replace hW := hW.up hU
          replace hB3 := hB3.up hU
          replace hEv := hEv.up hU
          replace hB9 := hB9.up hU
          have hO : OwnS w10 0 35 19 Fact.cells (g 82) (insAt (runL b.Processes t c i) f k) := hg 10 _ 82 (by decide) rfl rfl
          refine LW.p (PEv.assign (.tmp rfl)) rfl rfl rfl (LW.nil (KW.inBlock (KW.then (CW.region (LW.p (PEv.move (.tmp rfl)) rfl rfl rfl ?_)))))
          refine LW.p (PEv.inc (.tmp rfl) (by omega)) rfl rfl rfl ?_
          refine LW.p (PEv.assign (.tmp rfl)) rfl rfl rfl (LW.nil (KW.round ?_))
          exact ⟨(i + 1, g 82), ⟨by show i + 1 ≤ _; omega, hW, hB3, by show OwnS _ _ _ _ _ (g 82) _; rw [runL_yes hf hrp hput]; exact hO⟩, ⟨rfl, rfl, rfl, rfl, rfl, rfl, trivial⟩, by show b.Processes.length - (i + 1) < b.Processes.length - i; omega⟩
        | true =>
         have ht2 := hq8
         cases hq8 : decide (f.ID < y.ID) with
         | true =>
          have ht3 := hq8
          have hlt : ltK (runK f) (runK y) = true := by rw [ltK_run, ht1, ht2, ht3]; rfl
          refine CW.draws (by kernel_rfl) (by kernel_rfl) rfl rfl ?_
          refine HW.p (PEv.move (.tmp rfl)) rfl rfl ?_
          refine HW.p (PEv.tr (PEv.gtr (.tmp rfl) (.const _)) (decide_eq_true (by omega))) rfl rfl ?_
          refine HW.p (PEv.move (.tmp rfl)) rfl rfl ?_
          refine HW.yp rfl rfl rfl rfl rfl (PEv.fieldAddr (off := 5) Tryz.underlying35 rfl rfl Tryz.sizeOf3 rfl (.tmp rfl)) rfl ?_
          refine HW.yp rfl rfl rfl rfl rfl (PEv.load Tryz.isAgg3 (.tmp rfl) (hB9.celln rfl)) rfl ?_
          refine HW.yp rfl rfl rfl rfl rfl (PEv.move (.tmp rfl)) rfl ?_
          refine HW.yp rfl rfl rfl rfl rfl (PEv.move (.tmp rfl)) rfl ?_
          refine HW.yp rfl rfl rfl rfl rfl (PEv.dec (.tmp rfl) (by omega) (by omega)) rfl ?_
          refine HW.yp rfl rfl rfl rfl rfl (PEv.indexAddr' Tryz.underlying22 Tryz.sizeOf35 (.tmp rfl) (.tmp rfl) (by omega) ay) rfl ?_
          refine HW.yp rfl rfl rfl rfl rfl (PEv.fieldAddr (off := 5) Tryz.underlying35 rfl rfl Tryz.sizeOf3 rfl (.tmp rfl)) rfl ?_
          refine HW.yp rfl rfl rfl rfl rfl (PEv.load Tryz.isAgg3 (.tmp rfl) (hcy.nth (j := 5) rfl)) rfl ?_
          refine HW.yp rfl rfl rfl rfl rfl (PEv.fa (PEv.lss (.tmp rfl) (.tmp rfl)) (ht1)) rfl ?_
          refine HW.yp rfl rfl rfl rfl rfl (PEv.move (.tmp rfl)) rfl ?_
          refine HW.yp rfl rfl rfl rfl rfl (PEv.fieldAddr (off := 5) Tryz.underlying35 rfl rfl Tryz.sizeOf3 rfl (.tmp rfl)) rfl ?_
          refine HW.yp rfl rfl rfl rfl rfl (PEv.load Tryz.isAgg3 (.tmp rfl) (hB9.celln rfl)) rfl ?_
          refine HW.yp rfl rfl rfl rfl rfl (PEv.move (.tmp rfl)) rfl ?_
          refine HW.yp rfl rfl rfl rfl rfl (PEv.move (.tmp rfl)) rfl ?_
          refine HW.yp rfl rfl rfl rfl rfl (PEv.dec (.tmp rfl) (by omega) (by omega)) rfl ?_
          refine HW.yp rfl rfl rfl rfl rfl (PEv.indexAddr' Tryz.underlying22 Tryz.sizeOf35 (.tmp rfl) (.tmp rfl) (by omega) ay) rfl ?_
          refine HW.yp rfl rfl rfl rfl rfl (PEv.fieldAddr (off := 5) Tryz.underlying35 rfl rfl Tryz.sizeOf3 rfl (.tmp rfl)) rfl ?_
          refine HW.yp rfl rfl rfl rfl rfl (PEv.load Tryz.isAgg3 (.tmp rfl) (hcy.nth (j := 5) rfl)) rfl ?_
          refine HW.yp rfl rfl rfl rfl rfl (PEv.tr (PEv.eql (.tmp rfl) (.tmp rfl)) (ht2)) rfl ?_
          refine HW.yp rfl rfl rfl rfl rfl (PEv.move (.tmp rfl)) rfl ?_
          refine HW.yp rfl rfl rfl rfl rfl (PEv.fieldAddr (off := 1) Tryz.underlying35 rfl rfl Tryz.sizeOf3 rfl (.tmp rfl)) rfl ?_
          refine HW.yp rfl rfl rfl rfl rfl (PEv.load Tryz.isAgg3 (.tmp rfl) (hB9.celln rfl)) rfl ?_
          refine HW.yp rfl rfl rfl rfl rfl (PEv.move (.tmp rfl)) rfl ?_
          refine HW.yp rfl rfl rfl rfl rfl (PEv.move (.tmp rfl)) rfl ?_
          refine HW.yp rfl rfl rfl rfl rfl (PEv.dec (.tmp rfl) (by omega) (by omega)) rfl ?_
          refine HW.yp rfl rfl rfl rfl rfl (PEv.indexAddr' Tryz.underlying22 Tryz.sizeOf35 (.tmp rfl) (.tmp rfl) (by omega) ay) rfl ?_
          refine HW.yp rfl rfl rfl rfl rfl (PEv.fieldAddr (off := 1) Tryz.underlying35 rfl rfl Tryz.sizeOf3 rfl (.tmp rfl)) rfl ?_
          refine HW.yp rfl rfl rfl rfl rfl (PEv.load Tryz.isAgg3 (.tmp rfl) (hcy.nth (j := 1) rfl)) rfl ?_
          refine HW.yp rfl rfl rfl rfl rfl (PEv.tr (PEv.lss (.tmp rfl) (.tmp rfl)) (ht3)) rfl ?_
          refine HW.yp rfl rfl rfl rfl rfl (PEv.pick_and (.tmp rfl) (fun hp => (by first | exact .const _ | exact .tmp rfl | exact .cond rfl (by first | assumption | simp_all)))) rfl ?_
          refine HW.yp rfl rfl rfl rfl rfl (PEv.pick_or (.tmp rfl) (fun hp => (by first | exact .const _ | exact .tmp rfl | exact .cond rfl (by first | assumption | simp_all)))) rfl ?_
          refine HW.p (PEv.pick_and (.tmp rfl) (fun hp => (by first | exact .const _ | exact .tmp rfl | exact .cond rfl (by first | assumption | simp_all)))) rfl rfl ?_
          refine HW.nil ?_
          intro w11 uw11
          have zw11 := uw11.size
          replace hW := hW.up uw11
          replace hB3 := hB3.up uw11
          replace hEv := hEv.up uw11
          replace hB9 := hB9.up uw11
          refine KW.then ?_
          refine CW.cond_true (.tmp rfl) ?_
          refine CW.skip (KW.then (CW.block (CW.region (LW.p (PEv.move (.tmp rfl)) rfl rfl rfl ?_))))
          refine LW.p (PEv.dec (.tmp rfl) (by omega) (by omega)) rfl rfl rfl ?_
          refine LW.p (PEv.assign (.tmp rfl)) rfl rfl rfl (LW.nil (KW.inBlock (KW.round ?_)))
          exact ⟨k - 1, ⟨by omega, (fun z hz => by rw [List.drop_eq_getElem_cons (by omega), show k - 1 + 1 = k by omega] at hz; exact (List.mem_cons.1 hz).elim (fun h => by rw [h, (List.getElem?_eq_some_iff.1 hy).2]; exact hlt) (fun h => hd z h)), hW, hB3, hEv, hB9⟩, ⟨rfl, rfl, rfl, rfl, rfl, rfl, rfl, rfl, trivial⟩, by first | omega | (dsimp only; omega)⟩
         | false =>
          have ht3 := hq8
          have hnl : ltK (runK f) (runK y) = false := by rw [ltK_run, ht1, ht2, ht3]; rfl
          refine CW.draws (by kernel_rfl) (by kernel_rfl) rfl rfl ?_
          refine HW.p (PEv.move (.tmp rfl)) rfl rfl ?_
          refine HW.p (PEv.tr (PEv.gtr (.tmp rfl) (.const _)) (decide_eq_true (by omega))) rfl rfl ?_
          refine HW.p (PEv.move (.tmp rfl)) rfl rfl ?_
          refine HW.yp rfl rfl rfl rfl rfl (PEv.fieldAddr (off := 5) Tryz.underlying35 rfl rfl Tryz.sizeOf3 rfl (.tmp rfl)) rfl ?_
          refine HW.yp rfl rfl rfl rfl rfl (PEv.load Tryz.isAgg3 (.tmp rfl) (hB9.celln rfl)) rfl ?_
          refine HW.yp rfl rfl rfl rfl rfl (PEv.move (.tmp rfl)) rfl ?_
          refine HW.yp rfl rfl rfl rfl rfl (PEv.move (.tmp rfl)) rfl ?_
          refine HW.yp rfl rfl rfl rfl rfl (PEv.dec (.tmp rfl) (by omega) (by omega)) rfl ?_
          refine HW.yp rfl rfl rfl rfl rfl (PEv.indexAddr' Tryz.underlying22 Tryz.sizeOf35 (.tmp rfl) (.tmp rfl) (by omega) ay) rfl ?_
          refine HW.yp rfl rfl rfl rfl rfl (PEv.fieldAddr (off := 5) Tryz.underlying35 rfl rfl Tryz.sizeOf3 rfl (.tmp rfl)) rfl ?_
          refine HW.yp rfl rfl rfl rfl rfl (PEv.load Tryz.isAgg3 (.tmp rfl) (hcy.nth (j := 5) rfl)) rfl ?_
          refine HW.yp rfl rfl rfl rfl rfl (PEv.fa (PEv.lss (.tmp rfl) (.tmp rfl)) (ht1)) rfl ?_
          refine HW.yp rfl rfl rfl rfl rfl (PEv.move (.tmp rfl)) rfl ?_
          refine HW.yp rfl rfl rfl rfl rfl (PEv.fieldAddr (off := 5) Tryz.underlying35 rfl rfl Tryz.sizeOf3 rfl (.tmp rfl)) rfl ?_
          refine HW.yp rfl rfl rfl rfl rfl (PEv.load Tryz.isAgg3 (.tmp rfl) (hB9.celln rfl)) rfl ?_
          refine HW.yp rfl rfl rfl rfl rfl (PEv.move (.tmp rfl)) rfl ?_
          refine HW.yp rfl rfl rfl rfl rfl (PEv.move (.tmp rfl)) rfl ?_
          refine HW.yp rfl rfl rfl rfl rfl (PEv.dec (.tmp rfl) (by omega) (by omega)) rfl ?_
          refine HW.yp rfl rfl rfl rfl rfl (PEv.indexAddr' Tryz.underlying22 Tryz.sizeOf35 (.tmp rfl) (.tmp rfl) (by omega) ay) rfl ?_
          refine HW.yp rfl rfl rfl rfl rfl (PEv.fieldAddr (off := 5) Tryz.underlying35 rfl rfl Tryz.sizeOf3 rfl (.tmp rfl)) rfl ?_
          refine HW.yp rfl rfl rfl rfl rfl (PEv.load Tryz.isAgg3 (.tmp rfl) (hcy.nth (j := 5) rfl)) rfl ?_
          refine HW.yp rfl rfl rfl rfl rfl (PEv.tr (PEv.eql (.tmp rfl) (.tmp rfl)) (ht2)) rfl ?_
          refine HW.yp rfl rfl rfl rfl rfl (PEv.move (.tmp rfl)) rfl ?_
          refine HW.yp rfl rfl rfl rfl rfl (PEv.fieldAddr (off := 1) Tryz.underlying35 rfl rfl Tryz.sizeOf3 rfl (.tmp rfl)) rfl ?_
          refine HW.yp rfl rfl rfl rfl rfl (PEv.load Tryz.isAgg3 (.tmp rfl) (hB9.celln rfl)) rfl ?_
          refine HW.yp rfl rfl rfl rfl rfl (PEv.move (.tmp rfl)) rfl ?_
          refine HW.yp rfl rfl rfl rfl rfl (PEv.move (.tmp rfl)) rfl ?_
          refine HW.yp rfl rfl rfl rfl rfl (PEv.dec (.tmp rfl) (by omega) (by omega)) rfl ?_
          refine HW.yp rfl rfl rfl rfl rfl (PEv.indexAddr' Tryz.underlying22 Tryz.sizeOf35 (.tmp rfl) (.tmp rfl) (by omega) ay) rfl ?_
          refine HW.yp rfl rfl rfl rfl rfl (PEv.fieldAddr (off := 1) Tryz.underlying35 rfl rfl Tryz.sizeOf3 rfl (.tmp rfl)) rfl ?_
          refine HW.yp rfl rfl rfl rfl rfl (PEv.load Tryz.isAgg3 (.tmp rfl) (hcy.nth (j := 1) rfl)) rfl ?_
          refine HW.yp rfl rfl rfl rfl rfl (PEv.fa (PEv.lss (.tmp rfl) (.tmp rfl)) (ht3)) rfl ?_
          refine HW.yp rfl rfl rfl rfl rfl (PEv.pick_and (.tmp rfl) (fun hp => (by first | exact .const _ | exact .tmp rfl | exact .cond rfl (by first | assumption | simp_all)))) rfl ?_
          refine HW.yp rfl rfl rfl rfl rfl (PEv.pick_or (.tmp rfl) (fun hp => (by first | exact .const _ | exact .tmp rfl | exact .cond rfl (by first | assumption | simp_all)))) rfl ?_
          refine HW.p (PEv.pick_and (.tmp rfl) (fun hp => (by first | exact .const _ | exact .tmp rfl | exact .cond rfl (by first | assumption | simp_all)))) rfl rfl ?_
          refine HW.nil ?_
          intro w12 uw12
          have zw12 := uw12.size
          replace hW := hW.up uw12
          replace hB3 := hB3.up uw12
          replace hEv := hEv.up uw12
          replace hB9 := hB9.up uw12
          refine KW.then ?_
          refine CW.cond_false (.tmp rfl) ?_
          refine CW.exit (KW.then_exit (KW.then_exit (KW.block_hit (KW.then ?_))))
          have hput : isPutR (runL b.Processes t c i) f k := ⟨hk, hd, by first | exact .inl (by omega) | exact .inr ⟨y, hy, hnl⟩⟩
          refine CW.free 11 [.eq (.slice adv (runL b.Processes t c i).length cpv), .eq (vi (k : Int)), .eq (vi (k : Int)), .eq (.slice adv ((runL b.Processes t c i).take k).length ((runL b.Processes t c i).take k).length), .eq (.agg f.cells), .pred fun v W => ∃ B, v = .slice (some ⟨B, 0, none⟩) [f].length [f].length ∧ Els W (some ⟨B, 0, none⟩) 19 Fact.cells [f], .eq (.slice adv (runL b.Processes t c i).length cpv), .eq (vi (k : Int)), .eq (.slice (if cpv = k then adv else adv.map (·.add (k * 19))) ((runL b.Processes t c i).length - k) (cpv - k)), .pred fun v W => Sl W v 19 Fact.cells ([f] ++ ((runL b.Processes t c i).drop k)), .pred fun v W => OwnS W 0 35 19 Fact.cells v (insAt (runL b.Processes t c i) f k)] [82] (by kernel_rfl) rfl (by kernel_rfl) (by kernel_rfl) (by kernel_rfl) (by kernel_rfl) (by kernel_rfl) (by kernel_rfl) (by kernel_rfl) ⟨PhU.eq _, PhU.eq _, PhU.eq _, PhU.eq _, PhU.eq _, PhU.pred fun _ _ _ h u => let ⟨B, e, hE⟩ := h; ⟨B, e, hE.up u⟩, PhU.eq _, PhU.eq _, PhU.eq _, PhU.pred fun _ _ _ h u => Sl.up h u, PhU.pred fun _ _ _ h u => OwnS.up h u, trivial⟩ ?_ ?_
          ·intro W hU0
           have hU := (Up.drew w12).trans hU0
           have hEW := hEv.up hU
           have hlk : ((runL b.Processes t c i).take k).length = k := by rw [List.length_take]; omega
           refine allL.cons ⟨rfl, TU.p (PEv.move (.tmp rfl)) rfl⟩ ?_
           refine allL.cons ⟨rfl, TU.p (PEv.move (.tmp rfl)) rfl⟩ ?_
           refine allL.cons ⟨rfl, TU.p (PEv.move (.tmp rfl)) rfl⟩ ?_
           refine allL.cons ⟨rfl, TU.p (PEv.val (v' := .slice adv ((runL b.Processes t c i).take k).length ((runL b.Processes t c i).take k).length) (PEv.slice3 Tryz.underlying22 Tryz.sizeOf35 (.tmp rfl) (.tmp rfl) (.tmp rfl) (by omega)) (by rw [hlk])) rfl⟩ ?_
           refine allL.cons ⟨rfl, TU.p (PEv.loadA Tryz.isAgg35 Tryz.sizeOf35 rfl (.tmp rfl) ((hB9.up hU).agg)) rfl⟩ ?_
           refine allL.cons ⟨rfl, TU.r (REv.buildSlice (xs := [f]) (enc := Fact.cells) (mk := fun f : Fact => .agg f.cells) Tryz.underlying22 Tryz.sizeOf35 Tryz.zeroValue35 rfl (Nat.le_of_ble_eq_true rfl) (fun _ => rfl) (fun _ => rfl) (.cons (.tmp rfl) .nil) rfl) (fun v W' h => let ⟨B, cs, e, N, _, hE1⟩ := h; ⟨N.up, B, e, hE1⟩)⟩ ?_
           refine allL.cons ⟨rfl, TU.p (PEv.move (.tmp rfl)) rfl⟩ ?_
           refine allL.cons ⟨rfl, TU.p (PEv.move (.tmp rfl)) rfl⟩ ?_
           refine allL.cons ⟨rfl, TU.p (PEv.sliceFrom Tryz.underlying22 Tryz.sizeOf35 (.tmp rfl) (.tmp rfl) (by omega)) rfl⟩ ?_
           refine allL.cons ⟨rfl, TU.open (d := 77) rfl fun v hv => by obtain ⟨B, rfl, hE5⟩ := hv; exact TU.r (REv.appendC (enc := Fact.cells) (k := 19) (bytes := 160) (i := Tryz.t35) (xs := [f]) (ys := ((runL b.Processes t c i).drop k)) Tryz.underlying22 (by kernel_rfl) rfl rfl rfl rfl (by decide) (fun _ => rfl) (.tmp rfl) (.tmp rfl) hE5 (Els.drop hEW hcp) (by simp [maxLen]; omega) (by simp; omega)) (fun _ _ h => ⟨h.1, h.2.1⟩)⟩ ?_
           refine allL.cons ⟨rfl, TU.open (d := 81) rfl fun v hv => TU.r (REv.appendC (enc := Fact.cells) (k := 19) (bytes := 160) (i := Tryz.t35) (xs := ((runL b.Processes t c i).take k)) (ys := ([f] ++ ((runL b.Processes t c i).drop k))) Tryz.underlying22 (by kernel_rfl) rfl rfl rfl rfl (by decide) (fun _ => rfl) (.tmp rfl) (.tmp rfl) (Els.take hEW) hv (by simp [maxLen]; omega) (by simp; omega)) (fun _ _ h => ⟨h.1, (h.2.2 (by simp)).mono (Nat.zero_le _)⟩)⟩ ?_
           exact allL.nil
          ·intro w13 g hU0 hg
           have hU := (Up.drew w12).trans hU0
           have zw13 := hU.size
           replace hW := hW.up hU
           replace hB3 := hB3.up hU
           replace hEv := hEv.up hU
           replace hB9 := hB9.up hU
           have hO : OwnS w13 0 35 19 Fact.cells (g 82) (insAt (runL b.Processes t c i) f k) := hg 10 _ 82 (by decide) rfl rfl
           refine LW.p (PEv.assign (.tmp rfl)) rfl rfl rfl (LW.nil (KW.inBlock (KW.then (CW.region (LW.p (PEv.move (.tmp rfl)) rfl rfl rfl ?_)))))
           refine LW.p (PEv.inc (.tmp rfl) (by omega)) rfl rfl rfl ?_
           refine LW.p (PEv.assign (.tmp rfl)) rfl rfl rfl (LW.nil (KW.round ?_))
           exact ⟨(i + 1, g 82), ⟨by show i + 1 ≤ _; omega, hW, hB3, by show OwnS _ _ _ _ _ (g 82) _; rw [runL_yes hf hrp hput]; exact hO⟩, ⟨rfl, rfl, rfl, rfl, rfl, rfl, trivial⟩, by show b.Processes.length - (i + 1) < b.Processes.length - i; omega⟩
   ·first | replace h15 := of_decide_eq_true h15 | replace h15 := of_decide_eq_false h15 | skip
    refine CW.exit (KW.then_exit (KW.then_exit (KW.block_hit (KW.then (CW.seq (CW.region (LW.p (PEv.move (.tmp rfl)) rfl rfl rfl (LW.p (PEv.assign (.tmp rfl)) rfl rfl rfl (LW.nil (KW.then (CW.ret ?_)))))))))))
    refine KW.ret1 rfl rfl ⟨_, rfl, ?_⟩
    have hie : i = b.Processes.length := by omega
    rw [show runsB b t c = runL b.Processes t c i by unfold runsB runL; rw [hie, List.take_length]]
    exact ⟨hO, hW⟩

end Go.Proofs.YtdelcaegofkknaaGreat
