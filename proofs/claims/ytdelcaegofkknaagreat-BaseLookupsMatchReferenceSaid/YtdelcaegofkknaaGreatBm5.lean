import Derived.Test.YtdelcaegofkknaaGreatBm4
import Derived.Test.YtdelcaegofkknaaGreatAr
import Derived.ChangeKeysEq
-- Ba22
namespace Go.Wx

open Go.RowKit in
theorem KW.retAT {P : Program} {n : Nat} {l : Env} {w : World} {fn : Func} {RR : Ending → World → Prop} {t u : Tmp} {T : TypeId} {B k : Nat} {cs : Array Go.Value} {x : Go.Value} (hr : fn.results = #[.cell t T, .tmp u]) (hv : lk l t = some (.eq (.pointer (some ⟨B, 0, none⟩)))) (hu : lk l u = some (.eq x)) (hT : ∀ w, (isAgg T).run P w = .ok true w) (hs : ∀ w, (sizeOf T).run P w = .ok k w) (hk : cs.size = k)
    (hc : AggAt w B 0 cs) (hR : RR (.returned (.tuple #[.agg cs, x])) w) : KW n [] (bodyPost P fn RR .ret) l w := fun a ha =>
  ⟨ha.defers, .tuple #[.agg cs, x], by
    have h1 : a.tmps.getD t undef = .pointer (some ⟨B, 0, none⟩) := ha.val _ _ hv
    have h2 : a.tmps.getD u undef = x := ha.val _ _ hu
    rw [Array.getD_eq_getD_getElem?] at h1 h2
    simp [results, hr, h1, h2, asAddr, run_loadVarA hT hs hk hc], hR⟩
def zeroF : Fact := fact0 0 0 0 false
def tgStep (r t : Int) (s : Fact × Bool) (x : Fact) : Fact × Bool := if decide (x.Recipe = r) && decide (x.Time ≤ t) && (!s.2 || decide (s.1.Time < x.Time)) then (x, true) else s
def tgF (r t : Int) (l : List Fact) : Fact × Bool := l.foldl (tgStep r t) (zeroF, false)
theorem tgF_take {r t : Int} {l : List Fact} {k : Nat} {x : Fact} (h : l[k]? = some x) : tgF r t (l.take (k + 1)) = tgStep r t (tgF r t (l.take k)) x := by
  rw [take_succ_of h, tgF, List.foldl_append]; rfl
theorem tg_yes {r t : Int} {s : Fact × Bool} {x : Fact} (h : (decide (x.Recipe = r) && decide (x.Time ≤ t) && (!s.2 || decide (s.1.Time < x.Time))) = true) : tgStep r t s x = (x, true) := if_pos h
theorem tg_no {r t : Int} {s : Fact × Bool} {x : Fact} (h : (decide (x.Recipe = r) && decide (x.Time ≤ t) && (!s.2 || decide (s.1.Time < x.Time))) = false) : tgStep r t s x = s := if_neg (by rw [h]; exact Bool.false_ne_true)
theorem take_none {p : Fact → Bool} {l : List Fact} {k : Nat} {x : Fact} (h : l[k]? = some x) (hk : ∀ y ∈ l.take k, p y = false) (hx : p x = false) : ∀ y ∈ l.take (k + 1), p y = false := fun y hy => by
  rw [take_succ_of h] at hy
  rcases List.mem_append.1 hy with hy | hy
  · exact hk y hy
  · cases List.mem_singleton.1 hy; exact hx
theorem find_at {p : Fact → Bool} {l : List Fact} {k : Nat} {x : Fact} (h : l[k]? = some x) (hk : ∀ y ∈ l.take k, p y = false) (hx : p x = true) : l.find? p = some x := by
  have hlt := (List.getElem?_eq_some_iff.1 h).1
  have e : l = l.take k ++ x :: l.drop (k + 1) := by
    have h1 : l.drop k = x :: l.drop (k + 1) := by
      rw [List.drop_eq_getElem_cons hlt, (List.getElem?_eq_some_iff.1 h).2]
    rw [← h1, List.take_append_drop]
  rw [e, List.find?_append, List.find?_eq_none.2 (fun y hy => by rw [hk y hy]; exact Bool.false_ne_true), List.find?_cons, hx]
  rfl
theorem find_no {p : Fact → Bool} {l : List Fact} (h : ∀ y ∈ l, p y = false) : l.find? p = none := List.find?_eq_none.2 (fun y hy => by rw [h y hy]; exact Bool.false_ne_true)
/-- an index that IndexFunc gives -/
def IdxP (p : Fact → Bool) (l : List Fact) (i : Int) : Prop := (∃ k x, i = ((k : Nat) : Int) ∧ l[k]? = some x ∧ p x = true ∧ ∀ y ∈ l.take k, p y = false) ∨ (i = -1 ∧ ∀ y ∈ l, p y = false)

end Go.Wx
namespace Go.Proofs.YtdelcaegofkknaaGreat
open Go.Wx Go.RowKit
theorem Target_any (bc : Array Go.Value) (b : Base) (r t : Int) (w : World) (hC : BaseC w bc b) (hl : b.Targets.length ≤ 100000) : Ret Tryz.prog 18 #[.agg bc, vi r, vi t] w fun r0 w' => r0 = .tuple #[vi (tgF r t b.Targets).1.Value, .bool (tgF r t b.Targets).2] ∧ Up w w' := by
  obtain ⟨w0, rfl⟩ : ∃ w0, w0 = w := ⟨_, rfl⟩
  have hS := Sep.start no w0
  obtain ⟨v9, h9, hr9⟩ := hC.at9
  obtain ⟨ad, cp, rfl, hE0⟩ := hr9
  refine Calls_start (n := 45) (m := 9) Tryz.func18 rfl rfl rfl ?_
  refine CW.seq (CW.region ?_)
  refine LW.r (REv.boxA (.tmp rfl)) rfl rfl rfl rfl ?_
  rintro _ w1 ⟨B3, rfl, NB3⟩
  have eB3 := NB3.at_
  have zB3 := NB3.size
  replace hS := hS.addB NB3
  change Wx.Sep _ _ _ [_] at hS
  refine LW.p (PEv.assign (.const _)) rfl rfl rfl (LW.p (PEv.assign (.const _)) rfl rfl rfl (LW.nil (KW.then (CW.seq (CW.region ?_)))))
  refine LW.r (REv.allocA Tryz.zeroValue35) rfl rfl rfl rfl ?_
  rintro _ w2 ⟨B8, rfl, NB8⟩
  have eB8 := NB8.at_
  have zB8 := NB8.size
  replace hS := hS.addB NB8
  change Wx.Sep _ _ _ [_, _] at hS
  refine LW.nil (KW.then (CW.seq (CW.region (LW.p (PEv.assign (.const _)) rfl rfl rfl (LW.nil (KW.then (CW.seq (CW.seq (CW.region ?_)))))))))
  refine LW.p (PEv.fieldAddr (off := 9) Tryz.underlying26 rfl rfl Tryz.sizeOf22 rfl (.tmp rfl)) rfl rfl rfl ?_
  refine LW.p (PEv.load Tryz.isAgg22 (.tmp rfl) ((hS.blk 0 rfl).cell h9)) rfl rfl rfl ?_
  refine LW.p (PEv.lenS Tryz.underlying22 (.tmp rfl)) rfl rfl rfl ?_
  refine LW.p (PEv.move (.const _)) rfl rfl rfl ?_
  refine LW.nil (KW.then (CW.block ?_))
  refine CW.loopB (σ := Nat × Fact × Bool) (fun s w => (s.1 ≤ b.Targets.length) ∧ (s.2 = tgF r t (b.Targets.take s.1)) ∧ (Wx.Sep no w0 w [aBlk B3 (bc) 26, aBlk B8 (s.2.1.cells) 35])) (fun s => [(15, .eq (vi (s.1 : Int))), (9, .eq (.bool s.2.2))]) ([(1, .eq _), (2, .eq _), (6, .eq _), (7, .eq _), (8, .eq _), (13, .eq _), (14, .eq _)]) (fun s => b.Targets.length - s.1) (0, zeroF, false) ?_ ⟨rfl, rfl, rfl, rfl, rfl, rfl, rfl, rfl, rfl, trivial⟩ ?_
  ·exact ⟨Nat.zero_le _, rfl, hS⟩
  ·rintro ⟨k, f, fd⟩ w3 ⟨hk, ht, hS⟩
   dsimp only at hk ht hS
   change CW _ _ _ _ _ _ _ ([(15, .eq (vi (k : Int))), (9, .eq (.bool fd))] ++ _) _
   refine CW.seq (CW.region ?_)
   refine LW.p (PEv.lss (.tmp rfl) (.tmp rfl)) rfl rfl rfl ?_
   refine LW.nil (KW.then (CW.seq ?_))
   refine CW.cond (.tmp rfl) (fun h16 => ?_) (fun h16 => ?_)
   ·first | replace h16 := of_decide_eq_true h16 | replace h16 := of_decide_eq_false h16 | skip
    refine CW.skip (KW.then (CW.seq (CW.block (CW.seq ?_))))
    have hE := Els.up hE0 hS.upd
    refine CW.region ?_
    obtain ⟨x, hx⟩ := getElem?_of_lt (xs := b.Targets) (i := k) (by omega)
    obtain ⟨Bx, ox, ax, hcx⟩ := hE _ x hx
    refine LW.p (PEv.indexAddr' Tryz.underlying22 Tryz.sizeOf35 (.tmp rfl) (.tmp rfl) (by omega) ax) rfl rfl rfl ?_
    refine LW.p (PEv.loadA Tryz.isAgg35 Tryz.sizeOf35 rfl (.tmp rfl) (hcx)) rfl rfl rfl ?_
    refine LW.r (REv.allocA Tryz.zeroValue35) rfl rfl rfl rfl ?_
    rintro _ w4 ⟨B11, rfl, MB11⟩
    refine LW.s (SEv.storeA Tryz.sizeOf35 rfl (.tmp rfl) (.tmp rfl) (by first | rfl | exact Fact.one _ | exact GAct.one _ | exact holdCells_one _ _ | exact hold0_one | (simp [Value.oneCell'])) MB11.blk rfl) rfl rfl rfl ?_
    intro w5 LB11
    have NB11 := MB11.set LB11
    clear LB11 MB11
    have eB11 := NB11.at_
    have zB11 := NB11.size
    replace hcx := hcx.up NB11.up
    replace hS := hS.addB NB11
    change Wx.Sep _ _ _ [_, _, _] at hS
    refine LW.nil (KW.then (CW.seq (CW.region ?_)))
    refine LW.p (PEv.fieldAddr (off := 14) Tryz.underlying35 rfl rfl Tryz.sizeOf3 rfl (.tmp rfl)) rfl rfl rfl ?_
    refine LW.p (PEv.load Tryz.isAgg3 (.tmp rfl) ((hS.blk 2 rfl).celln rfl)) rfl rfl rfl ?_
    refine LW.p (PEv.move (.tmp rfl)) rfl rfl rfl ?_
    refine LW.p (PEv.eql (.tmp rfl) (.tmp rfl)) rfl rfl rfl ?_
    refine LW.p (PEv.move (.tmp rfl)) rfl rfl rfl ?_
    refine LW.g rfl rfl rfl rfl rfl rfl rfl (fun hc => PEv.fieldAddr (off := 5) Tryz.underlying35 rfl rfl Tryz.sizeOf3 rfl (.tmp rfl)) ?_
    refine LW.g rfl rfl rfl rfl rfl rfl rfl (fun hc => PEv.load Tryz.isAgg3 (by first | exact .tmp rfl | exact .cond rfl (by first | assumption | simp_all)) ((hS.blk 2 rfl).celln rfl)) ?_
    refine LW.g rfl rfl rfl rfl rfl rfl rfl (fun hc => PEv.move (.tmp rfl)) ?_
    refine LW.g rfl rfl rfl rfl rfl rfl rfl (fun hc => PEv.leq (by first | exact .tmp rfl | exact .cond rfl (by first | assumption | simp_all)) (by first | exact .tmp rfl | exact .cond rfl (by first | assumption | simp_all))) ?_
    refine LW.p (PEv.pick_and (.tmp rfl) (fun hp => (by first | exact .const _ | exact .tmp rfl | exact .cond rfl (by first | assumption | simp_all)))) rfl rfl rfl ?_
    refine LW.p (PEv.move (.tmp rfl)) rfl rfl rfl ?_
    refine LW.g rfl rfl rfl rfl rfl rfl rfl (fun hc => PEv.move (.tmp rfl)) ?_
    refine LW.g rfl rfl rfl rfl rfl rfl rfl (fun hc => PEv.not (by first | exact .tmp rfl | exact .cond rfl (by first | assumption | simp_all))) ?_
    refine LW.g rfl rfl rfl rfl rfl rfl rfl (fun hc => PEv.move (by first | exact .tmp rfl | exact .cond rfl (by first | assumption | simp_all))) ?_
    refine LW.gg rfl rfl rfl rfl rfl rfl rfl (fun hc => PEv.fieldAddr (off := 5) Tryz.underlying35 rfl rfl Tryz.sizeOf3 rfl (.tmp rfl)) ?_
    refine LW.gg rfl rfl rfl rfl rfl rfl rfl (fun hc => PEv.load Tryz.isAgg3 (by first | exact .tmp rfl | exact .cond rfl (by first | assumption | simp_all)) ((hS.blk 2 rfl).celln rfl)) ?_
    refine LW.gg rfl rfl rfl rfl rfl rfl rfl (fun hc => PEv.fieldAddr (off := 5) Tryz.underlying35 rfl rfl Tryz.sizeOf3 rfl (.tmp rfl)) ?_
    refine LW.gg rfl rfl rfl rfl rfl rfl rfl (fun hc => PEv.load Tryz.isAgg3 (by first | exact .tmp rfl | exact .cond rfl (by first | assumption | simp_all)) ((hS.blk 1 rfl).celln rfl)) ?_
    refine LW.gg rfl rfl rfl rfl rfl rfl rfl (fun hc => PEv.gtr (by first | exact .tmp rfl | exact .cond rfl (by first | assumption | simp_all)) (by first | exact .tmp rfl | exact .cond rfl (by first | assumption | simp_all))) ?_
    refine LW.g rfl rfl rfl rfl rfl rfl rfl (fun hc => PEv.pick_or (by first | exact .tmp rfl | exact .cond rfl (by first | assumption | simp_all)) (fun hp => (by first | exact .const _ | exact .tmp rfl | exact .cond rfl (by first | assumption | simp_all)))) ?_
    refine LW.p (PEv.pick_and (.tmp rfl) (fun hp => (by first | exact .const _ | exact .tmp rfl | exact .cond rfl (by first | assumption | simp_all)))) rfl rfl rfl ?_
    refine LW.nil (KW.then ?_)
    refine CW.cond (.tmp rfl) (fun h39 => ?_) (fun h39 => ?_)
    ·first | replace h39 := of_decide_eq_true h39 | replace h39 := of_decide_eq_false h39 | skip
     refine CW.region ?_
     refine LW.p (PEv.loadA Tryz.isAgg35 Tryz.sizeOf35 rfl (.tmp rfl) ((hS.blk 2 rfl).agg)) rfl rfl rfl ?_
     refine LW.s (SEv.storeA Tryz.sizeOf35 rfl (.tmp rfl) (.tmp rfl) (by first | rfl | exact Fact.one _ | exact GAct.one _ | exact holdCells_one _ _ | exact hold0_one | (simp [Value.oneCell'])) (hS.blk 1 rfl) rfl) rfl rfl rfl ?_
     intro w6 Nw6
     have zw6 := Nw6.size
     replace hS := hS.putB 1 rfl Nw6
     change Wx.Sep _ _ _ [_, _, _] at hS
     refine LW.p (PEv.assign (.const _)) rfl rfl rfl (LW.nil (KW.inBlock (KW.then (CW.region ?_))))
     refine LW.p (PEv.inc (.tmp rfl) (by omega)) rfl rfl rfl ?_
     refine LW.p (PEv.move (.tmp rfl)) rfl rfl rfl (LW.nil (KW.round ?_))
     first | exact ⟨(k + 1, x, true), ⟨by show k + 1 ≤ _; omega, by rw [tgF_take hx, ← ht]; exact (tg_yes (by simpa using h39)).symm, hS.take 2⟩, ⟨rfl, rfl, rfl, rfl, rfl, rfl, rfl, rfl, rfl, trivial⟩, by show b.Targets.length - (k + 1) < b.Targets.length - k; omega⟩ | exact ⟨(k + 1, f, fd), ⟨by show k + 1 ≤ _; omega, by rw [tgF_take hx, ← ht]; exact (tg_no (by simpa using h39)).symm, hS.take 2⟩, ⟨rfl, rfl, rfl, rfl, rfl, rfl, rfl, rfl, rfl, trivial⟩, by show b.Targets.length - (k + 1) < b.Targets.length - k; omega⟩
    ·first | replace h39 := of_decide_eq_true h39 | replace h39 := of_decide_eq_false h39 | skip
     refine CW.skip (KW.inBlock (KW.then (CW.region ?_)))
     refine LW.p (PEv.inc (.tmp rfl) (by omega)) rfl rfl rfl ?_
     refine LW.p (PEv.move (.tmp rfl)) rfl rfl rfl (LW.nil (KW.round ?_))
     first | exact ⟨(k + 1, x, true), ⟨by show k + 1 ≤ _; omega, by rw [tgF_take hx, ← ht]; exact (tg_yes (by simpa using h39)).symm, hS.take 2⟩, ⟨rfl, rfl, rfl, rfl, rfl, rfl, rfl, rfl, rfl, trivial⟩, by show b.Targets.length - (k + 1) < b.Targets.length - k; omega⟩ | exact ⟨(k + 1, f, fd), ⟨by show k + 1 ≤ _; omega, by rw [tgF_take hx, ← ht]; exact (tg_no (by simpa using h39)).symm, hS.take 2⟩, ⟨rfl, rfl, rfl, rfl, rfl, rfl, rfl, rfl, rfl, trivial⟩, by show b.Targets.length - (k + 1) < b.Targets.length - k; omega⟩
   ·first | replace h16 := of_decide_eq_true h16 | replace h16 := of_decide_eq_false h16 | skip
    refine CW.exit (KW.then_exit (KW.then_exit (KW.block_hit (KW.then (CW.seq (CW.region ?_))))))
    refine LW.p (PEv.fieldAddr (off := 16) Tryz.underlying35 rfl rfl Tryz.sizeOf3 rfl (.tmp rfl)) rfl rfl rfl ?_
    refine LW.p (PEv.load Tryz.isAgg3 (.tmp rfl) ((hS.blk 1 rfl).celln rfl)) rfl rfl rfl ?_
    refine LW.p (PEv.move (.tmp rfl)) rfl rfl rfl (LW.p (PEv.assign (.tmp rfl)) rfl rfl rfl (LW.p (PEv.assign (.tmp rfl)) rfl rfl rfl (LW.nil (KW.then (CW.ret ?_)))))
    refine KW.ret2 rfl rfl rfl ⟨_, rfl, ?_⟩
    have hkl : k = b.Targets.length := by omega
    rw [hkl, List.take_length] at ht
    rw [← ht]
    exact ⟨rfl, hS.upd⟩

theorem index_any (cf : Nat) (lb : Array Go.Value) (p : Fact → Bool) (hen : ∀ args w, (callFunc cf args).run Tryz.prog w = .ok (.enter cf args) w) (ad : Option Addr) (cp : Nat) (l : List Fact) (w : World) (hE0 : Els w ad 19 Fact.cells l) (hl : l.length ≤ 100000) (hp : ∀ W, Up w W → ∀ x, Ret Tryz.prog cf (#[.agg (Fact.cells x)] ++ lb) W fun r W' => r = .bool (p x) ∧ Up W W') : Ret Tryz.prog 76 #[.slice ad l.length cp, .func (.func cf) #[] lb] w fun r w' => ∃ i, r = vi i ∧ IdxP p l i ∧ Up w w' := by
  have hW := Up.refl w
  obtain ⟨w0, rfl⟩ : ∃ w0, w0 = w := ⟨_, rfl⟩
  refine Calls_start (n := 19) (m := 9) Tryz.func76 rfl rfl rfl ?_
  refine CW.seq (CW.region (LW.p (PEv.assign (.const _)) rfl rfl rfl (LW.nil (KW.then (CW.seq (CW.seq (CW.region (LW.p (PEv.move (.tmp rfl)) rfl rfl rfl ?_))))))))
  refine LW.p (PEv.lenS Tryz.underlying22 (.tmp rfl)) rfl rfl rfl ?_
  refine LW.p (PEv.move (.const _)) rfl rfl rfl ?_
  refine LW.nil (KW.then (CW.block ?_))
  refine CW.loopB (σ := Nat) (fun s w => (s ≤ l.length) ∧ (∀ y ∈ l.take s, p y = false) ∧ (Up w0 w)) (fun s => [(8, .eq (vi (s : Int)))]) ([(0, .eq _), (1, .eq _), (7, .eq _)]) (fun s => l.length - s) 0 ?_ ⟨rfl, rfl, rfl, rfl, trivial⟩ ?_
  ·exact ⟨Nat.zero_le _, by simp, hW⟩
  ·rintro k w1 ⟨hk, hn, hW⟩
   refine CW.seq (CW.region ?_)
   refine LW.p (PEv.lss (.tmp rfl) (.tmp rfl)) rfl rfl rfl ?_
   refine LW.nil (KW.then (CW.seq ?_))
   refine CW.cond (.tmp rfl) (fun h9 => ?_) (fun h9 => ?_)
   ·first | replace h9 := of_decide_eq_true h9 | replace h9 := of_decide_eq_false h9 | skip
    refine CW.skip (KW.then (CW.seq (CW.block (CW.seq (CW.region (LW.p (PEv.move (.tmp rfl)) rfl rfl rfl (LW.p (PEv.assign (.tmp rfl)) rfl rfl rfl (LW.nil (KW.then (CW.seq ?_))))))))))
    have hE := Els.up hE0 hW
    refine CW.region (LW.p (PEv.move (.tmp rfl)) rfl rfl rfl (LW.p (PEv.move (.tmp rfl)) rfl rfl rfl (LW.p (PEv.move (.tmp rfl)) rfl rfl rfl ?_)))
    obtain ⟨x, hx⟩ := getElem?_of_lt (xs := l) (i := k) (by omega)
    obtain ⟨Bx, ox, ax, hcx⟩ := hE _ x hx
    refine LW.p (PEv.indexAddr' Tryz.underlying22 Tryz.sizeOf35 (.tmp rfl) (.tmp rfl) (by omega) ax) rfl rfl rfl ?_
    refine LW.p (PEv.loadA Tryz.isAgg35 Tryz.sizeOf35 rfl (.tmp rfl) (hcx)) rfl rfl rfl ?_
    refine LW.c (enter_call (.tmp rfl) (.cons (.tmp rfl) .nil) (hen)) rfl rfl rfl rfl (hp _ hW x) ?_
    rintro _ w2 ⟨rfl, uw2⟩
    have zw2 := uw2.size
    replace hW := hW.up uw2
    replace hcx := hcx.up uw2
    refine LW.nil (KW.then ?_)
    refine CW.cond (.tmp rfl) (fun h16 => ?_) (fun h16 => ?_)
    ·first | replace h16 := of_decide_eq_true h16 | replace h16 := of_decide_eq_false h16 | skip
     refine CW.seq (CW.region (LW.p (PEv.move (.tmp rfl)) rfl rfl rfl (LW.p (PEv.assign (.tmp rfl)) rfl rfl rfl (LW.nil (KW.then (CW.ret (KW.block_ret (KW.then_ret (KW.then_ret (KW.block_ret (KW.then_ret ?_)))))))))))
     refine KW.ret1 rfl rfl ⟨_, rfl, ?_⟩
     first | exact ⟨_, rfl, .inl ⟨k, x, rfl, hx, by simpa using h16, hn⟩, hW⟩ | exact ⟨-1, rfl, .inr ⟨rfl, by rw [show k = l.length by omega, List.take_length] at hn; exact hn⟩, hW⟩
    ·first | replace h16 := of_decide_eq_true h16 | replace h16 := of_decide_eq_false h16 | skip
     refine CW.skip (KW.inBlock (KW.then (CW.region ?_)))
     refine LW.p (PEv.inc (.tmp rfl) (by omega)) rfl rfl rfl ?_
     refine LW.p (PEv.move (.tmp rfl)) rfl rfl rfl (LW.nil (KW.round ?_))
     exact ⟨k + 1, ⟨by omega, take_none hx hn (by simpa using h16), hW⟩, ⟨rfl, rfl, rfl, rfl, trivial⟩, by first | omega | (dsimp only; omega)⟩
   ·first | replace h9 := of_decide_eq_true h9 | replace h9 := of_decide_eq_false h9 | skip
    refine CW.exit (KW.then_exit (KW.then_exit (KW.block_hit (KW.then (CW.seq (CW.region (LW.p (PEv.assign (.const _)) rfl rfl rfl (LW.nil (KW.then (CW.ret ?_))))))))))
    refine KW.ret1 rfl rfl ⟨_, rfl, ?_⟩
    first | exact ⟨_, rfl, .inl ⟨k, x, rfl, hx, by simpa using h16, hn⟩, hW⟩ | exact ⟨-1, rfl, .inr ⟨rfl, by rw [show k = l.length by omega, List.take_length] at hn; exact hn⟩, hW⟩

theorem first_any (cf : Nat) (lb : Array Go.Value) (p : Fact → Bool) (hen : ∀ args w, (callFunc cf args).run Tryz.prog w = .ok (.enter cf args) w) (ad : Option Addr) (cp : Nat) (l : List Fact) (w : World) (hE0 : Els w ad 19 Fact.cells l) (hl : l.length ≤ 100000) (hp : ∀ W, Up w W → ∀ x, Ret Tryz.prog cf (#[.agg (Fact.cells x)] ++ lb) W fun r W' => r = .bool (p x) ∧ Up W W') : Ret Tryz.prog 35 #[.slice ad l.length cp, .func (.func cf) #[] lb] w fun r w' => r = .tuple #[.agg ((l.find? p).getD zeroF).cells, .bool (l.find? p).isSome] ∧ Up w w' := by
  obtain ⟨w0, rfl⟩ : ∃ w0, w0 = w := ⟨_, rfl⟩
  have hS := Sep.start no w0
  refine Calls_start (n := 18) (m := 9) Tryz.func35 rfl rfl rfl ?_
  refine CW.seq (CW.region ?_)
  refine LW.r (REv.allocA Tryz.zeroValue35) rfl rfl rfl rfl ?_
  rintro _ w1 ⟨B4, rfl, NB4⟩
  have eB4 := NB4.at_
  have zB4 := NB4.size
  replace hS := hS.addB NB4
  change Wx.Sep _ _ _ [_] at hS
  refine LW.p (PEv.assign (.const _)) rfl rfl rfl (LW.nil (KW.then (CW.seq (CW.seq (CW.region (LW.p (PEv.move (.tmp rfl)) rfl rfl rfl (LW.p (PEv.move (.tmp rfl)) rfl rfl rfl ?_)))))))
  refine LW.c (enter_call0 (.cons (.tmp rfl) (.cons (.tmp rfl) .nil)) (Tryz.en76)) rfl rfl rfl rfl (index_any cf lb p hen ad cp l _ (Els.up hE0 hS.upd) hl (fun W u x => hp W (hS.upd.trans u) x)) ?_
  rintro _ w2 ⟨i, rfl, hi, uw2⟩
  have zw2 := uw2.size
  replace hS := hS.up uw2
  refine LW.p (PEv.assign (.tmp rfl)) rfl rfl rfl (LW.nil (KW.then (CW.seq (CW.region (LW.p (PEv.move (.tmp rfl)) rfl rfl rfl ?_)))))
  refine LW.p (PEv.geq (.tmp rfl) (.const _)) rfl rfl rfl ?_
  refine LW.nil (KW.then ?_)
  refine CW.cond (.tmp rfl) (fun h12 => ?_) (fun h12 => ?_)
  ·first | replace h12 := of_decide_eq_true h12 | replace h12 := of_decide_eq_false h12 | skip
   refine CW.seq ?_
   obtain ⟨k, x, rfl, hx, hpx, hn⟩ := hi.resolve_right (fun ⟨e, _⟩ => by omega)
   rw [find_at hx hn hpx]
   obtain ⟨Bx, ox, ax, hcx⟩ := (Els.up hE0 hS.upd) k x hx
   have hkl := (List.getElem?_eq_some_iff.1 hx).1
   refine CW.region (LW.p (PEv.move (.tmp rfl)) rfl rfl rfl (LW.p (PEv.move (.tmp rfl)) rfl rfl rfl ?_))
   refine LW.p (PEv.indexAddr' Tryz.underlying22 Tryz.sizeOf35 (.tmp rfl) (.tmp rfl) (by omega) ax) rfl rfl rfl ?_
   refine LW.p (PEv.loadA Tryz.isAgg35 Tryz.sizeOf35 rfl (.tmp rfl) (hcx)) rfl rfl rfl ?_
   refine LW.s (SEv.storeA Tryz.sizeOf35 rfl (.tmp rfl) (.tmp rfl) (by first | rfl | exact Fact.one _ | exact GAct.one _ | exact holdCells_one _ _ | exact hold0_one | (simp [Value.oneCell'])) (hS.blk 0 rfl) rfl) rfl rfl rfl ?_
   intro w3 Nw3
   have zw3 := Nw3.size
   replace hS := hS.putB 0 rfl Nw3
   change Wx.Sep _ _ _ [_] at hS
   refine LW.p (PEv.assign (.const _)) rfl rfl rfl (LW.nil (KW.then (CW.ret (KW.then_ret ?_))))
   refine KW.retAT rfl rfl rfl Tryz.isAgg35 Tryz.sizeOf35 rfl ((hS.blk 0 rfl)).agg ⟨_, rfl, ?_⟩
   exact ⟨rfl, hS.upd⟩
  ·first | replace h12 := of_decide_eq_true h12 | replace h12 := of_decide_eq_false h12 | skip
   refine CW.skip (KW.then (CW.seq ?_))
   have hn := (hi.resolve_left (fun ⟨k, x, e, _⟩ => by omega)).2
   rw [find_no hn]
   refine CW.region ?_
   refine LW.r (REv.allocA Tryz.zeroValue35) rfl rfl rfl rfl ?_
   rintro _ w4 ⟨B7, rfl, NB7⟩
   have eB7 := NB7.at_
   have zB7 := NB7.size
   replace hS := hS.addB NB7
   change Wx.Sep _ _ _ [_, _] at hS
   refine LW.nil (KW.then (CW.seq (CW.region ?_)))
   refine LW.p (PEv.loadA Tryz.isAgg35 Tryz.sizeOf35 rfl (.tmp rfl) ((hS.blk 1 rfl).agg)) rfl rfl rfl ?_
   refine LW.s (SEv.storeA Tryz.sizeOf35 rfl (.tmp rfl) (.tmp rfl) (by first | rfl | exact Fact.one _ | exact GAct.one _ | exact holdCells_one _ _ | exact hold0_one | (simp [Value.oneCell'])) (hS.blk 0 rfl) rfl) rfl rfl rfl ?_
   intro w5 Nw5
   have zw5 := Nw5.size
   replace hS := hS.putB 0 rfl Nw5
   change Wx.Sep _ _ _ [_, _] at hS
   refine LW.p (PEv.assign (.const _)) rfl rfl rfl (LW.nil (KW.then (CW.ret ?_)))
   refine KW.retAT rfl rfl rfl Tryz.isAgg35 Tryz.sizeOf35 rfl ((hS.blk 0 rfl)).agg ⟨_, rfl, ?_⟩
   exact ⟨rfl, hS.upd⟩

end Go.Proofs.YtdelcaegofkknaaGreat

-- Ba23
namespace Go.Wx

def qualB (a c r v t : Int) (f : Fact) : Bool := (f.Tool == a && (f.Chamber == c && (f.Recipe == r && (f.Revision == v && true)))) && decide (f.Time ≤ t) && decide (t ≤ f.Until)
def procB (b : Base) (id : Int) : Option Fact := b.Processes.find? fun f => decide (f.ID = id)
def measB (b : Base) (id : Int) : Option Fact := b.Measures.find? fun f => decide (f.ID = id)
def qualifiedB (b : Base) (a c r v t : Int) : Bool := (b.Qualified.find? (qualB a c r v t)).isSome

end Go.Wx
namespace Go.Proofs.YtdelcaegofkknaaGreat
open Go.Wx Go.RowKit
theorem Tryz.itStep {xs ys : Array Go.Value} {i : Nat} {is : List Nat} {x y : Int} {r : Bool} {w : World} (hx : xs[i]? = some (vi x)) (hy : ys[i]? = some (vi y)) (h : (Op.eqItems 9999 3 1 xs ys is).run Tryz.prog w = .ok r w) : (Op.eqItems 9999 3 1 xs ys (i :: is)).run Tryz.prog w = .ok ((x == y) && r) w := by
  have px : (part 3 xs (i * 1)).run Tryz.prog w = .ok (vi x) w := by simp [part, isAgg, run_underlying Tryz.underlying3, hx]
  have py : (part 3 ys (i * 1)).run Tryz.prog w = .ok (vi y) w := by simp [part, isAgg, run_underlying Tryz.underlying3, hy]
  have pe : (Op.equalIn 9999 3 (vi x) (vi y)).run Tryz.prog w = .ok (x == y) w := run_equalIn_int w 9998 _ _ _ _ _ Tryz.underlying3
  simp only [Op.eqItems, Sem.run_bind, px, py, pe, Result.andThen_ok]
  cases hb : (x == y) <;> simp [h]
theorem Tryz.eqArr4 (a b c e a' b' c' e' : Int) (w : World) : (Op.equalIn 10000 63 (.agg #[vi a, vi b, vi c, vi e]) (.agg #[vi a', vi b', vi c', vi e'])).run Tryz.prog w = .ok (a == a' && (b == b' && (c == c' && (e == e' && true)))) w := by
  have hc : Tryz.prog.cellsOf 3 = 1 := by kernel_rfl
  rw [run_equalIn_array w 9999 _ _ Tryz.underlying63 (show Tryz.prog.info? 3 = some Tryz.t3 from by kernel_rfl), hc]
  exact Tryz.itStep rfl rfl (Tryz.itStep rfl rfl (Tryz.itStep rfl rfl (Tryz.itStep rfl rfl (by simp [Op.eqItems]))))

theorem Process1_any (f : Fact) (id : Int) (B : Nat) (w : World) (hB : Blk w B #[vi id] 3) : Ret Tryz.prog 36 #[.agg f.cells, .pointer (some ⟨B, 0, none⟩)] w fun r w' => r = .bool (decide (f.ID = id)) ∧ Up w w' := by
  have hW := Up.refl w
  obtain ⟨w0, rfl⟩ : ∃ w0, w0 = w := ⟨_, rfl⟩
  refine Calls_start (n := 8) (m := 9) Tryz.func36 rfl rfl rfl ?_
  refine CW.seq (CW.region ?_)
  refine LW.r (REv.boxA (.tmp rfl)) rfl rfl rfl rfl ?_
  rintro _ w1 ⟨B2, rfl, NB2⟩
  have eB2 := NB2.at_
  have zB2 := NB2.size
  replace hW := hW.up NB2.up
  have hB2 := NB2.blk
  refine LW.p (PEv.assign (.const _)) rfl rfl rfl (LW.nil (KW.then (CW.seq (CW.region ?_))))
  refine LW.p (PEv.fieldAddr (off := 1) Tryz.underlying35 rfl rfl Tryz.sizeOf3 rfl (.tmp rfl)) rfl rfl rfl ?_
  refine LW.p (PEv.load Tryz.isAgg3 (.tmp rfl) (hB2.celln rfl)) rfl rfl rfl ?_
  refine LW.p (PEv.load Tryz.isAgg3 (.tmp rfl) ((hB.up hW).celln rfl)) rfl rfl rfl ?_
  refine LW.p (PEv.eql (.tmp rfl) (.tmp rfl)) rfl rfl rfl ?_
  refine LW.p (PEv.assign (.tmp rfl)) rfl rfl rfl (LW.nil (KW.then (CW.ret ?_)))
  refine KW.ret1 rfl rfl ⟨_, rfl, ?_⟩
  exact ⟨rfl, hW⟩

theorem Process_any (bc : Array Go.Value) (b : Base) (id : Int) (w : World) (hC : BaseC w bc b) (hl : b.Processes.length ≤ 100000) : Ret Tryz.prog 12 #[.agg bc, vi id] w fun r w' => r = .tuple #[.agg ((procB b id).getD zeroF).cells, .bool (procB b id).isSome] ∧ Up w w' := by
  obtain ⟨w0, rfl⟩ : ∃ w0, w0 = w := ⟨_, rfl⟩
  have hS := Sep.start no w0
  obtain ⟨v0, h0, hr0⟩ := hC.at0
  obtain ⟨ad, cp, rfl, hE0⟩ := hr0
  refine Calls_start (n := 12) (m := 9) Tryz.func12 rfl rfl rfl ?_
  refine CW.seq (CW.region ?_)
  refine LW.r (REv.boxA (.tmp rfl)) rfl rfl rfl rfl ?_
  rintro _ w1 ⟨B2, rfl, NB2⟩
  have eB2 := NB2.at_
  have zB2 := NB2.size
  replace hS := hS.addB NB2
  change Wx.Sep _ _ _ [_] at hS
  refine LW.r (REv.box1 (.tmp rfl) rfl) rfl rfl rfl rfl ?_
  rintro _ w2 ⟨B3, rfl, NB3⟩
  have eB3 := NB3.at_
  have zB3 := NB3.size
  replace hS := hS.addB NB3
  change Wx.Sep _ _ _ [_, _] at hS
  refine LW.r (REv.allocA Tryz.zeroValue35) rfl rfl rfl rfl ?_
  rintro _ w3 ⟨B4, rfl, NB4⟩
  have eB4 := NB4.at_
  have zB4 := NB4.size
  replace hS := hS.addB NB4
  change Wx.Sep _ _ _ [_, _, _] at hS
  refine LW.p (PEv.assign (.const _)) rfl rfl rfl (LW.nil (KW.then (CW.seq (CW.region ?_))))
  refine LW.p (PEv.fieldAddr (off := 0) Tryz.underlying26 rfl rfl Tryz.sizeOf22 rfl (.tmp rfl)) rfl rfl rfl ?_
  refine LW.p (PEv.load Tryz.isAgg22 (.tmp rfl) ((hS.blk 0 rfl).cell h0)) rfl rfl rfl ?_
  refine LW.p (PEv.makeFunc (.cons (.tmp rfl) .nil)) rfl rfl rfl ?_
  refine LW.c (enter_call0 (.cons (.tmp rfl) (.cons (.tmp rfl) .nil)) (Tryz.en35)) rfl rfl rfl rfl (first_any 36 #[.pointer (some ⟨B3, 0, none⟩)] (fun f => decide (f.ID = id)) Tryz.en36 ad cp b.Processes _ (Els.up hE0 hS.upd) hl (fun W u x => Process1_any x id B3 W ((hS.blk 1 rfl).up u))) ?_
  rintro _ w4 ⟨rfl, uw4⟩
  have zw4 := uw4.size
  replace hS := hS.up uw4
  refine LW.p (PEv.extract (.tmp rfl) rfl) rfl rfl rfl (LW.p (PEv.extract (.tmp rfl) rfl) rfl rfl rfl ?_)
  refine LW.s (SEv.storeA Tryz.sizeOf35 rfl (.tmp rfl) (.tmp rfl) (by first | rfl | exact Fact.one _ | exact GAct.one _ | exact holdCells_one _ _ | exact hold0_one | (simp [Value.oneCell'])) (hS.blk 2 rfl) rfl) rfl rfl rfl ?_
  intro w5 Nw5
  have zw5 := Nw5.size
  replace hS := hS.putB 2 rfl Nw5
  change Wx.Sep _ _ _ [_, _, _] at hS
  refine LW.p (PEv.assign (.tmp rfl)) rfl rfl rfl (LW.nil (KW.then (CW.ret ?_)))
  refine KW.retAT rfl rfl rfl Tryz.isAgg35 Tryz.sizeOf35 rfl ((hS.blk 2 rfl)).agg ⟨_, rfl, ?_⟩
  exact ⟨rfl, hS.upd⟩

theorem Measure1_any (f : Fact) (id : Int) (B : Nat) (w : World) (hB : Blk w B #[vi id] 3) : Ret Tryz.prog 38 #[.agg f.cells, .pointer (some ⟨B, 0, none⟩)] w fun r w' => r = .bool (decide (f.ID = id)) ∧ Up w w' := by
  have hW := Up.refl w
  obtain ⟨w0, rfl⟩ : ∃ w0, w0 = w := ⟨_, rfl⟩
  refine Calls_start (n := 8) (m := 9) Tryz.func38 rfl rfl rfl ?_
  refine CW.seq (CW.region ?_)
  refine LW.r (REv.boxA (.tmp rfl)) rfl rfl rfl rfl ?_
  rintro _ w1 ⟨B2, rfl, NB2⟩
  have eB2 := NB2.at_
  have zB2 := NB2.size
  replace hW := hW.up NB2.up
  have hB2 := NB2.blk
  refine LW.p (PEv.assign (.const _)) rfl rfl rfl (LW.nil (KW.then (CW.seq (CW.region ?_))))
  refine LW.p (PEv.fieldAddr (off := 1) Tryz.underlying35 rfl rfl Tryz.sizeOf3 rfl (.tmp rfl)) rfl rfl rfl ?_
  refine LW.p (PEv.load Tryz.isAgg3 (.tmp rfl) (hB2.celln rfl)) rfl rfl rfl ?_
  refine LW.p (PEv.load Tryz.isAgg3 (.tmp rfl) ((hB.up hW).celln rfl)) rfl rfl rfl ?_
  refine LW.p (PEv.eql (.tmp rfl) (.tmp rfl)) rfl rfl rfl ?_
  refine LW.p (PEv.assign (.tmp rfl)) rfl rfl rfl (LW.nil (KW.then (CW.ret ?_)))
  refine KW.ret1 rfl rfl ⟨_, rfl, ?_⟩
  exact ⟨rfl, hW⟩

theorem Measure_any (bc : Array Go.Value) (b : Base) (id : Int) (w : World) (hC : BaseC w bc b) (hl : b.Measures.length ≤ 100000) : Ret Tryz.prog 14 #[.agg bc, vi id] w fun r w' => r = .tuple #[.agg ((measB b id).getD zeroF).cells, .bool (measB b id).isSome] ∧ Up w w' := by
  obtain ⟨w0, rfl⟩ : ∃ w0, w0 = w := ⟨_, rfl⟩
  have hS := Sep.start no w0
  obtain ⟨v1, h1, hr1⟩ := hC.at1
  obtain ⟨ad, cp, rfl, hE0⟩ := hr1
  refine Calls_start (n := 12) (m := 9) Tryz.func14 rfl rfl rfl ?_
  refine CW.seq (CW.region ?_)
  refine LW.r (REv.boxA (.tmp rfl)) rfl rfl rfl rfl ?_
  rintro _ w1 ⟨B2, rfl, NB2⟩
  have eB2 := NB2.at_
  have zB2 := NB2.size
  replace hS := hS.addB NB2
  change Wx.Sep _ _ _ [_] at hS
  refine LW.r (REv.box1 (.tmp rfl) rfl) rfl rfl rfl rfl ?_
  rintro _ w2 ⟨B3, rfl, NB3⟩
  have eB3 := NB3.at_
  have zB3 := NB3.size
  replace hS := hS.addB NB3
  change Wx.Sep _ _ _ [_, _] at hS
  refine LW.r (REv.allocA Tryz.zeroValue35) rfl rfl rfl rfl ?_
  rintro _ w3 ⟨B4, rfl, NB4⟩
  have eB4 := NB4.at_
  have zB4 := NB4.size
  replace hS := hS.addB NB4
  change Wx.Sep _ _ _ [_, _, _] at hS
  refine LW.p (PEv.assign (.const _)) rfl rfl rfl (LW.nil (KW.then (CW.seq (CW.region ?_))))
  refine LW.p (PEv.fieldAddr (off := 1) Tryz.underlying26 rfl rfl Tryz.sizeOf22 rfl (.tmp rfl)) rfl rfl rfl ?_
  refine LW.p (PEv.load Tryz.isAgg22 (.tmp rfl) ((hS.blk 0 rfl).cell h1)) rfl rfl rfl ?_
  refine LW.p (PEv.makeFunc (.cons (.tmp rfl) .nil)) rfl rfl rfl ?_
  refine LW.c (enter_call0 (.cons (.tmp rfl) (.cons (.tmp rfl) .nil)) (Tryz.en35)) rfl rfl rfl rfl (first_any 38 #[.pointer (some ⟨B3, 0, none⟩)] (fun f => decide (f.ID = id)) Tryz.en38 ad cp b.Measures _ (Els.up hE0 hS.upd) hl (fun W u x => Measure1_any x id B3 W ((hS.blk 1 rfl).up u))) ?_
  rintro _ w4 ⟨rfl, uw4⟩
  have zw4 := uw4.size
  replace hS := hS.up uw4
  refine LW.p (PEv.extract (.tmp rfl) rfl) rfl rfl rfl (LW.p (PEv.extract (.tmp rfl) rfl) rfl rfl rfl ?_)
  refine LW.s (SEv.storeA Tryz.sizeOf35 rfl (.tmp rfl) (.tmp rfl) (by first | rfl | exact Fact.one _ | exact GAct.one _ | exact holdCells_one _ _ | exact hold0_one | (simp [Value.oneCell'])) (hS.blk 2 rfl) rfl) rfl rfl rfl ?_
  intro w5 Nw5
  have zw5 := Nw5.size
  replace hS := hS.putB 2 rfl Nw5
  change Wx.Sep _ _ _ [_, _, _] at hS
  refine LW.p (PEv.assign (.tmp rfl)) rfl rfl rfl (LW.nil (KW.then (CW.ret ?_)))
  refine KW.retAT rfl rfl rfl Tryz.isAgg35 Tryz.sizeOf35 rfl ((hS.blk 2 rfl)).agg ⟨_, rfl, ?_⟩
  exact ⟨rfl, hS.upd⟩

theorem Qualified1_any (f : Fact) (a c r v t : Int) (B B' : Nat) (w : World) (hB : Blk w B #[vi a, vi c, vi r, vi v] 63) (hB' : Blk w B' #[vi t] 3) : Ret Tryz.prog 40 #[.agg f.cells, .pointer (some ⟨B, 0, none⟩), .pointer (some ⟨B', 0, none⟩)] w fun r0 w' => r0 = .bool (qualB a c r v t f) ∧ Up w w' := by
  have hW := Up.refl w
  obtain ⟨w0, rfl⟩ : ∃ w0, w0 = w := ⟨_, rfl⟩
  refine Calls_start (n := 28) (m := 9) Tryz.func40 rfl rfl rfl ?_
  refine CW.seq (CW.region ?_)
  refine LW.r (REv.boxA (.tmp rfl)) rfl rfl rfl rfl ?_
  rintro _ w1 ⟨B3, rfl, NB3⟩
  have eB3 := NB3.at_
  have zB3 := NB3.size
  replace hW := hW.up NB3.up
  have hB3 := NB3.blk
  refine LW.p (PEv.assign (.const _)) rfl rfl rfl (LW.nil (KW.then (CW.seq (CW.region ?_))))
  refine LW.p (PEv.fieldAddr (off := 11) Tryz.underlying35 rfl rfl Tryz.sizeOf3 rfl (.tmp rfl)) rfl rfl rfl ?_
  refine LW.p (PEv.load Tryz.isAgg3 (.tmp rfl) (hB3.celln rfl)) rfl rfl rfl ?_
  refine LW.p (PEv.fieldAddr (off := 12) Tryz.underlying35 rfl rfl Tryz.sizeOf3 rfl (.tmp rfl)) rfl rfl rfl ?_
  refine LW.p (PEv.load Tryz.isAgg3 (.tmp rfl) (hB3.celln rfl)) rfl rfl rfl ?_
  refine LW.p (PEv.fieldAddr (off := 14) Tryz.underlying35 rfl rfl Tryz.sizeOf3 rfl (.tmp rfl)) rfl rfl rfl ?_
  refine LW.p (PEv.load Tryz.isAgg3 (.tmp rfl) (hB3.celln rfl)) rfl rfl rfl ?_
  refine LW.p (PEv.fieldAddr (off := 15) Tryz.underlying35 rfl rfl Tryz.sizeOf3 rfl (.tmp rfl)) rfl rfl rfl ?_
  refine LW.p (PEv.load Tryz.isAgg3 (.tmp rfl) (hB3.celln rfl)) rfl rfl rfl ?_
  refine LW.p (PEv.buildArr (cs := #[vi f.Tool, vi f.Chamber, vi f.Recipe, vi f.Revision]) Tryz.underlying63 Tryz.zeroValue63 Tryz.sizeOf3 (.cons (.tmp rfl) (.cons (.tmp rfl) (.cons (.tmp rfl) (.cons (.tmp rfl) .nil)))) rfl) rfl rfl rfl ?_
  refine LW.p (PEv.loadA Tryz.isAgg63 Tryz.sizeOf63 rfl (.tmp rfl) ((hB.up hW).agg)) rfl rfl rfl ?_
  refine LW.p (PEv.eqlA Tryz.eqGuardType63 (Tryz.eqArr4 _ _ _ _ _ _ _ _) (.tmp rfl) (.tmp rfl)) rfl rfl rfl ?_
  refine LW.p (PEv.move (.tmp rfl)) rfl rfl rfl ?_
  refine LW.g rfl rfl rfl rfl rfl rfl rfl (fun hc => PEv.fieldAddr (off := 5) Tryz.underlying35 rfl rfl Tryz.sizeOf3 rfl (.tmp rfl)) ?_
  refine LW.g rfl rfl rfl rfl rfl rfl rfl (fun hc => PEv.load Tryz.isAgg3 (by first | exact .tmp rfl | exact .cond rfl (by first | assumption | simp_all)) (hB3.celln rfl)) ?_
  refine LW.g rfl rfl rfl rfl rfl rfl rfl (fun hc => PEv.load Tryz.isAgg3 (.tmp rfl) ((hB'.up hW).celln rfl)) ?_
  refine LW.g rfl rfl rfl rfl rfl rfl rfl (fun hc => PEv.leq (by first | exact .tmp rfl | exact .cond rfl (by first | assumption | simp_all)) (by first | exact .tmp rfl | exact .cond rfl (by first | assumption | simp_all))) ?_
  refine LW.p (PEv.pick_and (.tmp rfl) (fun hp => (by first | exact .const _ | exact .tmp rfl | exact .cond rfl (by first | assumption | simp_all)))) rfl rfl rfl ?_
  refine LW.p (PEv.move (.tmp rfl)) rfl rfl rfl ?_
  refine LW.g rfl rfl rfl rfl rfl rfl rfl (fun hc => PEv.load Tryz.isAgg3 (.tmp rfl) ((hB'.up hW).celln rfl)) ?_
  refine LW.g rfl rfl rfl rfl rfl rfl rfl (fun hc => PEv.fieldAddr (off := 6) Tryz.underlying35 rfl rfl Tryz.sizeOf3 rfl (.tmp rfl)) ?_
  refine LW.g rfl rfl rfl rfl rfl rfl rfl (fun hc => PEv.load Tryz.isAgg3 (by first | exact .tmp rfl | exact .cond rfl (by first | assumption | simp_all)) (hB3.celln rfl)) ?_
  refine LW.g rfl rfl rfl rfl rfl rfl rfl (fun hc => PEv.leq (by first | exact .tmp rfl | exact .cond rfl (by first | assumption | simp_all)) (by first | exact .tmp rfl | exact .cond rfl (by first | assumption | simp_all))) ?_
  refine LW.p (PEv.pick_and (.tmp rfl) (fun hp => (by first | exact .const _ | exact .tmp rfl | exact .cond rfl (by first | assumption | simp_all)))) rfl rfl rfl ?_
  refine LW.p (PEv.assign (.tmp rfl)) rfl rfl rfl (LW.nil (KW.then (CW.ret ?_)))
  refine KW.ret1 rfl rfl ⟨_, rfl, ?_⟩
  exact ⟨congrArg Go.Value.bool (by first | rfl | (unfold qualB; split <;> simp_all)), hW⟩

theorem Qualified_any (bc : Array Go.Value) (b : Base) (a c r v t : Int) (w : World) (hC : BaseC w bc b) (hl : b.Qualified.length ≤ 100000) : Ret Tryz.prog 20 #[.agg bc, vi a, vi c, vi r, vi v, vi t] w fun r0 w' => r0 = .bool (qualifiedB b a c r v t) ∧ Up w w' := by
  obtain ⟨w0, rfl⟩ : ∃ w0, w0 = w := ⟨_, rfl⟩
  have hS := Sep.start no w0
  obtain ⟨v5, h5, hr5⟩ := hC.at5
  obtain ⟨ad, cp, rfl, hE0⟩ := hr5
  refine Calls_start (n := 29) (m := 9) Tryz.func20 rfl rfl rfl ?_
  refine CW.seq (CW.region ?_)
  refine LW.r (REv.boxA (.tmp rfl)) rfl rfl rfl rfl ?_
  rintro _ w1 ⟨B6, rfl, NB6⟩
  have eB6 := NB6.at_
  have zB6 := NB6.size
  replace hS := hS.addB NB6
  change Wx.Sep _ _ _ [_] at hS
  refine LW.r (REv.box1 (.tmp rfl) rfl) rfl rfl rfl rfl ?_
  rintro _ w2 ⟨B11, rfl, NB11⟩
  have eB11 := NB11.at_
  have zB11 := NB11.size
  replace hS := hS.addB NB11
  change Wx.Sep _ _ _ [_, _] at hS
  refine LW.p (PEv.assign (.const _)) rfl rfl rfl (LW.nil (KW.then (CW.seq (CW.region (LW.p (PEv.move (.tmp rfl)) rfl rfl rfl (LW.p (PEv.move (.tmp rfl)) rfl rfl rfl (LW.p (PEv.move (.tmp rfl)) rfl rfl rfl (LW.p (PEv.move (.tmp rfl)) rfl rfl rfl ?_))))))))
  refine LW.p (PEv.buildArr (cs := #[vi a, vi c, vi r, vi v]) Tryz.underlying63 Tryz.zeroValue63 Tryz.sizeOf3 (.cons (.tmp rfl) (.cons (.tmp rfl) (.cons (.tmp rfl) (.cons (.tmp rfl) .nil)))) rfl) rfl rfl rfl ?_
  refine LW.r (REv.allocA Tryz.zeroValue63) rfl rfl rfl rfl ?_
  rintro _ w3 ⟨B13, rfl, MB13⟩
  refine LW.s (SEv.storeA Tryz.sizeOf63 rfl (.tmp rfl) (.tmp rfl) (by first | rfl | exact Fact.one _ | exact GAct.one _ | exact holdCells_one _ _ | exact hold0_one | (simp [Value.oneCell'])) MB13.blk rfl) rfl rfl rfl ?_
  intro w4 LB13
  have NB13 := MB13.set LB13
  clear LB13 MB13
  have eB13 := NB13.at_
  have zB13 := NB13.size
  replace hS := hS.addB NB13
  change Wx.Sep _ _ _ [_, _, _] at hS
  refine LW.nil (KW.then (CW.seq (CW.region ?_)))
  refine LW.p (PEv.fieldAddr (off := 5) Tryz.underlying26 rfl rfl Tryz.sizeOf22 rfl (.tmp rfl)) rfl rfl rfl ?_
  refine LW.p (PEv.load Tryz.isAgg22 (.tmp rfl) ((hS.blk 0 rfl).cell h5)) rfl rfl rfl ?_
  refine LW.p (PEv.makeFunc (.cons (.tmp rfl) (.cons (.tmp rfl) .nil))) rfl rfl rfl ?_
  refine LW.c (enter_call0 (.cons (.tmp rfl) (.cons (.tmp rfl) .nil)) (Tryz.en35)) rfl rfl rfl rfl (first_any 40 #[.pointer (some ⟨B13, 0, none⟩), .pointer (some ⟨B11, 0, none⟩)] (qualB a c r v t) Tryz.en40 ad cp b.Qualified _ (Els.up hE0 hS.upd) hl (fun W u x => Qualified1_any x a c r v t B13 B11 W ((hS.blk 2 rfl).up u) ((hS.blk 1 rfl).up u))) ?_
  rintro _ w5 ⟨rfl, uw5⟩
  have zw5 := uw5.size
  replace hS := hS.up uw5
  refine LW.p (PEv.move (.tmp rfl)) rfl rfl rfl (LW.p (PEv.extract (.tmp rfl) rfl) rfl rfl rfl (LW.p (PEv.extract (.tmp rfl) rfl) rfl rfl rfl ?_))
  refine LW.r (REv.allocA Tryz.zeroValue35) rfl rfl rfl rfl ?_
  rintro _ w6 ⟨B14, rfl, MB14⟩
  refine LW.s (SEv.storeA Tryz.sizeOf35 rfl (.tmp rfl) (.tmp rfl) (by first | rfl | exact Fact.one _ | exact GAct.one _ | exact holdCells_one _ _ | exact hold0_one | (simp [Value.oneCell'])) MB14.blk rfl) rfl rfl rfl ?_
  intro w7 LB14
  have NB14 := MB14.set LB14
  clear LB14 MB14
  have eB14 := NB14.at_
  have zB14 := NB14.size
  replace hS := hS.addB NB14
  change Wx.Sep _ _ _ [_, _, _, _] at hS
  refine LW.p (PEv.assign (.tmp rfl)) rfl rfl rfl (LW.nil (KW.then (CW.seq (CW.region (LW.p (PEv.move (.tmp rfl)) rfl rfl rfl (LW.p (PEv.assign (.tmp rfl)) rfl rfl rfl (LW.nil (KW.then (CW.ret ?_)))))))))
  refine KW.ret1 rfl rfl ⟨_, rfl, ?_⟩
  exact ⟨rfl, hS.upd⟩

end Go.Proofs.YtdelcaegofkknaaGreat

-- Ba24
namespace Go.Wx

def eqFs : List Fact → List Fact → Bool
  | [], [] => true
  | x :: xs, y :: ys => Fact.eqb x y && eqFs xs ys
  | _, _ => false
theorem eqFs_len : ∀ {l m : List Fact}, l.length ≠ m.length → eqFs l m = false
  | [], [], h => absurd rfl h
  | [], _ :: _, _ => rfl
  | _ :: _, [], _ => rfl
  | x :: xs, y :: ys, h => by rw [eqFs, eqFs_len (fun e => h (by simp [e])), Bool.and_false]
theorem eqFs_step {l m : List Fact} {k : Nat} {x y : Fact} (hx : l[k]? = some x) (hy : m[k]? = some y) : eqFs (l.drop k) (m.drop k) = (Fact.eqb x y && eqFs (l.drop (k + 1)) (m.drop (k + 1))) := by
  have h1 := (List.getElem?_eq_some_iff.1 hx)
  have h2 := (List.getElem?_eq_some_iff.1 hy)
  rw [List.drop_eq_getElem_cons h1.1, List.drop_eq_getElem_cons h2.1, h1.2, h2.2]; rfl
theorem eqFs_end {l m : List Fact} {k : Nat} (h1 : l.length ≤ k) (h2 : m.length ≤ k) : eqFs (l.drop k) (m.drop k) = true := by
  rw [List.drop_eq_nil_of_le h1, List.drop_eq_nil_of_le h2]; rfl
def runK (f : Fact) : K2 := (f.Time, f.ID)
def runP (t c : Int) (f : Fact) : Bool := decide (f.Tool = t) && decide (f.Chamber = c)
def runsB (b : Base) (t c : Int) : List Fact := sortK runK (b.Processes.filter (runP t c))
theorem fp_yes {p : Fact → Bool} {l : List Fact} {k : Nat} {x : Fact} (h : l[k]? = some x) (hx : p x = true) : (l.take (k + 1)).filter p = (l.take k).filter p ++ [x] := by
  rw [take_succ_of h, List.filter_append, List.filter_cons, if_pos hx]; rfl
theorem fp_no {p : Fact → Bool} {l : List Fact} {k : Nat} {x : Fact} (h : l[k]? = some x) (hx : p x = false) : (l.take (k + 1)).filter p = (l.take k).filter p := by
  rw [take_succ_of h, List.filter_append, List.filter_cons, if_neg (by rw [hx]; exact Bool.false_ne_true)]; simp
theorem filt_len (p : Fact → Bool) (l : List Fact) (k : Nat) : ((l.take k).filter p).length ≤ k := Nat.le_trans (List.length_filter_le _ _) (by rw [List.length_take]; omega)
def pickI (c n : Int) : Int := (if c < 0 then IntKind.i64.wrap (-(IntKind.i64.wrap (c + 1))) else c).tmod n
def cutF (f : Fact) : Fact := { f with Text := f.Text.extract 0 (if (100 : Int) < f.Text.size then (100 : Int) else f.Text.size).toNat }
def fewL (n : Nat) (l : List Fact) : List Fact := (l.take n).map cutF
theorem cut_snoc {l : List Fact} {k : Nat} {x : Fact} (h : l[k]? = some x) : (l.take (k + 1)).map cutF = (l.take k).map cutF ++ [cutF x] := by rw [take_succ_of h]; simp
theorem few_end {l : List Fact} {k n : Nat} (hk : k ≤ l.length) (h40 : k ≤ n) (h : (decide (k < l.length) && decide (k < n)) = false) : (l.take k).map cutF = fewL n l := by
  unfold fewL
  congr 1
  by_cases h1 : k < l.length
  · have : k = n := by simp [h1] at h; omega
    rw [this]
  · rw [show k = l.length by omega, List.take_length, List.take_of_length_le (by omega)]
theorem fewL_length (n : Nat) (l : List Fact) : (fewL n l).length ≤ n := by unfold fewL; rw [List.length_map, List.length_take]; omega
def tgt (t v e d : Int) (g : Bool) : Fact := { zeroF with Kind := 10, Recipe := 3, Time := t, Value := v, Version := e, Day := d, Gone := g }

end Go.Wx
namespace Go.Proofs.YtdelcaegofkknaaGreat
open Go.Wx Go.RowKit
theorem Runs1_any (f : Fact) (w : World) : Ret Tryz.prog 41 #[.agg f.cells] w fun r w' => r = .agg #[vi (runK f).1, vi (runK f).2] ∧ Up w w' := by
  have hW := Up.refl w
  obtain ⟨w0, rfl⟩ : ∃ w0, w0 = w := ⟨_, rfl⟩
  refine Calls_start (n := 8) (m := 9) Tryz.func41 rfl rfl rfl ?_
  refine CW.seq (CW.region ?_)
  refine LW.r (REv.boxA (.tmp rfl)) rfl rfl rfl rfl ?_
  rintro _ w1 ⟨B1, rfl, NB1⟩
  have eB1 := NB1.at_
  have zB1 := NB1.size
  replace hW := hW.up NB1.up
  have hB1 := NB1.blk
  refine LW.r (REv.allocA Tryz.zeroValue64) rfl rfl rfl rfl ?_
  rintro _ w2 ⟨B2, rfl, NB2⟩
  have eB2 := NB2.at_
  have zB2 := NB2.size
  replace hW := hW.up NB2.up
  replace hB1 := hB1.up NB2.up
  have hB2 := NB2.blk
  refine LW.nil (KW.then (CW.seq (CW.region ?_)))
  refine LW.p (PEv.fieldAddr (off := 5) Tryz.underlying35 rfl rfl Tryz.sizeOf3 rfl (.tmp rfl)) rfl rfl rfl ?_
  refine LW.p (PEv.load Tryz.isAgg3 (.tmp rfl) (hB1.celln rfl)) rfl rfl rfl ?_
  refine LW.p (PEv.fieldAddr (off := 1) Tryz.underlying35 rfl rfl Tryz.sizeOf3 rfl (.tmp rfl)) rfl rfl rfl ?_
  refine LW.p (PEv.load Tryz.isAgg3 (.tmp rfl) (hB1.celln rfl)) rfl rfl rfl ?_
  refine LW.p (PEv.buildArr (cs := #[vi f.Time, vi f.ID]) Tryz.underlying64 Tryz.zeroValue64 Tryz.sizeOf3 (.cons (.tmp rfl) (.cons (.tmp rfl) .nil)) rfl) rfl rfl rfl ?_
  refine LW.s (SEv.storeA Tryz.sizeOf64 rfl (.tmp rfl) (.tmp rfl) (by first | rfl | exact Fact.one _ | exact GAct.one _ | exact holdCells_one _ _ | exact hold0_one | (simp [Value.oneCell'])) hB2 rfl) rfl rfl rfl ?_
  intro w3 Nw3
  have zw3 := Nw3.size
  replace hW := hW.sto Nw3.sto (by omega)
  replace hB1 := hB1.sto Nw3.sto (by omega)
  replace hB2 := Nw3.blk
  refine LW.nil (KW.then (CW.ret ?_))
  refine KW.retA rfl rfl Tryz.isAgg64 Tryz.sizeOf64 rfl (hB2.agg) ⟨_, rfl, ?_⟩
  exact ⟨rfl, hW⟩

theorem Runs_any (bc : Array Go.Value) (b : Base) (t c : Int) (w : World) (hC : BaseC w bc b) (hl : b.Processes.length ≤ 100000) : Ret Tryz.prog 23 #[.agg bc, vi t, vi c] w fun r w' => OwnS w' 0 35 19 Fact.cells r (runsB b t c) ∧ Up w w' := by
  obtain ⟨w0, rfl⟩ : ∃ w0, w0 = w := ⟨_, rfl⟩
  have hS := Sep.start no w0
  obtain ⟨v0, h0, hr0⟩ := hC.at0
  obtain ⟨ad, cp, rfl, hE0⟩ := hr0
  refine Calls_start (n := 35) (m := 9) Tryz.func23 rfl rfl rfl ?_
  refine CW.seq (CW.region ?_)
  refine LW.r (REv.boxA (.tmp rfl)) rfl rfl rfl rfl ?_
  rintro _ w1 ⟨B3, rfl, NB3⟩
  have eB3 := NB3.at_
  have zB3 := NB3.size
  replace hS := hS.addB NB3
  change Wx.Sep _ _ _ [_] at hS
  refine LW.p (PEv.assign (.const _)) rfl rfl rfl (LW.nil (KW.then (CW.seq (CW.region (LW.p (PEv.assign (.const _)) rfl rfl rfl (LW.nil (KW.then (CW.seq (CW.seq ?_)))))))))
  replace hS := hS.add (Up.refl _) (A' := aOwn 35 19 Fact.cells (.slice none 0 0) ([] : List Fact)) (OwnS.nil _ _ _ _ _) (fun i h => by cases h)
  change Wx.Sep _ _ _ [_, _] at hS
  refine CW.region ?_
  refine LW.p (PEv.fieldAddr (off := 0) Tryz.underlying26 rfl rfl Tryz.sizeOf22 rfl (.tmp rfl)) rfl rfl rfl ?_
  refine LW.p (PEv.load Tryz.isAgg22 (.tmp rfl) ((hS.blk 0 rfl).cell h0)) rfl rfl rfl ?_
  refine LW.p (PEv.lenS Tryz.underlying22 (.tmp rfl)) rfl rfl rfl ?_
  refine LW.p (PEv.move (.const _)) rfl rfl rfl ?_
  refine LW.nil (KW.then (CW.block ?_))
  refine CW.loopB (σ := Nat × Go.Value) (fun s w => (s.1 ≤ b.Processes.length) ∧ (Wx.Sep no w0 w [aBlk B3 (bc) 26, aOwn 35 19 Fact.cells s.2 ((b.Processes.take s.1).filter (runP t c))])) (fun s => [(13, .eq (vi (s.1 : Int))), (7, .eq (s.2))]) ([(1, .eq _), (2, .eq _), (6, .eq _), (11, .eq _), (12, .eq _)]) (fun s => b.Processes.length - s.1) (0, .slice none 0 0) ?_ ⟨rfl, rfl, rfl, rfl, rfl, rfl, rfl, trivial⟩ ?_
  ·exact ⟨Nat.zero_le _, hS⟩
  ·rintro ⟨k, v⟩ w2 ⟨hk, hS⟩
   dsimp only at hk hS
   change CW _ _ _ _ _ _ _ ([(13, .eq (vi (k : Int))), (7, .eq (v))] ++ _) _
   refine CW.seq (CW.region ?_)
   refine LW.p (PEv.lss (.tmp rfl) (.tmp rfl)) rfl rfl rfl ?_
   refine LW.nil (KW.then (CW.seq ?_))
   refine CW.cond (.tmp rfl) (fun h14 => ?_) (fun h14 => ?_)
   ·first | replace h14 := of_decide_eq_true h14 | replace h14 := of_decide_eq_false h14 | skip
    refine CW.skip (KW.then (CW.seq (CW.block (CW.seq ?_))))
    have hE := Els.up hE0 hS.upd
    have hfl := filt_len (runP t c) b.Processes k
    refine CW.region ?_
    obtain ⟨x, hx⟩ := getElem?_of_lt (xs := b.Processes) (i := k) (by omega)
    obtain ⟨Bx, ox, ax, hcx⟩ := hE _ x hx
    refine LW.p (PEv.indexAddr' Tryz.underlying22 Tryz.sizeOf35 (.tmp rfl) (.tmp rfl) (by omega) ax) rfl rfl rfl ?_
    refine LW.p (PEv.loadA Tryz.isAgg35 Tryz.sizeOf35 rfl (.tmp rfl) (hcx)) rfl rfl rfl ?_
    refine LW.r (REv.allocA Tryz.zeroValue35) rfl rfl rfl rfl ?_
    rintro _ w3 ⟨B9, rfl, MB9⟩
    refine LW.s (SEv.storeA Tryz.sizeOf35 rfl (.tmp rfl) (.tmp rfl) (by first | rfl | exact Fact.one _ | exact GAct.one _ | exact holdCells_one _ _ | exact hold0_one | (simp [Value.oneCell'])) MB9.blk rfl) rfl rfl rfl ?_
    intro w4 LB9
    have NB9 := MB9.set LB9
    clear LB9 MB9
    have eB9 := NB9.at_
    have zB9 := NB9.size
    replace hcx := hcx.up NB9.up
    replace hS := hS.addB NB9
    change Wx.Sep _ _ _ [_, _, _] at hS
    refine LW.nil (KW.then (CW.seq (CW.region ?_)))
    refine LW.p (PEv.fieldAddr (off := 11) Tryz.underlying35 rfl rfl Tryz.sizeOf3 rfl (.tmp rfl)) rfl rfl rfl ?_
    refine LW.p (PEv.load Tryz.isAgg3 (.tmp rfl) ((hS.blk 2 rfl).celln rfl)) rfl rfl rfl ?_
    refine LW.p (PEv.move (.tmp rfl)) rfl rfl rfl ?_
    refine LW.p (PEv.eql (.tmp rfl) (.tmp rfl)) rfl rfl rfl ?_
    refine LW.p (PEv.move (.tmp rfl)) rfl rfl rfl ?_
    refine LW.g rfl rfl rfl rfl rfl rfl rfl (fun hc => PEv.fieldAddr (off := 12) Tryz.underlying35 rfl rfl Tryz.sizeOf3 rfl (.tmp rfl)) ?_
    refine LW.g rfl rfl rfl rfl rfl rfl rfl (fun hc => PEv.load Tryz.isAgg3 (by first | exact .tmp rfl | exact .cond rfl (by first | assumption | simp_all)) ((hS.blk 2 rfl).celln rfl)) ?_
    refine LW.g rfl rfl rfl rfl rfl rfl rfl (fun hc => PEv.move (.tmp rfl)) ?_
    refine LW.g rfl rfl rfl rfl rfl rfl rfl (fun hc => PEv.eql (by first | exact .tmp rfl | exact .cond rfl (by first | assumption | simp_all)) (by first | exact .tmp rfl | exact .cond rfl (by first | assumption | simp_all))) ?_
    refine LW.p (PEv.pick_and (.tmp rfl) (fun hp => (by first | exact .const _ | exact .tmp rfl | exact .cond rfl (by first | assumption | simp_all)))) rfl rfl rfl ?_
    refine LW.nil (KW.then ?_)
    refine CW.cond (.tmp rfl) (fun h26 => ?_) (fun h26 => ?_)
    ·first | replace h26 := of_decide_eq_true h26 | replace h26 := of_decide_eq_false h26 | skip
     refine CW.region (LW.p (PEv.move (.tmp rfl)) rfl rfl rfl ?_)
     refine LW.p (PEv.loadA Tryz.isAgg35 Tryz.sizeOf35 rfl (.tmp rfl) ((hS.blk 2 rfl).agg)) rfl rfl rfl ?_
     refine LW.r (REv.buildSlice (xs := [x]) (enc := Fact.cells) (mk := fun f : Fact => .agg f.cells) Tryz.underlying22 Tryz.sizeOf35 Tryz.zeroValue35 rfl (by decide) (fun _ => rfl) (fun _ => rfl) (.cons (.tmp rfl) .nil) rfl) rfl rfl rfl rfl ?_
     rintro _ w5 ⟨B29, cB29, rfl, NB29, yB29, xB29⟩
     have eB29 := NB29.at_
     have zB29 := NB29.size
     replace hS := hS.up NB29.up
     have hE29 := xB29
     refine LW.r (REv.appendF (enc := Fact.cells) (bytes := 160) (i := Tryz.t35) Tryz.underlying22 (by kernel_rfl) rfl rfl rfl rfl (by decide) (fun _ => rfl) Fact.one (.tmp rfl) (.tmp rfl) (hS.own 1 rfl) (Sl.of_els hE29) (by simp only [List.length_cons, List.length_nil, maxLen]; omega) (by simp only [List.length_cons, List.length_nil]; omega)) rfl rfl rfl rfl ?_
     intro v30 w6 Gw6
     have zw6 := Gw6.fr.size
     replace hS := hS.stp 1 rfl Gw6
     change Wx.Sep _ _ _ [_, _, _] at hS
     refine LW.p (PEv.assign (.tmp rfl)) rfl rfl rfl (LW.nil (KW.inBlock (KW.then (CW.region ?_))))
     refine LW.p (PEv.inc (.tmp rfl) (by omega)) rfl rfl rfl ?_
     refine LW.p (PEv.move (.tmp rfl)) rfl rfl rfl (LW.nil (KW.round ?_))
     first | exact ⟨(k + 1, v30), ⟨by show k + 1 ≤ _; omega, by first | (rw [fp_yes hx (show runP t c x = true from h26)]; exact hS.take 2) | (rw [fp_no hx (show runP t c x = false from h26)]; exact hS.take 2)⟩, ⟨rfl, rfl, rfl, rfl, rfl, rfl, rfl, trivial⟩, by show b.Processes.length - (k + 1) < b.Processes.length - k; omega⟩ | exact ⟨(k + 1, v), ⟨by show k + 1 ≤ _; omega, by first | (rw [fp_yes hx (show runP t c x = true from h26)]; exact hS.take 2) | (rw [fp_no hx (show runP t c x = false from h26)]; exact hS.take 2)⟩, ⟨rfl, rfl, rfl, rfl, rfl, rfl, rfl, trivial⟩, by show b.Processes.length - (k + 1) < b.Processes.length - k; omega⟩
    ·first | replace h26 := of_decide_eq_true h26 | replace h26 := of_decide_eq_false h26 | skip
     refine CW.skip (KW.inBlock (KW.then (CW.region ?_)))
     refine LW.p (PEv.inc (.tmp rfl) (by omega)) rfl rfl rfl ?_
     refine LW.p (PEv.move (.tmp rfl)) rfl rfl rfl (LW.nil (KW.round ?_))
     first | exact ⟨(k + 1, v30), ⟨by show k + 1 ≤ _; omega, by first | (rw [fp_yes hx (show runP t c x = true from h26)]; exact hS.take 2) | (rw [fp_no hx (show runP t c x = false from h26)]; exact hS.take 2)⟩, ⟨rfl, rfl, rfl, rfl, rfl, rfl, rfl, trivial⟩, by show b.Processes.length - (k + 1) < b.Processes.length - k; omega⟩ | exact ⟨(k + 1, v), ⟨by show k + 1 ≤ _; omega, by first | (rw [fp_yes hx (show runP t c x = true from h26)]; exact hS.take 2) | (rw [fp_no hx (show runP t c x = false from h26)]; exact hS.take 2)⟩, ⟨rfl, rfl, rfl, rfl, rfl, rfl, rfl, trivial⟩, by show b.Processes.length - (k + 1) < b.Processes.length - k; omega⟩
   ·first | replace h14 := of_decide_eq_true h14 | replace h14 := of_decide_eq_false h14 | skip
    refine CW.exit (KW.then_exit (KW.then_exit (KW.block_hit (KW.then (CW.seq (CW.region (LW.p (PEv.move (.tmp rfl)) rfl rfl rfl ?_)))))))
    refine LW.c (enter_call0 (.cons (.tmp rfl) (.cons (.func _) .nil)) (Tryz.en29)) rfl rfl rfl rfl (sorted_any 41 runK Tryz.en41 (fun W x => Runs1_any x W) v _ _ (hS.own 1 rfl) (by have := filt_len (runP t c) b.Processes k; omega)) ?_
    rintro _ w7 ⟨rfl, uw7⟩
    have zw7 := uw7.fr.size
    replace hS := hS.stp 1 rfl uw7
    change Wx.Sep _ _ _ [_, _] at hS
    refine LW.nil (KW.then (CW.seq (CW.region (LW.p (PEv.move (.tmp rfl)) rfl rfl rfl (LW.p (PEv.assign (.tmp rfl)) rfl rfl rfl (LW.nil (KW.then (CW.ret ?_))))))))
    refine KW.ret1 rfl rfl ⟨_, rfl, ?_⟩
    have hkl : k = b.Processes.length := by omega
    rw [hkl, List.take_length] at hS
    exact ⟨hS.own 1 rfl, hS.upd⟩

theorem equal_any (ad ad' : Option Addr) (cp cp' : Nat) (l m : List Fact) (w : World) (hE1 : Els w ad 19 Fact.cells l) (hE2 : Els w ad' 19 Fact.cells m) (hl : l.length ≤ 100000) : Ret Tryz.prog 34 #[.slice ad l.length cp, .slice ad' m.length cp'] w fun r w' => r = .bool (eqFs l m) ∧ Up w w' := by
  have hW := Up.refl w
  obtain ⟨w0, rfl⟩ : ∃ w0, w0 = w := ⟨_, rfl⟩
  refine Calls_start (n := 26) (m := 9) Tryz.func34 rfl rfl rfl ?_
  refine CW.seq (CW.region (LW.p (PEv.assign (.const _)) rfl rfl rfl (LW.nil (KW.then (CW.seq (CW.seq (CW.region (LW.p (PEv.move (.tmp rfl)) rfl rfl rfl ?_))))))))
  refine LW.p (PEv.lenS Tryz.underlying22 (.tmp rfl)) rfl rfl rfl ?_
  refine LW.p (PEv.move (.tmp rfl)) rfl rfl rfl ?_
  refine LW.p (PEv.lenS Tryz.underlying22 (.tmp rfl)) rfl rfl rfl ?_
  refine LW.p (PEv.neq (.tmp rfl) (.tmp rfl)) rfl rfl rfl ?_
  refine LW.nil (KW.then ?_)
  refine CW.cond (.tmp rfl) (fun h10 => ?_) (fun h10 => ?_)
  ·first | replace h10 := of_decide_eq_true h10 | replace h10 := of_decide_eq_false h10 | skip
   have hr : eqFs l m = false := eqFs_len (fun e => by simp [e] at h10)
   refine CW.seq (CW.region (LW.p (PEv.assign (.const _)) rfl rfl rfl (LW.nil (KW.then (CW.ret (KW.then_ret ?_))))))
   refine KW.ret1 rfl rfl ⟨_, rfl, ?_⟩
   exact ⟨by rw [hr], hW⟩
  ·first | replace h10 := of_decide_eq_true h10 | replace h10 := of_decide_eq_false h10 | skip
   have hlen : l.length = m.length := Int.ofNat.inj (show Int.ofNat _ = Int.ofNat _ from (by simpa using h10 : (l.length : Int) = m.length))
   refine CW.skip (KW.then (CW.seq (CW.seq (CW.region (LW.p (PEv.move (.tmp rfl)) rfl rfl rfl ?_)))))
   refine LW.p (PEv.lenS Tryz.underlying22 (.tmp rfl)) rfl rfl rfl ?_
   refine LW.p (PEv.move (.const _)) rfl rfl rfl ?_
   refine LW.nil (KW.then (CW.block ?_))
   refine CW.loopB (σ := Nat) (fun s w => (s ≤ l.length) ∧ (eqFs (l.drop s) (m.drop s) = eqFs l m) ∧ (Up w0 w)) (fun s => [(13, .eq (vi (s : Int)))]) ([(0, .eq _), (1, .eq _), (12, .eq _)]) (fun s => l.length - s) 0 ?_ ⟨rfl, rfl, rfl, rfl, trivial⟩ ?_
   ·exact ⟨Nat.zero_le _, rfl, hW⟩
   ·rintro k w1 ⟨hk, hn, hW⟩
    refine CW.seq (CW.region ?_)
    refine LW.p (PEv.lss (.tmp rfl) (.tmp rfl)) rfl rfl rfl ?_
    refine LW.nil (KW.then (CW.seq ?_))
    refine CW.cond (.tmp rfl) (fun h14 => ?_) (fun h14 => ?_)
    ·first | replace h14 := of_decide_eq_true h14 | replace h14 := of_decide_eq_false h14 | skip
     refine CW.skip (KW.then (CW.seq (CW.block (CW.seq (CW.region (LW.p (PEv.move (.tmp rfl)) rfl rfl rfl (LW.p (PEv.assign (.tmp rfl)) rfl rfl rfl (LW.nil (KW.then (CW.seq ?_))))))))))
     obtain ⟨x, hx⟩ := getElem?_of_lt (xs := l) (i := k) (by omega)
     obtain ⟨y, hy⟩ := getElem?_of_lt (xs := m) (i := k) (by omega)
     obtain ⟨B, o, had, hcx⟩ := (Els.up hE1 hW) k x hx
     obtain ⟨B', o', had', hcy⟩ := (Els.up hE2 hW) k y hy
     refine CW.draws (by kernel_rfl) (by kernel_rfl) rfl rfl ?_
     refine HW.p (PEv.move (.tmp rfl)) rfl rfl ?_
     refine HW.p (PEv.move (.tmp rfl)) rfl rfl ?_
     refine HW.p (PEv.indexAddr' Tryz.underlying22 Tryz.sizeOf35 (.tmp rfl) (.tmp rfl) (by omega) had) rfl rfl ?_
     refine HW.p (PEv.loadA Tryz.isAgg35 Tryz.sizeOf35 rfl (.tmp rfl) (hcx)) rfl rfl ?_
     refine HW.p (PEv.move (.tmp rfl)) rfl rfl ?_
     refine HW.p (PEv.move (.tmp rfl)) rfl rfl ?_
     refine HW.p (PEv.indexAddr' Tryz.underlying22 Tryz.sizeOf35 (.tmp rfl) (.tmp rfl) (by omega) had') rfl rfl ?_
     refine HW.p (PEv.loadA Tryz.isAgg35 Tryz.sizeOf35 rfl (.tmp rfl) (hcy)) rfl rfl ?_
     refine HW.p (PEv.neqA Tryz.eqGuardType35 (Tryz.eqFact _ _) (.tmp rfl) (.tmp rfl)) rfl rfl ?_
     refine HW.nil ?_
     intro w2 uw2
     have zw2 := uw2.size
     replace hW := hW.up uw2
     refine KW.then ?_
     refine CW.cond (.tmp rfl) (fun h24 => ?_) (fun h24 => ?_)
     ·first | replace h24 := of_decide_eq_true h24 | replace h24 := of_decide_eq_false h24 | skip
      have hr : eqFs l m = false := by rw [← hn, eqFs_step hx hy, show Fact.eqb x y = false by simpa using h24]; rfl
      refine CW.seq (CW.region (LW.p (PEv.assign (.const _)) rfl rfl rfl (LW.nil (KW.then (CW.ret (KW.block_ret (KW.then_ret (KW.then_ret (KW.block_ret (KW.then_ret ?_))))))))))
      refine KW.ret1 rfl rfl ⟨_, rfl, ?_⟩
      exact ⟨by rw [hr], hW⟩
     ·first | replace h24 := of_decide_eq_true h24 | replace h24 := of_decide_eq_false h24 | skip
      refine CW.skip (KW.inBlock (KW.then (CW.region ?_)))
      refine LW.p (PEv.inc (.tmp rfl) (by omega)) rfl rfl rfl ?_
      refine LW.p (PEv.move (.tmp rfl)) rfl rfl rfl (LW.nil (KW.round ?_))
      exact ⟨k + 1, ⟨by omega, by rw [← hn, eqFs_step hx hy, show Fact.eqb x y = true by simpa using h24]; rfl, hW⟩, ⟨rfl, rfl, rfl, rfl, trivial⟩, by first | omega | (dsimp only; omega)⟩
    ·first | replace h14 := of_decide_eq_true h14 | replace h14 := of_decide_eq_false h14 | skip
     have hr : eqFs l m = true := by rw [← hn]; exact eqFs_end (by omega) (by omega)
     refine CW.exit (KW.then_exit (KW.then_exit (KW.block_hit (KW.then (CW.seq (CW.region (LW.p (PEv.assign (.const _)) rfl rfl rfl (LW.nil (KW.then (CW.ret ?_))))))))))
     refine KW.ret1 rfl rfl ⟨_, rfl, ?_⟩
     exact ⟨by rw [hr], hW⟩

theorem sameFacts_any (ad ad' : Option Addr) (cp cp' : Nat) (l m : List Fact) (w : World) (hE1 : Els w ad 19 Fact.cells l) (hE2 : Els w ad' 19 Fact.cells m) (hl : l.length ≤ 100000) : Ret Tryz.prog 22 #[.slice ad l.length cp, .slice ad' m.length cp'] w fun r w' => r = .bool (eqFs l m) ∧ Up w w' := by
  have hW := Up.refl w
  obtain ⟨w0, rfl⟩ : ∃ w0, w0 = w := ⟨_, rfl⟩
  refine Calls_start (n := 26) (m := 9) Tryz.func22 rfl rfl rfl ?_
  refine CW.seq (CW.region (LW.p (PEv.assign (.const _)) rfl rfl rfl (LW.nil (KW.then (CW.seq (CW.seq (CW.region (LW.p (PEv.move (.tmp rfl)) rfl rfl rfl ?_))))))))
  refine LW.p (PEv.lenS Tryz.underlying22 (.tmp rfl)) rfl rfl rfl ?_
  refine LW.p (PEv.move (.tmp rfl)) rfl rfl rfl ?_
  refine LW.p (PEv.lenS Tryz.underlying22 (.tmp rfl)) rfl rfl rfl ?_
  refine LW.p (PEv.neq (.tmp rfl) (.tmp rfl)) rfl rfl rfl ?_
  refine LW.nil (KW.then ?_)
  refine CW.cond (.tmp rfl) (fun h10 => ?_) (fun h10 => ?_)
  ·first | replace h10 := of_decide_eq_true h10 | replace h10 := of_decide_eq_false h10 | skip
   have hr : eqFs l m = false := eqFs_len (fun e => by simp [e] at h10)
   refine CW.seq (CW.region (LW.p (PEv.assign (.const _)) rfl rfl rfl (LW.nil (KW.then (CW.ret (KW.then_ret ?_))))))
   refine KW.ret1 rfl rfl ⟨_, rfl, ?_⟩
   exact ⟨by rw [hr], hW⟩
  ·first | replace h10 := of_decide_eq_true h10 | replace h10 := of_decide_eq_false h10 | skip
   have hlen : l.length = m.length := Int.ofNat.inj (show Int.ofNat _ = Int.ofNat _ from (by simpa using h10 : (l.length : Int) = m.length))
   refine CW.skip (KW.then (CW.seq (CW.seq (CW.region (LW.p (PEv.assign (.const _)) rfl rfl rfl (LW.nil (KW.then (CW.block ?_))))))))
   refine CW.loopB (σ := Nat) (fun s w => (s ≤ l.length) ∧ (eqFs (l.drop s) (m.drop s) = eqFs l m) ∧ (Up w0 w)) (fun s => [(5, .eq (vi (s : Int)))]) ([(0, .eq _), (1, .eq _)]) (fun s => l.length - s) 0 ?_ ⟨rfl, rfl, rfl, trivial⟩ ?_
   ·exact ⟨Nat.zero_le _, rfl, hW⟩
   ·rintro k w1 ⟨hk, hn, hW⟩
    refine CW.seq (CW.seq (CW.region (LW.p (PEv.move (.tmp rfl)) rfl rfl rfl (LW.p (PEv.move (.tmp rfl)) rfl rfl rfl ?_))))
    refine LW.p (PEv.lenS Tryz.underlying22 (.tmp rfl)) rfl rfl rfl ?_
    refine LW.p (PEv.lss (.tmp rfl) (.tmp rfl)) rfl rfl rfl ?_
    refine LW.nil (KW.then ?_)
    refine CW.cond (.tmp rfl) (fun h14 => ?_) (fun h14 => ?_)
    ·first | replace h14 := of_decide_eq_true h14 | replace h14 := of_decide_eq_false h14 | skip
     refine CW.skip (KW.then (CW.seq (CW.block (CW.seq ?_))))
     obtain ⟨x, hx⟩ := getElem?_of_lt (xs := l) (i := k) (by omega)
     obtain ⟨y, hy⟩ := getElem?_of_lt (xs := m) (i := k) (by omega)
     obtain ⟨B, o, had, hcx⟩ := (Els.up hE1 hW) k x hx
     obtain ⟨B', o', had', hcy⟩ := (Els.up hE2 hW) k y hy
     refine CW.draws (by kernel_rfl) (by kernel_rfl) rfl rfl ?_
     refine HW.p (PEv.move (.tmp rfl)) rfl rfl ?_
     refine HW.p (PEv.move (.tmp rfl)) rfl rfl ?_
     refine HW.p (PEv.indexAddr' Tryz.underlying22 Tryz.sizeOf35 (.tmp rfl) (.tmp rfl) (by omega) had) rfl rfl ?_
     refine HW.p (PEv.loadA Tryz.isAgg35 Tryz.sizeOf35 rfl (.tmp rfl) (hcx)) rfl rfl ?_
     refine HW.p (PEv.move (.tmp rfl)) rfl rfl ?_
     refine HW.p (PEv.move (.tmp rfl)) rfl rfl ?_
     refine HW.p (PEv.indexAddr' Tryz.underlying22 Tryz.sizeOf35 (.tmp rfl) (.tmp rfl) (by omega) had') rfl rfl ?_
     refine HW.p (PEv.loadA Tryz.isAgg35 Tryz.sizeOf35 rfl (.tmp rfl) (hcy)) rfl rfl ?_
     refine HW.p (PEv.neqA Tryz.eqGuardType35 (Tryz.eqFact _ _) (.tmp rfl) (.tmp rfl)) rfl rfl ?_
     refine HW.nil ?_
     intro w2 uw2
     have zw2 := uw2.size
     replace hW := hW.up uw2
     refine KW.then ?_
     refine CW.cond (.tmp rfl) (fun h25 => ?_) (fun h25 => ?_)
     ·first | replace h25 := of_decide_eq_true h25 | replace h25 := of_decide_eq_false h25 | skip
      have hr : eqFs l m = false := by rw [← hn, eqFs_step hx hy, show Fact.eqb x y = false by simpa using h25]; rfl
      refine CW.seq (CW.region (LW.p (PEv.assign (.const _)) rfl rfl rfl (LW.nil (KW.then (CW.ret (KW.block_ret (KW.then_ret (KW.then_ret (KW.block_ret (KW.then_ret ?_))))))))))
      refine KW.ret1 rfl rfl ⟨_, rfl, ?_⟩
      exact ⟨by rw [hr], hW⟩
     ·first | replace h25 := of_decide_eq_true h25 | replace h25 := of_decide_eq_false h25 | skip
      refine CW.skip (KW.inBlock (KW.then (CW.region (LW.p (PEv.move (.tmp rfl)) rfl rfl rfl ?_))))
      refine LW.p (PEv.inc (.tmp rfl) (by omega)) rfl rfl rfl ?_
      refine LW.p (PEv.assign (.tmp rfl)) rfl rfl rfl (LW.nil (KW.round ?_))
      exact ⟨k + 1, ⟨by omega, by rw [← hn, eqFs_step hx hy, show Fact.eqb x y = true by simpa using h25]; rfl, hW⟩, ⟨rfl, rfl, rfl, trivial⟩, by first | omega | (dsimp only; omega)⟩
    ·first | replace h14 := of_decide_eq_true h14 | replace h14 := of_decide_eq_false h14 | skip
     have hr : eqFs l m = true := by rw [← hn]; exact eqFs_end (by omega) (by omega)
     refine CW.exit (KW.then_exit (KW.then_exit (KW.block_hit (KW.then (CW.seq (CW.region (LW.p (PEv.assign (.const _)) rfl rfl rfl (LW.nil (KW.then (CW.ret ?_))))))))))
     refine KW.ret1 rfl rfl ⟨_, rfl, ?_⟩
     exact ⟨by rw [hr], hW⟩

theorem pick_any (c n : Int) (w : World) (hn : n ≠ 0) : Ret Tryz.prog 8 #[vi c, vi n] w fun r w' => r = vi (pickI c n) ∧ Up w w' := by
  have hW := Up.refl w
  refine Calls_start (n := 13) (m := 9) Tryz.func8 rfl rfl rfl ?_
  refine CW.seq (CW.region (LW.p (PEv.assign (.const _)) rfl rfl rfl (LW.nil (KW.then (CW.seq (CW.seq (CW.region (LW.p (PEv.move (.tmp rfl)) rfl rfl rfl ?_))))))))
  refine LW.p (PEv.lss (.tmp rfl) (.const _)) rfl rfl rfl ?_
  refine LW.nil (KW.then ?_)
  refine CW.cond (.tmp rfl) (fun h6 => ?_) (fun h6 => ?_)
  ·first | replace h6 := of_decide_eq_true h6 | replace h6 := of_decide_eq_false h6 | skip
   refine CW.region (LW.p (PEv.move (.tmp rfl)) rfl rfl rfl ?_)
   refine LW.p (PEv.add_w (.tmp rfl) (.const _)) rfl rfl rfl ?_
   refine LW.p (PEv.neg Tryz.underlying3 (.tmp rfl)) rfl rfl rfl ?_
   refine LW.p (PEv.assign (.tmp rfl)) rfl rfl rfl (LW.nil (KW.then (CW.seq (CW.region (LW.p (PEv.move (.tmp rfl)) rfl rfl rfl (LW.p (PEv.move (.tmp rfl)) rfl rfl rfl ?_))))))
   refine LW.p (PEv.rem (.tmp rfl) (.tmp rfl) (by omega)) rfl rfl rfl ?_
   refine LW.p (PEv.assign (.tmp rfl)) rfl rfl rfl (LW.nil (KW.then (CW.ret ?_)))
   refine KW.ret1 rfl rfl ⟨_, rfl, ?_⟩
   exact ⟨by first | (rw [pickI, if_pos h6]) | (rw [pickI, if_neg (by omega)]), hW⟩
  ·first | replace h6 := of_decide_eq_true h6 | replace h6 := of_decide_eq_false h6 | skip
   refine CW.skip (KW.then (CW.seq (CW.region (LW.p (PEv.move (.tmp rfl)) rfl rfl rfl (LW.p (PEv.move (.tmp rfl)) rfl rfl rfl ?_)))))
   refine LW.p (PEv.rem (.tmp rfl) (.tmp rfl) (by omega)) rfl rfl rfl ?_
   refine LW.p (PEv.assign (.tmp rfl)) rfl rfl rfl (LW.nil (KW.then (CW.ret ?_)))
   refine KW.ret1 rfl rfl ⟨_, rfl, ?_⟩
   exact ⟨by first | (rw [pickI, if_pos h6]) | (rw [pickI, if_neg (by omega)]), hW⟩

theorem few_any (ad : Option Addr) (cp n : Nat) (l : List Fact) (w : World) (hE : Els w ad 19 Fact.cells l) (hn : n ≤ 1000) : Ret Tryz.prog 6 #[.slice ad l.length cp, vi (n : Int)] w fun r w' => OwnS w' w.heap.size 35 19 Fact.cells r (fewL n l) ∧ Up w w' := by
  have hW := Up.refl w
  obtain ⟨w0, rfl⟩ : ∃ w0, w0 = w := ⟨_, rfl⟩
  refine Calls_start (n := 36) (m := 9) Tryz.func6 rfl rfl rfl ?_
  refine CW.seq (CW.region (LW.p (PEv.assign (.const _)) rfl rfl rfl (LW.nil (KW.then (CW.seq (CW.region (LW.p (PEv.assign (.const _)) rfl rfl rfl (LW.nil (KW.then (CW.seq (CW.seq (CW.region (LW.p (PEv.assign (.const _)) rfl rfl rfl ?_)))))))))))))
  refine LW.nil (KW.then (CW.block ?_))
  refine CW.loop (σ := Nat × Value) (fun s w => (s.1 ≤ l.length ∧ s.1 ≤ n) ∧ OwnS w w0.heap.size 35 19 Fact.cells s.2 ((l.take s.1).map cutF) ∧ Up w0 w) (fun s => [(0, .eq (.slice ad l.length cp)), (1, .eq (vi (n : Int))), (5, .eq s.2), (6, .eq (vi (s.1 : Int)))]) (fun s => l.length - s.1) (0, .slice none 0 0) ?_ ?_ ?_
  ·exact ⟨⟨Nat.zero_le _, by show 0 ≤ n; omega⟩, OwnS.nil _ _ _ _ _, hW⟩
  ·exact ⟨rfl, rfl, rfl, rfl, trivial⟩
  ·rintro ⟨k, v⟩ w1 ⟨⟨hk, hk40⟩, hO, hW⟩
   dsimp only at hk hk40 hO
   have zW := hW.size
   refine CW.seq (CW.seq (CW.region (LW.p (PEv.move (.tmp rfl)) rfl rfl rfl (LW.p (PEv.move (.tmp rfl)) rfl rfl rfl ?_))))
   refine LW.p (PEv.lenS Tryz.underlying22 (.tmp rfl)) rfl rfl rfl ?_
   refine LW.p (PEv.lss (.tmp rfl) (.tmp rfl)) rfl rfl rfl ?_
   refine LW.p (PEv.move (.tmp rfl)) rfl rfl rfl ?_
   refine LW.g rfl rfl rfl rfl rfl rfl rfl (fun hc => PEv.move (.tmp rfl)) ?_
   refine LW.g rfl rfl rfl rfl rfl rfl rfl (fun hc => PEv.move (.tmp rfl)) ?_
   refine LW.g rfl rfl rfl rfl rfl rfl rfl (fun hc => PEv.lss (by first | exact .tmp rfl | exact .cond rfl (by first | assumption | simp_all)) (by first | exact .tmp rfl | exact .cond rfl (by first | assumption | simp_all))) ?_
   refine LW.p (PEv.pick_and (.tmp rfl) (fun hp => (by first | exact .const _ | exact .tmp rfl | exact .cond rfl (by first | assumption | simp_all)))) rfl rfl rfl ?_
   refine LW.nil (KW.then ?_)
   refine CW.cond (.tmp rfl) (fun h16 => ?_) (fun h16 => ?_)
   ·first | replace h16 := of_decide_eq_true h16 | replace h16 := of_decide_eq_false h16 | skip
    have hk1 : k < l.length ∧ k < n := by simp at h16; omega
    refine CW.skip (KW.then (CW.seq (CW.block (CW.seq ?_))))
    obtain ⟨x, hx⟩ := getElem?_of_lt (xs := l) (i := k) (by omega)
    obtain ⟨B, o, had, hc0⟩ := hE k x hx
    have hcell := hc0.up hW
    have hlen : ((l.take k).map cutF).length = k := by rw [List.length_map, List.length_take]; omega
    have hO4 := hO
    have hU4 := Up.refl w1
    refine CW.region (LW.p (PEv.move (.tmp rfl)) rfl rfl rfl (LW.p (PEv.move (.tmp rfl)) rfl rfl rfl ?_))
    refine LW.p (PEv.indexAddr' Tryz.underlying22 Tryz.sizeOf35 (.tmp rfl) (.tmp rfl) (by omega) had) rfl rfl rfl ?_
    refine LW.p (PEv.loadA Tryz.isAgg35 Tryz.sizeOf35 rfl (.tmp rfl) (hcell)) rfl rfl rfl ?_
    refine LW.r (REv.allocA Tryz.zeroValue35) rfl rfl rfl rfl ?_
    rintro _ w2 ⟨B7, rfl, MB7⟩
    refine LW.s (SEv.storeA Tryz.sizeOf35 rfl (.tmp rfl) (.tmp rfl) (by first | rfl | exact Fact.one _ | exact GAct.one _ | exact holdCells_one _ _ | exact hold0_one | (simp [Value.oneCell'])) MB7.blk rfl) rfl rfl rfl ?_
    intro w3 LB7
    have NB7 := MB7.set LB7
    clear LB7 MB7
    have eB7 := NB7.at_
    have zB7 := NB7.size
    replace hW := hW.up NB7.up
    replace hU4 := hU4.up NB7.up
    have hB7 := NB7.blk
    refine LW.nil (KW.then (CW.seq (CW.region ?_)))
    refine LW.p (PEv.fieldAddr (off := 18) Tryz.underlying35 rfl rfl Tryz.sizeOf9 rfl (.tmp rfl)) rfl rfl rfl ?_
    refine LW.p (PEv.load Tryz.isAgg9 (.tmp rfl) (hB7.celln rfl)) rfl rfl rfl ?_
    refine LW.p (PEv.fieldAddr (off := 18) Tryz.underlying35 rfl rfl Tryz.sizeOf9 rfl (.tmp rfl)) rfl rfl rfl ?_
    refine LW.p (PEv.load Tryz.isAgg9 (.tmp rfl) (hB7.celln rfl)) rfl rfl rfl ?_
    refine LW.p (PEv.lenStr Tryz.underlying9 (.tmp rfl)) rfl rfl rfl ?_
    refine LW.p (PEv.min2 (.tmp rfl) (.const _)) rfl rfl rfl ?_
    refine LW.p (PEv.strTo Tryz.underlying9 (.tmp rfl) (.tmp rfl) (by split <;> omega) (by split <;> omega)) rfl rfl rfl ?_
    refine LW.p (PEv.fieldAddr (off := 18) Tryz.underlying35 rfl rfl Tryz.sizeOf9 rfl (.tmp rfl)) rfl rfl rfl ?_
    refine LW.s (SEv.store Tryz.sizeOf9 (.tmp rfl) (.tmp rfl) rfl hB7 (Nat.le_of_ble_eq_true rfl)) rfl rfl rfl ?_
    intro w4 Nw4
    have zw4 := Nw4.size
    replace hW := hW.sto Nw4.sto (by omega)
    replace hU4 := hU4.sto Nw4.sto (by omega)
    replace hB7 := Nw4.blk
    replace hB7 : Blk w4 B7 (cutF x).cells _ := hB7
    refine LW.nil (KW.then ?_)
    have hO := hO4.up hU4
    refine CW.region (LW.p (PEv.move (.tmp rfl)) rfl rfl rfl ?_)
    refine LW.p (PEv.loadA Tryz.isAgg35 Tryz.sizeOf35 rfl (.tmp rfl) (hB7.agg)) rfl rfl rfl ?_
    refine LW.r (REv.buildSlice (xs := [cutF x]) (enc := Fact.cells) (mk := fun f : Fact => .agg f.cells) Tryz.underlying22 Tryz.sizeOf35 Tryz.zeroValue35 rfl (by decide) (fun _ => rfl) (fun _ => rfl) (.cons (.tmp rfl) .nil) rfl) rfl rfl rfl rfl ?_
    rintro _ w5 ⟨B33, cB33, rfl, NB33, yB33, xB33⟩
    have eB33 := NB33.at_
    have zB33 := NB33.size
    replace hW := hW.up NB33.up
    replace hB7 := hB7.up NB33.up
    replace hO := hO.up NB33.up
    have hB33 := NB33.blk
    have hE33 := xB33
    refine LW.r (REv.append (enc := Fact.cells) (base := w0.heap.size) (bytes := 160) (i := Tryz.t35) Tryz.underlying22 (by kernel_rfl) rfl rfl rfl rfl (by decide) (fun _ => rfl) Fact.one (.tmp rfl) (.tmp rfl) hO (Sl.of_els hE33) (by simp) (by rw [hlen]; simp [maxLen]; omega) (by rw [hlen]; simp; omega) (by omega)) rfl rfl rfl rfl ?_
    rintro v34 w6 ⟨Ow6, Gw6⟩
    have zw6 := Gw6.size
    replace hW := hW.gr Gw6 (by omega)
    replace hO := Ow6
    refine LW.p (PEv.assign (.tmp rfl)) rfl rfl rfl (LW.nil (KW.inBlock (KW.then (CW.region (LW.p (PEv.move (.tmp rfl)) rfl rfl rfl ?_)))))
    refine LW.p (PEv.inc (.tmp rfl) (by omega)) rfl rfl rfl ?_
    refine LW.p (PEv.assign (.tmp rfl)) rfl rfl rfl (LW.nil (KW.round ?_))
    exact ⟨(k + 1, v34), ⟨⟨by omega, by omega⟩, by rw [cut_snoc hx]; exact hO, hW⟩, ⟨rfl, rfl, rfl, rfl, trivial⟩, by dsimp only; omega⟩
   ·first | replace h16 := of_decide_eq_true h16 | replace h16 := of_decide_eq_false h16 | skip
    have hr : (l.take k).map cutF = fewL n l := few_end hk hk40 (by simp at h16 ⊢; intro h; have := h16 h; omega)
    refine CW.exit (KW.then_exit (KW.then_exit (KW.block_hit (KW.then (CW.seq (CW.region (LW.p (PEv.move (.tmp rfl)) rfl rfl rfl (LW.p (PEv.assign (.tmp rfl)) rfl rfl rfl (LW.nil (KW.then (CW.ret ?_)))))))))))
    refine KW.ret1 rfl rfl ⟨_, rfl, ?_⟩
    exact ⟨hr ▸ hO, hW⟩

theorem target_any (t v e d : Int) (g : Bool) (w : World) : Ret Tryz.prog 25 #[vi t, vi v, vi e, vi d, .bool g] w fun r w' => r = .agg (tgt t v e d g).cells ∧ Up w w' := by
  have hW := Up.refl w
  obtain ⟨w0, rfl⟩ : ∃ w0, w0 = w := ⟨_, rfl⟩
  refine Calls_start (n := 17) (m := 9) Tryz.func25 rfl rfl rfl ?_
  refine CW.seq (CW.region ?_)
  refine LW.r (REv.allocA Tryz.zeroValue35) rfl rfl rfl rfl ?_
  rintro _ w1 ⟨B10, rfl, NB10⟩
  have eB10 := NB10.at_
  have zB10 := NB10.size
  replace hW := hW.up NB10.up
  have hB10 := NB10.blk
  refine LW.nil (KW.then (CW.seq (CW.region (LW.p (PEv.move (.tmp rfl)) rfl rfl rfl (LW.p (PEv.move (.tmp rfl)) rfl rfl rfl (LW.p (PEv.move (.tmp rfl)) rfl rfl rfl (LW.p (PEv.move (.tmp rfl)) rfl rfl rfl (LW.p (PEv.move (.tmp rfl)) rfl rfl rfl ?_))))))))
  refine LW.p (PEv.build (cs := (tgt t v e d g).cells) Tryz.underlying35 Tryz.zeroValue35 Tryz.places35 (.cons (.const _) (.cons (.const _) (.cons (.tmp rfl) (.cons (.tmp rfl) (.cons (.tmp rfl) (.cons (.tmp rfl) (.cons (.tmp rfl) .nil))))))) rfl) rfl rfl rfl ?_
  refine LW.s (SEv.storeA Tryz.sizeOf35 rfl (.tmp rfl) (.tmp rfl) (by first | rfl | exact Fact.one _ | exact GAct.one _ | exact holdCells_one _ _ | exact hold0_one | (simp [Value.oneCell'])) hB10 rfl) rfl rfl rfl ?_
  intro w2 Nw2
  have zw2 := Nw2.size
  replace hW := hW.sto Nw2.sto (by omega)
  replace hB10 := Nw2.blk
  refine LW.nil (KW.then (CW.ret ?_))
  refine KW.retA rfl rfl Tryz.isAgg35 Tryz.sizeOf35 rfl (hB10.agg) ⟨_, rfl, ?_⟩
  exact ⟨rfl, hW⟩

end Go.Proofs.YtdelcaegofkknaaGreat

-- Ba25
namespace Go.Wx

def lstOf (b : Base) (j : Nat) : List Fact := [b.Processes, b.Measures, b.Swaps, b.Lots, b.Flows, b.Qualified, b.Holds, b.Releases, b.Resets, b.Targets, b.Gaps].getD j []
theorem eleven_cases {j : Nat} (h : j < 11) : j = 0 ∨ j = 1 ∨ j = 2 ∨ j = 3 ∨ j = 4 ∨ j = 5 ∨ j = 6 ∨ j = 7 ∨ j = 8 ∨ j = 9 ∨ j = 10 := by omega
theorem BaseC.at_ {w : World} {bc : Array Go.Value} {b : Base} (h : BaseC w bc b) {j : Nat} (hj : j < 11) : ∃ v, bc[j]? = some v ∧ Sl w v 19 Fact.cells (lstOf b j) := by
  obtain ⟨v0, v1, v2, v3, v4, v5, v6, v7, v8, v9, v10, e, h0, h1, h2, h3, h4, h5, h6, h7, h8, h9, h10⟩ := h
  subst e
  rcases eleven_cases hj with rfl | rfl | rfl | rfl | rfl | rfl | rfl | rfl | rfl | rfl | rfl
  · exact ⟨v0, rfl, h0⟩
  · exact ⟨v1, rfl, h1⟩
  · exact ⟨v2, rfl, h2⟩
  · exact ⟨v3, rfl, h3⟩
  · exact ⟨v4, rfl, h4⟩
  · exact ⟨v5, rfl, h5⟩
  · exact ⟨v6, rfl, h6⟩
  · exact ⟨v7, rfl, h7⟩
  · exact ⟨v8, rfl, h8⟩
  · exact ⟨v9, rfl, h9⟩
  · exact ⟨v10, rfl, h10⟩
def sameB (b c : Base) : Bool := (List.range 11).all fun j => eqFs (lstOf b j) (lstOf c j)
theorem sameB_no {b c : Base} {j : Nat} (hj : j < 11) (h : eqFs (lstOf b j) (lstOf c j) = false) : sameB b c = false := by
  unfold sameB
  rw [List.all_eq_false]
  exact ⟨j, List.mem_range.2 hj, by rw [h]; exact Bool.false_ne_true⟩
theorem sameB_yes {b c : Base} (h : ∀ j, j < 11 → eqFs (lstOf b j) (lstOf c j) = true) : sameB b c = true := by
  unfold sameB
  rw [List.all_eq_true]
  exact fun j hj => h j (List.mem_range.1 hj)
def short (b : Base) : Prop := ∀ j, (lstOf b j).length ≤ 100000
abbrev Sl3 := Option Addr × Nat × Nat
def eSl (s : Sl3) : Array Go.Value := #[.slice s.1 s.2.1 s.2.2]
def LstsE (w : World) (ss : List Sl3) (b : Base) : Prop := ss.length = 11 ∧ ∀ j, j < 11 → ∃ s, ss[j]? = some s ∧ s.2.1 = (lstOf b j).length ∧ Els w s.1 19 Fact.cells (lstOf b j)
theorem LstsE.up {w w' : World} {ss : List Sl3} {b : Base} (h : LstsE w ss b) (u : Up w w') : LstsE w' ss b := ⟨h.1, fun j hj => let ⟨s, h1, h2, h3⟩ := h.2 j hj; ⟨s, h1, h2, Els.up h3 u⟩⟩

end Go.Wx
namespace Go.Proofs.YtdelcaegofkknaaGreat
open Go.Wx Go.RowKit
set_option maxHeartbeats 2000000 in
theorem Same_any (bc bc' : Array Go.Value) (b c : Base) (w : World) (hC : BaseC w bc b) (hC' : BaseC w bc' c) (hlb : short b) : Ret Tryz.prog 11 #[.agg bc, .agg bc'] w fun r w' => r = .bool (sameB b c) ∧ Up w w' := by
  obtain ⟨w0, rfl⟩ : ∃ w0, w0 = w := ⟨_, rfl⟩
  have hS := Sep.start no w0
  refine Calls_start (n := 25) (m := 9) Tryz.func11 rfl rfl rfl ?_
  refine CW.seq (CW.region ?_)
  refine LW.r (REv.boxA (.tmp rfl)) rfl rfl rfl rfl ?_
  rintro _ w1 ⟨B2, rfl, NB2⟩
  have eB2 := NB2.at_
  have zB2 := NB2.size
  replace hS := hS.addB NB2
  change Wx.Sep _ _ _ [_] at hS
  refine LW.r (REv.boxA (.tmp rfl)) rfl rfl rfl rfl ?_
  rintro _ w2 ⟨B3, rfl, NB3⟩
  have eB3 := NB3.at_
  have zB3 := NB3.size
  replace hS := hS.addB NB3
  change Wx.Sep _ _ _ [_, _] at hS
  refine LW.p (PEv.assign (.const _)) rfl rfl rfl (LW.nil (KW.then (CW.seq (CW.seq (CW.region ?_)))))
  refine LW.c (enter_call0 .nil (Tryz.en28)) rfl rfl rfl rfl (kinds_any _) ?_
  rintro _ w3 ⟨bk, rfl, hKm, hKb, uw3⟩
  have zw3 := uw3.size
  replace hS := hS.add uw3 (A' := aIMap bk (keyT KdV 11)) (hKm) (fun i (e : i = bk) => by omega)
  change Wx.Sep _ _ _ [_, _, _] at hS
  refine LW.r (REv.range Tryz.underlying48 (.tmp rfl) (hS.get 2 rfl)) rfl rfl rfl rfl ?_
  rintro _ w4 ⟨r8, rfl, hR_, uR, eR, zR⟩
  replace hS := hS.stp 2 rfl (stp_range hR_ uR eR)
  change Wx.Sep _ _ _ [_, _, _] at hS
  clear hR_
  refine LW.nil (KW.then (CW.block ?_))
  refine CW.loopB (σ := List Int) (fun s w => (s.Nodup ∧ ∀ k ∈ s, 1 ≤ k ∧ k ≤ 11) ∧ (∀ j : Nat, ((j + 1 : Nat) : Int) ∈ s → eqFs (lstOf b j) (lstOf c j) = true) ∧ (Wx.Sep no w0 w [aBlk B2 (bc) 26, aBlk B3 (bc') 26, aIRng bk r8 (keyT KdV 11) s])) (fun s => []) ([(2, .eq _), (3, .eq _), (8, .eq _)]) (fun s => 11 - s.length) [] ?_ ⟨rfl, rfl, rfl, trivial⟩ ?_
  ·exact ⟨⟨List.nodup_nil, fun k h => by simp at h⟩, fun j h => by simp at h, hS⟩
  ·rintro dn w5 ⟨hdk, hall, hS⟩
   refine CW.seq (CW.region ?_)
   refine LW.r (REv.next (.tmp rfl) (hS.get 2 rfl)) rfl rfl rfl rfl ?_
   rintro _ w6 (⟨rfl, rfl, hPm⟩ | ⟨kk, u0, rfl, hNx⟩)
   ·skip
    refine LW.p (PEv.extract (.tmp rfl) rfl) rfl rfl rfl (LW.nil (KW.then (CW.seq ?_)))
    refine CW.cond_false (.tmp rfl) ?_
    refine CW.exit (KW.then_exit (KW.then_exit (KW.block_hit (KW.then (CW.seq (CW.region (LW.p (PEv.assign (.const _)) rfl rfl rfl (LW.nil (KW.then (CW.ret ?_))))))))))
    refine KW.ret1 rfl rfl ⟨_, rfl, ?_⟩
    first | exact ⟨by rw [hr], hS.upd⟩ | exact ⟨by rw [show sameB b c = true from sameB_yes (fun k hk => hall k (hPm.symm.subset (List.mem_map.2 ⟨(((k + 1 : Nat) : Int), KdV ((k + 1 : Nat) : Int)), keyT_mem.2 ⟨by omega, by omega, rfl⟩, rfl⟩)))], hS.upd⟩
   ·skip
    have zw6 := hNx.size
    replace hS := hS.stp 2 rfl (stp_next hNx)
    change Wx.Sep _ _ _ [_, _, _] at hS
    obtain ⟨hk1, hk2, hu0⟩ := keyT_mem.1 hNx.mem
    subst hu0
    have hfr2 := hNx.fresh
    have hkk1 : 1 ≤ kk ∧ kk ≤ 11 := ⟨hk1, by omega⟩
    replace hk2 : kk ≤ 11 := by omega
    obtain ⟨j, hj⟩ : ∃ j, j = (kk - 1).toNat := ⟨_, rfl⟩
    have hj11 : j < 11 := by omega
    have hkk2 : kk = ((j + 1 : Nat) : Int) := by omega
    have hdk2 : (dn ++ [kk]).Nodup ∧ ∀ k ∈ dn ++ [kk], 1 ≤ k ∧ k ≤ 11 := ⟨List.nodup_append.2 ⟨hdk.1, by simp, fun a ha c hc => by simp at hc; subst hc; exact fun e => hfr2 (e ▸ ha)⟩, fun k hk => (List.mem_append.1 hk).elim (hdk.2 k) (fun h => by cases List.mem_singleton.1 h; exact hkk1)⟩
    obtain ⟨_, hv1, ad1, cp1, rfl, hE1⟩ := hC.at_ hj11
    obtain ⟨_, hv2, ad2, cp2, rfl, hE2⟩ := hC'.at_ hj11
    refine LW.p (PEv.extract (.tmp rfl) rfl) rfl rfl rfl (LW.nil (KW.then (CW.seq ?_)))
    refine CW.cond_true (.tmp rfl) ?_
    refine CW.skip (KW.then (CW.block (CW.seq (CW.region ?_))))
    refine LW.r (REv.entry (.tmp rfl) hNx.entry) rfl rfl rfl rfl ?_
    rintro _ _ ⟨rfl, rfl⟩
    refine LW.p (PEv.val (v' := .agg #[.func (.func (listFn kk)) #[] #[], .func (.func (ordFn kk)) #[] #[]]) (PEv.extract (.tmp rfl) rfl) rfl) rfl rfl rfl ?_
    refine LW.r (REv.allocA Tryz.zeroValue54) rfl rfl rfl rfl ?_
    rintro _ w7 ⟨B6, rfl, MB6⟩
    refine LW.s (SEv.storeA Tryz.sizeOf54 rfl (.tmp rfl) (.tmp rfl) (by first | rfl | exact Fact.one _ | exact GAct.one _ | exact holdCells_one _ _ | exact hold0_one | (simp [Value.oneCell'])) MB6.blk rfl) rfl rfl rfl ?_
    intro w8 LB6
    have NB6 := MB6.set LB6
    clear LB6 MB6
    have eB6 := NB6.at_
    have zB6 := NB6.size
    replace hS := hS.addB NB6
    change Wx.Sep _ _ _ [_, _, _, _] at hS
    refine LW.nil (KW.then (CW.seq ?_))
    refine CW.free 12 [.eq (.pointer (some ⟨B6, 0, none⟩)), .eq (.func (.func (listFn kk)) #[] #[]), .eq (.pointer (some ⟨B2, j, none⟩)), .eq (.pointer (some ⟨B2, j, none⟩)), .eq (.slice ad1 (lstOf b j).length cp1), .eq (.pointer (some ⟨B6, 0, none⟩)), .eq (.func (.func (listFn kk)) #[] #[]), .eq (.pointer (some ⟨B3, j, none⟩)), .eq (.pointer (some ⟨B3, j, none⟩)), .eq (.slice ad2 (lstOf c j).length cp2), .eq (.bool (eqFs (lstOf b j) (lstOf c j))), .eq (.bool (!eqFs (lstOf b j) (lstOf c j)))] [24] (by kernel_rfl) rfl (by kernel_rfl) (by kernel_rfl) (by kernel_rfl) (by kernel_rfl) (by kernel_rfl) (by kernel_rfl) (by kernel_rfl) ⟨PhU.eq _, PhU.eq _, PhU.eq _, PhU.eq _, PhU.eq _, PhU.eq _, PhU.eq _, PhU.eq _, PhU.eq _, PhU.eq _, PhU.eq _, PhU.eq _, trivial⟩ ?_ ?_
    ·intro W hU0
     have hU := (Up.drew w8).trans hU0
     refine allL.cons ⟨rfl, TU.p (PEv.fieldAddr (off := 0) Tryz.underlying54 rfl rfl Tryz.sizeOf51 rfl (.tmp rfl)) rfl⟩ ?_
     refine allL.cons ⟨rfl, TU.p (PEv.load Tryz.isAgg51 (.tmp rfl) (((hS.blk 3 rfl).up hU).celln rfl)) rfl⟩ ?_
     refine allL.cons ⟨rfl, TU.c (enter_callv (.tmp rfl) (.cons (.tmp rfl) .nil) (list_en kk hk1 hk2)) (list_any kk hk1 hk2 B2 _) (by rintro _ W1 ⟨rfl, u⟩; exact ⟨u, by rw [hj]; rfl⟩)⟩ ?_
     refine allL.cons ⟨rfl, TU.p (PEv.nilCheck (.tmp rfl)) rfl⟩ ?_
     refine allL.cons ⟨rfl, TU.p (PEv.load Tryz.isAgg22 (.tmp rfl) (((hS.blk 0 rfl).up hU).cell hv1)) rfl⟩ ?_
     refine allL.cons ⟨rfl, TU.p (PEv.fieldAddr (off := 0) Tryz.underlying54 rfl rfl Tryz.sizeOf51 rfl (.tmp rfl)) rfl⟩ ?_
     refine allL.cons ⟨rfl, TU.p (PEv.load Tryz.isAgg51 (.tmp rfl) (((hS.blk 3 rfl).up hU).celln rfl)) rfl⟩ ?_
     refine allL.cons ⟨rfl, TU.c (enter_callv (.tmp rfl) (.cons (.tmp rfl) .nil) (list_en kk hk1 hk2)) (list_any kk hk1 hk2 B3 _) (by rintro _ W1 ⟨rfl, u⟩; exact ⟨u, by rw [hj]; rfl⟩)⟩ ?_
     refine allL.cons ⟨rfl, TU.p (PEv.nilCheck (.tmp rfl)) rfl⟩ ?_
     refine allL.cons ⟨rfl, TU.p (PEv.load Tryz.isAgg22 (.tmp rfl) (((hS.blk 1 rfl).up hU).cell hv2)) rfl⟩ ?_
     refine allL.cons ⟨rfl, TU.c (enter_call0 (.cons (.tmp rfl) (.cons (.tmp rfl) .nil)) (Tryz.en34)) (equal_any ad1 ad2 cp1 cp2 _ _ _ (Els.up hE1 (hS.upd.trans hU)) (Els.up hE2 (hS.upd.trans hU)) (hlb j)) (by rintro _ W1 ⟨rfl, u⟩; exact ⟨u, rfl⟩)⟩ ?_
     refine allL.cons ⟨rfl, TU.p (PEv.not (.tmp rfl)) rfl⟩ ?_
     exact allL.nil
    ·intro w9 g hU0 hg
     have hU := (Up.drew w8).trans hU0
     have zw9 := hU.size
     replace hS := hS.up hU
     have e24 : g 24 = .bool (!eqFs (lstOf b j) (lstOf c j)) := hg 11 _ 24 (by decide) rfl rfl
     change LW _ _ _ _ _ _ _ _ ((24, .eq (g 24)) :: _) _
     rw [e24]
     refine LW.nil (KW.then ?_)
     refine CW.cond (.tmp rfl) (fun h24 => ?_) (fun h24 => ?_)
     ·first | replace h24 := of_decide_eq_true h24 | replace h24 := of_decide_eq_false h24 | skip
      have hr : sameB b c = false := sameB_no hj11 (by simpa using h24)
      refine CW.seq (CW.region (LW.p (PEv.assign (.const _)) rfl rfl rfl (LW.nil (KW.then (CW.ret (KW.block_ret (KW.then_ret (KW.block_ret (KW.then_ret ?_)))))))))
      refine KW.ret1 rfl rfl ⟨_, rfl, ?_⟩
      first | exact ⟨by rw [hr], hS.upd⟩ | exact ⟨by rw [show sameB b c = true from sameB_yes (fun k hk => hall k (hPm.symm.subset (List.mem_map.2 ⟨(((k + 1 : Nat) : Int), KdV ((k + 1 : Nat) : Int)), keyT_mem.2 ⟨by omega, by omega, rfl⟩, rfl⟩)))], hS.upd⟩
     ·first | replace h24 := of_decide_eq_true h24 | replace h24 := of_decide_eq_false h24 | skip
      have hq : eqFs (lstOf b j) (lstOf c j) = true := by simpa using h24
      refine CW.skip (KW.inBlock (KW.round ?_))
      exact ⟨dn ++ [kk], ⟨hdk2, fun i hi => (List.mem_append.1 hi).elim (hall i) (fun h => by have h := List.mem_singleton.1 h; rw [show i = j by omega]; exact hq), hS.take 3⟩, ⟨rfl, rfl, rfl, trivial⟩, by have := eleven_lt hdk hkk1 hfr2; simp; omega⟩

theorem Lists_any (bc : Array Go.Value) (b : Base) (w : World) (hC : BaseC w bc b) : Ret Tryz.prog 30 #[.agg bc] w fun r w' => ∃ ad cp ss, r = .slice ad (ss.length) cp ∧ Els w' ad 1 eSl ss ∧ LstsE w' ss b ∧ Up w w' := by
  have hW := Up.refl w
  obtain ⟨w0, rfl⟩ : ∃ w0, w0 = w := ⟨_, rfl⟩
  obtain ⟨v0, v1, v2, v3, v4, v5, v6, v7, v8, v9, v10, e, h0, h1, h2, h3, h4, h5, h6, h7, h8, h9, h10⟩ := hC
  subst e
  obtain ⟨ad0, cp0, rfl, hE0⟩ := h0
  obtain ⟨ad1, cp1, rfl, hE1⟩ := h1
  obtain ⟨ad2, cp2, rfl, hE2⟩ := h2
  obtain ⟨ad3, cp3, rfl, hE3⟩ := h3
  obtain ⟨ad4, cp4, rfl, hE4⟩ := h4
  obtain ⟨ad5, cp5, rfl, hE5⟩ := h5
  obtain ⟨ad6, cp6, rfl, hE6⟩ := h6
  obtain ⟨ad7, cp7, rfl, hE7⟩ := h7
  obtain ⟨ad8, cp8, rfl, hE8⟩ := h8
  obtain ⟨ad9, cp9, rfl, hE9⟩ := h9
  obtain ⟨ad10, cp10, rfl, hE10⟩ := h10
  refine Calls_start (n := 26) (m := 9) Tryz.func30 rfl rfl rfl ?_
  refine CW.seq (CW.region ?_)
  refine LW.r (REv.boxA (.tmp rfl)) rfl rfl rfl rfl ?_
  rintro _ w1 ⟨B1, rfl, NB1⟩
  have eB1 := NB1.at_
  have zB1 := NB1.size
  replace hW := hW.up NB1.up
  have hB1 := NB1.blk
  refine LW.p (PEv.assign (.const _)) rfl rfl rfl (LW.nil (KW.then (CW.seq (CW.region ?_))))
  refine LW.p (PEv.fieldAddr (off := 0) Tryz.underlying26 rfl rfl Tryz.sizeOf22 rfl (.tmp rfl)) rfl rfl rfl ?_
  refine LW.p (PEv.load Tryz.isAgg22 (.tmp rfl) (hB1.celln rfl)) rfl rfl rfl ?_
  refine LW.p (PEv.fieldAddr (off := 1) Tryz.underlying26 rfl rfl Tryz.sizeOf22 rfl (.tmp rfl)) rfl rfl rfl ?_
  refine LW.p (PEv.load Tryz.isAgg22 (.tmp rfl) (hB1.celln rfl)) rfl rfl rfl ?_
  refine LW.p (PEv.fieldAddr (off := 2) Tryz.underlying26 rfl rfl Tryz.sizeOf22 rfl (.tmp rfl)) rfl rfl rfl ?_
  refine LW.p (PEv.load Tryz.isAgg22 (.tmp rfl) (hB1.celln rfl)) rfl rfl rfl ?_
  refine LW.p (PEv.fieldAddr (off := 3) Tryz.underlying26 rfl rfl Tryz.sizeOf22 rfl (.tmp rfl)) rfl rfl rfl ?_
  refine LW.p (PEv.load Tryz.isAgg22 (.tmp rfl) (hB1.celln rfl)) rfl rfl rfl ?_
  refine LW.p (PEv.fieldAddr (off := 4) Tryz.underlying26 rfl rfl Tryz.sizeOf22 rfl (.tmp rfl)) rfl rfl rfl ?_
  refine LW.p (PEv.load Tryz.isAgg22 (.tmp rfl) (hB1.celln rfl)) rfl rfl rfl ?_
  refine LW.p (PEv.fieldAddr (off := 5) Tryz.underlying26 rfl rfl Tryz.sizeOf22 rfl (.tmp rfl)) rfl rfl rfl ?_
  refine LW.p (PEv.load Tryz.isAgg22 (.tmp rfl) (hB1.celln rfl)) rfl rfl rfl ?_
  refine LW.p (PEv.fieldAddr (off := 6) Tryz.underlying26 rfl rfl Tryz.sizeOf22 rfl (.tmp rfl)) rfl rfl rfl ?_
  refine LW.p (PEv.load Tryz.isAgg22 (.tmp rfl) (hB1.celln rfl)) rfl rfl rfl ?_
  refine LW.p (PEv.fieldAddr (off := 7) Tryz.underlying26 rfl rfl Tryz.sizeOf22 rfl (.tmp rfl)) rfl rfl rfl ?_
  refine LW.p (PEv.load Tryz.isAgg22 (.tmp rfl) (hB1.celln rfl)) rfl rfl rfl ?_
  refine LW.p (PEv.fieldAddr (off := 8) Tryz.underlying26 rfl rfl Tryz.sizeOf22 rfl (.tmp rfl)) rfl rfl rfl ?_
  refine LW.p (PEv.load Tryz.isAgg22 (.tmp rfl) (hB1.celln rfl)) rfl rfl rfl ?_
  refine LW.p (PEv.fieldAddr (off := 9) Tryz.underlying26 rfl rfl Tryz.sizeOf22 rfl (.tmp rfl)) rfl rfl rfl ?_
  refine LW.p (PEv.load Tryz.isAgg22 (.tmp rfl) (hB1.celln rfl)) rfl rfl rfl ?_
  refine LW.p (PEv.fieldAddr (off := 10) Tryz.underlying26 rfl rfl Tryz.sizeOf22 rfl (.tmp rfl)) rfl rfl rfl ?_
  refine LW.p (PEv.load Tryz.isAgg22 (.tmp rfl) (hB1.celln rfl)) rfl rfl rfl ?_
  refine LW.r (REv.buildSlice (xs := [(ad0, b.Processes.length, cp0), (ad1, b.Measures.length, cp1), (ad2, b.Swaps.length, cp2), (ad3, b.Lots.length, cp3), (ad4, b.Flows.length, cp4), (ad5, b.Qualified.length, cp5), (ad6, b.Holds.length, cp6), (ad7, b.Releases.length, cp7), (ad8, b.Resets.length, cp8), (ad9, b.Targets.length, cp9), (ad10, b.Gaps.length, cp10)]) (enc := eSl) (mk := fun s : Sl3 => .slice s.1 s.2.1 s.2.2) Tryz.underlying57 Tryz.sizeOf22 Tryz.zeroValue22 rfl (by decide) (fun _ => rfl) (fun _ => rfl) (.cons (.tmp rfl) (.cons (.tmp rfl) (.cons (.tmp rfl) (.cons (.tmp rfl) (.cons (.tmp rfl) (.cons (.tmp rfl) (.cons (.tmp rfl) (.cons (.tmp rfl) (.cons (.tmp rfl) (.cons (.tmp rfl) (.cons (.tmp rfl) .nil))))))))))) rfl) rfl rfl rfl rfl ?_
  rintro _ w2 ⟨B25, cB25, rfl, NB25, yB25, xB25⟩
  have eB25 := NB25.at_
  have zB25 := NB25.size
  replace hW := hW.up NB25.up
  replace hB1 := hB1.up NB25.up
  have hB25 := NB25.blk
  have hE25 := xB25
  refine LW.p (PEv.assign (.tmp rfl)) rfl rfl rfl (LW.nil (KW.then (CW.ret ?_)))
  refine KW.ret1 rfl rfl ⟨_, rfl, ?_⟩
  refine ⟨_, _, [(ad0, b.Processes.length, cp0), (ad1, b.Measures.length, cp1), (ad2, b.Swaps.length, cp2), (ad3, b.Lots.length, cp3), (ad4, b.Flows.length, cp4), (ad5, b.Qualified.length, cp5), (ad6, b.Holds.length, cp6), (ad7, b.Releases.length, cp7), (ad8, b.Resets.length, cp8), (ad9, b.Targets.length, cp9), (ad10, b.Gaps.length, cp10)], rfl, hE25, ⟨rfl, fun j hj => ?_⟩, hW⟩
  rcases eleven_cases hj with rfl | rfl | rfl | rfl | rfl | rfl | rfl | rfl | rfl | rfl | rfl
  ·exact ⟨_, rfl, rfl, Els.up hE0 hW⟩
  ·exact ⟨_, rfl, rfl, Els.up hE1 hW⟩
  ·exact ⟨_, rfl, rfl, Els.up hE2 hW⟩
  ·exact ⟨_, rfl, rfl, Els.up hE3 hW⟩
  ·exact ⟨_, rfl, rfl, Els.up hE4 hW⟩
  ·exact ⟨_, rfl, rfl, Els.up hE5 hW⟩
  ·exact ⟨_, rfl, rfl, Els.up hE6 hW⟩
  ·exact ⟨_, rfl, rfl, Els.up hE7 hW⟩
  ·exact ⟨_, rfl, rfl, Els.up hE8 hW⟩
  ·exact ⟨_, rfl, rfl, Els.up hE9 hW⟩
  ·exact ⟨_, rfl, rfl, Els.up hE10 hW⟩

theorem refSame_any (bc bc' : Array Go.Value) (b c : Base) (w : World) (hC : BaseC w bc b) (hC' : BaseC w bc' c) (hlb : short b) : Ret Tryz.prog 9 #[.agg bc, .agg bc'] w fun r w' => r = .bool (sameB b c) ∧ Up w w' := by
  have hW := Up.refl w
  obtain ⟨w0, rfl⟩ : ∃ w0, w0 = w := ⟨_, rfl⟩
  refine Calls_start (n := 28) (m := 9) Tryz.func9 rfl rfl rfl ?_
  refine CW.seq (CW.region ?_)
  refine LW.r (REv.boxA (.tmp rfl)) rfl rfl rfl rfl ?_
  rintro _ w1 ⟨B2, rfl, NB2⟩
  have eB2 := NB2.at_
  have zB2 := NB2.size
  replace hW := hW.up NB2.up
  have hB2 := NB2.blk
  refine LW.r (REv.boxA (.tmp rfl)) rfl rfl rfl rfl ?_
  rintro _ w2 ⟨B3, rfl, NB3⟩
  have eB3 := NB3.at_
  have zB3 := NB3.size
  replace hW := hW.up NB3.up
  replace hB2 := hB2.up NB3.up
  have hB3 := NB3.blk
  refine LW.p (PEv.assign (.const _)) rfl rfl rfl (LW.nil (KW.then (CW.seq (CW.region ?_))))
  refine LW.p (PEv.loadA Tryz.isAgg26 Tryz.sizeOf26 (hC.size) (.tmp rfl) (hB2.agg)) rfl rfl rfl ?_
  refine LW.c (enter_call0 (.cons (.tmp rfl) .nil) (Tryz.en30)) rfl rfl rfl rfl (Lists_any _ b _ (hC.up hW)) ?_
  rintro _ w3 ⟨ad1, cp1, ss1, rfl, hE1, hL1, uw3⟩
  have zw3 := uw3.size
  replace hW := hW.up uw3
  replace hB2 := hB2.up uw3
  replace hB3 := hB3.up uw3
  have hU1 := Up.refl w3
  refine LW.p (PEv.assign (.tmp rfl)) rfl rfl rfl (LW.nil (KW.then (CW.seq (CW.region ?_))))
  refine LW.p (PEv.loadA Tryz.isAgg26 Tryz.sizeOf26 (hC'.size) (.tmp rfl) (hB3.agg)) rfl rfl rfl ?_
  refine LW.c (enter_call0 (.cons (.tmp rfl) .nil) (Tryz.en30)) rfl rfl rfl rfl (Lists_any _ c _ (hC'.up hW)) ?_
  rintro _ w4 ⟨ad2, cp2, ss2, rfl, hE2, hL2, uw4⟩
  have zw4 := uw4.size
  replace hW := hW.up uw4
  replace hB2 := hB2.up uw4
  replace hB3 := hB3.up uw4
  replace hU1 := hU1.up uw4
  have hU2 := Up.refl w4
  refine LW.p (PEv.assign (.tmp rfl)) rfl rfl rfl (LW.nil (KW.then (CW.seq (CW.seq (CW.region (LW.p (PEv.assign (.const _)) rfl rfl rfl (LW.nil (KW.then (CW.block ?_)))))))))
  refine CW.loopB (σ := Nat) (fun s w => (s ≤ ss1.length) ∧ (∀ j, j < s → eqFs (lstOf b j) (lstOf c j) = true) ∧ (Up w3 w) ∧ (Up w4 w) ∧ (Up w0 w)) (fun s => [(7, .eq (vi (s : Int)))]) ([(5, .eq _), (6, .eq _)]) (fun s => ss1.length - s) 0 ?_ ⟨rfl, rfl, rfl, trivial⟩ ?_
  ·exact ⟨Nat.zero_le _, fun j h => absurd h (Nat.not_lt_zero _), hU1, hU2, hW⟩
  ·rintro k w5 ⟨hk, hall, hU1, hU2, hW⟩
   refine CW.seq (CW.seq ?_)
   skip
   refine CW.region (LW.p (PEv.move (.tmp rfl)) rfl rfl rfl (LW.p (PEv.move (.tmp rfl)) rfl rfl rfl ?_))
   refine LW.p (PEv.lenS Tryz.underlying57 (.tmp rfl)) rfl rfl rfl ?_
   refine LW.p (PEv.lss (.tmp rfl) (.tmp rfl)) rfl rfl rfl ?_
   refine LW.nil (KW.then ?_)
   refine CW.cond (.tmp rfl) (fun h15 => ?_) (fun h15 => ?_)
   ·first | replace h15 := of_decide_eq_true h15 | replace h15 := of_decide_eq_false h15 | skip
    refine CW.skip (KW.then (CW.seq (CW.block (CW.seq ?_))))
    have hk11 : k < 11 := by have := hL1.1; omega
    obtain ⟨⟨a1, n1, c1⟩, hs1, hn1, hx1⟩ := (hL1.up hU1).2 k hk11
    obtain ⟨⟨a2, n2, c2⟩, hs2, hn2, hx2⟩ := (hL2.up hU2).2 k hk11
    dsimp only at hn1 hx1 hn2 hx2
    subst hn1 hn2
    have hl2 := hL2.1
    obtain ⟨B, o, had, hcx⟩ := (Els.up hE1 hU1) k _ hs1
    obtain ⟨B', o', had', hcy⟩ := (Els.up hE2 hU2) k _ hs2
    refine CW.draws (by kernel_rfl) (by kernel_rfl) rfl rfl ?_
    refine HW.p (PEv.move (.tmp rfl)) rfl rfl ?_
    refine HW.p (PEv.move (.tmp rfl)) rfl rfl ?_
    refine HW.p (PEv.indexAddr' Tryz.underlying57 Tryz.sizeOf22 (.tmp rfl) (.tmp rfl) (by omega) had) rfl rfl ?_
    refine HW.p (PEv.load Tryz.isAgg22 (.tmp rfl) (hcx.nth (j := 0) rfl)) rfl rfl ?_
    refine HW.p (PEv.move (.tmp rfl)) rfl rfl ?_
    refine HW.p (PEv.move (.tmp rfl)) rfl rfl ?_
    refine HW.p (PEv.indexAddr' Tryz.underlying57 Tryz.sizeOf22 (.tmp rfl) (.tmp rfl) (by omega) had') rfl rfl ?_
    refine HW.p (PEv.load Tryz.isAgg22 (.tmp rfl) (hcy.nth (j := 0) rfl)) rfl rfl ?_
    refine HW.c (fun a w _ ha => enter_call0 (.cons (.tmp rfl) (.cons (.tmp rfl) .nil)) (Tryz.en22) a ha) rfl rfl (fun w hu => sameFacts_any _ _ _ _ _ _ _ (Els.up hx1 hu) (Els.up hx2 hu) (hlb k)) ?_
    refine HW.p (PEv.not (.tmp rfl)) rfl rfl ?_
    refine HW.nil ?_
    intro w6 uw6
    have zw6 := uw6.size
    replace hU1 := hU1.up uw6
    replace hU2 := hU2.up uw6
    replace hW := hW.up uw6
    refine KW.then ?_
    refine CW.cond (.tmp rfl) (fun h27 => ?_) (fun h27 => ?_)
    ·first | replace h27 := of_decide_eq_true h27 | replace h27 := of_decide_eq_false h27 | skip
     have hr : sameB b c = false := sameB_no hk11 (by simpa using h27)
     refine CW.seq (CW.region (LW.p (PEv.assign (.const _)) rfl rfl rfl (LW.nil (KW.then (CW.ret (KW.block_ret (KW.then_ret (KW.then_ret (KW.block_ret (KW.then_ret ?_))))))))))
     refine KW.ret1 rfl rfl ⟨_, rfl, ?_⟩
     exact ⟨by rw [hr], hW⟩
    ·first | replace h27 := of_decide_eq_true h27 | replace h27 := of_decide_eq_false h27 | skip
     refine CW.skip (KW.inBlock (KW.then (CW.region (LW.p (PEv.move (.tmp rfl)) rfl rfl rfl ?_))))
     refine LW.p (PEv.inc (.tmp rfl) (by omega)) rfl rfl rfl ?_
     refine LW.p (PEv.assign (.tmp rfl)) rfl rfl rfl (LW.nil (KW.round ?_))
     exact ⟨k + 1, ⟨by omega, fun j hj => if e : j = k then by rw [e]; simpa using h27 else hall j (by omega), hU1, hU2, hW⟩, ⟨rfl, rfl, rfl, trivial⟩, by first | omega | (dsimp only; omega)⟩
   ·first | replace h15 := of_decide_eq_true h15 | replace h15 := of_decide_eq_false h15 | skip
    have hr : sameB b c = true := sameB_yes (fun j hj => hall j (by have := hL1.1; omega))
    refine CW.exit (KW.then_exit (KW.then_exit (KW.block_hit (KW.then (CW.seq (CW.region (LW.p (PEv.assign (.const _)) rfl rfl rfl (LW.nil (KW.then (CW.ret ?_))))))))))
    refine KW.ret1 rfl rfl ⟨_, rfl, ?_⟩
    exact ⟨by rw [hr], hW⟩

end Go.Proofs.YtdelcaegofkknaaGreat

-- Ba26
namespace Go.Wx

theorem factsM_len (l : List Fact) (d : Int) : (factsM (bestL l d)).length ≤ l.length := by unfold factsM; rw [List.length_map]; exact (best_ok d l).2
theorem lst_ofB (l : List Fact) (d : Int) {j : Nat} (hj : j < 11) : lstOf (ofB l d) j = lstAt [((j + 1 : Nat) : Int)] (factsM (bestL l d)) j := by
  rcases eleven_cases hj with rfl | rfl | rfl | rfl | rfl | rfl | rfl | rfl | rfl | rfl | rfl <;> rfl
theorem lstOf_big (b : Base) {j : Nat} (hj : ¬ j < 11) : lstOf b j = [] := by
  unfold lstOf
  rw [List.getD_eq_getElem?_getD, List.getElem?_eq_none (by simp; omega)]; rfl
theorem ofB_short {l : List Fact} (h : l.length ≤ 100000) (d : Int) : short (ofB l d) := fun j => by
  by_cases hj : j < 11
  · rw [lst_ofB l d hj]
    exact Nat.le_trans (lst_len _ _ _) (Nat.le_trans (factsM_len l d) h)
  · rw [lstOf_big _ hj]; simp
theorem short.targets {b : Base} (h : short b) : b.Targets.length ≤ 100000 := h 9
def l4 : List Fact := [tgt 10 5 3 6 true, tgt 30 9 1 2 false, tgt 10 7 2 4 false, tgt 10 5 1 2 false]
def lotF (w t : Int) : Fact := { zeroF with Kind := 4, Version := 1, Wafer := w, Lot := 1, Product := 1, Time := t }
def l3 : List Fact := [lotF 4 8, lotF 4 2, lotF 3 5]
def prF (i u t : Int) : Fact := { zeroF with ID := i, Tool := u, Time := t }
def l5 : List Fact := [prF 2 5 9, prF 1 5 9, prF 3 5 4, prF 4 0 0]
def baseP : Base := ⟨l5, [], [], [], [], [], [], [], [], [], []⟩
def quF : Fact := { zeroF with Tool := 1, Chamber := 2, Recipe := 3, Revision := 4, Time := 5, Until := 6 }
def baseQ : Base := ⟨[], [], [], [], [], [quF], [], [], [], [], []⟩
theorem s1 : (ofB l4 1).Targets = [] := by kernel_rfl
theorem s3 : (ofB l4 3).Targets = [tgt 10 5 1 2 false, tgt 30 9 1 2 false] := by kernel_rfl
theorem s4 : (ofB l4 4).Targets = [tgt 10 7 2 4 false, tgt 30 9 1 2 false] := by kernel_rfl
theorem s6 : (ofB l4 6).Targets = [tgt 30 9 1 2 false] := by kernel_rfl
theorem s0 : (ofB l3 0).Lots = [lotF 3 5, lotF 4 2, lotF 4 8] := by kernel_rfl
theorem e1 : sameB (ofB l4 3) (ofB l4 3) = true := by kernel_rfl
theorem e2 : sameB (ofB l4 3) (ofB l4 4) = false := by kernel_rfl
theorem t1 : tgF 3 29 (ofB l4 4).Targets = (tgt 10 7 2 4 false, true) := by kernel_rfl
theorem t2 : tgF 3 30 (ofB l4 4).Targets = (tgt 30 9 1 2 false, true) := by kernel_rfl
theorem t3 : tgF 3 9 (ofB l4 4).Targets = (zeroF, false) := by kernel_rfl
theorem run1 : runsB baseP 5 0 = [prF 3 5 4, prF 1 5 9, prF 2 5 9] := by kernel_rfl
theorem pp1 : procB baseP 1 = some (prF 1 5 9) := by kernel_rfl
theorem mm1 : measB baseP 1 = none := by kernel_rfl
theorem qq1 : qualifiedB baseQ 1 2 3 4 6 = true := by kernel_rfl

end Go.Wx
namespace Go.Proofs.YtdelcaegofkknaaGreat
open Go.Wx Go.RowKit
set_option maxRecDepth 10000 in
set_option maxHeartbeats 4000000 in
theorem sane_any (w : World) : Ret Tryz.prog 5 #[] w fun r w' => r = .bool true ∧ Up w w' := by
  have hW := Up.refl w
  obtain ⟨w0, rfl⟩ : ∃ w0, w0 = w := ⟨_, rfl⟩
  refine Calls_start (n := 200) (m := 9) Tryz.func5 rfl rfl rfl ?_
  refine CW.seq (CW.region (LW.p (PEv.assign (.const _)) rfl rfl rfl (LW.nil (KW.then (CW.seq (CW.region ?_))))))
  refine LW.c (enter_call0 (.cons (.const _) (.cons (.const _) (.cons (.const _) (.cons (.const _) (.cons (.const _) .nil))))) (Tryz.en25)) rfl rfl rfl rfl (target_any _ _ _ _ _ _) ?_
  rintro _ w1 ⟨rfl, uw1⟩
  have zw1 := uw1.size
  replace hW := hW.up uw1
  refine LW.c (enter_call0 (.cons (.const _) (.cons (.const _) (.cons (.const _) (.cons (.const _) (.cons (.const _) .nil))))) (Tryz.en25)) rfl rfl rfl rfl (target_any _ _ _ _ _ _) ?_
  rintro _ w2 ⟨rfl, uw2⟩
  have zw2 := uw2.size
  replace hW := hW.up uw2
  refine LW.c (enter_call0 (.cons (.const _) (.cons (.const _) (.cons (.const _) (.cons (.const _) (.cons (.const _) .nil))))) (Tryz.en25)) rfl rfl rfl rfl (target_any _ _ _ _ _ _) ?_
  rintro _ w3 ⟨rfl, uw3⟩
  have zw3 := uw3.size
  replace hW := hW.up uw3
  refine LW.c (enter_call0 (.cons (.const _) (.cons (.const _) (.cons (.const _) (.cons (.const _) (.cons (.const _) .nil))))) (Tryz.en25)) rfl rfl rfl rfl (target_any _ _ _ _ _ _) ?_
  rintro _ w4 ⟨rfl, uw4⟩
  have zw4 := uw4.size
  replace hW := hW.up uw4
  refine LW.r (REv.buildSlice (xs := l4) (enc := Fact.cells) (mk := fun f : Fact => .agg f.cells) Tryz.underlying22 Tryz.sizeOf35 Tryz.zeroValue35 rfl (by decide) (fun _ => rfl) (fun _ => rfl) (.cons (.tmp rfl) (.cons (.tmp rfl) (.cons (.tmp rfl) (.cons (.tmp rfl) .nil)))) rfl) rfl rfl rfl rfl ?_
  rintro _ w5 ⟨B24, cB24, rfl, NB24, yB24, xB24⟩
  have eB24 := NB24.at_
  have zB24 := NB24.size
  replace hW := hW.up NB24.up
  have hB24 := NB24.blk
  have hE24 := xB24
  refine LW.p (PEv.assign (.tmp rfl)) rfl rfl rfl (LW.nil (KW.then (CW.seq (CW.region (LW.p (PEv.move (.tmp rfl)) rfl rfl rfl ?_)))))
  refine LW.c (enter_call0 (.cons (.tmp rfl) (.cons (.const _) .nil)) (Tryz.en7)) rfl rfl rfl rfl (Of_any _ _ l4 1 _ hE24 (by decide)) ?_
  rintro _ w6 ⟨bc1, rfl, hC1, uw6⟩
  have zw6 := uw6.size
  replace hW := hW.up uw6
  replace hB24 := hB24.up uw6
  replace hE24 := hE24.up uw6
  refine LW.r (REv.allocA Tryz.zeroValue26) rfl rfl rfl rfl ?_
  rintro _ w7 ⟨B2, rfl, MB2⟩
  refine LW.s (SEv.storeA Tryz.sizeOf26 (hC1.size) (.tmp rfl) (.tmp rfl) (hC1.one) MB2.blk rfl) rfl rfl rfl ?_
  intro w8 LB2
  have NB2 := MB2.set LB2
  clear LB2 MB2
  have eB2 := NB2.at_
  have zB2 := NB2.size
  replace hW := hW.up NB2.up
  replace hB24 := hB24.up NB2.up
  replace hE24 := hE24.up NB2.up
  replace hC1 := hC1.up NB2.up
  have hB2 := NB2.blk
  refine LW.nil (KW.then (CW.seq (CW.region (LW.p (PEv.move (.tmp rfl)) rfl rfl rfl ?_))))
  refine LW.c (enter_call0 (.cons (.tmp rfl) (.cons (.const _) .nil)) (Tryz.en7)) rfl rfl rfl rfl (Of_any _ _ l4 3 _ hE24 (by decide)) ?_
  rintro _ w9 ⟨bc3, rfl, hC3, uw9⟩
  have zw9 := uw9.size
  replace hW := hW.up uw9
  replace hB24 := hB24.up uw9
  replace hE24 := hE24.up uw9
  replace hC1 := hC1.up uw9
  replace hB2 := hB2.up uw9
  refine LW.r (REv.allocA Tryz.zeroValue26) rfl rfl rfl rfl ?_
  rintro _ w10 ⟨B3, rfl, MB3⟩
  refine LW.s (SEv.storeA Tryz.sizeOf26 (hC3.size) (.tmp rfl) (.tmp rfl) (hC3.one) MB3.blk rfl) rfl rfl rfl ?_
  intro w11 LB3
  have NB3 := MB3.set LB3
  clear LB3 MB3
  have eB3 := NB3.at_
  have zB3 := NB3.size
  replace hW := hW.up NB3.up
  replace hB24 := hB24.up NB3.up
  replace hE24 := hE24.up NB3.up
  replace hC1 := hC1.up NB3.up
  replace hB2 := hB2.up NB3.up
  replace hC3 := hC3.up NB3.up
  have hB3 := NB3.blk
  refine LW.nil (KW.then (CW.seq (CW.region (LW.p (PEv.move (.tmp rfl)) rfl rfl rfl ?_))))
  refine LW.c (enter_call0 (.cons (.tmp rfl) (.cons (.const _) .nil)) (Tryz.en7)) rfl rfl rfl rfl (Of_any _ _ l4 4 _ hE24 (by decide)) ?_
  rintro _ w12 ⟨bc4, rfl, hC4, uw12⟩
  have zw12 := uw12.size
  replace hW := hW.up uw12
  replace hB24 := hB24.up uw12
  replace hE24 := hE24.up uw12
  replace hC1 := hC1.up uw12
  replace hB2 := hB2.up uw12
  replace hC3 := hC3.up uw12
  replace hB3 := hB3.up uw12
  refine LW.r (REv.allocA Tryz.zeroValue26) rfl rfl rfl rfl ?_
  rintro _ w13 ⟨B4, rfl, MB4⟩
  refine LW.s (SEv.storeA Tryz.sizeOf26 (hC4.size) (.tmp rfl) (.tmp rfl) (hC4.one) MB4.blk rfl) rfl rfl rfl ?_
  intro w14 LB4
  have NB4 := MB4.set LB4
  clear LB4 MB4
  have eB4 := NB4.at_
  have zB4 := NB4.size
  replace hW := hW.up NB4.up
  replace hB24 := hB24.up NB4.up
  replace hE24 := hE24.up NB4.up
  replace hC1 := hC1.up NB4.up
  replace hB2 := hB2.up NB4.up
  replace hC3 := hC3.up NB4.up
  replace hB3 := hB3.up NB4.up
  replace hC4 := hC4.up NB4.up
  have hB4 := NB4.blk
  refine LW.nil (KW.then (CW.seq (CW.region (LW.p (PEv.move (.tmp rfl)) rfl rfl rfl ?_))))
  refine LW.c (enter_call0 (.cons (.tmp rfl) (.cons (.const _) .nil)) (Tryz.en7)) rfl rfl rfl rfl (Of_any _ _ l4 6 _ hE24 (by decide)) ?_
  rintro _ w15 ⟨bc6, rfl, hC6, uw15⟩
  have zw15 := uw15.size
  replace hW := hW.up uw15
  replace hB24 := hB24.up uw15
  replace hE24 := hE24.up uw15
  replace hC1 := hC1.up uw15
  replace hB2 := hB2.up uw15
  replace hC3 := hC3.up uw15
  replace hB3 := hB3.up uw15
  replace hC4 := hC4.up uw15
  replace hB4 := hB4.up uw15
  refine LW.r (REv.allocA Tryz.zeroValue26) rfl rfl rfl rfl ?_
  rintro _ w16 ⟨B5, rfl, MB5⟩
  refine LW.s (SEv.storeA Tryz.sizeOf26 (hC6.size) (.tmp rfl) (.tmp rfl) (hC6.one) MB5.blk rfl) rfl rfl rfl ?_
  intro w17 LB5
  have NB5 := MB5.set LB5
  clear LB5 MB5
  have eB5 := NB5.at_
  have zB5 := NB5.size
  replace hW := hW.up NB5.up
  replace hB24 := hB24.up NB5.up
  replace hE24 := hE24.up NB5.up
  replace hC1 := hC1.up NB5.up
  replace hB2 := hB2.up NB5.up
  replace hC3 := hC3.up NB5.up
  replace hB3 := hB3.up NB5.up
  replace hC4 := hC4.up NB5.up
  replace hB4 := hB4.up NB5.up
  replace hC6 := hC6.up NB5.up
  have hB5 := NB5.blk
  refine LW.nil (KW.then (CW.seq (CW.seq ?_)))
  obtain ⟨v1, h91, hr1⟩ := hC1.at9
  rw [s1] at hr1
  obtain ⟨ad1, cp1, rfl, hX1⟩ := hr1
  obtain ⟨v3, h93, hr3⟩ := hC3.at9
  rw [s3] at hr3
  obtain ⟨ad3, cp3, rfl, hX3⟩ := hr3
  obtain ⟨v4, h94, hr4⟩ := hC4.at9
  rw [s4] at hr4
  obtain ⟨ad4, cp4, rfl, hX4⟩ := hr4
  obtain ⟨v6, h96, hr6⟩ := hC6.at9
  rw [s6] at hr6
  obtain ⟨ad6, cp6, rfl, hX6⟩ := hr6
  obtain ⟨x3B, x3o, x3e, x3h⟩ := hX3 0 _ rfl
  cases x3e
  obtain ⟨x4B, x4o, x4e, x4h⟩ := hX4 0 _ rfl
  cases x4e
  obtain ⟨x6B, x6o, x6e, x6h⟩ := hX6 0 _ rfl
  cases x6e
  have hU6 := Up.refl w17
  refine CW.region ?_
  refine LW.p (PEv.fieldAddr (off := 9) Tryz.underlying26 rfl rfl Tryz.sizeOf22 rfl (.tmp rfl)) rfl rfl rfl ?_
  refine LW.p (PEv.load Tryz.isAgg22 (.tmp rfl) (hB2.cell h91)) rfl rfl rfl ?_
  refine LW.p (PEv.lenS Tryz.underlying22 (.tmp rfl)) rfl rfl rfl ?_
  refine LW.p (PEv.fa (PEv.neq (.tmp rfl) (.const _)) (rfl)) rfl rfl rfl ?_
  refine LW.p (PEv.move (.tmp rfl)) rfl rfl rfl ?_
  refine LW.yes rfl rfl rfl rfl rfl rfl ?_
  refine LW.p (PEv.fieldAddr (off := 9) Tryz.underlying26 rfl rfl Tryz.sizeOf22 rfl (.tmp rfl)) rfl rfl rfl ?_
  refine LW.yes rfl rfl rfl rfl rfl rfl ?_
  refine LW.p (PEv.load Tryz.isAgg22 (.tmp rfl) (hB3.cell h93)) rfl rfl rfl ?_
  refine LW.yes rfl rfl rfl rfl rfl rfl ?_
  refine LW.p (PEv.lenS Tryz.underlying22 (.tmp rfl)) rfl rfl rfl ?_
  refine LW.yes rfl rfl rfl rfl rfl rfl ?_
  refine LW.p (PEv.fa (PEv.neq (.tmp rfl) (.const _)) (rfl)) rfl rfl rfl ?_
  refine LW.p (PEv.pick_or (.tmp rfl) (fun hp => (by first | exact .const _ | exact .tmp rfl | exact .cond rfl (by first | assumption | simp_all)))) rfl rfl rfl ?_
  refine LW.p (PEv.move (.tmp rfl)) rfl rfl rfl ?_
  refine LW.yes rfl rfl rfl rfl rfl rfl ?_
  refine LW.p (PEv.fieldAddr (off := 9) Tryz.underlying26 rfl rfl Tryz.sizeOf22 rfl (.tmp rfl)) rfl rfl rfl ?_
  refine LW.yes rfl rfl rfl rfl rfl rfl ?_
  refine LW.p (PEv.load Tryz.isAgg22 (.tmp rfl) (hB4.cell h94)) rfl rfl rfl ?_
  refine LW.yes rfl rfl rfl rfl rfl rfl ?_
  refine LW.p (PEv.lenS Tryz.underlying22 (.tmp rfl)) rfl rfl rfl ?_
  refine LW.yes rfl rfl rfl rfl rfl rfl ?_
  refine LW.p (PEv.fa (PEv.neq (.tmp rfl) (.const _)) (rfl)) rfl rfl rfl ?_
  refine LW.p (PEv.pick_or (.tmp rfl) (fun hp => (by first | exact .const _ | exact .tmp rfl | exact .cond rfl (by first | assumption | simp_all)))) rfl rfl rfl ?_
  refine LW.p (PEv.move (.tmp rfl)) rfl rfl rfl ?_
  refine LW.yes rfl rfl rfl rfl rfl rfl ?_
  refine LW.p (PEv.fieldAddr (off := 9) Tryz.underlying26 rfl rfl Tryz.sizeOf22 rfl (.tmp rfl)) rfl rfl rfl ?_
  refine LW.yes rfl rfl rfl rfl rfl rfl ?_
  refine LW.p (PEv.load Tryz.isAgg22 (.tmp rfl) (hB5.cell h96)) rfl rfl rfl ?_
  refine LW.yes rfl rfl rfl rfl rfl rfl ?_
  refine LW.p (PEv.lenS Tryz.underlying22 (.tmp rfl)) rfl rfl rfl ?_
  refine LW.yes rfl rfl rfl rfl rfl rfl ?_
  refine LW.p (PEv.fa (PEv.neq (.tmp rfl) (.const _)) (rfl)) rfl rfl rfl ?_
  refine LW.p (PEv.pick_or (.tmp rfl) (fun hp => (by first | exact .const _ | exact .tmp rfl | exact .cond rfl (by first | assumption | simp_all)))) rfl rfl rfl ?_
  refine LW.nil (KW.then ?_)
  refine CW.cond_false (.tmp rfl) ?_
  refine CW.skip (KW.then (CW.seq (CW.region ?_)))
  refine LW.p (PEv.loadA Tryz.isAgg26 Tryz.sizeOf26 (hC4.size) (.tmp rfl) (hB4.agg)) rfl rfl rfl ?_
  refine LW.c (enter_call0 (.cons (.tmp rfl) (.cons (.const _) (.cons (.const _) .nil))) (Tryz.en18)) rfl rfl rfl rfl (Target_any _ (ofB l4 4) 3 29 _ (hC4.up hU6) (ofB_short (by decide) 4).targets) ?_
  rintro _ w18 ⟨rfl, uw18⟩
  have zw18 := uw18.size
  replace hW := hW.up uw18
  replace hB2 := hB2.up uw18
  replace hB3 := hB3.up uw18
  replace hB4 := hB4.up uw18
  replace hB5 := hB5.up uw18
  replace hU6 := hU6.up uw18
  rw [t1]
  refine LW.p (PEv.move (.tmp rfl)) rfl rfl rfl (LW.p (PEv.extract (.tmp rfl) rfl) rfl rfl rfl ?_)
  refine LW.p (PEv.tr (PEv.extract (.tmp rfl) rfl) (rfl)) rfl rfl rfl ?_
  refine LW.p (PEv.assign (.tmp rfl)) rfl rfl rfl (LW.p (PEv.assign (.tmp rfl)) rfl rfl rfl (LW.nil (KW.then (CW.seq (CW.region ?_)))))
  refine LW.p (PEv.loadA Tryz.isAgg26 Tryz.sizeOf26 (hC4.size) (.tmp rfl) (hB4.agg)) rfl rfl rfl ?_
  refine LW.c (enter_call0 (.cons (.tmp rfl) (.cons (.const _) (.cons (.const _) .nil))) (Tryz.en18)) rfl rfl rfl rfl (Target_any _ (ofB l4 4) 3 30 _ (hC4.up hU6) (ofB_short (by decide) 4).targets) ?_
  rintro _ w19 ⟨rfl, uw19⟩
  have zw19 := uw19.size
  replace hW := hW.up uw19
  replace hB2 := hB2.up uw19
  replace hB3 := hB3.up uw19
  replace hB4 := hB4.up uw19
  replace hB5 := hB5.up uw19
  replace hU6 := hU6.up uw19
  rw [t2]
  refine LW.p (PEv.move (.tmp rfl)) rfl rfl rfl (LW.p (PEv.extract (.tmp rfl) rfl) rfl rfl rfl ?_)
  refine LW.p (PEv.tr (PEv.extract (.tmp rfl) rfl) (rfl)) rfl rfl rfl ?_
  refine LW.p (PEv.assign (.tmp rfl)) rfl rfl rfl (LW.p (PEv.assign (.tmp rfl)) rfl rfl rfl (LW.nil (KW.then (CW.seq (CW.region ?_)))))
  refine LW.p (PEv.loadA Tryz.isAgg26 Tryz.sizeOf26 (hC4.size) (.tmp rfl) (hB4.agg)) rfl rfl rfl ?_
  refine LW.c (enter_call0 (.cons (.tmp rfl) (.cons (.const _) (.cons (.const _) .nil))) (Tryz.en18)) rfl rfl rfl rfl (Target_any _ (ofB l4 4) 3 9 _ (hC4.up hU6) (ofB_short (by decide) 4).targets) ?_
  rintro _ w20 ⟨rfl, uw20⟩
  have zw20 := uw20.size
  replace hW := hW.up uw20
  replace hB2 := hB2.up uw20
  replace hB3 := hB3.up uw20
  replace hB4 := hB4.up uw20
  replace hB5 := hB5.up uw20
  replace hU6 := hU6.up uw20
  rw [t3]
  refine LW.p (PEv.move (.tmp rfl)) rfl rfl rfl (LW.p (PEv.extract (.tmp rfl) rfl) rfl rfl rfl ?_)
  refine LW.p (PEv.fa (PEv.extract (.tmp rfl) rfl) (rfl)) rfl rfl rfl ?_
  refine LW.p (PEv.assign (.tmp rfl)) rfl rfl rfl (LW.p (PEv.assign (.tmp rfl)) rfl rfl rfl (LW.nil (KW.then (CW.seq (CW.region ?_)))))
  refine LW.p (PEv.build (cs := (lotF 4 8).cells) Tryz.underlying35 Tryz.zeroValue35 Tryz.places35 (.cons (.const _) (.cons (.const _) (.cons (.const _) (.cons (.const _) (.cons (.const _) (.cons (.const _) .nil)))))) rfl) rfl rfl rfl ?_
  refine LW.p (PEv.build (cs := (lotF 4 2).cells) Tryz.underlying35 Tryz.zeroValue35 Tryz.places35 (.cons (.const _) (.cons (.const _) (.cons (.const _) (.cons (.const _) (.cons (.const _) (.cons (.const _) .nil)))))) rfl) rfl rfl rfl ?_
  refine LW.p (PEv.build (cs := (lotF 3 5).cells) Tryz.underlying35 Tryz.zeroValue35 Tryz.places35 (.cons (.const _) (.cons (.const _) (.cons (.const _) (.cons (.const _) (.cons (.const _) (.cons (.const _) .nil)))))) rfl) rfl rfl rfl ?_
  refine LW.r (REv.buildSlice (xs := l3) (enc := Fact.cells) (mk := fun f : Fact => .agg f.cells) Tryz.underlying22 Tryz.sizeOf35 Tryz.zeroValue35 rfl (by decide) (fun _ => rfl) (fun _ => rfl) (.cons (.tmp rfl) (.cons (.tmp rfl) (.cons (.tmp rfl) .nil))) rfl) rfl rfl rfl rfl ?_
  rintro _ w21 ⟨B73, cB73, rfl, NB73, yB73, xB73⟩
  have eB73 := NB73.at_
  have zB73 := NB73.size
  replace hW := hW.up NB73.up
  replace hB2 := hB2.up NB73.up
  replace hB3 := hB3.up NB73.up
  replace hB4 := hB4.up NB73.up
  replace hB5 := hB5.up NB73.up
  replace hU6 := hU6.up NB73.up
  have hB73 := NB73.blk
  have hE73 := xB73
  refine LW.c (enter_call0 (.cons (.tmp rfl) (.cons (.const _) .nil)) (Tryz.en7)) rfl rfl rfl rfl (Of_any _ _ l3 0 _ hE73 (by decide)) ?_
  rintro _ w22 ⟨bc0, rfl, hC0, uw22⟩
  have zw22 := uw22.size
  replace hW := hW.up uw22
  replace hB2 := hB2.up uw22
  replace hB3 := hB3.up uw22
  replace hB4 := hB4.up uw22
  replace hB5 := hB5.up uw22
  replace hU6 := hU6.up uw22
  replace hB73 := hB73.up uw22
  replace hE73 := hE73.up uw22
  refine LW.r (REv.allocA Tryz.zeroValue26) rfl rfl rfl rfl ?_
  rintro _ w23 ⟨B12, rfl, MB12⟩
  refine LW.s (SEv.storeA Tryz.sizeOf26 (hC0.size) (.tmp rfl) (.tmp rfl) (hC0.one) MB12.blk rfl) rfl rfl rfl ?_
  intro w24 LB12
  have NB12 := MB12.set LB12
  clear LB12 MB12
  have eB12 := NB12.at_
  have zB12 := NB12.size
  replace hW := hW.up NB12.up
  replace hB2 := hB2.up NB12.up
  replace hB3 := hB3.up NB12.up
  replace hB4 := hB4.up NB12.up
  replace hB5 := hB5.up NB12.up
  replace hU6 := hU6.up NB12.up
  replace hB73 := hB73.up NB12.up
  replace hE73 := hE73.up NB12.up
  replace hC0 := hC0.up NB12.up
  have hB12 := NB12.blk
  refine LW.nil (KW.then (CW.seq (CW.seq ?_)))
  obtain ⟨v0, h30, hr0⟩ := hC0.at3
  rw [s0] at hr0
  obtain ⟨ad0, cp0, rfl, hX0⟩ := hr0
  obtain ⟨y0B, y0o, y0e, y0h⟩ := hX0 0 _ rfl
  cases y0e
  obtain ⟨y1B, y1o, y1e, y1h⟩ := hX0 1 _ rfl
  cases y1e
  have hU12 := Up.refl w24
  refine CW.region ?_
  refine LW.p (PEv.fieldAddr (off := 3) Tryz.underlying26 rfl rfl Tryz.sizeOf22 rfl (.tmp rfl)) rfl rfl rfl ?_
  refine LW.p (PEv.load Tryz.isAgg22 (.tmp rfl) (hB12.cell h30)) rfl rfl rfl ?_
  refine LW.p (PEv.lenS Tryz.underlying22 (.tmp rfl)) rfl rfl rfl ?_
  refine LW.p (PEv.fa (PEv.neq (.tmp rfl) (.const _)) (rfl)) rfl rfl rfl ?_
  refine LW.nil (KW.then ?_)
  refine CW.cond_false (.tmp rfl) ?_
  refine CW.skip (KW.then (CW.seq (CW.region ?_)))
  refine LW.p (PEv.build (cs := (prF 2 5 9).cells) Tryz.underlying35 Tryz.zeroValue35 Tryz.places35 (.cons (.const _) (.cons (.const _) (.cons (.const _) .nil))) rfl) rfl rfl rfl ?_
  refine LW.p (PEv.build (cs := (prF 1 5 9).cells) Tryz.underlying35 Tryz.zeroValue35 Tryz.places35 (.cons (.const _) (.cons (.const _) (.cons (.const _) .nil))) rfl) rfl rfl rfl ?_
  refine LW.p (PEv.build (cs := (prF 3 5 4).cells) Tryz.underlying35 Tryz.zeroValue35 Tryz.places35 (.cons (.const _) (.cons (.const _) (.cons (.const _) .nil))) rfl) rfl rfl rfl ?_
  refine LW.p (PEv.build (cs := (prF 4 0 0).cells) Tryz.underlying35 Tryz.zeroValue35 Tryz.places35 (.cons (.const _) .nil) rfl) rfl rfl rfl ?_
  refine LW.r (REv.buildSlice (xs := l5) (enc := Fact.cells) (mk := fun f : Fact => .agg f.cells) Tryz.underlying22 Tryz.sizeOf35 Tryz.zeroValue35 rfl (by decide) (fun _ => rfl) (fun _ => rfl) (.cons (.tmp rfl) (.cons (.tmp rfl) (.cons (.tmp rfl) (.cons (.tmp rfl) .nil)))) rfl) rfl rfl rfl rfl ?_
  rintro _ w25 ⟨B83, cB83, rfl, NB83, yB83, xB83⟩
  have eB83 := NB83.at_
  have zB83 := NB83.size
  replace hW := hW.up NB83.up
  replace hB2 := hB2.up NB83.up
  replace hB3 := hB3.up NB83.up
  replace hB4 := hB4.up NB83.up
  replace hB5 := hB5.up NB83.up
  replace hU6 := hU6.up NB83.up
  replace hB12 := hB12.up NB83.up
  replace hU12 := hU12.up NB83.up
  have hB83 := NB83.blk
  have hE83 := xB83
  refine LW.p (PEv.build (cs := #[.slice (some ⟨B83, 0, none⟩) 4 4, .slice none 0 0, .slice none 0 0, .slice none 0 0, .slice none 0 0, .slice none 0 0, .slice none 0 0, .slice none 0 0, .slice none 0 0, .slice none 0 0, .slice none 0 0]) Tryz.underlying26 Tryz.zeroValue26 Tryz.places26 (.cons (.tmp rfl) .nil) rfl) rfl rfl rfl ?_
  refine LW.r (REv.allocA Tryz.zeroValue26) rfl rfl rfl rfl ?_
  rintro _ w26 ⟨B13, rfl, MB13⟩
  refine LW.s (SEv.storeA Tryz.sizeOf26 rfl (.tmp rfl) (.tmp rfl) (by first | rfl | exact Fact.one _ | exact GAct.one _ | exact holdCells_one _ _ | exact hold0_one | (simp [Value.oneCell'])) MB13.blk rfl) rfl rfl rfl ?_
  intro w27 LB13
  have NB13 := MB13.set LB13
  clear LB13 MB13
  have eB13 := NB13.at_
  have zB13 := NB13.size
  replace hW := hW.up NB13.up
  replace hB2 := hB2.up NB13.up
  replace hB3 := hB3.up NB13.up
  replace hB4 := hB4.up NB13.up
  replace hB5 := hB5.up NB13.up
  replace hU6 := hU6.up NB13.up
  replace hB12 := hB12.up NB13.up
  replace hU12 := hU12.up NB13.up
  replace hB83 := hB83.up NB13.up
  replace hE83 := hE83.up NB13.up
  have hB13 := NB13.blk
  refine LW.nil (KW.then (CW.seq ?_))
  have hC5 : BaseC w27 (#[.slice (some ⟨B83, 0, none⟩) 4 4, .slice none 0 0, .slice none 0 0, .slice none 0 0, .slice none 0 0, .slice none 0 0, .slice none 0 0, .slice none 0 0, .slice none 0 0, .slice none 0 0, .slice none 0 0]) baseP := ⟨_, _, _, _, _, _, _, _, _, _, _, rfl, Sl.of_els hE83, Sl.nil _ _ _, Sl.nil _ _ _, Sl.nil _ _ _, Sl.nil _ _ _, Sl.nil _ _ _, Sl.nil _ _ _, Sl.nil _ _ _, Sl.nil _ _ _, Sl.nil _ _ _, Sl.nil _ _ _⟩
  refine CW.region ?_
  refine LW.p (PEv.loadA Tryz.isAgg26 Tryz.sizeOf26 rfl (.tmp rfl) (hB13.agg)) rfl rfl rfl ?_
  refine LW.c (enter_call0 (.cons (.tmp rfl) (.cons (.const _) (.cons (.const _) .nil))) (Tryz.en23)) rfl rfl rfl rfl (Runs_any _ baseP 5 0 _ hC5 (by decide)) ?_
  rintro v86 w28 ⟨hO86, uw28⟩
  have zw28 := uw28.size
  replace hW := hW.up uw28
  replace hB2 := hB2.up uw28
  replace hB3 := hB3.up uw28
  replace hB4 := hB4.up uw28
  replace hB5 := hB5.up uw28
  replace hU6 := hU6.up uw28
  replace hB12 := hB12.up uw28
  replace hU12 := hU12.up uw28
  replace hB83 := hB83.up uw28
  replace hE83 := hE83.up uw28
  replace hB13 := hB13.up uw28
  replace hC5 := hC5.up uw28
  rw [run1] at hO86
  obtain ⟨adR, cpR, rfl, hXR⟩ := hO86.sl (fun _ => rfl)
  obtain ⟨r0B, r0o, r0e, r0h⟩ := hXR 0 _ rfl
  cases r0e
  obtain ⟨r1B, r1o, r1e, r1h⟩ := hXR 1 _ rfl
  cases r1e
  have hU15 := Up.refl w28
  refine LW.p (PEv.assign (.tmp rfl)) rfl rfl rfl (LW.nil (KW.then (CW.seq (CW.region ?_))))
  refine LW.p (PEv.loadA Tryz.isAgg26 Tryz.sizeOf26 rfl (.tmp rfl) (hB13.agg)) rfl rfl rfl ?_
  refine LW.c (enter_call0 (.cons (.tmp rfl) (.cons (.const _) .nil)) (Tryz.en12)) rfl rfl rfl rfl (Process_any _ baseP 1 _ hC5 (by decide)) ?_
  rintro _ w29 ⟨rfl, uw29⟩
  have zw29 := uw29.size
  replace hW := hW.up uw29
  replace hB2 := hB2.up uw29
  replace hB3 := hB3.up uw29
  replace hB4 := hB4.up uw29
  replace hB5 := hB5.up uw29
  replace hU6 := hU6.up uw29
  replace hB12 := hB12.up uw29
  replace hU12 := hU12.up uw29
  replace hB83 := hB83.up uw29
  replace hE83 := hE83.up uw29
  replace hB13 := hB13.up uw29
  replace hC5 := hC5.up uw29
  replace hU15 := hU15.up uw29
  rw [pp1]
  refine LW.p (PEv.move (.tmp rfl)) rfl rfl rfl (LW.p (PEv.extract (.tmp rfl) rfl) rfl rfl rfl ?_)
  refine LW.p (PEv.tr (PEv.extract (.tmp rfl) rfl) (rfl)) rfl rfl rfl ?_
  refine LW.r (REv.allocA Tryz.zeroValue35) rfl rfl rfl rfl ?_
  rintro _ w30 ⟨B15, rfl, MB15⟩
  refine LW.s (SEv.storeA Tryz.sizeOf35 rfl (.tmp rfl) (.tmp rfl) (by first | rfl | exact Fact.one _ | exact GAct.one _ | exact holdCells_one _ _ | exact hold0_one | (simp [Value.oneCell'])) MB15.blk rfl) rfl rfl rfl ?_
  intro w31 LB15
  have NB15 := MB15.set LB15
  clear LB15 MB15
  have eB15 := NB15.at_
  have zB15 := NB15.size
  replace hW := hW.up NB15.up
  replace hB2 := hB2.up NB15.up
  replace hB3 := hB3.up NB15.up
  replace hB4 := hB4.up NB15.up
  replace hB5 := hB5.up NB15.up
  replace hU6 := hU6.up NB15.up
  replace hB12 := hB12.up NB15.up
  replace hU12 := hU12.up NB15.up
  replace hB83 := hB83.up NB15.up
  replace hE83 := hE83.up NB15.up
  replace hB13 := hB13.up NB15.up
  replace hC5 := hC5.up NB15.up
  replace hU15 := hU15.up NB15.up
  have hB15 := NB15.blk
  refine LW.p (PEv.assign (.tmp rfl)) rfl rfl rfl (LW.nil (KW.then (CW.seq (CW.region ?_))))
  refine LW.p (PEv.loadA Tryz.isAgg26 Tryz.sizeOf26 rfl (.tmp rfl) (hB13.agg)) rfl rfl rfl ?_
  refine LW.c (enter_call0 (.cons (.tmp rfl) (.cons (.const _) .nil)) (Tryz.en14)) rfl rfl rfl rfl (Measure_any _ baseP 1 _ hC5 (by decide)) ?_
  rintro _ w32 ⟨rfl, uw32⟩
  have zw32 := uw32.size
  replace hW := hW.up uw32
  replace hB2 := hB2.up uw32
  replace hB3 := hB3.up uw32
  replace hB4 := hB4.up uw32
  replace hB5 := hB5.up uw32
  replace hU6 := hU6.up uw32
  replace hB12 := hB12.up uw32
  replace hU12 := hU12.up uw32
  replace hB83 := hB83.up uw32
  replace hE83 := hE83.up uw32
  replace hB13 := hB13.up uw32
  replace hC5 := hC5.up uw32
  replace hU15 := hU15.up uw32
  replace hB15 := hB15.up uw32
  rw [mm1]
  refine LW.p (PEv.move (.tmp rfl)) rfl rfl rfl (LW.p (PEv.extract (.tmp rfl) rfl) rfl rfl rfl ?_)
  refine LW.p (PEv.fa (PEv.extract (.tmp rfl) rfl) (rfl)) rfl rfl rfl ?_
  refine LW.r (REv.allocA Tryz.zeroValue35) rfl rfl rfl rfl ?_
  rintro _ w33 ⟨B17, rfl, MB17⟩
  refine LW.s (SEv.storeA Tryz.sizeOf35 rfl (.tmp rfl) (.tmp rfl) (by first | rfl | exact Fact.one _ | exact GAct.one _ | exact holdCells_one _ _ | exact hold0_one | (simp [Value.oneCell'])) MB17.blk rfl) rfl rfl rfl ?_
  intro w34 LB17
  have NB17 := MB17.set LB17
  clear LB17 MB17
  have eB17 := NB17.at_
  have zB17 := NB17.size
  replace hW := hW.up NB17.up
  replace hB2 := hB2.up NB17.up
  replace hB3 := hB3.up NB17.up
  replace hB4 := hB4.up NB17.up
  replace hB5 := hB5.up NB17.up
  replace hU6 := hU6.up NB17.up
  replace hB12 := hB12.up NB17.up
  replace hU12 := hU12.up NB17.up
  replace hB83 := hB83.up NB17.up
  replace hE83 := hE83.up NB17.up
  replace hB13 := hB13.up NB17.up
  replace hC5 := hC5.up NB17.up
  replace hU15 := hU15.up NB17.up
  replace hB15 := hB15.up NB17.up
  have hB17 := NB17.blk
  refine LW.p (PEv.assign (.tmp rfl)) rfl rfl rfl (LW.nil (KW.then (CW.seq (CW.seq (CW.region (LW.p (PEv.move (.tmp rfl)) rfl rfl rfl ?_))))))
  refine LW.p (PEv.lenS Tryz.underlying22 (.tmp rfl)) rfl rfl rfl ?_
  refine LW.p (PEv.fa (PEv.neq (.tmp rfl) (.const _)) (rfl)) rfl rfl rfl ?_
  refine LW.nil (KW.then ?_)
  refine CW.cond_false (.tmp rfl) ?_
  refine CW.skip (KW.then (CW.seq (CW.region ?_)))
  refine LW.p (PEv.build (cs := quF.cells) Tryz.underlying35 Tryz.zeroValue35 Tryz.places35 (.cons (.const _) (.cons (.const _) (.cons (.const _) (.cons (.const _) (.cons (.const _) (.cons (.const _) .nil)))))) rfl) rfl rfl rfl ?_
  refine LW.r (REv.buildSlice (xs := [quF]) (enc := Fact.cells) (mk := fun f : Fact => .agg f.cells) Tryz.underlying22 Tryz.sizeOf35 Tryz.zeroValue35 rfl (by decide) (fun _ => rfl) (fun _ => rfl) (.cons (.tmp rfl) .nil) rfl) rfl rfl rfl rfl ?_
  rintro _ w35 ⟨B101, cB101, rfl, NB101, yB101, xB101⟩
  have eB101 := NB101.at_
  have zB101 := NB101.size
  replace hW := hW.up NB101.up
  replace hB2 := hB2.up NB101.up
  replace hB3 := hB3.up NB101.up
  replace hB4 := hB4.up NB101.up
  replace hB5 := hB5.up NB101.up
  replace hU6 := hU6.up NB101.up
  replace hB12 := hB12.up NB101.up
  replace hU12 := hU12.up NB101.up
  replace hB13 := hB13.up NB101.up
  replace hU15 := hU15.up NB101.up
  replace hB15 := hB15.up NB101.up
  replace hB17 := hB17.up NB101.up
  have hB101 := NB101.blk
  have hE101 := xB101
  refine LW.p (PEv.build (cs := #[.slice none 0 0, .slice none 0 0, .slice none 0 0, .slice none 0 0, .slice none 0 0, .slice (some ⟨B101, 0, none⟩) 1 1, .slice none 0 0, .slice none 0 0, .slice none 0 0, .slice none 0 0, .slice none 0 0]) Tryz.underlying26 Tryz.zeroValue26 Tryz.places26 (.cons (.tmp rfl) .nil) rfl) rfl rfl rfl ?_
  refine LW.c (enter_call0 (.cons (.tmp rfl) (.cons (.const _) (.cons (.const _) (.cons (.const _) (.cons (.const _) (.cons (.const _) .nil)))))) (Tryz.en20)) rfl rfl rfl rfl (Qualified_any (#[.slice none 0 0, .slice none 0 0, .slice none 0 0, .slice none 0 0, .slice none 0 0, .slice (some ⟨B101, 0, none⟩) 1 1, .slice none 0 0, .slice none 0 0, .slice none 0 0, .slice none 0 0, .slice none 0 0]) baseQ 1 2 3 4 6 _ (⟨_, _, _, _, _, _, _, _, _, _, _, rfl, Sl.nil _ _ _, Sl.nil _ _ _, Sl.nil _ _ _, Sl.nil _ _ _, Sl.nil _ _ _, Sl.of_els hE101, Sl.nil _ _ _, Sl.nil _ _ _, Sl.nil _ _ _, Sl.nil _ _ _, Sl.nil _ _ _⟩) (by decide)) ?_
  rintro _ w36 ⟨rfl, uw36⟩
  have zw36 := uw36.size
  replace hW := hW.up uw36
  replace hB2 := hB2.up uw36
  replace hB3 := hB3.up uw36
  replace hB4 := hB4.up uw36
  replace hB5 := hB5.up uw36
  replace hU6 := hU6.up uw36
  replace hB12 := hB12.up uw36
  replace hU12 := hU12.up uw36
  replace hB13 := hB13.up uw36
  replace hU15 := hU15.up uw36
  replace hB15 := hB15.up uw36
  replace hB17 := hB17.up uw36
  replace hB101 := hB101.up uw36
  replace hE101 := hE101.up uw36
  rw [qq1]
  refine LW.p (PEv.assign (.tmp rfl)) rfl rfl rfl (LW.nil (KW.then (CW.seq (CW.region ?_))))
  refine LW.p (PEv.fieldAddr (off := 9) Tryz.underlying26 rfl rfl Tryz.sizeOf22 rfl (.tmp rfl)) rfl rfl rfl ?_
  refine LW.p (PEv.load Tryz.isAgg22 (.tmp rfl) (hB3.cell h93)) rfl rfl rfl ?_
  refine LW.p (PEv.indexAddr (j := 0) Tryz.underlying22 Tryz.sizeOf35 (.tmp rfl) (.const _) (by decide)) rfl rfl rfl ?_
  refine LW.p (PEv.fieldAddr (off := 16) Tryz.underlying35 rfl rfl Tryz.sizeOf3 rfl (.tmp rfl)) rfl rfl rfl ?_
  refine LW.p (PEv.load Tryz.isAgg3 (.tmp rfl) ((x3h.up hU6).nth (j := 16) rfl)) rfl rfl rfl ?_
  refine LW.p (PEv.tr (PEv.eql (.tmp rfl) (.const _)) (rfl)) rfl rfl rfl ?_
  refine LW.p (PEv.move (.tmp rfl)) rfl rfl rfl ?_
  refine LW.yes rfl rfl rfl rfl rfl rfl ?_
  refine LW.p (PEv.fieldAddr (off := 9) Tryz.underlying26 rfl rfl Tryz.sizeOf22 rfl (.tmp rfl)) rfl rfl rfl ?_
  refine LW.yes rfl rfl rfl rfl rfl rfl ?_
  refine LW.p (PEv.load Tryz.isAgg22 (.tmp rfl) (hB4.cell h94)) rfl rfl rfl ?_
  refine LW.yes rfl rfl rfl rfl rfl rfl ?_
  refine LW.p (PEv.indexAddr (j := 0) Tryz.underlying22 Tryz.sizeOf35 (.tmp rfl) (.const _) (by decide)) rfl rfl rfl ?_
  refine LW.yes rfl rfl rfl rfl rfl rfl ?_
  refine LW.p (PEv.fieldAddr (off := 16) Tryz.underlying35 rfl rfl Tryz.sizeOf3 rfl (.tmp rfl)) rfl rfl rfl ?_
  refine LW.yes rfl rfl rfl rfl rfl rfl ?_
  refine LW.p (PEv.load Tryz.isAgg3 (.tmp rfl) ((x4h.up hU6).nth (j := 16) rfl)) rfl rfl rfl ?_
  refine LW.yes rfl rfl rfl rfl rfl rfl ?_
  refine LW.p (PEv.tr (PEv.eql (.tmp rfl) (.const _)) (rfl)) rfl rfl rfl ?_
  refine LW.p (PEv.pick_and (.tmp rfl) (fun hp => (by first | exact .const _ | exact .tmp rfl | exact .cond rfl (by first | assumption | simp_all)))) rfl rfl rfl ?_
  refine LW.p (PEv.move (.tmp rfl)) rfl rfl rfl ?_
  refine LW.yes rfl rfl rfl rfl rfl rfl ?_
  refine LW.p (PEv.fieldAddr (off := 9) Tryz.underlying26 rfl rfl Tryz.sizeOf22 rfl (.tmp rfl)) rfl rfl rfl ?_
  refine LW.yes rfl rfl rfl rfl rfl rfl ?_
  refine LW.p (PEv.load Tryz.isAgg22 (.tmp rfl) (hB5.cell h96)) rfl rfl rfl ?_
  refine LW.yes rfl rfl rfl rfl rfl rfl ?_
  refine LW.p (PEv.indexAddr (j := 0) Tryz.underlying22 Tryz.sizeOf35 (.tmp rfl) (.const _) (by decide)) rfl rfl rfl ?_
  refine LW.yes rfl rfl rfl rfl rfl rfl ?_
  refine LW.p (PEv.fieldAddr (off := 5) Tryz.underlying35 rfl rfl Tryz.sizeOf3 rfl (.tmp rfl)) rfl rfl rfl ?_
  refine LW.yes rfl rfl rfl rfl rfl rfl ?_
  refine LW.p (PEv.load Tryz.isAgg3 (.tmp rfl) ((x6h.up hU6).nth (j := 5) rfl)) rfl rfl rfl ?_
  refine LW.yes rfl rfl rfl rfl rfl rfl ?_
  refine LW.p (PEv.tr (PEv.eql (.tmp rfl) (.const _)) (rfl)) rfl rfl rfl ?_
  refine LW.p (PEv.pick_and (.tmp rfl) (fun hp => (by first | exact .const _ | exact .tmp rfl | exact .cond rfl (by first | assumption | simp_all)))) rfl rfl rfl ?_
  refine LW.p (PEv.move (.tmp rfl)) rfl rfl rfl ?_
  refine LW.yes rfl rfl rfl rfl rfl rfl ?_
  refine LW.p (PEv.move (.tmp rfl)) rfl rfl rfl ?_
  refine LW.yes rfl rfl rfl rfl rfl rfl ?_
  refine LW.p (PEv.tr (PEv.eql (.tmp rfl) (.const _)) (rfl)) rfl rfl rfl ?_
  refine LW.p (PEv.pick_and (.tmp rfl) (fun hp => (by first | exact .const _ | exact .tmp rfl | exact .cond rfl (by first | assumption | simp_all)))) rfl rfl rfl ?_
  refine LW.p (PEv.move (.tmp rfl)) rfl rfl rfl ?_
  refine LW.yes rfl rfl rfl rfl rfl rfl ?_
  refine LW.p (PEv.move (.tmp rfl)) rfl rfl rfl ?_
  refine LW.p (PEv.pick_and (.tmp rfl) (fun hp => (by first | exact .const _ | exact .tmp rfl | exact .cond rfl (by first | assumption | simp_all)))) rfl rfl rfl ?_
  refine LW.p (PEv.move (.tmp rfl)) rfl rfl rfl ?_
  refine LW.yes rfl rfl rfl rfl rfl rfl ?_
  refine LW.p (PEv.move (.tmp rfl)) rfl rfl rfl ?_
  refine LW.yes rfl rfl rfl rfl rfl rfl ?_
  refine LW.p (PEv.tr (PEv.eql (.tmp rfl) (.const _)) (rfl)) rfl rfl rfl ?_
  refine LW.p (PEv.pick_and (.tmp rfl) (fun hp => (by first | exact .const _ | exact .tmp rfl | exact .cond rfl (by first | assumption | simp_all)))) rfl rfl rfl ?_
  refine LW.p (PEv.move (.tmp rfl)) rfl rfl rfl ?_
  refine LW.yes rfl rfl rfl rfl rfl rfl ?_
  refine LW.p (PEv.move (.tmp rfl)) rfl rfl rfl ?_
  refine LW.p (PEv.pick_and (.tmp rfl) (fun hp => (by first | exact .const _ | exact .tmp rfl | exact .cond rfl (by first | assumption | simp_all)))) rfl rfl rfl ?_
  refine LW.p (PEv.move (.tmp rfl)) rfl rfl rfl ?_
  refine LW.yes rfl rfl rfl rfl rfl rfl ?_
  refine LW.p (PEv.move (.tmp rfl)) rfl rfl rfl ?_
  refine LW.yes rfl rfl rfl rfl rfl rfl ?_
  refine LW.p (PEv.not (.tmp rfl)) rfl rfl rfl ?_
  refine LW.p (PEv.pick_and (.tmp rfl) (fun hp => (by first | exact .const _ | exact .tmp rfl | exact .cond rfl (by first | assumption | simp_all)))) rfl rfl rfl ?_
  refine LW.p (PEv.move (.tmp rfl)) rfl rfl rfl ?_
  refine LW.yes rfl rfl rfl rfl rfl rfl ?_
  refine LW.p (PEv.fieldAddr (off := 3) Tryz.underlying26 rfl rfl Tryz.sizeOf22 rfl (.tmp rfl)) rfl rfl rfl ?_
  refine LW.yes rfl rfl rfl rfl rfl rfl ?_
  refine LW.p (PEv.load Tryz.isAgg22 (.tmp rfl) (hB12.cell h30)) rfl rfl rfl ?_
  refine LW.yes rfl rfl rfl rfl rfl rfl ?_
  refine LW.p (PEv.indexAddr (j := 0) Tryz.underlying22 Tryz.sizeOf35 (.tmp rfl) (.const _) (by decide)) rfl rfl rfl ?_
  refine LW.yes rfl rfl rfl rfl rfl rfl ?_
  refine LW.p (PEv.fieldAddr (off := 7) Tryz.underlying35 rfl rfl Tryz.sizeOf3 rfl (.tmp rfl)) rfl rfl rfl ?_
  refine LW.yes rfl rfl rfl rfl rfl rfl ?_
  refine LW.p (PEv.load Tryz.isAgg3 (.tmp rfl) ((y0h.up hU12).nth (j := 7) rfl)) rfl rfl rfl ?_
  refine LW.yes rfl rfl rfl rfl rfl rfl ?_
  refine LW.p (PEv.tr (PEv.eql (.tmp rfl) (.const _)) (rfl)) rfl rfl rfl ?_
  refine LW.p (PEv.pick_and (.tmp rfl) (fun hp => (by first | exact .const _ | exact .tmp rfl | exact .cond rfl (by first | assumption | simp_all)))) rfl rfl rfl ?_
  refine LW.p (PEv.move (.tmp rfl)) rfl rfl rfl ?_
  refine LW.yes rfl rfl rfl rfl rfl rfl ?_
  refine LW.p (PEv.fieldAddr (off := 3) Tryz.underlying26 rfl rfl Tryz.sizeOf22 rfl (.tmp rfl)) rfl rfl rfl ?_
  refine LW.yes rfl rfl rfl rfl rfl rfl ?_
  refine LW.p (PEv.load Tryz.isAgg22 (.tmp rfl) (hB12.cell h30)) rfl rfl rfl ?_
  refine LW.yes rfl rfl rfl rfl rfl rfl ?_
  refine LW.p (PEv.indexAddr (j := 1) Tryz.underlying22 Tryz.sizeOf35 (.tmp rfl) (.const _) (by decide)) rfl rfl rfl ?_
  refine LW.yes rfl rfl rfl rfl rfl rfl ?_
  refine LW.p (PEv.fieldAddr (off := 5) Tryz.underlying35 rfl rfl Tryz.sizeOf3 rfl (.tmp rfl)) rfl rfl rfl ?_
  refine LW.yes rfl rfl rfl rfl rfl rfl ?_
  refine LW.p (PEv.load Tryz.isAgg3 (.tmp rfl) ((y1h.up hU12).nth (j := 5) rfl)) rfl rfl rfl ?_
  refine LW.yes rfl rfl rfl rfl rfl rfl ?_
  refine LW.p (PEv.tr (PEv.eql (.tmp rfl) (.const _)) (rfl)) rfl rfl rfl ?_
  refine LW.p (PEv.pick_and (.tmp rfl) (fun hp => (by first | exact .const _ | exact .tmp rfl | exact .cond rfl (by first | assumption | simp_all)))) rfl rfl rfl ?_
  refine LW.p (PEv.move (.tmp rfl)) rfl rfl rfl ?_
  refine LW.yes rfl rfl rfl rfl rfl rfl ?_
  refine LW.p (PEv.move (.tmp rfl)) rfl rfl rfl ?_
  refine LW.yes rfl rfl rfl rfl rfl rfl ?_
  refine LW.p (PEv.indexAddr (j := 0) Tryz.underlying22 Tryz.sizeOf35 (.tmp rfl) (.const _) (by decide)) rfl rfl rfl ?_
  refine LW.yes rfl rfl rfl rfl rfl rfl ?_
  refine LW.p (PEv.fieldAddr (off := 1) Tryz.underlying35 rfl rfl Tryz.sizeOf3 rfl (.tmp rfl)) rfl rfl rfl ?_
  refine LW.yes rfl rfl rfl rfl rfl rfl ?_
  refine LW.p (PEv.load Tryz.isAgg3 (.tmp rfl) ((r0h.up hU15).nth (j := 1) rfl)) rfl rfl rfl ?_
  refine LW.yes rfl rfl rfl rfl rfl rfl ?_
  refine LW.p (PEv.tr (PEv.eql (.tmp rfl) (.const _)) (rfl)) rfl rfl rfl ?_
  refine LW.p (PEv.pick_and (.tmp rfl) (fun hp => (by first | exact .const _ | exact .tmp rfl | exact .cond rfl (by first | assumption | simp_all)))) rfl rfl rfl ?_
  refine LW.p (PEv.move (.tmp rfl)) rfl rfl rfl ?_
  refine LW.yes rfl rfl rfl rfl rfl rfl ?_
  refine LW.p (PEv.move (.tmp rfl)) rfl rfl rfl ?_
  refine LW.yes rfl rfl rfl rfl rfl rfl ?_
  refine LW.p (PEv.indexAddr (j := 1) Tryz.underlying22 Tryz.sizeOf35 (.tmp rfl) (.const _) (by decide)) rfl rfl rfl ?_
  refine LW.yes rfl rfl rfl rfl rfl rfl ?_
  refine LW.p (PEv.fieldAddr (off := 1) Tryz.underlying35 rfl rfl Tryz.sizeOf3 rfl (.tmp rfl)) rfl rfl rfl ?_
  refine LW.yes rfl rfl rfl rfl rfl rfl ?_
  refine LW.p (PEv.load Tryz.isAgg3 (.tmp rfl) ((r1h.up hU15).nth (j := 1) rfl)) rfl rfl rfl ?_
  refine LW.yes rfl rfl rfl rfl rfl rfl ?_
  refine LW.p (PEv.tr (PEv.eql (.tmp rfl) (.const _)) (rfl)) rfl rfl rfl ?_
  refine LW.p (PEv.pick_and (.tmp rfl) (fun hp => (by first | exact .const _ | exact .tmp rfl | exact .cond rfl (by first | assumption | simp_all)))) rfl rfl rfl ?_
  refine LW.p (PEv.move (.tmp rfl)) rfl rfl rfl ?_
  refine LW.yes rfl rfl rfl rfl rfl rfl ?_
  refine LW.p (PEv.fieldAddr (off := 5) Tryz.underlying35 rfl rfl Tryz.sizeOf3 rfl (.tmp rfl)) rfl rfl rfl ?_
  refine LW.yes rfl rfl rfl rfl rfl rfl ?_
  refine LW.p (PEv.load Tryz.isAgg3 (.tmp rfl) (hB15.celln rfl)) rfl rfl rfl ?_
  refine LW.yes rfl rfl rfl rfl rfl rfl ?_
  refine LW.p (PEv.tr (PEv.eql (.tmp rfl) (.const _)) (rfl)) rfl rfl rfl ?_
  refine LW.p (PEv.pick_and (.tmp rfl) (fun hp => (by first | exact .const _ | exact .tmp rfl | exact .cond rfl (by first | assumption | simp_all)))) rfl rfl rfl ?_
  refine LW.p (PEv.move (.tmp rfl)) rfl rfl rfl ?_
  refine LW.yes rfl rfl rfl rfl rfl rfl ?_
  refine LW.p (PEv.move (.tmp rfl)) rfl rfl rfl ?_
  refine LW.p (PEv.pick_and (.tmp rfl) (fun hp => (by first | exact .const _ | exact .tmp rfl | exact .cond rfl (by first | assumption | simp_all)))) rfl rfl rfl ?_
  refine LW.p (PEv.move (.tmp rfl)) rfl rfl rfl ?_
  refine LW.yes rfl rfl rfl rfl rfl rfl ?_
  refine LW.p (PEv.move (.tmp rfl)) rfl rfl rfl ?_
  refine LW.yes rfl rfl rfl rfl rfl rfl ?_
  refine LW.p (PEv.not (.tmp rfl)) rfl rfl rfl ?_
  refine LW.p (PEv.pick_and (.tmp rfl) (fun hp => (by first | exact .const _ | exact .tmp rfl | exact .cond rfl (by first | assumption | simp_all)))) rfl rfl rfl ?_
  refine LW.p (PEv.move (.tmp rfl)) rfl rfl rfl ?_
  refine LW.yes rfl rfl rfl rfl rfl rfl ?_
  refine LW.p (PEv.move (.tmp rfl)) rfl rfl rfl ?_
  refine LW.p (PEv.pick_and (.tmp rfl) (fun hp => (by first | exact .const _ | exact .tmp rfl | exact .cond rfl (by first | assumption | simp_all)))) rfl rfl rfl ?_
  refine LW.p (PEv.move (.tmp rfl)) rfl rfl rfl ?_
  refine LW.yes rfl rfl rfl rfl rfl rfl ?_
  refine LW.p (PEv.loadA Tryz.isAgg26 Tryz.sizeOf26 (hC3.size) (.tmp rfl) (hB3.agg)) rfl rfl rfl ?_
  refine LW.yes rfl rfl rfl rfl rfl rfl ?_
  refine LW.p (PEv.loadA Tryz.isAgg26 Tryz.sizeOf26 (hC3.size) (.tmp rfl) (hB3.agg)) rfl rfl rfl ?_
  refine LW.yes rfl rfl rfl rfl rfl rfl ?_
  refine LW.c (enter_call0 (.cons (.tmp rfl) (.cons (.tmp rfl) .nil)) (Tryz.en11)) rfl rfl rfl rfl (Same_any _ _ (ofB l4 3) (ofB l4 3) _ (hC3.up hU6) (hC3.up hU6) (ofB_short (by decide) _)) ?_
  rintro _ w37 ⟨rfl, uw37⟩
  have zw37 := uw37.size
  replace hW := hW.up uw37
  replace hB2 := hB2.up uw37
  replace hB3 := hB3.up uw37
  replace hB4 := hB4.up uw37
  replace hB5 := hB5.up uw37
  replace hU6 := hU6.up uw37
  replace hB12 := hB12.up uw37
  replace hU12 := hU12.up uw37
  replace hB13 := hB13.up uw37
  replace hU15 := hU15.up uw37
  replace hB15 := hB15.up uw37
  replace hB17 := hB17.up uw37
  replace hB101 := hB101.up uw37
  replace hE101 := hE101.up uw37
  rw [e1]
  refine LW.p (PEv.pick_and (.tmp rfl) (fun hp => (by first | exact .const _ | exact .tmp rfl | exact .cond rfl (by first | assumption | simp_all)))) rfl rfl rfl ?_
  refine LW.p (PEv.move (.tmp rfl)) rfl rfl rfl ?_
  refine LW.yes rfl rfl rfl rfl rfl rfl ?_
  refine LW.p (PEv.loadA Tryz.isAgg26 Tryz.sizeOf26 (hC3.size) (.tmp rfl) (hB3.agg)) rfl rfl rfl ?_
  refine LW.yes rfl rfl rfl rfl rfl rfl ?_
  refine LW.p (PEv.loadA Tryz.isAgg26 Tryz.sizeOf26 (hC4.size) (.tmp rfl) (hB4.agg)) rfl rfl rfl ?_
  refine LW.yes rfl rfl rfl rfl rfl rfl ?_
  refine LW.c (enter_call0 (.cons (.tmp rfl) (.cons (.tmp rfl) .nil)) (Tryz.en11)) rfl rfl rfl rfl (Same_any _ _ (ofB l4 3) (ofB l4 4) _ (hC3.up hU6) (hC4.up hU6) (ofB_short (by decide) _)) ?_
  rintro _ w38 ⟨rfl, uw38⟩
  have zw38 := uw38.size
  replace hW := hW.up uw38
  replace hB2 := hB2.up uw38
  replace hB3 := hB3.up uw38
  replace hB4 := hB4.up uw38
  replace hB5 := hB5.up uw38
  replace hU6 := hU6.up uw38
  replace hB12 := hB12.up uw38
  replace hU12 := hU12.up uw38
  replace hB13 := hB13.up uw38
  replace hU15 := hU15.up uw38
  replace hB15 := hB15.up uw38
  replace hB17 := hB17.up uw38
  replace hB101 := hB101.up uw38
  replace hE101 := hE101.up uw38
  rw [e2]
  refine LW.yes rfl rfl rfl rfl rfl rfl ?_
  refine LW.p (PEv.not (.tmp rfl)) rfl rfl rfl ?_
  refine LW.p (PEv.pick_and (.tmp rfl) (fun hp => (by first | exact .const _ | exact .tmp rfl | exact .cond rfl (by first | assumption | simp_all)))) rfl rfl rfl ?_
  refine LW.p (PEv.assign (.tmp rfl)) rfl rfl rfl (LW.nil (KW.then (CW.ret ?_)))
  refine KW.ret1 rfl rfl ⟨_, rfl, ?_⟩
  exact ⟨rfl, hW⟩

end Go.Proofs.YtdelcaegofkknaaGreat
