import Derived.Test.YtkpkljbmbmjadaaDi11
import Derived.Test.YtkpkljbmbmjadaaBs
namespace Go.Wx

theorem PEv.val {P : Program} {n : Nat} {ds : List Deferred} {l : Env} {w : World} {o : Oper} {v v' : Go.Value} (h : PEv P n ds l w o v) (e : v = v') : PEv P n ds l w o v' := e ▸ h
structure Rf where
  bd : Nat
  sv : Go.Value
  lv : Go.Value
def rcells (R : Rf) (s : DS) : Array Go.Value := #[R.sv, R.lv, .bool s.off, vi s.left]

end Go.Wx
namespace Go.Proofs.Ytkpkljbmbmjadaa
open Go.Wx Go.RowKit
def aRef (R : Rf) (s : DS) : Asr := aAnd [aBlk R.bd (rcells R s) 43, aOwn 5 1 eBy R.sv s.dur, aOwn 80 2 Wr.cells R.lv s.pend]
theorem rApply_any (ad : Option Addr) (cp j : Nat) (x : ByteArray) (c : List UInt8) (w : World) (ho : OwnS w 0 5 1 eBy (.slice ad c.length cp) c) (hj : j + x.size ≤ c.length) (hm : c.length ≤ 4194304) : Ret Try.prog 44 #[.slice ad c.length cp, vi (j : Int), .string x] w fun r w' => r = .tuple #[] ∧ Stp (aOwn 5 1 eBy (.slice ad c.length cp) (c)) (aOwn 5 1 eBy (.slice ad c.length cp) (overlay c j x.data.toList)) w w' := by
  obtain ⟨w0, rfl⟩ : ∃ w0, w0 = w := ⟨_, rfl⟩
  have hS : Sep (aOwn 5 1 eBy (.slice ad c.length cp) (c)).foot w0 w0 [aOwn 5 1 eBy (.slice ad c.length cp) (c)] := Sep.cons (A := aOwn 5 1 eBy (.slice ad c.length cp) (c)) ho (fun _ h => h) (Sep.start _ _) (by simp)
  refine Calls_start (n := 21) (m := 9) Try.func44 rfl rfl rfl ?_
  refine CW.seq (CW.region (LW.p (PEv.assign (.const _)) rfl rfl rfl (LW.nil (KW.then (CW.block ?_)))))
  refine CW.loopB (σ := Nat) (fun s w => (s ≤ x.size) ∧ (Sep (aOwn 5 1 eBy (.slice ad c.length cp) (c)).foot w0 w [aOwn 5 1 eBy (.slice ad c.length cp) (overlay c j (x.data.toList.take s))])) (fun s => [(6, .eq (vi (s : Int)))]) ([(0, .eq _), (1, .eq _), (2, .eq _)]) (fun s => x.size - s) 0 ?_ ⟨rfl, rfl, rfl, rfl, trivial⟩ ?_
  ·exact ⟨Nat.zero_le _, by rw [List.take_zero, overlay_nil]; exact hS⟩
  ·rintro k w1 ⟨hk, hS⟩
   refine CW.seq (CW.seq (CW.region (LW.p (PEv.move (.tmp rfl)) rfl rfl rfl (LW.p (PEv.move (.tmp rfl)) rfl rfl rfl ?_))))
   refine LW.p (PEv.lenStr Try.underlying9 (.tmp rfl)) rfl rfl rfl ?_
   refine LW.p (PEv.lss (.tmp rfl) (.tmp rfl)) rfl rfl rfl ?_
   refine LW.nil (KW.then ?_)
   refine CW.cond (.tmp rfl) (fun h10 => ?_) (fun h10 => ?_)
   ·first | replace h10 := of_decide_eq_true h10 | replace h10 := of_decide_eq_false h10 | skip
    refine CW.skip (KW.then (CW.seq (CW.block ?_)))
    have hsx := bytes_len x
    have hck : (overlay c j (x.data.toList.take k)).length = c.length := overlay_length (by simp; omega)
    obtain ⟨y, hy⟩ := getElem?_of_lt (xs := overlay c j (x.data.toList.take k)) (i := j + k) (by omega)
    obtain ⟨g, rfl⟩ := (hS.own 0 rfl).adr (by omega)
    refine CW.region (LW.p (PEv.move (.tmp rfl)) rfl rfl rfl (LW.p (PEv.move (.tmp rfl)) rfl rfl rfl (LW.p (PEv.move (.tmp rfl)) rfl rfl rfl ?_)))
    refine LW.p (PEv.addN (.tmp rfl) (.tmp rfl) (by omega)) rfl rfl rfl ?_
    refine LW.p (PEv.move (.tmp rfl)) rfl rfl rfl (LW.p (PEv.move (.tmp rfl)) rfl rfl rfl ?_)
    refine LW.p (PEv.strIndex Try.underlying9 (.tmp rfl) (.tmp rfl) (by omega)) rfl rfl rfl ?_
    refine LW.p (PEv.indexAddr' Try.underlying40 Try.sizeOf5 (.tmp rfl) (.tmp rfl) (by omega) rfl) rfl rfl rfl ?_
    refine LW.s (SEv.storeOwnF (enc := eBy) (k := 1) (j := 0) (i := j + k) (z := x.data.toList[k]'(by rw [hsx]; omega)) Try.sizeOf5 (fun _ => rfl) rfl (.tmp rfl) (.tmp rfl) (hS.own 0 rfl) hy (by decide) rfl) rfl rfl rfl ?_
    intro w2 Gw2
    rw [overlay_step (by rw [hsx]; omega) (by rw [hsx]; omega)] at Gw2
    have zw2 := Gw2.fr.size
    replace hS := hS.stp 0 rfl Gw2
    change Wx.Sep _ _ _ [_] at hS
    refine LW.nil (KW.inBlock (KW.then (CW.region (LW.p (PEv.move (.tmp rfl)) rfl rfl rfl ?_))))
    refine LW.p (PEv.inc (.tmp rfl) (by omega)) rfl rfl rfl ?_
    refine LW.p (PEv.assign (.tmp rfl)) rfl rfl rfl (LW.nil (KW.round ?_))
    exact ⟨k + 1, ⟨by omega, hS⟩, ⟨rfl, rfl, rfl, rfl, trivial⟩, by first | omega | (dsimp only; omega)⟩
   ·first | replace h10 := of_decide_eq_true h10 | replace h10 := of_decide_eq_false h10 | skip
    have hkk2 : k = x.size := by omega
    subst hkk2
    rw [List.take_of_length_le (by rw [bytes_len]; exact Nat.le_refl _)] at hS
    refine CW.exit (KW.then_exit (KW.then_exit (KW.block_hit ?_)))
    refine KW.end0 rfl ⟨_, rfl, ?_⟩
    exact ⟨rfl, hS.fr, hS.get 0 rfl, fun _ h => .inl h⟩

theorem rApply_v (v : Go.Value) (j : Nat) (x : ByteArray) (c : List UInt8) (w : World) (ho : OwnS w 0 5 1 eBy v c) (hj : j + x.size ≤ c.length) (hm : c.length ≤ 4194304) : Ret Try.prog 44 #[v, vi (j : Int), .string x] w fun r w' => r = .tuple #[] ∧ Stp (aOwn 5 1 eBy v c) (aOwn 5 1 eBy v (overlay c j x.data.toList)) w w' := by
  obtain ⟨ad, cp, rfl, _⟩ := ho.sl (fun _ => rfl)
  exact rApply_any ad cp j x c w ho hj hm

theorem rVisible_any (R : Rf) (z : DS) (w : World) (hB0 : Blk w R.bd (rcells R z) 43) (hSv : OwnS w 0 5 1 eBy R.sv z.dur) (hLv : OwnS w 0 80 2 Wr.cells R.lv z.pend) (hk : DOk z) : Ret Try.prog 34 #[.pointer (some ⟨R.bd, 0, none⟩)] w fun r w' => OwnS w' w.heap.size 5 1 eBy r (applyAll z.dur z.pend) ∧ Up w w' := by
  have hW := Up.refl w
  obtain ⟨w0, rfl⟩ : ∃ w0, w0 = w := ⟨_, rfl⟩
  obtain ⟨al, cpl, el, hEl⟩ := hLv.sl (fun _ => rfl)
  have hmx := hk.max
  have hpm := hk.pmax
  refine Calls_start (n := 39) (m := 9) Try.func34 rfl rfl rfl ?_
  refine CW.seq (CW.region (LW.p (PEv.assign (.const _)) rfl rfl rfl (LW.nil (KW.then (CW.seq (CW.region ?_))))))
  refine LW.r (REv.buildSlice (xs := ([] : List UInt8)) (enc := eBy) (mk := bv) Try.underlying40 Try.sizeOf5 Try.zeroValue5 rfl (by decide) (fun _ => rfl) (fun _ => rfl) .nil rfl) rfl rfl rfl rfl ?_
  intro v5 w1 hN5
  obtain ⟨uw1, B5, rfl, hO5⟩ := NewSl.own0 (base := w0.heap.size) hN5 (Nat.le_refl _)
  have zu5 := uw1.size
  replace hW := hW.up uw1
  refine LW.p (PEv.move (.tmp rfl)) rfl rfl rfl ?_
  refine LW.p (PEv.nilCheck (.tmp rfl)) rfl rfl rfl ?_
  refine LW.p (PEv.fieldAddr (off := 0) Try.underlying43 rfl rfl Try.sizeOf40 rfl (.tmp rfl)) rfl rfl rfl ?_
  refine LW.p (PEv.load Try.isAgg40 (.tmp rfl) ((hB0.up hW).celln rfl)) rfl rfl rfl ?_
  refine LW.r (REv.append0 (enc := eBy) (k := 1) (bytes := 1) (i := Try.t5) (base := w0.heap.size) Try.underlying40 (by kernel_rfl) rfl rfl rfl rfl (by decide) (fun _ => rfl) (.tmp rfl) (.tmp rfl) hO5 ((hSv.up hW).sl (fun _ => rfl)) (by simp [maxLen]; omega) (by omega) zu5) rfl rfl rfl rfl ?_
  rintro v10 w2 ⟨uw2, hO10⟩
  have zw2 := uw2.size
  replace hW := hW.up uw2
  refine LW.p (PEv.assign (.tmp rfl)) rfl rfl rfl (LW.nil (KW.then (CW.seq (CW.seq ?_))))
  have hS := (Sep.start no w0).add hW (A' := aOwn 5 1 eBy v10 (z.dur)) (hO10.mono (Nat.zero_le _)) (fun i h => hO10.base i h)
  change Wx.Sep no w0 _ [_] at hS
  refine CW.region (LW.p (PEv.assign (.const _)) rfl rfl rfl (LW.nil (KW.then (CW.block ?_))))
  refine CW.loopB (σ := Nat) (fun s w => (s ≤ z.pend.length) ∧ (Wx.Sep no w0 w [aOwn 5 1 eBy v10 (applyAll z.dur (z.pend.take s))])) (fun s => [(4, .eq (vi (s : Int)))]) ([(0, .eq _), (2, .eq _), (3, .eq _)]) (fun s => z.pend.length - s) 0 ?_ ⟨rfl, rfl, rfl, rfl, trivial⟩ ?_
  ·exact ⟨Nat.zero_le _, by rw [List.take_zero]; exact hS⟩
  ·rintro i w3 ⟨hi, hS⟩
   refine CW.seq (CW.seq (CW.region (LW.p (PEv.move (.tmp rfl)) rfl rfl rfl (LW.p (PEv.move (.tmp rfl)) rfl rfl rfl ?_))))
   refine LW.p (PEv.nilCheck (.tmp rfl)) rfl rfl rfl ?_
   refine LW.p (PEv.fieldAddr (off := 1) Try.underlying43 rfl rfl Try.sizeOf41 rfl (.tmp rfl)) rfl rfl rfl ?_
   refine LW.p (PEv.val (v' := .slice al z.pend.length cpl) (PEv.load Try.isAgg41 (.tmp rfl) ((hB0.up hS.upd).celln rfl)) el) rfl rfl rfl ?_
   refine LW.p (PEv.lenS Try.underlying41 (.tmp rfl)) rfl rfl rfl ?_
   refine LW.p (PEv.lss (.tmp rfl) (.tmp rfl)) rfl rfl rfl ?_
   refine LW.nil (KW.then ?_)
   refine CW.cond (.tmp rfl) (fun h17 => ?_) (fun h17 => ?_)
   ·first | replace h17 := of_decide_eq_true h17 | replace h17 := of_decide_eq_false h17 | skip
    refine CW.skip (KW.then (CW.seq (CW.block ?_)))
    obtain ⟨x, hx⟩ := getElem?_of_lt (xs := z.pend) (i := i) (by omega)
    obtain ⟨Bx, ox, ax, hcx⟩ := (Els.up hEl hS.upd) i x hx
    obtain ⟨hx0, hx1⟩ := hk.wok x (List.mem_of_getElem? hx)
    obtain ⟨j, hj⟩ : ∃ j : Nat, x.off = (j : Int) := ⟨x.off.toNat, by omega⟩
    have hln : (applyAll z.dur (z.pend.take i)).length = z.dur.length := applyAll_length (fun y hy => (hk.wok y (List.mem_of_mem_take hy)).2)
    refine CW.draws_then 17 (by kernel_rfl) (by kernel_rfl) (by kernel_rfl) (by kernel_rfl) (by kernel_rfl) rfl rfl ?_
    refine HW.p (PEv.move (.tmp rfl)) rfl rfl ?_
    refine HW.p (PEv.move (.tmp rfl)) rfl rfl ?_
    refine HW.p (PEv.nilCheck (.tmp rfl)) rfl rfl ?_
    refine HW.p (PEv.fieldAddr (off := 1) Try.underlying43 rfl rfl Try.sizeOf41 rfl (.tmp rfl)) rfl rfl ?_
    refine HW.p (PEv.val (v' := .slice al z.pend.length cpl) (PEv.load Try.isAgg41 (.tmp rfl) ((hB0.up hS.upd).celln rfl)) el) rfl rfl ?_
    refine HW.p (PEv.move (.tmp rfl)) rfl rfl ?_
    refine HW.p (PEv.indexAddr' Try.underlying41 Try.sizeOf80 (.tmp rfl) (.tmp rfl) (by omega) ax) rfl rfl ?_
    refine HW.p (PEv.fieldAddr (off := 0) Try.underlying80 rfl rfl Try.sizeOf3 rfl (.tmp rfl)) rfl rfl ?_
    refine HW.p (PEv.val (v' := vi (j : Int)) (PEv.load Try.isAgg3 (.tmp rfl) (hcx.nth (j := 0) rfl)) (by rw [← hj])) rfl rfl ?_
    refine HW.p (PEv.move (.tmp rfl)) rfl rfl ?_
    refine HW.p (PEv.nilCheck (.tmp rfl)) rfl rfl ?_
    refine HW.p (PEv.fieldAddr (off := 1) Try.underlying43 rfl rfl Try.sizeOf41 rfl (.tmp rfl)) rfl rfl ?_
    refine HW.p (PEv.val (v' := .slice al z.pend.length cpl) (PEv.load Try.isAgg41 (.tmp rfl) ((hB0.up hS.upd).celln rfl)) el) rfl rfl ?_
    refine HW.p (PEv.move (.tmp rfl)) rfl rfl ?_
    refine HW.p (PEv.indexAddr' Try.underlying41 Try.sizeOf80 (.tmp rfl) (.tmp rfl) (by omega) ax) rfl rfl ?_
    refine HW.p (PEv.fieldAddr (off := 1) Try.underlying80 rfl rfl Try.sizeOf9 rfl (.tmp rfl)) rfl rfl ?_
    refine HW.p (PEv.load Try.isAgg9 (.tmp rfl) (hcx.nth (j := 1) rfl)) rfl rfl ?_
    refine HW.nil ?_
    intro w4 uw4
    have zw4 := uw4.size
    replace hS := hS.up uw4
    refine LW.c (enter_call0 (.cons (.tmp rfl) (.cons (.tmp rfl) (.cons (.tmp rfl) .nil))) (Try.en44)) rfl rfl rfl rfl (rApply_v v10 j x.s _ _ (hS.own 0 rfl) (by rw [hln]; omega) (by rw [hln]; omega)) ?_
    rintro _ w5 ⟨rfl, uw5⟩
    have zw5 := uw5.fr.size
    replace hS := hS.stp 0 rfl uw5
    change Wx.Sep _ _ _ [_] at hS
    rw [show overlay (applyAll z.dur (z.pend.take i)) j x.s.data.toList = applyAll z.dur (z.pend.take (i + 1)) from by rw [take_succ_of hx, applyAll_snoc, hj]; rfl] at hS
    refine LW.nil (KW.inBlock (KW.then (CW.region (LW.p (PEv.move (.tmp rfl)) rfl rfl rfl ?_))))
    refine LW.p (PEv.inc (.tmp rfl) (by omega)) rfl rfl rfl ?_
    refine LW.p (PEv.assign (.tmp rfl)) rfl rfl rfl (LW.nil (KW.round ?_))
    exact ⟨i + 1, ⟨by omega, hS⟩, ⟨rfl, rfl, rfl, rfl, trivial⟩, by first | omega | (dsimp only; omega)⟩
   ·first | replace h17 := of_decide_eq_true h17 | replace h17 := of_decide_eq_false h17 | skip
    refine CW.exit (KW.then_exit (KW.then_exit (KW.block_hit (KW.then (CW.seq (CW.region (LW.p (PEv.move (.tmp rfl)) rfl rfl rfl (LW.p (PEv.assign (.tmp rfl)) rfl rfl rfl (LW.nil (KW.then (CW.ret ?_)))))))))))
    refine KW.ret1 rfl rfl ⟨_, rfl, ?_⟩
    rw [show i = z.pend.length by omega, List.take_length] at hS
    have hf := hS.foot 0 rfl
    refine ⟨?_, hS.upd⟩
    obtain ⟨h1, h2⟩ := hS.own 0 rfl
    refine ⟨h1, ?_⟩
    rcases h2 with h2 | ⟨g, cap, cur, e, hb, rest⟩
    ·exact .inl h2
    ·exact .inr ⟨g, cap, cur, e, (hf g (by rw [e]; rfl)).resolve_left (fun h => h), rest⟩

end Go.Proofs.Ytkpkljbmbmjadaa
