import Derived.Test.YtdelcaegofkknaaBa30
namespace Go.Wx

def kfL (k : Int) : List Int := if k = 4 then [1, 10] else if k = 5 then [4] else if k = 8 then [2, 13] else if k = 10 then [8, 10] else [0]
def getsL (f : Fact) : List Int := [f.ID, f.Wafer, f.Other, f.Lot, f.Product, f.Tool, f.Chamber, f.Step, f.Recipe, f.Revision, f.Time, f.Until, f.Value, f.Parties]
def getN (f : Fact) (j : Int) : Int := (getsL f).getD j.toNat 0
theorem getN_at {f : Fact} {j : Nat} {y : Int} (h : (getsL f)[j]? = some y) : y = getN f (j : Int) := by
  unfold getN
  rw [Int.toNat_natCast, List.getD_eq_getElem?_getD, h]; rfl
theorem kf_lt {k n : Int} (h : n ∈ kfL k) : 0 ≤ n ∧ n < 14 := by
  unfold kfL at h
  split at h
  · simp at h; omega
  · split at h
    · simp at h; omega
    · split at h
      · simp at h; omega
      · split at h
        · simp at h; omega
        · simp at h; omega
/-- the first difference of two facts, field after field -/
def dStep (a f : Fact) (o n : Int) : Int := if o = 0 then getN f n - getN a n else o
def dF (a f : Fact) (l : List Int) : Int := l.foldl (dStep a f) 0
theorem dF_take {a f : Fact} {l : List Int} {j : Nat} {n : Int} (h : l[j]? = some n) (h0 : dF a f (l.take j) = 0) : dF a f (l.take (j + 1)) = getN f n - getN a n := by
  rw [take_succ_of h, dF, List.foldl_append]
  show dStep a f (dF a f (l.take j)) n = _
  rw [h0]; exact if_pos rfl
theorem dF_stop {a f : Fact} {l : List Int} {j : Nat} (h0 : dF a f (l.take j) ≠ 0) : dF a f (l.take j) = dF a f l := by
  have key : ∀ (r : List Int) (o : Int), o ≠ 0 → r.foldl (dStep a f) o = o := by
    intro r
    induction r with
    | nil => exact fun _ _ => rfl
    | cons x r ih => intro o ho; rw [List.foldl_cons, dStep, if_neg ho]; exact ih o ho
  have e : dF a f l = (l.drop j).foldl (dStep a f) (dF a f (l.take j)) := by
    unfold dF
    rw [← List.foldl_append, List.take_append_drop]
  rw [e, key _ _ h0]
theorem dF_pos {k : Int} {a f : Fact} (h : ltK (ordK k a) (ordK k f) = true) : 0 < dF a f (kfL k) := by
  rw [ltK_iff] at h
  by_cases h4 : k = 4
  · subst h4
    have h : a.Wafer < f.Wafer ∨ (a.Wafer = f.Wafer ∧ a.Time < f.Time) := h
    show 0 < dStep a f (dStep a f 0 1) 10
    have e1 : dStep a f 0 1 = f.Wafer - a.Wafer := rfl
    rw [e1]; unfold dStep
    have e2 : getN f 10 - getN a 10 = f.Time - a.Time := rfl
    rw [e2]; split <;> omega
  · by_cases h5 : k = 5
    · subst h5
      have h : a.Product < f.Product ∨ (a.Product = f.Product ∧ (0 : Int) < 0) := h
      have e1 : dF a f (kfL 5) = f.Product - a.Product := rfl
      rw [e1]; omega
    · by_cases h8 : k = 8
      · subst h8
        have h : a.Other < f.Other ∨ (a.Other = f.Other ∧ a.Parties < f.Parties) := h
        show 0 < dStep a f (dStep a f 0 2) 13
        have e1 : dStep a f 0 2 = f.Other - a.Other := rfl
        rw [e1]; unfold dStep
        have e2 : getN f 13 - getN a 13 = f.Parties - a.Parties := rfl
        rw [e2]; split <;> omega
      · by_cases h10 : k = 10
        · subst h10
          have h : a.Recipe < f.Recipe ∨ (a.Recipe = f.Recipe ∧ a.Time < f.Time) := h
          show 0 < dStep a f (dStep a f 0 8) 10
          have e1 : dStep a f 0 8 = f.Recipe - a.Recipe := rfl
          rw [e1]; unfold dStep
          have e2 : getN f 10 - getN a 10 = f.Time - a.Time := rfl
          rw [e2]; split <;> omega
        · have hk : kfL k = [0] := by unfold kfL; rw [if_neg h4, if_neg h5, if_neg h8, if_neg h10]
          have ho : ∀ g : Fact, ordK k g = (g.ID, 0) := fun g => by unfold ordK; split <;> first | omega | rfl
          rw [ho, ho] at h
          dsimp only at h
          have e1 : dF a f [0] = f.ID - a.ID := rfl
          rw [hk, e1]; omega

end Go.Wx
namespace Go.Proofs.Ytdelcaegofkknaa
open Go.Wx Go.RowKit
theorem KeyFields_any (k : Int) (w : World) : Ret Try.prog 20 #[vi k] w fun r w' => ∃ ad cp, r = .slice ad (kfL k).length cp ∧ Els w' ad 1 eInt (kfL k) ∧ Up w w' := by
  have hW := Up.refl w
  obtain ⟨w0, rfl⟩ : ∃ w0, w0 = w := ⟨_, rfl⟩
  refine Calls_start (n := 17) (m := 9) Try.func20 rfl rfl rfl ?_
  refine CW.seq ?_
  -- region 0
  refine CW.region ?_
  refine LW.p (PEv.assign (.const _)) rfl rfl rfl ?_
  refine LW.nil ?_
  refine KW.then ?_
  refine CW.seq ?_
  refine CW.seq ?_
  -- region 1
  refine CW.region ?_
  refine LW.p (PEv.move (.tmp rfl)) rfl rfl rfl ?_
  refine LW.nil ?_
  refine KW.then ?_
  refine CW.block ?_
  refine CW.seq ?_
  -- region 2
  refine CW.region ?_
  refine LW.p (PEv.eql (.tmp rfl) (.const _)) rfl rfl rfl ?_
  refine LW.p (PEv.assign (.tmp rfl)) rfl rfl rfl ?_
  refine LW.nil ?_
  refine KW.then ?_
  refine CW.cond (.tmp rfl) (fun h4 => ?_) (fun h4 => ?_)
  · first | replace h4 := of_decide_eq_true h4 | replace h4 := of_decide_eq_false h4 | skip
    have hkf : kfL k = [1, 10] := if_pos h4
    refine CW.seq ?_
    -- region 3
    refine CW.region ?_
    refine LW.r (REv.buildSlice (xs := [1, 10]) (enc := eInt) (mk := vi) Try.underlying23 Try.sizeOf3 Try.zeroValue3 rfl (by decide) (fun _ => rfl) (fun _ => rfl) (.cons (.const _) (.cons (.const _) .nil)) rfl) rfl rfl rfl rfl ?_
    rintro _ w1 ⟨B6, cB6, rfl, NB6, yB6, xB6⟩
    have eB6 := NB6.at_
    have zB6 := NB6.size
    replace hW := hW.up NB6.up
    have hB6 := NB6.blk
    have hE6 := xB6
    refine LW.p (PEv.assign (.tmp rfl)) rfl rfl rfl ?_
    refine LW.nil ?_
    refine KW.then ?_
    refine CW.ret ?_
    refine KW.block_ret ?_
    refine KW.then_ret ?_
    refine KW.ret1 rfl rfl ⟨_, rfl, ?_⟩
    rw [hkf]
    first | exact ⟨_, _, rfl, hE6, hW⟩ | exact ⟨_, _, rfl, hE9, hW⟩ | exact ⟨_, _, rfl, hE12, hW⟩ | exact ⟨_, _, rfl, hE15, hW⟩ | exact ⟨_, _, rfl, hE16, hW⟩
  · first | replace h4 := of_decide_eq_true h4 | replace h4 := of_decide_eq_false h4 | skip
    refine CW.seq ?_
    -- region 4
    refine CW.region ?_
    refine LW.p (PEv.eql (.tmp rfl) (.const _)) rfl rfl rfl ?_
    refine LW.p (PEv.assign (.tmp rfl)) rfl rfl rfl ?_
    refine LW.nil ?_
    refine KW.then ?_
    refine CW.cond (.tmp rfl) (fun h7 => ?_) (fun h7 => ?_)
    · first | replace h7 := of_decide_eq_true h7 | replace h7 := of_decide_eq_false h7 | skip
      have hkf : kfL k = [4] := (if_neg h4).trans (if_pos h7)
      refine CW.seq ?_
      -- region 5
      refine CW.region ?_
      refine LW.r (REv.buildSlice (xs := [4]) (enc := eInt) (mk := vi) Try.underlying23 Try.sizeOf3 Try.zeroValue3 rfl (by decide) (fun _ => rfl) (fun _ => rfl) (.cons (.const _) .nil) rfl) rfl rfl rfl rfl ?_
      rintro _ w2 ⟨B9, cB9, rfl, NB9, yB9, xB9⟩
      have eB9 := NB9.at_
      have zB9 := NB9.size
      replace hW := hW.up NB9.up
      have hB9 := NB9.blk
      have hE9 := xB9
      refine LW.p (PEv.assign (.tmp rfl)) rfl rfl rfl ?_
      refine LW.nil ?_
      refine KW.then ?_
      refine CW.ret ?_
      refine KW.block_ret ?_
      refine KW.then_ret ?_
      refine KW.ret1 rfl rfl ⟨_, rfl, ?_⟩
      rw [hkf]
      first | exact ⟨_, _, rfl, hE6, hW⟩ | exact ⟨_, _, rfl, hE9, hW⟩ | exact ⟨_, _, rfl, hE12, hW⟩ | exact ⟨_, _, rfl, hE15, hW⟩ | exact ⟨_, _, rfl, hE16, hW⟩
    · first | replace h7 := of_decide_eq_true h7 | replace h7 := of_decide_eq_false h7 | skip
      refine CW.seq ?_
      -- region 6
      refine CW.region ?_
      refine LW.p (PEv.eql (.tmp rfl) (.const _)) rfl rfl rfl ?_
      refine LW.p (PEv.assign (.tmp rfl)) rfl rfl rfl ?_
      refine LW.nil ?_
      refine KW.then ?_
      refine CW.cond (.tmp rfl) (fun h10 => ?_) (fun h10 => ?_)
      · first | replace h10 := of_decide_eq_true h10 | replace h10 := of_decide_eq_false h10 | skip
        have hkf : kfL k = [2, 13] := (if_neg h4).trans ((if_neg h7).trans (if_pos h10))
        refine CW.seq ?_
        -- region 7
        refine CW.region ?_
        refine LW.r (REv.buildSlice (xs := [2, 13]) (enc := eInt) (mk := vi) Try.underlying23 Try.sizeOf3 Try.zeroValue3 rfl (by decide) (fun _ => rfl) (fun _ => rfl) (.cons (.const _) (.cons (.const _) .nil)) rfl) rfl rfl rfl rfl ?_
        rintro _ w3 ⟨B12, cB12, rfl, NB12, yB12, xB12⟩
        have eB12 := NB12.at_
        have zB12 := NB12.size
        replace hW := hW.up NB12.up
        have hB12 := NB12.blk
        have hE12 := xB12
        refine LW.p (PEv.assign (.tmp rfl)) rfl rfl rfl ?_
        refine LW.nil ?_
        refine KW.then ?_
        refine CW.ret ?_
        refine KW.block_ret ?_
        refine KW.then_ret ?_
        refine KW.ret1 rfl rfl ⟨_, rfl, ?_⟩
        rw [hkf]
        first | exact ⟨_, _, rfl, hE6, hW⟩ | exact ⟨_, _, rfl, hE9, hW⟩ | exact ⟨_, _, rfl, hE12, hW⟩ | exact ⟨_, _, rfl, hE15, hW⟩ | exact ⟨_, _, rfl, hE16, hW⟩
      · first | replace h10 := of_decide_eq_true h10 | replace h10 := of_decide_eq_false h10 | skip
        refine CW.seq ?_
        -- region 8
        refine CW.region ?_
        refine LW.p (PEv.eql (.tmp rfl) (.const _)) rfl rfl rfl ?_
        refine LW.p (PEv.assign (.tmp rfl)) rfl rfl rfl ?_
        refine LW.nil ?_
        refine KW.then ?_
        refine CW.cond (.tmp rfl) (fun h13 => ?_) (fun h13 => ?_)
        · first | replace h13 := of_decide_eq_true h13 | replace h13 := of_decide_eq_false h13 | skip
          have hkf : kfL k = [8, 10] := (if_neg h4).trans ((if_neg h7).trans ((if_neg h10).trans (if_pos h13)))
          refine CW.seq ?_
          -- region 9
          refine CW.region ?_
          refine LW.r (REv.buildSlice (xs := [8, 10]) (enc := eInt) (mk := vi) Try.underlying23 Try.sizeOf3 Try.zeroValue3 rfl (by decide) (fun _ => rfl) (fun _ => rfl) (.cons (.const _) (.cons (.const _) .nil)) rfl) rfl rfl rfl rfl ?_
          rintro _ w4 ⟨B15, cB15, rfl, NB15, yB15, xB15⟩
          have eB15 := NB15.at_
          have zB15 := NB15.size
          replace hW := hW.up NB15.up
          have hB15 := NB15.blk
          have hE15 := xB15
          refine LW.p (PEv.assign (.tmp rfl)) rfl rfl rfl ?_
          refine LW.nil ?_
          refine KW.then ?_
          refine CW.ret ?_
          refine KW.block_ret ?_
          refine KW.then_ret ?_
          refine KW.ret1 rfl rfl ⟨_, rfl, ?_⟩
          rw [hkf]
          first | exact ⟨_, _, rfl, hE6, hW⟩ | exact ⟨_, _, rfl, hE9, hW⟩ | exact ⟨_, _, rfl, hE12, hW⟩ | exact ⟨_, _, rfl, hE15, hW⟩ | exact ⟨_, _, rfl, hE16, hW⟩
        · first | replace h13 := of_decide_eq_true h13 | replace h13 := of_decide_eq_false h13 | skip
          have hkf : kfL k = [0] := (if_neg h4).trans ((if_neg h7).trans ((if_neg h10).trans (if_neg h13)))
          refine CW.skip ?_
          refine KW.inBlock ?_
          refine KW.then ?_
          refine CW.seq ?_
          -- region 10
          refine CW.region ?_
          refine LW.r (REv.buildSlice (xs := [0]) (enc := eInt) (mk := vi) Try.underlying23 Try.sizeOf3 Try.zeroValue3 rfl (by decide) (fun _ => rfl) (fun _ => rfl) (.cons (.const _) .nil) rfl) rfl rfl rfl rfl ?_
          rintro _ w5 ⟨B16, cB16, rfl, NB16, yB16, xB16⟩
          have eB16 := NB16.at_
          have zB16 := NB16.size
          replace hW := hW.up NB16.up
          have hB16 := NB16.blk
          have hE16 := xB16
          refine LW.p (PEv.assign (.tmp rfl)) rfl rfl rfl ?_
          refine LW.nil ?_
          refine KW.then ?_
          refine CW.ret ?_
          refine KW.ret1 rfl rfl ⟨_, rfl, ?_⟩
          rw [hkf]
          first | exact ⟨_, _, rfl, hE6, hW⟩ | exact ⟨_, _, rfl, hE9, hW⟩ | exact ⟨_, _, rfl, hE12, hW⟩ | exact ⟨_, _, rfl, hE15, hW⟩ | exact ⟨_, _, rfl, hE16, hW⟩

theorem Get_any (f : Fact) (j : Nat) (w : World) (hj : j < 14) : Ret Try.prog 21 #[.agg f.cells, vi (j : Int)] w fun r w' => r = vi (getN f (j : Int)) ∧ Up w w' := by
  have hW := Up.refl w
  obtain ⟨w0, rfl⟩ : ∃ w0, w0 = w := ⟨_, rfl⟩
  have hgl : (getsL f).length = 14 := rfl
  refine Calls_start (n := 37) (m := 9) Try.func21 rfl rfl rfl ?_
  refine CW.seq ?_
  -- region 0
  refine CW.region ?_
  refine LW.r (REv.boxA (.tmp rfl)) rfl rfl rfl rfl ?_
  rintro _ w1 ⟨B2, rfl, NB2⟩
  have eB2 := NB2.at_
  have zB2 := NB2.size
  replace hW := hW.up NB2.up
  have hB2 := NB2.blk
  refine LW.p (PEv.assign (.const _)) rfl rfl rfl ?_
  refine LW.nil ?_
  refine KW.then ?_
  refine CW.seq ?_
  -- region 1
  refine CW.region ?_
  refine LW.p (PEv.fieldAddr (off := 1) Try.underlying28 rfl rfl Try.sizeOf3 rfl (.tmp rfl)) rfl rfl rfl ?_
  refine LW.p (PEv.load Try.isAgg3 (.tmp rfl) (hB2.celln rfl)) rfl rfl rfl ?_
  refine LW.p (PEv.fieldAddr (off := 7) Try.underlying28 rfl rfl Try.sizeOf3 rfl (.tmp rfl)) rfl rfl rfl ?_
  refine LW.p (PEv.load Try.isAgg3 (.tmp rfl) (hB2.celln rfl)) rfl rfl rfl ?_
  refine LW.p (PEv.fieldAddr (off := 8) Try.underlying28 rfl rfl Try.sizeOf3 rfl (.tmp rfl)) rfl rfl rfl ?_
  refine LW.p (PEv.load Try.isAgg3 (.tmp rfl) (hB2.celln rfl)) rfl rfl rfl ?_
  refine LW.p (PEv.fieldAddr (off := 9) Try.underlying28 rfl rfl Try.sizeOf3 rfl (.tmp rfl)) rfl rfl rfl ?_
  refine LW.p (PEv.load Try.isAgg3 (.tmp rfl) (hB2.celln rfl)) rfl rfl rfl ?_
  refine LW.p (PEv.fieldAddr (off := 10) Try.underlying28 rfl rfl Try.sizeOf3 rfl (.tmp rfl)) rfl rfl rfl ?_
  refine LW.p (PEv.load Try.isAgg3 (.tmp rfl) (hB2.celln rfl)) rfl rfl rfl ?_
  refine LW.p (PEv.fieldAddr (off := 11) Try.underlying28 rfl rfl Try.sizeOf3 rfl (.tmp rfl)) rfl rfl rfl ?_
  refine LW.p (PEv.load Try.isAgg3 (.tmp rfl) (hB2.celln rfl)) rfl rfl rfl ?_
  refine LW.p (PEv.fieldAddr (off := 12) Try.underlying28 rfl rfl Try.sizeOf3 rfl (.tmp rfl)) rfl rfl rfl ?_
  refine LW.p (PEv.load Try.isAgg3 (.tmp rfl) (hB2.celln rfl)) rfl rfl rfl ?_
  refine LW.p (PEv.fieldAddr (off := 13) Try.underlying28 rfl rfl Try.sizeOf3 rfl (.tmp rfl)) rfl rfl rfl ?_
  refine LW.p (PEv.load Try.isAgg3 (.tmp rfl) (hB2.celln rfl)) rfl rfl rfl ?_
  refine LW.p (PEv.fieldAddr (off := 14) Try.underlying28 rfl rfl Try.sizeOf3 rfl (.tmp rfl)) rfl rfl rfl ?_
  refine LW.p (PEv.load Try.isAgg3 (.tmp rfl) (hB2.celln rfl)) rfl rfl rfl ?_
  refine LW.p (PEv.fieldAddr (off := 15) Try.underlying28 rfl rfl Try.sizeOf3 rfl (.tmp rfl)) rfl rfl rfl ?_
  refine LW.p (PEv.load Try.isAgg3 (.tmp rfl) (hB2.celln rfl)) rfl rfl rfl ?_
  refine LW.p (PEv.fieldAddr (off := 5) Try.underlying28 rfl rfl Try.sizeOf3 rfl (.tmp rfl)) rfl rfl rfl ?_
  refine LW.p (PEv.load Try.isAgg3 (.tmp rfl) (hB2.celln rfl)) rfl rfl rfl ?_
  refine LW.p (PEv.fieldAddr (off := 6) Try.underlying28 rfl rfl Try.sizeOf3 rfl (.tmp rfl)) rfl rfl rfl ?_
  refine LW.p (PEv.load Try.isAgg3 (.tmp rfl) (hB2.celln rfl)) rfl rfl rfl ?_
  refine LW.p (PEv.fieldAddr (off := 16) Try.underlying28 rfl rfl Try.sizeOf3 rfl (.tmp rfl)) rfl rfl rfl ?_
  refine LW.p (PEv.load Try.isAgg3 (.tmp rfl) (hB2.celln rfl)) rfl rfl rfl ?_
  refine LW.p (PEv.fieldAddr (off := 17) Try.underlying28 rfl rfl Try.sizeOf3 rfl (.tmp rfl)) rfl rfl rfl ?_
  refine LW.p (PEv.load Try.isAgg3 (.tmp rfl) (hB2.celln rfl)) rfl rfl rfl ?_
  refine LW.r (REv.buildSlice (xs := getsL f) (enc := eInt) (mk := vi) Try.underlying23 Try.sizeOf3 Try.zeroValue3 rfl (by decide) (fun _ => rfl) (fun _ => rfl) (.cons (.tmp rfl) (.cons (.tmp rfl) (.cons (.tmp rfl) (.cons (.tmp rfl) (.cons (.tmp rfl) (.cons (.tmp rfl) (.cons (.tmp rfl) (.cons (.tmp rfl) (.cons (.tmp rfl) (.cons (.tmp rfl) (.cons (.tmp rfl) (.cons (.tmp rfl) (.cons (.tmp rfl) (.cons (.tmp rfl) .nil)))))))))))))) rfl) rfl rfl rfl rfl ?_
  rintro _ w2 ⟨B33, cB33, rfl, NB33, yB33, xB33⟩
  have eB33 := NB33.at_
  have zB33 := NB33.size
  replace hW := hW.up NB33.up
  replace hB2 := hB2.up NB33.up
  have hB33 := NB33.blk
  have hE33 := xB33
  refine LW.p (PEv.move (.tmp rfl)) rfl rfl rfl ?_
  obtain ⟨y, hy⟩ := getElem?_of_lt (xs := getsL f) (i := j) (by omega)
  obtain ⟨By, oy, ay, hcy⟩ := hE33 _ y hy
  refine LW.p (PEv.indexAddr' Try.underlying23 Try.sizeOf3 (.tmp rfl) (.tmp rfl) (by omega) ay) rfl rfl rfl ?_
  refine LW.p (PEv.load Try.isAgg3 (.tmp rfl) (hcy.nth (j := 0) rfl)) rfl rfl rfl ?_
  refine LW.p (PEv.assign (.tmp rfl)) rfl rfl rfl ?_
  refine LW.nil ?_
  refine KW.then ?_
  refine CW.ret ?_
  refine KW.ret1 rfl rfl ⟨_, rfl, ?_⟩
  exact ⟨by rw [getN_at hy], hW⟩

end Go.Proofs.Ytdelcaegofkknaa
