/-
  The laws of the single operations, over slots that are known in part. Nothing of any program stands here.
-/
import Derived.Test.YthfjagphcekcbaaGreatWx
namespace Go.Wx
open Go.RowKit

section
variable (P : Program) (n : Nat) (ds : List Deferred) (l : Env) (w : World)
/-- the operation reads, and hands back v, now and in every later world -/
def PEv (o : Oper) (v : Value) : Prop := ∀ a w', Ag n ds l a w' → Up w w' → (execOp a.eval o).run P w' = .ok (.value v) w'
/-- the operation hands back some v in some world of which Post holds -/
def REv (o : Oper) (Post : Value → World → Prop) : Prop := ∀ a, Ag n ds l a w → ∃ v w', (execOp a.eval o).run P w = .ok (.value v) w' ∧ Post v w'
/-- the operation hands back nothing -/
def SEv (o : Oper) (Post : World → Prop) : Prop := ∀ a, Ag n ds l a w → ∃ w', (execOp a.eval o).run P w = .ok .skip w' ∧ Post w'
end
/-- a call that returns -/
def Ret (P : Program) (f : FuncId) (args : Array Value) (w : World) (Post : Value → World → Prop) : Prop :=
  Calls P f args w fun e w' => ∃ v, e = .returned v ∧ Post v w'
theorem Ret.mono {P : Program} {f : FuncId} {args : Array Value} {w : World} {Post Post' : Value → World → Prop} (h : Ret P f args w Post) (k : ∀ v w', Post v w' → Post' v w') : Ret P f args w Post' :=
  Calls.mono h fun _ _ ⟨v, he, hp⟩ => ⟨v, he, k _ _ hp⟩

section
variable {R : Option Nat} {m : Nat} {P : Program} {n : Nat} {ds : List Deferred} {Q : Exit → Act → World → Prop} {l : Env} {w : World} {ops : Array Oper} {rest : List Oper} {o : Oper}

theorem semAt_value {r : Option Nat} {ρ : Operand → Value} {o : Oper} {v : Value} {w w' : World} (h : (execOp ρ o).run P w = .ok (.value v) w') : (o.semAt r ρ).run P w = .ok (.value v) w' := by
  by_cases hd : ∃ c, o.op = .defer c
  · obtain ⟨c, hc⟩ := hd
    simp only [execOp, hc, Sem.run_bind] at h
    cases hr : (resolve ρ c o.type).run P w with
    | ok d w1 => simp [hr, Result.andThen] at h
    | halt x w1 => simp [hr, Result.andThen] at h
  · rw [Oper.semAt_eq _ _ _ (fun c hc => hd ⟨c, hc⟩)]; exact h
theorem semAt_skip {r : Option Nat} {ρ : Operand → Value} {o : Oper} {w w' : World} (h : (execOp ρ o).run P w = .ok .skip w') : (o.semAt r ρ).run P w = .ok .skip w' := by
  by_cases hd : ∃ c, o.op = .defer c
  · obtain ⟨c, hc⟩ := hd
    simp only [execOp, hc, Sem.run_bind] at h
    cases hr : (resolve ρ c o.type).run P w with
    | ok d w1 => simp [hr, Result.andThen] at h
    | halt x w1 => simp [hr, Result.andThen] at h
  · rw [Oper.semAt_eq _ _ _ (fun c hc => hd ⟨c, hc⟩)]; exact h
theorem semAt_enter {r : Option Nat} {ρ : Operand → Value} {o : Oper} {f : FuncId} {args : Array Value} {w w' : World} (h : (execOp ρ o).run P w = .ok (.enter f args) w') : (o.semAt r ρ).run P w = .ok (.enter f args) w' := by
  by_cases hd : ∃ c, o.op = .defer c
  · obtain ⟨c, hc⟩ := hd
    simp only [execOp, hc, Sem.run_bind] at h
    cases hr : (resolve ρ c o.type).run P w with
    | ok d w1 => simp [hr, Result.andThen] at h
    | halt x w1 => simp [hr, Result.andThen] at h
  · rw [Oper.semAt_eq _ _ _ (fun c hc => hd ⟨c, hc⟩)]; exact h

theorem wpIn_value {a : Act} {K : Act → World → Prop} {v : Value} {w' : World} (h : (execOp a.eval o).run P w = .ok (.value v) w') (hk : K (a.put o.dst v) w') : o.wpIn (FR R) m P a w K Q :=
  ⟨fun _ _ => trivial, by rw [show (FR R).round = R from rfl, semAt_value h]; exact hk⟩
theorem wpIn_skipOp {a : Act} {K : Act → World → Prop} {w' : World} (h : (execOp a.eval o).run P w = .ok .skip w') (hk : K (a.put o.dst undef) w') : o.wpIn (FR R) m P a w K Q :=
  ⟨fun _ _ => trivial, by rw [show (FR R).round = R from rfl, semAt_skip h]; exact hk⟩
theorem wpIn_enter {a : Act} {K : Act → World → Prop} {f : FuncId} {args : Array Value} {w' : World} (h : (execOp a.eval o).run P w = .ok (.enter f args) w') {Post : Value → World → Prop}
    (hc : Ret P f args w' Post) (hk : ∀ v w'', Post v w'' → K (a.put o.dst v) w'') : o.wpIn (FR R) m P a w K Q := by
  refine ⟨fun _ _ => trivial, ?_⟩
  rw [show (FR R).round = R from rfl, semAt_enter h]
  refine ⟨fun hd => (by cases hd), ?_⟩
  have h1 : CallsIn Fence.wide (m - 1) P f args w' _ := callsIn_wide.2 hc
  refine CallsIn.mono (show CallsIn (FR R) (m - 1) P f args w' _ from h1) ?_
  rintro e w'' ⟨v, rfl, hp⟩
  exact hk v w'' hp

/-! ### steps -/
theorem LW.p {v : Value} {d : Nat} (h : PEv P n ds l w o v) (hg : o.guard = none) (hd : o.dst = some d) (hn : Nat.ble (d + 1) n = true) (k : LW R m P n ds ops Q rest ((d, .eq v) :: l) w) : LW R m P n ds ops Q (o :: rest) l w := fun a ha =>
  wpListIn_plain hg fun K hK => wpIn_value (h a w ha (Up.refl w)) (hK _ _ (k _ (by rw [hd]; exact ha.put hn rfl)))
theorem LW.r {Post : Value → World → Prop} {d : Nat} (h : REv P n ds l w o Post) (hg : o.guard = none) (hd : o.dst = some d) (hn : Nat.ble (d + 1) n = true) (hl : noPred l = true)
    (k : ∀ v w', Post v w' → LW R m P n ds ops Q rest ((d, .eq v) :: l) w') : LW R m P n ds ops Q (o :: rest) l w := fun a ha =>
  let ⟨v, w', hr, hp⟩ := h a ha
  wpListIn_plain hg fun K hK => wpIn_value hr (hK _ _ (k v w' hp _ (by rw [hd]; exact (ha.world hl w').put hn rfl)))
theorem LW.s {Post : World → Prop} (h : SEv P n ds l w o Post) (hg : o.guard = none) (hd : o.dst = none) (hl : noPred l = true)
    (k : ∀ w', Post w' → LW R m P n ds ops Q rest l w') : LW R m P n ds ops Q (o :: rest) l w := fun a ha =>
  let ⟨w', hr, hp⟩ := h a ha
  wpListIn_plain hg fun K hK => wpIn_skipOp hr (hK _ _ (k w' hp _ (by rw [hd]; exact ha.world hl w')))
/-- a call; 'he': it enters f with these arguments -/
theorem LW.c {f : FuncId} {args : Array Value} {Post : Value → World → Prop} {d : Nat} (he : ∀ a, Ag n ds l a w → (execOp a.eval o).run P w = .ok (.enter f args) w) (hg : o.guard = none) (hd : o.dst = some d) (hn : Nat.ble (d + 1) n = true) (hl : noPred l = true)
    (hc : Ret P f args w Post) (k : ∀ v w', Post v w' → LW R m P n ds ops Q rest ((d, .eq v) :: l) w') : LW R m P n ds ops Q (o :: rest) l w := fun a ha =>
  wpListIn_plain hg fun K hK => wpIn_enter (he a ha) hc fun v w' hp => hK _ _ (k v w' hp _ (by rw [hd]; exact (ha.world hl w').put hn rfl))

/-! ### guards -/
theorem wanted_of {ops : Array Oper} {a : Act} {j dj : Nat} {oj : Oper} {want b : Bool} (hg : o.guard = some (j, want)) (hj : ops[j]? = some oj) (hdj : oj.dst = some dj) (hdn : dj < a.tmps.size) (hv : a.tmps.getD dj undef = .bool b) : Region.wanted o (yielded ops a.tmps) = (b == want) := by
  have h1 : a.tmps[dj]? = some (.bool b) := by
    rw [Array.getD_eq_getD_getElem?] at hv
    have h2 : a.tmps[dj]? = some a.tmps[dj] := by simp [hdn]
    rw [h2] at hv ⊢
    exact congrArg some hv
  simp only [Region.wanted, hg, yielded, hj, Option.bind_some, hdj, h1]
  cases b <;> cases want <;> rfl
theorem wanted_undef {ops : Array Oper} {a : Act} {j dj : Nat} {oj : Oper} {want : Bool} {v : Value} (hg : o.guard = some (j, want)) (hj : ops[j]? = some oj) (hdj : oj.dst = some dj) (hv : a.tmps.getD dj undef = v) (hb : ∀ b, v ≠ .bool b) : Region.wanted o (yielded ops a.tmps) = false := by
  have h1 : ∀ b, a.tmps[dj]? ≠ some (.bool b) := by
    intro b h
    rw [Array.getD_eq_getD_getElem?, h] at hv
    exact hb b hv.symm
  simp only [Region.wanted, hg, yielded, hj, Option.bind_some, hdj]
  cases h : a.tmps[dj]? with
  | none => rfl
  | some u => cases u <;> first | rfl | exact absurd h (h1 _)

/-- the guard's Bool is b; the operation runs where it is wanted -/
theorem LW.g {j dj d : Nat} {oj : Oper} {want b : Bool} {v : Value} (hg : o.guard = some (j, want)) (hj : ops[j]? = some oj) (hdj : oj.dst = some dj) (hdn : Nat.ble (dj + 1) n = true) (hb : lk l dj = some (.eq (.bool b))) (hd : o.dst = some d) (hn : Nat.ble (d + 1) n = true)
    (h : (b == want) = true → PEv P n ds l w o v) (k : LW R m P n ds ops Q rest ((d, .cond (b == want) v) :: l) w) : LW R m P n ds ops Q (o :: rest) l w := fun a ha =>
  wpListIn_step fun K hK => by
    have hw := wanted_of (o := o) (ops := ops) (a := a) hg hj hdj (by rw [ha.size]; exact Nat.le_of_ble_eq_true hdn) (ha.val _ _ hb)
    cases hc : (b == want) with
    | true =>
      rw [if_pos (by rw [hw, hc])]
      exact wpIn_value (h hc a w ha (Up.refl w)) (hK _ _ (k _ (by rw [hd, hc]; exact ha.put hn rfl)))
    | false =>
      rw [if_neg (by rw [hw, hc]; exact Bool.false_ne_true)]
      exact ⟨fun _ _ => trivial, hK _ _ (k _ (by rw [hd, hc]; exact ha.put hn rfl))⟩
/-- a guard that is itself guarded -/
theorem LW.gg {j dj d : Nat} {oj : Oper} {want b B : Bool} {v : Value} (hg : o.guard = some (j, want)) (hj : ops[j]? = some oj) (hdj : oj.dst = some dj) (hdn : Nat.ble (dj + 1) n = true) (hb : lk l dj = some (.cond B (.bool b))) (hd : o.dst = some d) (hn : Nat.ble (d + 1) n = true)
    (h : (B && (b == want)) = true → PEv P n ds l w o v) (k : LW R m P n ds ops Q rest ((d, .cond (B && (b == want)) v) :: l) w) : LW R m P n ds ops Q (o :: rest) l w := fun a ha =>
  wpListIn_step fun K hK => by
    have hv := ha.val _ _ hb
    cases hB : B with
    | false =>
      subst hB
      have hw := wanted_undef (o := o) (ops := ops) (a := a) hg hj hdj hv (fun b e => by cases e)
      rw [if_neg (by rw [hw]; exact Bool.false_ne_true)]
      exact ⟨fun _ _ => trivial, hK _ _ (k _ (by rw [hd]; exact ha.put hn rfl))⟩
    | true =>
      subst hB
      have hw := wanted_of (o := o) (ops := ops) (a := a) hg hj hdj (by rw [ha.size]; exact Nat.le_of_ble_eq_true hdn) hv
      cases hc : (b == want) with
      | true =>
        rw [if_pos (by rw [hw, hc])]
        exact wpIn_value (h (by rw [hc]; rfl) a w ha (Up.refl w)) (hK _ _ (k _ (by rw [hd, hc]; exact ha.put hn rfl)))
      | false =>
        rw [if_neg (by rw [hw, hc]; exact Bool.false_ne_true)]
        exact ⟨fun _ _ => trivial, hK _ _ (k _ (by rw [hd, hc]; exact ha.put hn rfl))⟩
/-- the guard says yes -/
theorem LW.yes {j dj : Nat} {oj : Oper} {want : Bool} {o' : Oper} (hg : o.guard = some (j, want)) (ho' : o' = { o with guard := none }) (hj : ops[j]? = some oj) (hdj : oj.dst = some dj) (hdn : Nat.ble (dj + 1) n = true) (hb : lk l dj = some (.eq (.bool want)))
    (k : LW R m P n ds ops Q (o' :: rest) l w) : LW R m P n ds ops Q (o :: rest) l w := fun a ha => by
  have hw := wanted_of (o := o) (ops := ops) (a := a) hg hj hdj (by rw [ha.size]; exact Nat.le_of_ble_eq_true hdn) (ha.val _ _ hb)
  have hk := k a ha
  have e : (want == want) = true := by cases want <;> rfl
  subst ho'
  unfold wpListIn at hk ⊢
  rw [if_pos (by rw [hw, e])]
  rw [if_pos (by rfl)] at hk
  exact hk
/-- the guard says no -/
theorem LW.no {j dj d : Nat} {oj : Oper} {want b : Bool} (hg : o.guard = some (j, want)) (hj : ops[j]? = some oj) (hdj : oj.dst = some dj) (hdn : Nat.ble (dj + 1) n = true) (hb : lk l dj = some (.eq (.bool b))) (hne : (b == want) = false) (hd : o.dst = some d) (hn : Nat.ble (d + 1) n = true)
    (k : LW R m P n ds ops Q rest ((d, .eq undef) :: l) w) : LW R m P n ds ops Q (o :: rest) l w := fun a ha =>
  wpListIn_step fun K hK => by
    have hw := wanted_of (o := o) (ops := ops) (a := a) hg hj hdj (by rw [ha.size]; exact Nat.le_of_ble_eq_true hdn) (ha.val _ _ hb)
    rw [if_neg (by rw [hw, hne]; exact Bool.false_ne_true)]
    exact ⟨fun _ _ => trivial, hK _ _ (k _ (by rw [hd]; exact ha.put hn rfl))⟩
/-- the guarding operation has itself been passed over -/
theorem LW.no' {j dj d : Nat} {oj : Oper} {want : Bool} (hg : o.guard = some (j, want)) (hj : ops[j]? = some oj) (hdj : oj.dst = some dj) (hb : lk l dj = some (.eq undef)) (hd : o.dst = some d) (hn : Nat.ble (d + 1) n = true)
    (k : LW R m P n ds ops Q rest ((d, .eq undef) :: l) w) : LW R m P n ds ops Q (o :: rest) l w := fun a ha =>
  wpListIn_step fun K hK => by
    have hw := wanted_undef (o := o) (ops := ops) (a := a) hg hj hdj (ha.val _ _ hb) (fun b e => by cases e)
    rw [if_neg (by rw [hw]; exact Bool.false_ne_true)]
    exact ⟨fun _ _ => trivial, hK _ _ (k _ (by rw [hd]; exact ha.put hn rfl))⟩
/-- a call behind a guard: what it hands back is known -/
theorem LW.gc {j dj d : Nat} {oj : Oper} {want b : Bool} {v : Value} {f : FuncId} {args : Array Value} (hg : o.guard = some (j, want)) (hj : ops[j]? = some oj) (hdj : oj.dst = some dj) (hdn : Nat.ble (dj + 1) n = true) (hb : lk l dj = some (.eq (.bool b))) (hd : o.dst = some d) (hn : Nat.ble (d + 1) n = true) (hl : noPred l = true)
    (he : (b == want) = true → ∀ a, Ag n ds l a w → (execOp a.eval o).run P w = .ok (.enter f args) w) (hc : (b == want) = true → Ret P f args w fun u w' => u = v ∧ Up w w') (k : ∀ w', Up w w' → LW R m P n ds ops Q rest ((d, .cond (b == want) v) :: l) w') : LW R m P n ds ops Q (o :: rest) l w := fun a ha =>
  wpListIn_step fun K hK => by
    have hw := wanted_of (o := o) (ops := ops) (a := a) hg hj hdj (by rw [ha.size]; exact Nat.le_of_ble_eq_true hdn) (ha.val _ _ hb)
    cases hcc : (b == want) with
    | true =>
      rw [if_pos (by rw [hw, hcc])]
      exact wpIn_enter (he hcc a ha) (hc hcc) fun u w' hp => hK _ _ (k w' hp.2 _ (by rw [hd, hcc]; exact (ha.world hl w').put hn hp.1))
    | false =>
      rw [if_neg (by rw [hw, hcc]; exact Bool.false_ne_true)]
      exact ⟨fun _ _ => trivial, hK _ _ (k w (Up.refl w) _ (by rw [hd, hcc]; exact ha.put hn rfl))⟩
theorem LW.ggc {j dj d : Nat} {oj : Oper} {want b B : Bool} {v : Value} {f : FuncId} {args : Array Value} (hg : o.guard = some (j, want)) (hj : ops[j]? = some oj) (hdj : oj.dst = some dj) (hdn : Nat.ble (dj + 1) n = true) (hb : lk l dj = some (.cond B (.bool b))) (hd : o.dst = some d) (hn : Nat.ble (d + 1) n = true) (hl : noPred l = true)
    (he : (B && (b == want)) = true → ∀ a, Ag n ds l a w → (execOp a.eval o).run P w = .ok (.enter f args) w) (hc : (B && (b == want)) = true → Ret P f args w fun u w' => u = v ∧ Up w w') (k : ∀ w', Up w w' → LW R m P n ds ops Q rest ((d, .cond (B && (b == want)) v) :: l) w') : LW R m P n ds ops Q (o :: rest) l w := fun a ha =>
  wpListIn_step fun K hK => by
    have hv := ha.val _ _ hb
    cases hB : B with
    | false =>
      subst hB
      have hw := wanted_undef (o := o) (ops := ops) (a := a) hg hj hdj hv (fun b e => by cases e)
      rw [if_neg (by rw [hw]; exact Bool.false_ne_true)]
      exact ⟨fun _ _ => trivial, hK _ _ (k w (Up.refl w) _ (by rw [hd]; exact ha.put hn rfl))⟩
    | true =>
      subst hB
      have hw := wanted_of (o := o) (ops := ops) (a := a) hg hj hdj (by rw [ha.size]; exact Nat.le_of_ble_eq_true hdn) hv
      cases hcc : (b == want) with
      | true =>
        rw [if_pos (by rw [hw, hcc])]
        exact wpIn_enter (he (by rw [hcc]; rfl) a ha) (hc (by rw [hcc]; rfl)) fun u w' hp => hK _ _ (k w' hp.2 _ (by rw [hd, hcc]; exact (ha.world hl w').put hn hp.1))
      | false =>
        rw [if_neg (by rw [hw, hcc]; exact Bool.false_ne_true)]
        exact ⟨fun _ _ => trivial, hK _ _ (k w (Up.refl w) _ (by rw [hd, hcc]; exact ha.put hn rfl))⟩
end
end Go.Wx
