/-
  How a walk begins, goes on behind a piece of code, and ends. Nothing of any program stands here.
-/
import Derived.Test.YthfjagphcekcbaaGreatWz
namespace Go.Wx
open Go.RowKit

section
variable {R : Option Nat} {m : Nat} {P : Program} {n : Nat} {ds : List Deferred} {Q : Exit → Act → World → Prop} {l : Env} {w : World}

theorem KW.then {y : Code} (h : CW R m P n ds y Q l w) : KW n ds (Exit.then (y.wpIn (FR R) m P Q) Q .normal) l w := h
theorem KW.inBlock {id : Nat} (h : KW n ds (Q .normal) l w) : KW n ds (Exit.inBlock id Q .normal) l w := h
theorem KW.then_exit {K : Act → World → Prop} {id : Nat} (h : KW n ds (Q (.exit id)) l w) : KW n ds (Exit.then K Q (.exit id)) l w := h
theorem KW.then_ret {K : Act → World → Prop} (h : KW n ds (Q .ret) l w) : KW n ds (Exit.then K Q .ret) l w := h
theorem KW.block_ret {id : Nat} (h : KW n ds (Q .ret) l w) : KW n ds (Exit.inBlock id Q .ret) l w := h
theorem KW.block_hit {id : Nat} (h : KW n ds (Q .normal) l w) : KW n ds (Exit.inBlock id Q (.exit id)) l w := fun a ha => by
  show (if id = id then Q .normal a w else Q (.exit id) a w)
  rw [if_pos rfl]; exact h a ha
theorem KW.block_miss {id id' : Nat} (hne : id' ≠ id) (h : KW n ds (Q (.exit id')) l w) : KW n ds (Exit.inBlock id Q (.exit id')) l w := fun a ha => by
  show (if id' = id then Q .normal a w else Q (.exit id') a w)
  rw [if_neg hne]; exact h a ha
/-- a round's end -/
theorem KW.round {σ : Type} {I : σ → World → Prop} {vals : σ → Env} {μ : σ → Nat} {s : σ} (h : ∃ s', I s' w ∧ Sub l (vals s') ∧ μ s' < μ s) :
    KW n ds (Exit.then (fun a' w' => ∃ s', I s' w' ∧ Ag n ds (vals s') a' w' ∧ μ s' < μ s) Q .normal) l w := fun _ ha =>
  let ⟨s', h1, h2, h3⟩ := h
  ⟨s', h1, ha.sub h2, h3⟩

def enumEnv : List Value → Nat → Env
  | [], _ => []
  | v :: vs, k => (k, .eq v) :: enumEnv vs (k + 1)
theorem enumEnv_lk : ∀ (vs : List Value) (k i : Nat) (ph : Ph), lk (enumEnv vs k) i = some ph → ∃ j v, i = k + j ∧ vs[j]? = some v ∧ ph = .eq v
  | [], _, _, _, h => by cases h
  | v :: vs, k, i, ph, h => by
    by_cases e : i = k
    · subst e
      rw [enumEnv, lk_cons_eq] at h
      cases h
      exact ⟨0, v, rfl, rfl, rfl⟩
    · rw [enumEnv, lk_cons_ne e] at h
      obtain ⟨j, u, h1, h2, h3⟩ := enumEnv_lk vs (k + 1) i ph h
      exact ⟨j + 1, u, by omega, by simpa using h2, h3⟩
theorem start_ag (args : List Value) (h : Nat.ble args.length n = true) : Ag n [] (enumEnv args 0) { tmps := args.toArray ++ Array.replicate (n - args.toArray.size) undef, defers := [] } w := by
  have hle := Nat.le_of_ble_eq_true h
  refine ⟨rfl, by simp; omega, fun i ph hi => ?_⟩
  obtain ⟨j, v, h1, h2, h3⟩ := enumEnv_lk args 0 i ph hi
  have hj : i = j := by omega
  subst hj
  subst h3
  have hlt : i < args.length := (List.getElem?_eq_some_iff.1 h2).1
  have h4 : args[i] = v := (List.getElem?_eq_some_iff.1 h2).2
  show (args.toArray ++ Array.replicate (n - args.toArray.size) undef).getD i undef = v
  simp [Array.getD_eq_getD_getElem?, Array.getElem?_append, hlt, h4]
theorem Calls_start {m : Nat} {f : FuncId} {fn : Func} {c : Code} {args : List Value} {R : Ending → World → Prop} (hf : P.funcs[f]? = some fn) (hb : fn.body = some c) (hn : fn.ntmps = n) (hl : Nat.ble args.length n = true)
    (h : CW none m P n [] c (bodyPost P fn R) (enumEnv args 0) w) : Calls P f args.toArray w R :=
  Calls_of_CW hf hb hn (fun a ha => by subst ha; exact start_ag args hl) h

section
variable {fn : Func} {RR : Ending → World → Prop} {a : Act}
theorem KW.ret1 {t : Tmp} {v : Value} (hr : fn.results = #[.tmp t]) (hv : lk l t = some (.eq v)) (hR : RR (.returned v) w) : KW n [] (bodyPost P fn RR .ret) l w := fun a ha =>
  ⟨ha.defers, v, by rw [results_tmp hr, ha.val _ _ hv], hR⟩
theorem KW.ret0 (hr : fn.results = #[]) (hR : RR (.returned (.tuple #[])) w) : KW n [] (bodyPost P fn RR .ret) l w := fun _ ha =>
  ⟨ha.defers, _, results_none hr _ _ _, hR⟩
theorem KW.end0 (hr : fn.results = #[]) (hR : RR (.returned (.tuple #[])) w) : KW n [] (bodyPost P fn RR .normal) l w := fun _ ha =>
  ⟨ha.defers, _, results_none hr _ _ _, hR⟩
theorem KW.ret2 {t u : Tmp} {v x : Value} (hr : fn.results = #[.tmp t, .tmp u]) (hv : lk l t = some (.eq v)) (hx : lk l u = some (.eq x)) (hR : RR (.returned (.tuple #[v, x])) w) : KW n [] (bodyPost P fn RR .ret) l w := fun a ha =>
  ⟨ha.defers, _, by rw [results_tmp2 hr, ha.val _ _ hv, ha.val _ _ hx], hR⟩
theorem KW.retA {t : Tmp} {T : TypeId} {B k : Nat} {cs : Array Value} (hr : fn.results = #[.cell t T]) (hv : lk l t = some (.eq (.pointer (some ⟨B, 0, none⟩)))) (hT : ∀ w, (isAgg T).run P w = .ok true w) (hs : ∀ w, (sizeOf T).run P w = .ok k w) (hk : cs.size = k) (hc : AggAt w B 0 cs)
    (hR : RR (.returned (.agg cs)) w) : KW n [] (bodyPost P fn RR .ret) l w := fun a ha =>
  ⟨ha.defers, .agg cs, by
    have h1 : a.tmps.getD t undef = .pointer (some ⟨B, 0, none⟩) := ha.val _ _ hv
    rw [Array.getD_eq_getD_getElem?] at h1
    simp [results, hr, h1, asAddr, run_loadVarA hT hs hk hc], hR⟩
/-- a struct and a bool, both in memory -/
theorem KW.retAB {t u : Tmp} {T T' : TypeId} {B B' k : Nat} {cs : Array Value} {x : Value} (hr : fn.results = #[.cell t T, .cell u T']) (hv : lk l t = some (.eq (.pointer (some ⟨B, 0, none⟩)))) (hu : lk l u = some (.eq (.pointer (some ⟨B', 0, none⟩)))) (hT : ∀ w, (isAgg T).run P w = .ok true w) (hs : ∀ w, (sizeOf T).run P w = .ok k w) (hk : cs.size = k) (hc : AggAt w B 0 cs)
    (hT' : ∀ w, (isAgg T').run P w = .ok false w) (hx : w.cell? ⟨B', 0, none⟩ = some x) (hR : RR (.returned (.tuple #[.agg cs, x])) w) : KW n [] (bodyPost P fn RR .ret) l w := fun a ha =>
  ⟨ha.defers, .tuple #[.agg cs, x], by
    have h1 : a.tmps.getD t undef = .pointer (some ⟨B, 0, none⟩) := ha.val _ _ hv
    have h2 : a.tmps.getD u undef = .pointer (some ⟨B', 0, none⟩) := ha.val _ _ hu
    rw [Array.getD_eq_getD_getElem?] at h1 h2
    simp [results, hr, h1, h2, asAddr, run_loadVarA hT hs hk hc, run_loadVar1 hT' hx], hR⟩
end

section
variable {d : Option Tmp} {ty : TypeId} {ps : String} {af : Array Edge} {g : Option (Nat × Bool)}
theorem enter_call0 {xs : Array Operand} {ts : Array TypeId} {f : FuncId} {vs : List Value} (hv : Vals l xs.toList vs) (hf : ∀ args w, (callFunc f args).run P w = .ok (.enter f args) w) :
    ∀ a, Ag n ds l a w → (execOp a.eval ⟨d, .call { callee := .value (.func f), args := xs, argTypes := ts }, ty, ps, af, g⟩).run P w = .ok (.enter f vs.toArray) w := fun a ha => by
  have := enter_call (ds := ds) (n := n) (l := l) (w := w) (d := d) (ty := ty) (ps := ps) (af := af) (g := g) (ts := ts) (Val.func (l := l) f) hv hf a ha
  rw [this]; simp
/-- the same, whatever the arguments -/
theorem enter_any {xs : Array Operand} {ts : Array TypeId} {f : FuncId} (hf : ∀ args w, (callFunc f args).run P w = .ok (.enter f args) w) (a : Act) (w : World) :
    (execOp a.eval ⟨d, .call { callee := .value (.func f), args := xs, argTypes := ts }, ty, ps, af, g⟩).run P w = .ok (.enter f (xs.map a.eval)) w := by
  have e : a.eval (.func f) = .func (.func f) #[] #[] := rfl
  simp only [execOp, resolve, e, Deferred.ofValue, Sem.run_bind, Sem.run_pure, Result.andThen, invoke]
  simpa using hf _ w
theorem enter_any2 {x y : Operand} {ts : Array TypeId} {f : FuncId} (hf : ∀ args w, (callFunc f args).run P w = .ok (.enter f args) w) (a : Act) (w : World) :
    (execOp a.eval ⟨d, .call { callee := .value (.func f), args := #[x, y], argTypes := ts }, ty, ps, af, g⟩).run P w = .ok (.enter f #[a.eval x, a.eval y]) w := by
  rw [enter_any hf]; simp
theorem Ag.known {t : Tmp} {a : Act} {p : Value → World → Prop} (ha : Ag n ds l a w) (h : lk l t = some (.pred p)) : p (a.eval (.tmp t)) w := ha.val t _ h
/-- a function value that has captured nothing -/
theorem enter_callv {x : Operand} {xs : Array Operand} {ts : Array TypeId} {f : FuncId} {vs : List Value} (hx : Val l x (.func (.func f) #[] #[])) (hv : Vals l xs.toList vs) (hf : ∀ args w, (callFunc f args).run P w = .ok (.enter f args) w) :
    ∀ a, Ag n ds l a w → (execOp a.eval ⟨d, .call { callee := .value x, args := xs, argTypes := ts }, ty, ps, af, g⟩).run P w = .ok (.enter f vs.toArray) w := fun a ha => by
  have := enter_call (ds := ds) (n := n) (l := l) (w := w) (d := d) (ty := ty) (ps := ps) (af := af) (g := g) (ts := ts) hx hv hf a ha
  rw [this]; simp
end
theorem enters_fn {f : FuncId} {fn : Func} {c : Code} (hf : P.funcs[f]? = some fn) (hname : (fn.name == "runtime.NumGoroutine") = false) (hb : fn.body = some c) : ∀ args w, (callFunc f args).run P w = .ok (.enter f args) w := by
  intro args w
  have h : ¬ fn.name = "runtime.NumGoroutine" := by simpa using hname
  simp [callFunc, Sem.run_bind, program, Sem.run, Result.andThen, hf, h, hb]
end
end Go.Wx
