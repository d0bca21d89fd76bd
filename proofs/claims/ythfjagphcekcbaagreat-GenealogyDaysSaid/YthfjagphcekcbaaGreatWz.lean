/-
  What each kind of operation hands back. Nothing of any program stands here.
-/
import Derived.Test.YthfjagphcekcbaaGreatWy
import Derived.WalkLawsBesides
namespace Go.Wx
open Go.RowKit

section
variable {P : Program} {n : Nat} {ds : List Deferred} {l : Env} {w : World} {d : Option Tmp} {ty : TypeId} {ps : String} {af : Array Edge} {g : Option (Nat × Bool)}

inductive Vals (l : Env) : List Operand → List Value → Prop where
  | nil : Vals l [] []
  | cons {x : Operand} {v : Value} {xs : List Operand} {vs : List Value} (h : Val l x v) (r : Vals l xs vs) : Vals l (x :: xs) (v :: vs)
theorem Ag.evs {a : Act} (h : Ag n ds l a w) {xs : List Operand} {vs : List Value} (hv : Vals l xs vs) : xs.map a.eval = vs := by
  induction hv with
  | nil => rfl
  | cons h1 _ ih => rw [List.map_cons, h.ev h1, ih]

theorem PEv.move {x : Operand} {v : Value} (hx : Val l x v) : PEv P n ds l w ⟨d, .move x, ty, ps, af, g⟩ v := fun a w' ha _ => by
  show Sem.run P (pure (Next.value (a.eval x))) w' = _; rw [ha.ev hx]; rfl
theorem PEv.assign {x : Operand} {v : Value} (hx : Val l x v) : PEv P n ds l w ⟨d, .assign x, ty, ps, af, g⟩ v := fun a w' ha _ => by
  show Sem.run P (pure (Next.value (a.eval x))) w' = _; rw [ha.ev hx]; rfl

theorem run_v {s : Sem Value} {v : Value} {w w' : World} (h : s.run P w = .ok v w') : (do pure (Next.value (← s)) : Sem Next).run P w = .ok (.value v) w' := by
  rw [Sem.run_bind, h]; rfl
theorem run_u {s : Sem Unit} {w w' : World} (h : s.run P w = .ok () w') : (do s; pure Next.skip : Sem Next).run P w = .ok .skip w' := by
  rw [Sem.run_bind, h]; rfl

theorem PEv.pick {c x y : Operand} {p b e : Bool} (hc : Val l c (.bool p)) (hx : p = true → Val l x (.bool b)) (hy : p = false → Val l y (.bool e)) : PEv P n ds l w ⟨d, .pick c x y, ty, ps, af, g⟩ (.bool (bif p then b else e)) := fun a w' ha _ => by
  show Sem.run P (do pure (Next.value (if ← asBool (a.eval c) then a.eval x else a.eval y))) w' = _
  rw [ha.ev hc]
  cases p with
  | true => rw [ha.ev (hx rfl)]; rfl
  | false => rw [ha.ev (hy rfl)]; rfl
theorem PEv.pick_and {c x : Operand} {p b : Bool} (hc : Val l c (.bool p)) (hx : p = true → Val l x (.bool b)) : PEv P n ds l w ⟨d, .pick c x (.const (.bool false)), ty, ps, af, g⟩ (.bool (p && b)) := fun a w' ha hu => by
  have := PEv.pick (P := P) (d := d) (ty := ty) (ps := ps) (af := af) (g := g) hc hx (fun _ => .const (.bool false)) a w' ha hu
  rw [this]; cases p <;> rfl
theorem PEv.pick_or {c y : Operand} {p b : Bool} (hc : Val l c (.bool p)) (hy : p = false → Val l y (.bool b)) : PEv P n ds l w ⟨d, .pick c (.const (.bool true)) y, ty, ps, af, g⟩ (.bool (p || b)) := fun a w' ha hu => by
  have := PEv.pick (P := P) (d := d) (ty := ty) (ps := ps) (af := af) (g := g) hc (fun _ => .const (.bool true)) hy a w' ha hu
  rw [this]; cases p <;> rfl

theorem PEv.nilCheck {x : Operand} {ad : Addr} (hx : Val l x (.pointer (some ad))) : PEv P n ds l w ⟨d, .nilCheck x, ty, ps, af, g⟩ (.pointer (some ad)) := fun a w' ha _ => by
  simp only [execOp, ha.ev hx]; rfl

/-- 'x op y' on ints -/
theorem PEv.bin {op : BinOp} {T T' : TypeId} {x y : Operand} {k : IntKind} {i j : Int} {v : Value} (hx : Val l x (.int k i)) (hy : Val l y (.int k j)) (h : ∀ w, (binOp op T (.int k i) (.int k j)).run P w = .ok v w) :
    PEv P n ds l w ⟨d, .binOp op T x y T', ty, ps, af, g⟩ v := fun a w' ha _ => by
  refine run_v ?_
  rw [ha.ev hx, ha.ev hy, Sem.run_bind]
  have : (eqGuard op T x y (.int k i) (.int k j)).run P w' = .ok () w' := by unfold eqGuard; cases op <;> rfl
  rw [this]
  exact h w'
theorem PEv.lss {T T' : TypeId} {x y : Operand} {k : IntKind} {i j : Int} (hx : Val l x (.int k i)) (hy : Val l y (.int k j)) : PEv P n ds l w ⟨d, .binOp .lss T x y T', ty, ps, af, g⟩ (.bool (decide (i < j))) := .bin hx hy fun w => by simp [binOp, Op.intCmp]
theorem PEv.leq {T T' : TypeId} {x y : Operand} {k : IntKind} {i j : Int} (hx : Val l x (.int k i)) (hy : Val l y (.int k j)) : PEv P n ds l w ⟨d, .binOp .leq T x y T', ty, ps, af, g⟩ (.bool (decide (i ≤ j))) := .bin hx hy fun w => by simp [binOp, Op.intCmp]
theorem PEv.gtr {T T' : TypeId} {x y : Operand} {k : IntKind} {i j : Int} (hx : Val l x (.int k i)) (hy : Val l y (.int k j)) : PEv P n ds l w ⟨d, .binOp .gtr T x y T', ty, ps, af, g⟩ (.bool (decide (j < i))) := .bin hx hy fun w => by simp [binOp, Op.intCmp]
theorem PEv.geq {T T' : TypeId} {x y : Operand} {k : IntKind} {i j : Int} (hx : Val l x (.int k i)) (hy : Val l y (.int k j)) : PEv P n ds l w ⟨d, .binOp .geq T x y T', ty, ps, af, g⟩ (.bool (decide (j ≤ i))) := .bin hx hy fun w => by simp [binOp, Op.intCmp]
theorem PEv.eql {T T' : TypeId} {x y : Operand} {k : IntKind} {i j : Int} (hx : Val l x (.int k i)) (hy : Val l y (.int k j)) : PEv P n ds l w ⟨d, .binOp .eql T x y T', ty, ps, af, g⟩ (.bool (decide (i = j))) := .bin hx hy fun w => by
  simp [binOp, Op.intCmp]; by_cases h : i = j <;> simp [h]
theorem PEv.neq {T T' : TypeId} {x y : Operand} {k : IntKind} {i j : Int} (hx : Val l x (.int k i)) (hy : Val l y (.int k j)) : PEv P n ds l w ⟨d, .binOp .neq T x y T', ty, ps, af, g⟩ (.bool (!decide (i = j))) := .bin hx hy fun w => by
  simp [binOp, Op.intCmp]; by_cases h : i = j <;> simp [h]
theorem PEv.add_w {T T' : TypeId} {x y : Operand} {k : IntKind} {i j : Int} (hx : Val l x (.int k i)) (hy : Val l y (.int k j)) : PEv P n ds l w ⟨d, .binOp .add T x y T', ty, ps, af, g⟩ (.int k (k.wrap (i + j))) := .bin hx hy fun w => by simp [binOp, Op.intArith]
theorem PEv.sub_w {T T' : TypeId} {x y : Operand} {k : IntKind} {i j : Int} (hx : Val l x (.int k i)) (hy : Val l y (.int k j)) : PEv P n ds l w ⟨d, .binOp .sub T x y T', ty, ps, af, g⟩ (.int k (k.wrap (i - j))) := .bin hx hy fun w => by simp [binOp, Op.intArith]
theorem PEv.mul_w {T T' : TypeId} {x y : Operand} {k : IntKind} {i j : Int} (hx : Val l x (.int k i)) (hy : Val l y (.int k j)) : PEv P n ds l w ⟨d, .binOp .mul T x y T', ty, ps, af, g⟩ (.int k (k.wrap (i * j))) := .bin hx hy fun w => by simp [binOp, Op.intArith]
theorem wrap_i64_in {i : Int} (h1 : -9223372036854775808 ≤ i) (h2 : i ≤ 9223372036854775807) : IntKind.i64.wrap i = i := by
  rw [IntKind.wrap_i64]; omega
theorem PEv.add {T T' : TypeId} {x y : Operand} {i j : Int} (hx : Val l x (.int .i64 i)) (hy : Val l y (.int .i64 j)) (h1 : -9223372036854775808 ≤ i + j) (h2 : i + j ≤ 9223372036854775807) : PEv P n ds l w ⟨d, .binOp .add T x y T', ty, ps, af, g⟩ (.int .i64 (i + j)) := .bin hx hy fun w => by
  simp only [binOp, Op.intArith, wrap_i64_in h1 h2]; simp
theorem PEv.sub {T T' : TypeId} {x y : Operand} {i j : Int} (hx : Val l x (.int .i64 i)) (hy : Val l y (.int .i64 j)) (h1 : -9223372036854775808 ≤ i - j) (h2 : i - j ≤ 9223372036854775807) : PEv P n ds l w ⟨d, .binOp .sub T x y T', ty, ps, af, g⟩ (.int .i64 (i - j)) := .bin hx hy fun w => by
  simp only [binOp, Op.intArith, wrap_i64_in h1 h2]; simp
/-- a counter goes on -/
theorem PEv.inc {T T' : TypeId} {x : Operand} {k : Nat} (hx : Val l x (.int .i64 (k : Int))) (h : k < 9223372036854775807) : PEv P n ds l w ⟨d, .binOp .add T x (.const (.int .i64 1)) T', ty, ps, af, g⟩ (.int .i64 ((k + 1 : Nat) : Int)) := .bin hx (.const _) fun w => by
  simp only [binOp, Op.intArith, wrap_i64_in (i := (k : Int) + 1) (by omega) (by omega)]; simp
theorem PEv.or_w {T T' : TypeId} {x y : Operand} {k : IntKind} {i j : Int} (hx : Val l x (.int k i)) (hy : Val l y (.int k j)) : PEv P n ds l w ⟨d, .binOp .or T x y T', ty, ps, af, g⟩ (.int k (k.wrap (BitVec.ofInt k.bits i ||| BitVec.ofInt k.bits j).toNat)) := .bin hx hy fun w => by simp [binOp, Op.intBits]
theorem PEv.andNot_w {T T' : TypeId} {x y : Operand} {k : IntKind} {i j : Int} (hx : Val l x (.int k i)) (hy : Val l y (.int k j)) : PEv P n ds l w ⟨d, .binOp .andNot T x y T', ty, ps, af, g⟩ (.int k (k.wrap (BitVec.ofInt k.bits i &&& ~~~BitVec.ofInt k.bits j).toNat)) := .bin hx hy fun w => by simp [binOp, Op.intBits]
theorem PEv.rem {T T' : TypeId} {x y : Operand} {k : IntKind} {i j : Int} (hx : Val l x (.int k i)) (hy : Val l y (.int k j)) (h0 : j ≠ 0) : PEv P n ds l w ⟨d, .binOp .rem T x y T', ty, ps, af, g⟩ (.int k (i.tmod j)) := .bin hx hy fun w => by simp [binOp, Op.intDiv, h0]
theorem PEv.quo {T T' : TypeId} {x y : Operand} {k : IntKind} {i j : Int} (hx : Val l x (.int k i)) (hy : Val l y (.int k j)) (h0 : j ≠ 0) : PEv P n ds l w ⟨d, .binOp .quo T x y T', ty, ps, af, g⟩ (.int k (k.wrap (i.tdiv j))) := .bin hx hy fun w => by simp [binOp, Op.intDiv, h0]

theorem eqGuard_bool (op : BinOp) (T : TypeId) (x y : Operand) (p q : Bool) (w : World) : (eqGuard op T x y (.bool p) (.bool q)).run P w = .ok () w := by unfold eqGuard; cases op <;> rfl
theorem PEv.eqlB {T T' : TypeId} {x y : Operand} {p q : Bool} (hT : P.underlying T = some .bool) (hx : Val l x (.bool p)) (hy : Val l y (.bool q)) : PEv P n ds l w ⟨d, .binOp .eql T x y T', ty, ps, af, g⟩ (.bool (p == q)) := fun a w' ha _ => by
  refine run_v ?_
  rw [ha.ev hx, ha.ev hy, Sem.run_bind, eqGuard_bool]
  exact run_eql_bool w' T p q hT
theorem PEv.neqB {T T' : TypeId} {x y : Operand} {p q : Bool} (hT : P.underlying T = some .bool) (hx : Val l x (.bool p)) (hy : Val l y (.bool q)) : PEv P n ds l w ⟨d, .binOp .neq T x y T', ty, ps, af, g⟩ (.bool (!(p == q))) := fun a w' ha _ => by
  refine run_v ?_
  rw [ha.ev hx, ha.ev hy, Sem.run_bind, eqGuard_bool]
  exact run_neq_bool w' T p q hT
theorem PEv.eqlNil {T T' e : TypeId} {x : Operand} {p : Option Addr} (hT : P.underlying T = some (.pointer e)) (hx : Val l x (.pointer p)) : PEv P n ds l w ⟨d, .binOp .eql T x (.const (.pointer none)) T', ty, ps, af, g⟩ (.bool p.isNone) := fun a w' ha _ => by
  refine run_v ?_
  have e1 : a.eval (.const (.pointer none)) = .pointer none := rfl
  rw [ha.ev hx, e1, Sem.run_bind]
  have : (eqGuard .eql T x (.const (.pointer none)) (.pointer p) (.pointer none)).run P w' = .ok () w' := by unfold eqGuard; rfl
  rw [this]
  have hp : P.pointee T = e := by unfold Program.pointee; rw [hT]
  exact run_eql_pointer_nil w' T p (by rw [hp]; exact hT)
theorem PEv.min2 {x y : Operand} {ts : Array TypeId} {i j : Int} (hx : Val l x (.int .i64 i)) (hy : Val l y (.int .i64 j)) :
    PEv P n ds l w ⟨d, .call { callee := .builtin .min, args := #[x, y], argTypes := ts }, ty, ps, af, g⟩ (.int .i64 (if j < i then j else i)) := fun a w' ha _ => by
  rw [BigFrame.execOp_builtin, BigFrame.builtin_min]
  refine run_v ?_
  have e : (#[x, y] : Array Operand).map a.eval = #[.int .i64 i, .int .i64 j] := by simp [ha.ev hx, ha.ev hy]
  rw [e]
  exact run_min_int2 w' _ _ _ _ _ _
theorem PEv.strTo {T : TypeId} {x h : Operand} {s : ByteArray} {j : Int} (hT : P.underlying T = some .string) (hx : Val l x (.string s)) (hh : Val l h (.int .i64 j)) (h0 : 0 ≤ j) (h1 : j ≤ s.size) :
    PEv P n ds l w ⟨d, .slice T x none (some h) none, ty, ps, af, g⟩ (.string (s.extract 0 j.toNat)) := fun a w' ha _ => by
  refine run_v ?_
  rw [ha.ev hx]
  simp only [Option.map_none, Option.map_some, ha.ev hh]
  simp [Instr.sliceAt, Instr.slice, Instr.sliceBounds, Instr.sliceBound, asIntOf, run_underlying hT, Result.andThen, h0, h1]
/-- two structs -/
theorem PEv.eqlA {T T' : TypeId} {x y : Operand} {xs ys : Array Value} {b : Bool} (hg : P.eqGuardType P.depth T = false) (he : ∀ w, (Op.equalIn 10000 T (.agg xs) (.agg ys)).run P w = .ok b w) (hx : Val l x (.agg xs)) (hy : Val l y (.agg ys)) : PEv P n ds l w ⟨d, .binOp .eql T x y T', ty, ps, af, g⟩ (.bool b) := fun a w' ha _ => by
  refine run_v ?_
  rw [ha.ev hx, ha.ev hy, Sem.run_bind, run_eqGuard_agg w' _ _ _ _ _ _ hg]
  show (binOp .eql T (.agg xs) (.agg ys)).run P w' = _
  rw [run_eql_struct, he]; rfl
theorem PEv.neqA {T T' : TypeId} {x y : Operand} {xs ys : Array Value} {b : Bool} (hg : P.eqGuardType P.depth T = false) (he : ∀ w, (Op.equalIn 10000 T (.agg xs) (.agg ys)).run P w = .ok b w) (hx : Val l x (.agg xs)) (hy : Val l y (.agg ys)) : PEv P n ds l w ⟨d, .binOp .neq T x y T', ty, ps, af, g⟩ (.bool (!b)) := fun a w' ha _ => by
  refine run_v ?_
  rw [ha.ev hx, ha.ev hy, Sem.run_bind, run_eqGuard_agg w' _ _ _ _ _ _ hg]
  show (binOp .neq T (.agg xs) (.agg ys)).run P w' = _
  rw [run_neq_struct, he]; rfl
theorem eqStep {d : Nat} {xs ys : Array Value} {f : Field} {fs : List Field} {w : World} {a b : Value} {r : Bool} (hn : f.name ≠ "_") (hs : ∀ w, (isAgg f.type).run P w = .ok false w) (hx : xs[f.offset]? = some a) (hy : ys[f.offset]? = some b) (he : (Op.equalIn d f.type a b).run P w = .ok r w) {q : Bool} (hq : (Op.eqFields d xs ys fs).run P w = .ok q w) :
    (Op.eqFields d xs ys (f :: fs)).run P w = .ok (r && q) w := by
  unfold Op.eqFields
  have h1 : (part f.type xs f.offset).run P w = .ok a w := by simp [part, hs, hx, Result.andThen]
  have h2 : (part f.type ys f.offset).run P w = .ok b w := by simp [part, hs, hy, Result.andThen]
  rw [if_pos hn]
  simp only [Sem.run_bind, h1, h2, he, Result.andThen_ok]
  cases r <;> simp [hq]
theorem PEv.neg {T : TypeId} {x : Operand} {k k' : IntKind} {i : Int} (_ : P.underlying T = some (.int k')) (hx : Val l x (.int k i)) : PEv P n ds l w ⟨d, .unOp .neg T x, ty, ps, af, g⟩ (.int k (k.wrap (-i))) := fun a w' ha _ => by
  refine run_v ?_
  rw [ha.ev hx]
  simp [Op.unary, Op.intArith]
theorem PEv.not {T : TypeId} {x : Operand} {p : Bool} (hx : Val l x (.bool p)) : PEv P n ds l w ⟨d, .unOp .not T x, ty, ps, af, g⟩ (.bool !p) := fun a w' ha _ => by
  refine run_v ?_
  rw [ha.ev hx]; rfl
def nth : List Value → Nat → Option Value
  | [], _ => none
  | v :: _, 0 => some v
  | _ :: l, i + 1 => nth l i
theorem nth_eq : ∀ (l : List Value) (i : Nat), nth l i = l[i]?
  | [], _ => by simp [nth]
  | v :: l, 0 => by simp [nth]
  | v :: l, i + 1 => by simp [nth, nth_eq l i]
theorem nth_arr {cs : Array Value} {i : Nat} {v : Value} (h : nth cs.toList i = some v) : cs[i]? = some v := by rw [nth_eq] at h; simpa using h
theorem PEv.extract {x : Operand} {i : Nat} {vs : Array Value} {v : Value} (hx : Val l x (.tuple vs)) (hn : nth vs.toList i = some v) : PEv P n ds l w ⟨d, .extract x i, ty, ps, af, g⟩ v := fun a w' ha _ => by
  refine run_v ?_
  have hv := nth_arr hn
  rw [ha.ev hx]; simp only [Instr.extract, hv]; rfl
theorem PEv.makeFunc {fn : Fn} {cap : Array Operand} {vs : List Value} (hv : Vals l cap.toList vs) : PEv P n ds l w ⟨d, .makeFunc fn #[] cap, ty, ps, af, g⟩ (.func fn #[] vs.toArray) := fun a w' ha _ => by
  refine run_v ?_
  have : cap.map a.eval = vs.toArray := by apply Array.ext'; simp [ha.evs hv]
  rw [this]; simp [Instr.makeFunc]
theorem PEv.lenS {T e : TypeId} {x : Operand} {ad : Option Addr} {k c : Nat} (hT : P.underlying T = some (.slice e)) (hx : Val l x (.slice ad k c)) :
    PEv P n ds l w ⟨d, .call { callee := .builtin .len, args := #[x], argTypes := #[T] }, ty, ps, af, g⟩ (.int .i64 (k : Int)) := fun a w' ha _ => by
  rw [BigFrame.execOp_builtin, BigFrame.builtin_len]
  refine run_v ?_
  simp [Builtin.len_, run_underlying hT, Sem.run_bind, goInt, ha.ev hx]
/-- the length of a slice of which that much is known -/
theorem PEv.lenQ {T e : TypeId} {t : Tmp} {p : Value → World → Prop} {k : Nat} (hT : P.underlying T = some (.slice e)) (hl : lk l t = some (.pred p)) (hp : ∀ v w, p v w → ∃ ad c, v = .slice ad k c) :
    PEv P n ds l w ⟨d, .call { callee := .builtin .len, args := #[.tmp t], argTypes := #[T] }, ty, ps, af, g⟩ (.int .i64 (k : Int)) := fun a w' ha _ => by
  obtain ⟨ad, c, hv⟩ := hp _ _ (ha.val _ _ hl)
  have hv' : a.eval (.tmp t) = .slice ad k c := hv
  rw [BigFrame.execOp_builtin, BigFrame.builtin_len]
  refine run_v ?_
  simp [Builtin.len_, run_underlying hT, Sem.run_bind, goInt, hv']
theorem PEv.lenStr {T : TypeId} {x : Operand} {s : ByteArray} (hT : P.underlying T = some .string) (hx : Val l x (.string s)) :
    PEv P n ds l w ⟨d, .call { callee := .builtin .len, args := #[x], argTypes := #[T] }, ty, ps, af, g⟩ (.int .i64 (s.size : Int)) := fun a w' ha _ => by
  rw [BigFrame.execOp_builtin, BigFrame.builtin_len]
  refine run_v ?_
  simp [Builtin.len_, run_underlying hT, Sem.run_bind, goInt, ha.ev hx]

/-! ### addresses, loads -/
theorem add_none (B o k : Nat) : (⟨B, o, none⟩ : Addr).add k = ⟨B, o + k, none⟩ := by unfold Addr.add; split <;> simp_all
theorem PEv.fieldAddr {S i : Nat} {x : Operand} {fs : Array Field} {f : Field} {off k B o : Nat} (hS : P.underlying S = some (.struct fs)) (hf : fs[i]? = some f) (ho : f.offset = off) (hs : ∀ w, (sizeOf f.type).run P w = .ok k w) (hk : Nat.beq k 0 = false)
    (hx : Val l x (.pointer (some ⟨B, o, none⟩))) : PEv P n ds l w ⟨d, .fieldAddr S x i, ty, ps, af, g⟩ (.pointer (some ⟨B, o + off, none⟩)) := fun a w' ha _ => by
  refine run_v ?_
  rw [ha.ev hx]
  have hk' : k ≠ 0 := fun e => by subst e; cases hk
  simp [Instr.fieldAt, run_underlying hS, Sem.run_bind, hf, Instr.sureAddr, fieldPlace, hs, hk', ho, add_none]
/-- the cells from o on are these -/
def AggAt (w : World) (B o : Nat) (cs : Array Value) : Prop := ∀ j v, cs[j]? = some v → w.cell? ⟨B, o + j, none⟩ = some v
theorem cell_up {w w' : World} {ad : Addr} {v : Value} (h : w.cell? ad = some v) (k : Up w w') : w'.cell? ad = some v := (Below.cell k (block_lt_of_cell h)).trans h
theorem AggAt.up {w w' : World} {B o : Nat} {cs : Array Value} (h : AggAt w B o cs) (k : Up w w') : AggAt w' B o cs := fun j v hv => cell_up (h j v hv) k
theorem Blk.cell {w : World} {B : Nat} {cs : Array Value} {T : TypeId} (h : Blk w B cs T) {o : Nat} {v : Value} (hv : cs[o]? = some v) : w.cell? ⟨B, o, none⟩ = some v := by
  rw [cell_of_row w B o cs T (0, 0) h]; exact hv
theorem Blk.celln {w : World} {B : Nat} {cs : Array Value} {T : TypeId} (h : Blk w B cs T) {o : Nat} {v : Value} (hv : nth cs.toList o = some v) : w.cell? ⟨B, o, none⟩ = some v := h.cell (nth_arr hv)
theorem AggAt.nth {w : World} {B o : Nat} {cs : Array Value} (h : AggAt w B o cs) {j : Nat} {v : Value} (hv : nth cs.toList j = some v) : w.cell? ⟨B, o + j, none⟩ = some v := h j v (nth_arr hv)
theorem Blk.agg {w : World} {B : Nat} {cs : Array Value} {T : TypeId} (h : Blk w B cs T) : AggAt w B 0 cs := fun j v hv => h.cell (by simpa using hv)
theorem cell_sto {w w' : World} {ad : Addr} {v : Value} {B : Nat} (h : w.cell? ad = some v) (k : Sto B w w') (hne : ad.block ≠ B) : w'.cell? ad = some v :=
  (World.cell?_of_block (w := w) (k.block ad.block (block_lt_of_cell h) hne)).trans h
theorem AggAt.sto {w w' : World} {B B' o : Nat} {cs : Array Value} (h : AggAt w B o cs) (k : Sto B' w w') (hne : B ≠ B') : AggAt w' B o cs := fun j v hv => cell_sto (h j v hv) k hne

theorem run_loadVar1 {T : TypeId} {ad : Addr} {v : Value} {w : World} (hT : ∀ w, (isAgg T).run P w = .ok false w) (hc : w.cell? ad = some v) : (loadVar T ad).run P w = .ok v w := by
  simp [loadVar, Sem.run_bind, hT, hc]
theorem PEv.load {T : TypeId} {x : Operand} {ad : Addr} {v : Value} (hT : ∀ w, (isAgg T).run P w = .ok false w) (hx : Val l x (.pointer (some ad))) (hc : w.cell? ad = some v) : PEv P n ds l w ⟨d, .load T x, ty, ps, af, g⟩ v := fun a w' ha hu => by
  refine run_v ?_
  rw [ha.ev hx]
  simp [Instr.loadAt, Instr.sureAddr, run_loadVar1 hT (cell_up hc hu)]
theorem run_loadVarA {T : TypeId} {B o k : Nat} {cs : Array Value} {w : World} (hT : ∀ w, (isAgg T).run P w = .ok true w) (hs : ∀ w, (sizeOf T).run P w = .ok k w) (hk : cs.size = k) (hc : AggAt w B o cs) : (loadVar T ⟨B, o, none⟩).run P w = .ok (.agg cs) w := by
  have := run_loadCells_list (P := P) w ⟨B, o, none⟩ cs.toList (fun j v hv => by rw [add_none]; exact hc j v (by simpa using hv))
  simp only [Array.length_toList, Array.toArray_toList, hk] at this
  simp [loadVar, Sem.run_bind, hT, hs, this]
theorem PEv.loadA {T : TypeId} {x : Operand} {B o k : Nat} {cs : Array Value} (hT : ∀ w, (isAgg T).run P w = .ok true w) (hs : ∀ w, (sizeOf T).run P w = .ok k w) (hk : cs.size = k) (hx : Val l x (.pointer (some ⟨B, o, none⟩))) (hc : AggAt w B o cs) :
    PEv P n ds l w ⟨d, .load T x, ty, ps, af, g⟩ (.agg cs) := fun a w' ha hu => by
  refine run_v ?_
  rw [ha.ev hx]
  simp [Instr.loadAt, Instr.sureAddr, run_loadVarA hT hs hk (hc.up hu)]
theorem PEv.indexAddr {T e : TypeId} {x ix : Operand} {B o k c size j : Nat} (hT : P.underlying T = some (.slice e)) (hs : ∀ w, (sizeOf e).run P w = .ok size w) (hx : Val l x (.slice (some ⟨B, o, none⟩) k c)) (hi : Val l ix (.int .i64 (j : Int))) (hj : j < k) :
    PEv P n ds l w ⟨d, .indexAddr T x ix, ty, ps, af, g⟩ (.pointer (some ⟨B, o + j * size, none⟩)) := fun a w' ha _ => by
  refine run_v ?_
  rw [ha.ev hx, ha.ev hi]
  have h0 : (0 : Int) ≤ (j : Int) ∧ (j : Int) < (k : Int) := ⟨by omega, by omega⟩
  simp [Instr.indexAt, asIntOf, run_underlying hT, Sem.run_bind, hs, add_none, hj]

/-! ### new blocks -/
theorem blk_alloc (w : World) (cs : Array Value) (T : TypeId) : Blk (w.alloc (.cells cs T)) w.heap.size cs T := heap_alloc_new w _
/-- a new block B with these cells -/
structure New (w w' : World) (B : Nat) (cs : Array Value) (T : TypeId) : Prop where
  blk : Blk w' B cs T
  up : Up w w'
  at_ : B = w.heap.size
  size : w'.heap.size = B + 1
theorem New.alloc (w : World) (cs : Array Value) (T : TypeId) : New w (w.alloc (.cells cs T)) w.heap.size cs T := ⟨blk_alloc w cs T, Up.alloc w _, rfl, by simp⟩
def NewP (w : World) (cs : Array Value) (T : TypeId) (v : Value) (w' : World) : Prop := ∃ B, v = .pointer (some ⟨B, 0, none⟩) ∧ New w w' B cs T
theorem REv.box {T : TypeId} {x : Operand} {v : Value} {cs : Array Value} (hx : Val l x v) (hc : v.cells = cs) : REv P n ds l w ⟨d, .box T x, ty, ps, af, g⟩ (NewP w cs T) := fun a ha => by
  subst hc
  refine ⟨_, _, run_v (v := .pointer (some ⟨w.heap.size, 0, none⟩)) (w' := w.alloc (.cells v.cells T)) ?_, _, rfl, New.alloc w v.cells T⟩
  rw [ha.ev hx]
  rfl
theorem REv.boxA {T : TypeId} {x : Operand} {cs : Array Value} (hx : Val l x (.agg cs)) : REv P n ds l w ⟨d, .box T x, ty, ps, af, g⟩ (NewP w cs T) := .box hx rfl
theorem REv.box1 {T : TypeId} {x : Operand} {v : Value} (hx : Val l x v) (hc : v.oneCell' = true) : REv P n ds l w ⟨d, .box T x, ty, ps, af, g⟩ (NewP w #[v] T) := .box hx (by cases v <;> first | rfl | cases hc)
theorem REv.alloc {T : TypeId} {v : Value} {cs : Array Value} (hz : ∀ w, (zeroValue T).run P w = .ok v w) (hc : v.cells = cs) : REv P n ds l w ⟨d, .alloc T, ty, ps, af, g⟩ (NewP w cs T) := fun a ha => by
  subst hc
  refine ⟨_, _, run_v (v := .pointer (some ⟨w.heap.size, 0, none⟩)) (w' := w.alloc (.cells v.cells T)) ?_, _, rfl, New.alloc w v.cells T⟩
  simp only [Instr.alloc, Sem.run_bind, hz]
  rfl
theorem REv.allocA {T : TypeId} {cs : Array Value} (hz : ∀ w, (zeroValue T).run P w = .ok (.agg cs) w) : REv P n ds l w ⟨d, .alloc T, ty, ps, af, g⟩ (NewP w cs T) := .alloc hz rfl
theorem REv.alloc1 {T : TypeId} {v : Value} (hz : ∀ w, (zeroValue T).run P w = .ok v w) (hc : v.oneCell' = true) : REv P n ds l w ⟨d, .alloc T, ty, ps, af, g⟩ (NewP w #[v] T) := .alloc hz (by cases v <;> first | rfl | cases hc)

/-! ### stores -/
/-- block B now holds these cells -/
structure Set_ (w w' : World) (B : Nat) (cs : Array Value) (T : TypeId) : Prop where
  blk : Blk w' B cs T
  sto : Sto B w w'
  size : w'.heap.size = w.heap.size
theorem Set_.setRow {w : World} {B : Nat} {old cs : Array Value} {T : TypeId} (h : Blk w B old T) : Set_ w (w.setRow B cs) B cs T :=
  ⟨setRow_heap w B old cs T (0, 0) h, ⟨rfl, rfl, rfl, by simp, fun k _ hne => setRow_other w B k cs hne⟩, by simp⟩
theorem New.set {w w' w'' : World} {B : Nat} {z cs : Array Value} {T TT : TypeId} (h : New w w' B z T) (k : Set_ w' w'' B cs TT) : New w w'' B cs TT :=
  ⟨k.blk, Up.sto h.up k.sto (by rw [h.at_]; exact Nat.le_refl _), h.at_, by rw [k.size]; exact h.size⟩
theorem SEv.store {T TT : TypeId} {x y : Operand} {B o : Nat} {v : Value} {cs : Array Value} (hs : ∀ w, (sizeOf T).run P w = .ok 1 w) (hx : Val l x (.pointer (some ⟨B, o, none⟩))) (hy : Val l y v) (h1 : v.oneCell' = true) (hb : Blk w B cs TT) (ho : o < cs.size) :
    SEv P n ds l w ⟨none, .store T x y, ty, ps, af, g⟩ (fun w' => Set_ w w' B (cs.setIfInBounds o v) TT) := fun a ha => by
  refine ⟨_, run_u (w' := w.setRow B (cs.setIfInBounds o v)) ?_, Set_.setRow hb⟩
  rw [ha.ev hx, ha.ev hy]
  have hcell : w.cell? ⟨B, o, none⟩ = some cs[o] := hb.cell (by simp [ho])
  have hfr : w.frozen? ⟨B, o, none⟩ = false := frozen_of_row w B o cs TT hb
  have hsz : v.cells = #[v] := by cases v <;> first | rfl | cases h1
  have hst := run_store P w ⟨B, o, none⟩ v .plain h1
  rw [hcell] at hst
  simp only [hfr, Bool.false_eq_true, if_false, setCell_eq_setRow w B o cs TT (0, 0) v hb] at hst
  simp only [Instr.storeAt, Instr.sureAddr, Sem.run_bind, Sem.run_pure, Result.andThen, storeVar, hs, hsz]
  simp [storeCells, hst, add_none]
theorem SEv.storeA {T TT : TypeId} {x y : Operand} {B k : Nat} {cs old : Array Value} (hs : ∀ w, (sizeOf T).run P w = .ok k w) (hk : cs.size = k) (hx : Val l x (.pointer (some ⟨B, 0, none⟩))) (hy : Val l y (.agg cs)) (h1 : cs.all (·.oneCell') = true) (hb : Blk w B old TT) (ho : old.size = k) :
    SEv P n ds l w ⟨none, .store T x y, ty, ps, af, g⟩ (fun w' => Set_ w w' B cs TT) := fun a ha => by
  refine ⟨_, run_u (w' := w.setRow B cs) ?_, Set_.setRow hb⟩
  rw [ha.ev hx, ha.ev hy]
  have := run_storeCells_from (P := P) B TT cs.toList 0 old w hb (by simp; omega) (fun v hv => (Array.all_eq_true_iff_forall_mem.1 h1) v (by simpa using hv))
  simp only [List.take_zero, List.nil_append, Array.toArray_toList] at this
  simp only [Instr.storeAt, Instr.sureAddr, Sem.run_bind, Sem.run_pure, Result.andThen, storeVar, hs, Value.cells]
  simp [hk, this]

/-! ### calls -/
/-- the call of a Go function -/
theorem enter_call {x : Operand} {xs : Array Operand} {ts : Array TypeId} {f : FuncId} {lb : Array Value} {vs : List Value} (hx : Val l x (.func (.func f) #[] lb)) (hv : Vals l xs.toList vs) (hf : ∀ args w, (callFunc f args).run P w = .ok (.enter f args) w) :
    ∀ a, Ag n ds l a w → (execOp a.eval ⟨d, .call { callee := .value x, args := xs, argTypes := ts }, ty, ps, af, g⟩).run P w = .ok (.enter f (vs.toArray ++ lb)) w := fun a ha => by
  have e1 : xs.map a.eval = vs.toArray := by apply Array.ext'; simp [ha.evs hv]
  simp only [execOp, resolve, ha.ev hx, e1, Deferred.ofValue, Sem.run_bind, Sem.run_pure, Result.andThen, invoke]
  simp [hf]
theorem Calls_of_CW {m : Nat} {f : FuncId} {fn : Func} {c : Code} {args : Array Value} {R : Ending → World → Prop} {l : Env} (hf : P.funcs[f]? = some fn) (hb : fn.body = some c) (hn : fn.ntmps = n) (hl : ∀ a, a = { tmps := args ++ Array.replicate (n - args.size) undef, defers := [] } → Ag n [] l a w)
    (h : CW none m P n [] c (bodyPost P fn R) l w) : Calls P f args w R := by
  subst hn
  exact callsIn_wide.1 (callsIn_of_wp (n := m) hf hb trivial (h _ (hl _ rfl)))
end
end Go.Wx
