import Derived.Test.YtgffaeachbbjoaaDoorKR17
import Derived.Lib.Builder
import Derived.Lib.UnsafeStr
import Derived.Laws.Externs
import Derived.Laws.BytesArg
section
namespace Go.Wx
open Go.RowKit Go.Lib
def aAnd (As : List Asr) : Asr where
  foot := fun i => ∃ A ∈ As, A.foot i
  holds := fun w => (∀ A ∈ As, A.holds w) ∧ As.Pairwise fun (A B : Asr) => ∀ (i : Nat), A.foot i → ¬ B.foot i
  keep _ _ h k z := ⟨fun A hA => A.keep _ _ (h.1 A hA) (fun i hi hl => k i ⟨A, hA, hi⟩ hl) z, h.2⟩
  lt _ h i := fun ⟨A, hA, hi⟩ => A.lt _ (h.1 A hA) i hi
section
variable {S0 : Nat → Prop} {w0 w w' : World} {As As' Bs rest : List Asr}
theorem aAnd_close (h : Sep (aAnd As).foot w0 w (As' ++ rest)) : Stp (aAnd As) (aAnd As') w0 w :=
  ⟨h.fr, ⟨fun A hA => (h.each A (List.mem_append_left _ hA)).1, (List.pairwise_append.1 h.apart).1⟩, fun i ⟨A, hA, hi⟩ => (h.each A (List.mem_append_left _ hA)).2 i hi⟩
theorem Sep.fold (h : Sep S0 w0 w (Bs ++ As ++ rest)) : Sep S0 w0 w (Bs ++ aAnd As :: rest) := by
  have h1 := List.pairwise_append.1 h.apart
  have h2 := List.pairwise_append.1 h1.1
  refine ⟨h.fr, fun A hA => ?_, List.pairwise_append.2 ⟨h2.1, List.pairwise_cons.2 ⟨fun C hC i hi => ?_, h1.2.1⟩, fun A hA C hC i hi => ?_⟩⟩
  · rcases List.mem_append.1 hA with hA | hA
    · exact h.each A (by simp [hA])
    · rcases List.mem_cons.1 hA with rfl | hA
      · exact ⟨⟨fun A hA => (h.each A (by simp [hA])).1, h2.2.1⟩, fun i ⟨A, hA, hi⟩ => (h.each A (by simp [hA])).2 i hi⟩
      · exact h.each A (by simp [hA])
  · obtain ⟨A, hA, hi⟩ := hi
    exact h1.2.2 A (by simp [hA]) C hC i hi
  · rcases List.mem_cons.1 hC with rfl | hC
    · rintro ⟨C, hC, hi2⟩
      exact h2.2.2 A hA C hC i hi hi2
    · exact h1.2.2 A (by simp [hA]) C hC i hi
theorem Sep.unfold (h : Sep S0 w0 w (Bs ++ aAnd As :: rest)) : Sep S0 w0 w (Bs ++ As ++ rest) := by
  have h1 := List.pairwise_append.1 h.apart
  have h2 := List.pairwise_cons.1 h1.2.1
  have ha := h.each (aAnd As) (by simp)
  refine ⟨h.fr, fun A hA => ?_, List.pairwise_append.2 ⟨List.pairwise_append.2 ⟨h1.1, ha.1.2, fun A hA C hC i hi hi2 => ?_⟩, h2.2, fun A hA C hC i hi => ?_⟩⟩
  · rcases List.mem_append.1 hA with hA | hA
    · rcases List.mem_append.1 hA with hA | hA
      · exact h.each A (by simp [hA])
      · exact ⟨ha.1.1 A hA, fun i hi => ha.2 i ⟨A, hA, hi⟩⟩
    · exact h.each A (by simp [hA])
  · exact h1.2.2 A hA (aAnd As) (by simp) i hi ⟨C, hC, hi2⟩
  · rcases List.mem_append.1 hA with hA | hA
    · exact h1.2.2 A hA C (by simp [hC]) i hi
    · exact h2.1 C hC i ⟨A, hA, hi⟩
end
theorem cell_fr {S : Nat → Prop} {w w' : World} {ad : Addr} {v : Value} (h : w.cell? ad = some v) (f : Fr S w w') (hn : ¬ S ad.block) : w'.cell? ad = some v := by
  unfold World.cell? at h ⊢
  cases hb : w.heap[ad.block]? with
  | none => rw [hb] at h; cases h
  | some o => rw [hb] at h; rw [f.block _ (lt_of_block hb) hn, hb]; exact h
theorem Els.fr {α : Type} {S : Nat → Prop} {w w' : World} {ad : Option Addr} {k : Nat} {enc : α → Array Value} {xs : List α} (h : Els w ad k enc xs) (f : Fr S w w') (hn : ∀ B o, ad = some ⟨B, o, none⟩ → ¬ S B) : Els w' ad k enc xs := fun i x hx =>
  let ⟨B, o, h1, h2⟩ := h i x hx
  ⟨B, o, h1, fun j v hv => cell_fr (h2 j v hv) f (hn B _ h1)⟩
theorem Blk.fr {S : Nat → Prop} {w w' : World} {B : Nat} {cs : Array Value} {T : TypeId} (h : Blk w B cs T) (f : Fr S w w') (hn : ¬ S B) : Blk w' B cs T := (f.block _ h.lt hn).trans h
end Go.Wx
end
section
namespace Go.Wx
structure Rt where
  n : Int
  d : Int
def Rt.cells (a : Rt) : Array Go.Value := #[vi a.n, vi a.d]
theorem Rt.one (a : Rt) : a.cells.all (·.oneCell') = true := by simp [Rt.cells, Value.oneCell']
def gcdA (n d : Int) : Nat := Nat.gcd n.natAbs d.natAbs
structure Rt.ok (a : Rt) : Prop where
  pos : 0 < a.d
  den : a.d ≤ 1000000000
  num : a.n.natAbs ≤ 1000000000
  co : gcdA a.n a.d = 1
def redF (n d : Int) : Rt := ⟨if n < 0 then -((n.natAbs / gcdA n d : Nat) : Int) else ((n.natAbs / gcdA n d : Nat) : Int), ((d.natAbs / gcdA n d : Nat) : Int)⟩
def fitsF (n d : Int) : Bool := decide (n.natAbs / gcdA n d ≤ 1000000000 ∧ d.natAbs / gcdA n d ≤ 1000000000)
def rt0 : Rt := ⟨0, 0⟩
def mkF (n d : Int) : Rt × Int := if fitsF n d = true then (redF n d, 0) else (rt0, 30)
theorem gcdA_pos {n d : Int} (hd : 0 < d) : 0 < gcdA n d := Nat.gcd_pos_of_pos_right _ (by omega)
theorem redF_d {n d : Int} (hd : 0 < d) : 0 < (redF n d).d := by
  show (0 : Int) < ((d.natAbs / gcdA n d : Nat) : Int)
  have h1 : gcdA n d ∣ d.natAbs := Nat.gcd_dvd_right _ _
  have := Nat.div_pos (Nat.le_of_dvd (by omega) h1) (gcdA_pos (n := n) hd)
  omega
theorem redF_n (n d : Int) : (redF n d).n.natAbs = n.natAbs / gcdA n d := by
  show (if n < 0 then -((n.natAbs / gcdA n d : Nat) : Int) else ((n.natAbs / gcdA n d : Nat) : Int)).natAbs = _
  generalize n.natAbs / gcdA n d = x
  split <;> omega
theorem redF_dn (n d : Int) : (redF n d).d.natAbs = d.natAbs / gcdA n d := by
  show ((d.natAbs / gcdA n d : Nat) : Int).natAbs = _
  generalize d.natAbs / gcdA n d = x
  omega
theorem redF_co {n d : Int} (hd : 0 < d) : gcdA (redF n d).n (redF n d).d = 1 := by
  unfold gcdA
  rw [redF_n, redF_dn]
  exact Nat.coprime_div_gcd_div_gcd (gcdA_pos (n := n) hd)
theorem redF_mul {n d : Int} (hd : 0 < d) : (redF n d).n * d = n * (redF n d).d := by
  have h1 : n.natAbs / gcdA n d * gcdA n d = n.natAbs := Nat.div_mul_cancel (Nat.gcd_dvd_left _ _)
  have h2 : d.natAbs / gcdA n d * gcdA n d = d.natAbs := Nat.div_mul_cancel (Nat.gcd_dvd_right _ _)
  show (if n < 0 then -((n.natAbs / gcdA n d : Nat) : Int) else ((n.natAbs / gcdA n d : Nat) : Int)) * d = n * ((d.natAbs / gcdA n d : Nat) : Int)
  generalize n.natAbs / gcdA n d = x at *
  generalize d.natAbs / gcdA n d = y at *
  generalize gcdA n d = g at *
  have e2 : d = ((y * g : Nat) : Int) := by rw [h2]; omega
  have key : (x : Int) * ((y * g : Nat) : Int) = ((x * g : Nat) : Int) * (y : Int) := by
    push_cast; ac_rfl
  rw [e2]
  split
  · rename_i hneg
    have e1 : n = -((x * g : Nat) : Int) := by rw [h1]; omega
    rw [e1, Int.neg_mul, Int.neg_mul, key]
  · rename_i hneg
    have e1 : n = ((x * g : Nat) : Int) := by rw [h1]; omega
    rw [e1, key]
theorem rt_uniq {a b : Rt} (ha : 0 < a.d) (hb : 0 < b.d) (ga : gcdA a.n a.d = 1) (gb : gcdA b.n b.d = 1) (h : a.n * b.d = b.n * a.d) : a = b := by
  have hn : a.n.natAbs * b.d.natAbs = b.n.natAbs * a.d.natAbs := by rw [← Int.natAbs_mul, ← Int.natAbs_mul, h]
  have h1 : a.d.natAbs ∣ b.d.natAbs := by
    have : a.d.natAbs ∣ a.n.natAbs * b.d.natAbs := by rw [hn]; exact Nat.dvd_mul_left _ _
    exact (Nat.Coprime.symm ga).dvd_of_dvd_mul_left this
  have h2 : b.d.natAbs ∣ a.d.natAbs := by
    have : b.d.natAbs ∣ b.n.natAbs * a.d.natAbs := by rw [← hn]; exact Nat.dvd_mul_left _ _
    exact (Nat.Coprime.symm gb).dvd_of_dvd_mul_left this
  have hd := Nat.dvd_antisymm h1 h2
  obtain ⟨an, ad⟩ := a
  obtain ⟨bn, bd⟩ := b
  dsimp only at *
  have e : ad = bd := by omega
  subst e
  have := Int.eq_of_mul_eq_mul_right (by omega) h
  rw [this]
theorem redF_eq {u v u' v' : Int} (hv : 0 < v) (hv' : 0 < v') (h : u * v' = u' * v) : redF u v = redF u' v' := by
  refine rt_uniq (redF_d hv) (redF_d hv') (redF_co hv) (redF_co hv') ?_
  have h1 := redF_mul (n := u) hv
  have h2 := redF_mul (n := u') hv'
  generalize redF u v = a at *
  generalize redF u' v' = b at *
  have hvv : v * v' ≠ 0 := Int.mul_ne_zero (by omega) (by omega)
  refine Int.eq_of_mul_eq_mul_right hvv ?_
  calc a.n * b.d * (v * v') = (a.n * v) * (b.d * v') := by ac_rfl
    _ = (u * a.d) * (b.d * v') := by rw [h1]
    _ = (u * v') * (a.d * b.d) := by ac_rfl
    _ = (u' * v) * (a.d * b.d) := by rw [h]
    _ = (u' * b.d) * (a.d * v) := by ac_rfl
    _ = (b.n * v') * (a.d * v) := by rw [h2]
    _ = b.n * a.d * (v * v') := by ac_rfl
theorem redF_ok {n d : Int} (hd : 0 < d) (h : fitsF n d = true) : (redF n d).ok := by
  have h := of_decide_eq_true h
  refine ⟨redF_d hd, ?_, by rw [redF_n]; exact h.1, redF_co hd⟩
  show ((d.natAbs / gcdA n d : Nat) : Int) ≤ 1000000000
  omega
theorem fits_small {n d : Int} (hn : n.natAbs ≤ 1000000000) (hd : d.natAbs ≤ 1000000000) : fitsF n d = true :=
  decide_eq_true ⟨Nat.le_trans (Nat.div_le_self _ _) hn, Nat.le_trans (Nat.div_le_self _ _) hd⟩
theorem mkF_fits {n d : Int} (h : fitsF n d = true) : mkF n d = (redF n d, 0) := if_pos h
theorem fits_eq {u v u' v' : Int} (hv : 0 < v) (hv' : 0 < v') (h : u * v' = u' * v) (hf : fitsF u' v' = true) : fitsF u v = true := by
  have e := redF_eq hv hv' h
  have hf := of_decide_eq_true hf
  refine decide_eq_true ?_
  rw [← redF_n, ← redF_dn] at hf ⊢
  rw [e]; exact hf
theorem gcd_step (a b : Nat) : Nat.gcd a b = Nat.gcd b (a % b) := by rw [Nat.gcd_comm a b, Nat.gcd_rec b a, Nat.gcd_comm]
theorem abs_neg {i : Int} (hi : inI i) (h : i < 0) : IntKind.u64.wrap (-(IntKind.u64.wrap i)) = (i.natAbs : Int) := by
  obtain ⟨h1, h2⟩ := hi
  rw [u64_wrap, u64_wrap]
  omega
theorem abs_pos {i : Int} (hi : inI i) (h : 0 ≤ i) : IntKind.u64.wrap i = (i.natAbs : Int) := by
  obtain ⟨h1, h2⟩ := hi
  rw [u64_wrap]
  omega
theorem PEv.vl {P : Program} {n : Nat} {ds : List Deferred} {l : Env} {w : World} {o : Oper} {v v' : Go.Value} (h : PEv P n ds l w o v) (e : v = v') : PEv P n ds l w o v' := e ▸ h
theorem quoU (a b : Nat) (hb : (a : Int) < 18446744073709551616) : Go.Value.int .u64 (IntKind.u64.wrap ((a : Int).tdiv (b : Int))) = vu (a / b) := by
  have e : (a : Int).tdiv (b : Int) = ((a / b : Nat) : Int) := rfl
  have h := Nat.div_le_self a b
  rw [e]
  generalize a / b = q at *
  rw [u64_wrap, Int.emod_eq_of_lt (by omega) (by omega)]; rfl
theorem convU {a : Nat} (h : a ≤ 1000000000) : Go.Value.int .i64 (IntKind.i64.wrap ((a : Nat) : Int)) = vi (a : Int) := by
  rw [wrap_i64_in (by omega) (by omega)]
theorem maxU_no {a b : Nat} (h : ¬ (1000000000 : Int) < (if (a : Int) < (b : Int) then (b : Int) else (a : Int))) : a ≤ 1000000000 ∧ b ≤ 1000000000 := by
  split at h <;> omega
theorem maxU_yes {a b : Nat} (h : (1000000000 : Int) < (if (a : Int) < (b : Int) then (b : Int) else (a : Int))) : ¬ (a ≤ 1000000000 ∧ b ≤ 1000000000) := by
  split at h <;> omega
theorem mkF_no {n d : Int} (h : ¬ (n.natAbs / gcdA n d ≤ 1000000000 ∧ d.natAbs / gcdA n d ≤ 1000000000)) : mkF n d = (rt0, 30) := if_neg (fun e => h (of_decide_eq_true e))
theorem mkF_neg {n d : Int} (h : n.natAbs / gcdA n d ≤ 1000000000 ∧ d.natAbs / gcdA n d ≤ 1000000000) (hn : n < 0) : mkF n d = (⟨-((n.natAbs / gcdA n d : Nat) : Int), ((d.natAbs / gcdA n d : Nat) : Int)⟩, 0) := by
  rw [mkF_fits (decide_eq_true h)]
  unfold redF
  rw [if_pos hn]
theorem mkF_pos {n d : Int} (h : n.natAbs / gcdA n d ≤ 1000000000 ∧ d.natAbs / gcdA n d ≤ 1000000000) (hn : ¬ n < 0) : mkF n d = (⟨((n.natAbs / gcdA n d : Nat) : Int), ((d.natAbs / gcdA n d : Nat) : Int)⟩, 0) := by
  rw [mkF_fits (decide_eq_true h)]
  unfold redF
  rw [if_neg hn]
section
variable {P : Program} {n : Nat} {ds : List Deferred} {l : Env} {w : World} {d : Option Tmp} {ty : TypeId} {ps : String} {af : Array Edge} {g : Option (Nat × Bool)}
theorem PEv.max2U {x y : Operand} {ts : Array TypeId} {i j : Int} (hx : Val l x (.int .u64 i)) (hy : Val l y (.int .u64 j)) :
    PEv P n ds l w ⟨d, .call { callee := .builtin .max, args := #[x, y], argTypes := ts }, ty, ps, af, g⟩ (.int .u64 (if i < j then j else i)) := fun a w' ha _ => by
  rw [BigFrame.execOp_builtin, BigFrame.builtin_max]
  refine run_v ?_
  have e : (#[x, y] : Array Operand).map a.eval = #[.int .u64 i, .int .u64 j] := by simp [ha.ev hx, ha.ev hy]
  rw [e]
  exact run_max_int2 w' _ _ _ _ _ _
end
theorem mulB {x y : Int} (hx : x.natAbs ≤ 1000000000) (hy : y.natAbs ≤ 1000000000) : -1000000000000000000 ≤ x * y ∧ x * y ≤ 1000000000000000000 := by
  have h : (x * y).natAbs ≤ 1000000000 * 1000000000 := by rw [Int.natAbs_mul]; exact Nat.mul_le_mul hx hy
  omega
theorem Rt.ok.d' {a : Rt} (h : a.ok) : a.d.natAbs ≤ 1000000000 := by have h1 := h.pos; have h2 := h.den; omega
theorem Rt.ok.nI {a : Rt} (h : a.ok) : inI a.n := by have h1 := h.num; exact ⟨by omega, by omega⟩
theorem Rt.ok.dI {a : Rt} (h : a.ok) : inI a.d := by have h1 := h.pos; have h2 := h.den; exact ⟨by omega, by omega⟩
def addN (a b : Rt) : Int := a.n * b.d + b.n * a.d
theorem addN_in {a b : Rt} (ha : a.ok) (hb : b.ok) : -2000000000000000000 ≤ addN a b ∧ addN a b ≤ 2000000000000000000 := by
  have h1 := mulB ha.num hb.d'
  have h2 := mulB hb.num ha.d'
  unfold addN
  omega
theorem dd_in {a b : Rt} (ha : a.ok) (hb : b.ok) : 0 < a.d * b.d ∧ a.d * b.d ≤ 1000000000000000000 := ⟨Int.mul_pos ha.pos hb.pos, (mulB ha.d' hb.d').2⟩
theorem addW {a b : Rt} (ha : a.ok) (hb : b.ok) : IntKind.i64.wrap (IntKind.i64.wrap (a.n * b.d) + IntKind.i64.wrap (b.n * a.d)) = addN a b := by
  have h1 := mulB ha.num hb.d'
  have h2 := mulB hb.num ha.d'
  rw [wrap_i64_in (i := a.n * b.d) (by omega) (by omega), wrap_i64_in (i := b.n * a.d) (by omega) (by omega), wrap_i64_in (by omega) (by omega)]; rfl
theorem ddW {a b : Rt} (ha : a.ok) (hb : b.ok) : IntKind.i64.wrap (a.d * b.d) = a.d * b.d := by
  have h := dd_in ha hb
  exact wrap_i64_in (by omega) (by omega)
theorem rt_size (a : Rt) : (#[vi a.n, vi a.d] : Array Go.Value).size = 2 ∧ (#[vi a.n, vi a.d] : Array Go.Value).all (·.oneCell') = true := by simp [Value.oneCell']
theorem negW {a : Nat} (h : a ≤ 1000000000) : IntKind.i64.wrap (-((a : Nat) : Int)) = -((a : Nat) : Int) := wrap_i64_in (by omega) (by omega)
end Go.Wx
namespace Go.Proofs.YtgffaeachbbjoaaDoor
open Go.Wx Go.RowKit
theorem fitD_any (B2 B3 : Nat) (w : World) : RetD Tryd.prog 50 #[.pointer (some ⟨B2, 0, none⟩), .pointer (some ⟨B3, 0, none⟩)] w fun w' => Up w w' := by
  have hW := Up.refl w
  refine CallsD_start (n := 16) (args := [.pointer (some ⟨B2, 0, none⟩), .pointer (some ⟨B3, 0, none⟩)]) Tryd.func50 rfl rfl rfl ?_
  refine DW.seq (m := 9) (DW.region ?_)
  refine DL.rec (fun a => run_recover) rfl rfl rfl ?_
  refine DL.p (PEv.assertNil Tryd.underlying70 Tryd.zeroValue70 (.tmp rfl)) rfl rfl rfl ?_
  refine DL.p (PEv.move (.tmp rfl)) rfl rfl rfl ?_
  refine DL.p (PEv.extract (.tmp rfl) rfl) rfl rfl rfl ?_
  refine DL.p (PEv.extract (.tmp rfl) rfl) rfl rfl rfl ?_
  refine DL.p (PEv.assign (.tmp rfl)) rfl rfl rfl ?_
  refine DL.p (PEv.assign (.tmp rfl)) rfl rfl rfl ?_
  refine DL.nil ?_
  refine KW.then (CW.S (LW.M rfl (LW.M rfl ?_)))
  refine LW.N ?_
  refine LW.N ?_
  refine LW.N ?_
  refine LW.pp (PEv.pick_and (b := false) (.tmp rfl) (fun hp => absurd (show false = true from hp) (by decide))) ?_
  refine LW.T ?_
  refine CW.cond_false (.tmp rfl) ?_
  refine CW.skip ?_
  refine KW.end0 rfl ⟨_, rfl, ?_⟩
  exact hW
theorem abs_any (i : Int) (w : World) (hi : inI i) : Ret Tryd.prog 51 #[vi i] w fun r w' => r = vu i.natAbs ∧ Up w w' := by
  have hW := Up.refl w
  refine Calls_start (n := 10) (m := 9) Tryd.func51 rfl rfl rfl ?_
  refine CW.S (LW.C (LW.S (CW.S (LW.M rfl ?_))))
  refine LW.pp (PEv.lss (.tmp rfl) (.const _)) ?_
  refine LW.T ?_
  refine CW.cond (.tmp rfl) (fun h4 => ?_) (fun h4 => ?_)
  ·first | replace h4 := dT h4 | replace h4 := dF h4 | skip
   have hneg := h4
   refine CW.S (LW.M rfl ?_)
   refine LW.pp (PEv.conv (k' := .u64) (by rw [Tryd.underlying3]; rfl) Tryd.underlying86 (.tmp rfl)) ?_
   refine LW.pp (PEv.neg Tryd.underlying86 (.tmp rfl)) ?_
   refine LW.A rfl (LW.T (CW.ret (KW.then_ret ?_)))
   refine KW.ret1 rfl rfl ⟨_, rfl, ?_⟩
   first | exact ⟨congrArg (Go.Value.int .u64) (abs_neg hi hneg), hW⟩ | exact ⟨congrArg (Go.Value.int .u64) (abs_pos hi (by omega)), hW⟩
  ·first | replace h4 := dT h4 | replace h4 := dF h4 | skip
   have hpos := h4
   refine CW.skip (KW.then (CW.S (LW.M rfl ?_)))
   refine LW.pp (PEv.conv (k' := .u64) (by rw [Tryd.underlying3]; rfl) Tryd.underlying86 (.tmp rfl)) ?_
   refine LW.A rfl (LW.T (CW.ret ?_))
   refine KW.ret1 rfl rfl ⟨_, rfl, ?_⟩
   first | exact ⟨congrArg (Go.Value.int .u64) (abs_neg hi hneg), hW⟩ | exact ⟨congrArg (Go.Value.int .u64) (abs_pos hi (by omega)), hW⟩
theorem gcd_any (a b : Nat) (w : World) : Ret Tryd.prog 52 #[vu a, vu b] w fun r w' => r = vu (Nat.gcd a b) ∧ Up w w' := by
  have hW := Up.refl w
  obtain ⟨w0, rfl⟩ : ∃ w0, w0 = w := ⟨_, rfl⟩
  refine Calls_start (n := 12) (m := 9) Tryd.func52 rfl rfl rfl ?_
  refine CW.S (LW.C (LW.S (CW.block ?_)))
  refine CW.loopB (σ := Nat × Nat) (fun s w => (Nat.gcd s.1 s.2 = Nat.gcd a b) ∧ (Up w0 w)) (fun s => [(0, .eq (vu s.1)), (1, .eq (vu s.2))]) ([(4, .eq _)]) (fun s => s.2) (a, b) ?_ ⟨rfl, rfl, rfl, trivial⟩ ?_
  ·exact ⟨rfl, hW⟩
  ·rintro ⟨x, y⟩ w1 ⟨hg, hW⟩
   dsimp only at hg
   change CW _ _ _ _ _ _ _ ([(0, .eq (vu x)), (1, .eq (vu y))] ++ _) _
   refine CW.seq (CW.S (LW.M rfl ?_))
   refine LW.pp (PEv.neq (.tmp rfl) (.const _)) ?_
   refine LW.T ?_
   refine CW.cond (.tmp rfl) (fun h6 => ?_) (fun h6 => ?_)
   ·first | replace h6 := dT h6 | replace h6 := dF h6 | skip
    have hy0 : y ≠ 0 := by simpa using h6
    refine CW.skip (KW.then (CW.block ?_))
    refine CW.explode (by kernel_rfl) rfl ?_
    obtain ⟨w2, hdr⟩ : ∃ W, W = w1.drew := ⟨_, rfl⟩
    have uw2 : Up w1 w2 := by rw [hdr]; exact Up.drew _
    rw [← hdr]
    clear hdr
    have zw2 := uw2.size
    replace hW := hW.up uw2
    refine AW.step (rs := [0, 1, 2]) (by kernel_rfl) (by decide) ?_
    intro i hi
    simp only [List.mem_cons, List.mem_nil_iff, or_false] at hi
    rcases hi with rfl | rfl | rfl
    ·skip
     refine ⟨_, rfl, rfl, ?_⟩
     refine OW.p (PEv.move (.tmp rfl)) rfl rfl ?_
     refine AW.step (rs := [1, 2]) (by kernel_rfl) (by decide) ?_
     intro i hi
     simp only [List.mem_cons, List.mem_nil_iff, or_false] at hi
     rcases hi with rfl | rfl
     ·skip
      refine ⟨_, rfl, rfl, ?_⟩
      refine OW.p (PEv.move (.tmp rfl)) rfl rfl ?_
      refine AW.step (rs := [2, 4]) (by kernel_rfl) (by decide) ?_
      intro i hi
      simp only [List.mem_cons, List.mem_nil_iff, or_false] at hi
      rcases hi with rfl | rfl
      ·skip
       refine ⟨_, rfl, rfl, ?_⟩
       refine OW.p (PEv.move (.tmp rfl)) rfl rfl ?_
       refine AW.step (rs := [3, 4]) (by kernel_rfl) (by decide) ?_
       intro i hi
       simp only [List.mem_cons, List.mem_nil_iff, or_false] at hi
       rcases hi with rfl | rfl
       ·skip
        refine ⟨_, rfl, rfl, ?_⟩
        refine OW.p (PEv.vl (v' := vu (x % y)) (PEv.rem (.tmp rfl) (.tmp rfl) (by omega)) (congrArg (Go.Value.int .u64) (by rfl))) rfl rfl ?_
        refine AW.step (rs := [4]) (by kernel_rfl) (by decide) ?_
        intro i hi
        obtain rfl := List.mem_singleton.1 hi
        refine ⟨_, rfl, rfl, ?_⟩
        refine OW.p (PEv.assign (.tmp rfl)) rfl rfl ?_
        refine AW.step (rs := [5]) (by kernel_rfl) (by decide) ?_
        intro i hi
        obtain rfl := List.mem_singleton.1 hi
        refine ⟨_, rfl, rfl, ?_⟩
        refine OW.p (PEv.assign (.tmp rfl)) rfl rfl ?_
        refine AW.done (by kernel_rfl) ?_
        refine KW.inBlock (KW.round ?_)
        exact ⟨(y, x % y), ⟨by rw [← hg]; exact (gcd_step x y).symm, hW⟩, ⟨rfl, rfl, rfl, trivial⟩, by show x % y < y; exact Nat.mod_lt _ (by omega)⟩
       ·skip
        refine ⟨_, rfl, rfl, ?_⟩
        refine OW.p (PEv.assign (.tmp rfl)) rfl rfl ?_
        refine AW.step (rs := [3]) (by kernel_rfl) (by decide) ?_
        intro i hi
        obtain rfl := List.mem_singleton.1 hi
        refine ⟨_, rfl, rfl, ?_⟩
        refine OW.p (PEv.vl (v' := vu (x % y)) (PEv.rem (.tmp rfl) (.tmp rfl) (by omega)) (congrArg (Go.Value.int .u64) (by rfl))) rfl rfl ?_
        refine AW.step (rs := [5]) (by kernel_rfl) (by decide) ?_
        intro i hi
        obtain rfl := List.mem_singleton.1 hi
        refine ⟨_, rfl, rfl, ?_⟩
        refine OW.p (PEv.assign (.tmp rfl)) rfl rfl ?_
        refine AW.done (by kernel_rfl) ?_
        refine KW.inBlock (KW.round ?_)
        exact ⟨(y, x % y), ⟨by rw [← hg]; exact (gcd_step x y).symm, hW⟩, ⟨rfl, rfl, rfl, trivial⟩, by show x % y < y; exact Nat.mod_lt _ (by omega)⟩
      ·skip
       refine ⟨_, rfl, rfl, ?_⟩
       refine OW.p (PEv.assign (.tmp rfl)) rfl rfl ?_
       refine AW.step (rs := [2]) (by kernel_rfl) (by decide) ?_
       intro i hi
       obtain rfl := List.mem_singleton.1 hi
       refine ⟨_, rfl, rfl, ?_⟩
       refine OW.p (PEv.move (.tmp rfl)) rfl rfl ?_
       refine AW.step (rs := [3]) (by kernel_rfl) (by decide) ?_
       intro i hi
       obtain rfl := List.mem_singleton.1 hi
       refine ⟨_, rfl, rfl, ?_⟩
       refine OW.p (PEv.vl (v' := vu (x % y)) (PEv.rem (.tmp rfl) (.tmp rfl) (by omega)) (congrArg (Go.Value.int .u64) (by rfl))) rfl rfl ?_
       refine AW.step (rs := [5]) (by kernel_rfl) (by decide) ?_
       intro i hi
       obtain rfl := List.mem_singleton.1 hi
       refine ⟨_, rfl, rfl, ?_⟩
       refine OW.p (PEv.assign (.tmp rfl)) rfl rfl ?_
       refine AW.done (by kernel_rfl) ?_
       refine KW.inBlock (KW.round ?_)
       exact ⟨(y, x % y), ⟨by rw [← hg]; exact (gcd_step x y).symm, hW⟩, ⟨rfl, rfl, rfl, trivial⟩, by show x % y < y; exact Nat.mod_lt _ (by omega)⟩
     ·skip
      refine ⟨_, rfl, rfl, ?_⟩
      refine OW.p (PEv.move (.tmp rfl)) rfl rfl ?_
      refine AW.step (rs := [1]) (by kernel_rfl) (by decide) ?_
      intro i hi
      obtain rfl := List.mem_singleton.1 hi
      refine ⟨_, rfl, rfl, ?_⟩
      refine OW.p (PEv.move (.tmp rfl)) rfl rfl ?_
      refine AW.step (rs := [3, 4]) (by kernel_rfl) (by decide) ?_
      intro i hi
      simp only [List.mem_cons, List.mem_nil_iff, or_false] at hi
      rcases hi with rfl | rfl
      ·skip
       refine ⟨_, rfl, rfl, ?_⟩
       refine OW.p (PEv.vl (v' := vu (x % y)) (PEv.rem (.tmp rfl) (.tmp rfl) (by omega)) (congrArg (Go.Value.int .u64) (by rfl))) rfl rfl ?_
       refine AW.step (rs := [4]) (by kernel_rfl) (by decide) ?_
       intro i hi
       obtain rfl := List.mem_singleton.1 hi
       refine ⟨_, rfl, rfl, ?_⟩
       refine OW.p (PEv.assign (.tmp rfl)) rfl rfl ?_
       refine AW.step (rs := [5]) (by kernel_rfl) (by decide) ?_
       intro i hi
       obtain rfl := List.mem_singleton.1 hi
       refine ⟨_, rfl, rfl, ?_⟩
       refine OW.p (PEv.assign (.tmp rfl)) rfl rfl ?_
       refine AW.done (by kernel_rfl) ?_
       refine KW.inBlock (KW.round ?_)
       exact ⟨(y, x % y), ⟨by rw [← hg]; exact (gcd_step x y).symm, hW⟩, ⟨rfl, rfl, rfl, trivial⟩, by show x % y < y; exact Nat.mod_lt _ (by omega)⟩
      ·skip
       refine ⟨_, rfl, rfl, ?_⟩
       refine OW.p (PEv.assign (.tmp rfl)) rfl rfl ?_
       refine AW.step (rs := [3]) (by kernel_rfl) (by decide) ?_
       intro i hi
       obtain rfl := List.mem_singleton.1 hi
       refine ⟨_, rfl, rfl, ?_⟩
       refine OW.p (PEv.vl (v' := vu (x % y)) (PEv.rem (.tmp rfl) (.tmp rfl) (by omega)) (congrArg (Go.Value.int .u64) (by rfl))) rfl rfl ?_
       refine AW.step (rs := [5]) (by kernel_rfl) (by decide) ?_
       intro i hi
       obtain rfl := List.mem_singleton.1 hi
       refine ⟨_, rfl, rfl, ?_⟩
       refine OW.p (PEv.assign (.tmp rfl)) rfl rfl ?_
       refine AW.done (by kernel_rfl) ?_
       refine KW.inBlock (KW.round ?_)
       exact ⟨(y, x % y), ⟨by rw [← hg]; exact (gcd_step x y).symm, hW⟩, ⟨rfl, rfl, rfl, trivial⟩, by show x % y < y; exact Nat.mod_lt _ (by omega)⟩
    ·skip
     refine ⟨_, rfl, rfl, ?_⟩
     refine OW.p (PEv.move (.tmp rfl)) rfl rfl ?_
     refine AW.step (rs := [0, 2]) (by kernel_rfl) (by decide) ?_
     intro i hi
     simp only [List.mem_cons, List.mem_nil_iff, or_false] at hi
     rcases hi with rfl | rfl
     ·skip
      refine ⟨_, rfl, rfl, ?_⟩
      refine OW.p (PEv.move (.tmp rfl)) rfl rfl ?_
      refine AW.step (rs := [2, 4]) (by kernel_rfl) (by decide) ?_
      intro i hi
      simp only [List.mem_cons, List.mem_nil_iff, or_false] at hi
      rcases hi with rfl | rfl
      ·skip
       refine ⟨_, rfl, rfl, ?_⟩
       refine OW.p (PEv.move (.tmp rfl)) rfl rfl ?_
       refine AW.step (rs := [3, 4]) (by kernel_rfl) (by decide) ?_
       intro i hi
       simp only [List.mem_cons, List.mem_nil_iff, or_false] at hi
       rcases hi with rfl | rfl
       ·skip
        refine ⟨_, rfl, rfl, ?_⟩
        refine OW.p (PEv.vl (v' := vu (x % y)) (PEv.rem (.tmp rfl) (.tmp rfl) (by omega)) (congrArg (Go.Value.int .u64) (by rfl))) rfl rfl ?_
        refine AW.step (rs := [4]) (by kernel_rfl) (by decide) ?_
        intro i hi
        obtain rfl := List.mem_singleton.1 hi
        refine ⟨_, rfl, rfl, ?_⟩
        refine OW.p (PEv.assign (.tmp rfl)) rfl rfl ?_
        refine AW.step (rs := [5]) (by kernel_rfl) (by decide) ?_
        intro i hi
        obtain rfl := List.mem_singleton.1 hi
        refine ⟨_, rfl, rfl, ?_⟩
        refine OW.p (PEv.assign (.tmp rfl)) rfl rfl ?_
        refine AW.done (by kernel_rfl) ?_
        refine KW.inBlock (KW.round ?_)
        exact ⟨(y, x % y), ⟨by rw [← hg]; exact (gcd_step x y).symm, hW⟩, ⟨rfl, rfl, rfl, trivial⟩, by show x % y < y; exact Nat.mod_lt _ (by omega)⟩
       ·skip
        refine ⟨_, rfl, rfl, ?_⟩
        refine OW.p (PEv.assign (.tmp rfl)) rfl rfl ?_
        refine AW.step (rs := [3]) (by kernel_rfl) (by decide) ?_
        intro i hi
        obtain rfl := List.mem_singleton.1 hi
        refine ⟨_, rfl, rfl, ?_⟩
        refine OW.p (PEv.vl (v' := vu (x % y)) (PEv.rem (.tmp rfl) (.tmp rfl) (by omega)) (congrArg (Go.Value.int .u64) (by rfl))) rfl rfl ?_
        refine AW.step (rs := [5]) (by kernel_rfl) (by decide) ?_
        intro i hi
        obtain rfl := List.mem_singleton.1 hi
        refine ⟨_, rfl, rfl, ?_⟩
        refine OW.p (PEv.assign (.tmp rfl)) rfl rfl ?_
        refine AW.done (by kernel_rfl) ?_
        refine KW.inBlock (KW.round ?_)
        exact ⟨(y, x % y), ⟨by rw [← hg]; exact (gcd_step x y).symm, hW⟩, ⟨rfl, rfl, rfl, trivial⟩, by show x % y < y; exact Nat.mod_lt _ (by omega)⟩
      ·skip
       refine ⟨_, rfl, rfl, ?_⟩
       refine OW.p (PEv.assign (.tmp rfl)) rfl rfl ?_
       refine AW.step (rs := [2]) (by kernel_rfl) (by decide) ?_
       intro i hi
       obtain rfl := List.mem_singleton.1 hi
       refine ⟨_, rfl, rfl, ?_⟩
       refine OW.p (PEv.move (.tmp rfl)) rfl rfl ?_
       refine AW.step (rs := [3]) (by kernel_rfl) (by decide) ?_
       intro i hi
       obtain rfl := List.mem_singleton.1 hi
       refine ⟨_, rfl, rfl, ?_⟩
       refine OW.p (PEv.vl (v' := vu (x % y)) (PEv.rem (.tmp rfl) (.tmp rfl) (by omega)) (congrArg (Go.Value.int .u64) (by rfl))) rfl rfl ?_
       refine AW.step (rs := [5]) (by kernel_rfl) (by decide) ?_
       intro i hi
       obtain rfl := List.mem_singleton.1 hi
       refine ⟨_, rfl, rfl, ?_⟩
       refine OW.p (PEv.assign (.tmp rfl)) rfl rfl ?_
       refine AW.done (by kernel_rfl) ?_
       refine KW.inBlock (KW.round ?_)
       exact ⟨(y, x % y), ⟨by rw [← hg]; exact (gcd_step x y).symm, hW⟩, ⟨rfl, rfl, rfl, trivial⟩, by show x % y < y; exact Nat.mod_lt _ (by omega)⟩
     ·skip
      refine ⟨_, rfl, rfl, ?_⟩
      refine OW.p (PEv.move (.tmp rfl)) rfl rfl ?_
      refine AW.step (rs := [0, 3]) (by kernel_rfl) (by decide) ?_
      intro i hi
      simp only [List.mem_cons, List.mem_nil_iff, or_false] at hi
      rcases hi with rfl | rfl
      ·skip
       refine ⟨_, rfl, rfl, ?_⟩
       refine OW.p (PEv.move (.tmp rfl)) rfl rfl ?_
       refine AW.step (rs := [3, 4]) (by kernel_rfl) (by decide) ?_
       intro i hi
       simp only [List.mem_cons, List.mem_nil_iff, or_false] at hi
       rcases hi with rfl | rfl
       ·skip
        refine ⟨_, rfl, rfl, ?_⟩
        refine OW.p (PEv.vl (v' := vu (x % y)) (PEv.rem (.tmp rfl) (.tmp rfl) (by omega)) (congrArg (Go.Value.int .u64) (by rfl))) rfl rfl ?_
        refine AW.step (rs := [4]) (by kernel_rfl) (by decide) ?_
        intro i hi
        obtain rfl := List.mem_singleton.1 hi
        refine ⟨_, rfl, rfl, ?_⟩
        refine OW.p (PEv.assign (.tmp rfl)) rfl rfl ?_
        refine AW.step (rs := [5]) (by kernel_rfl) (by decide) ?_
        intro i hi
        obtain rfl := List.mem_singleton.1 hi
        refine ⟨_, rfl, rfl, ?_⟩
        refine OW.p (PEv.assign (.tmp rfl)) rfl rfl ?_
        refine AW.done (by kernel_rfl) ?_
        refine KW.inBlock (KW.round ?_)
        exact ⟨(y, x % y), ⟨by rw [← hg]; exact (gcd_step x y).symm, hW⟩, ⟨rfl, rfl, rfl, trivial⟩, by show x % y < y; exact Nat.mod_lt _ (by omega)⟩
       ·skip
        refine ⟨_, rfl, rfl, ?_⟩
        refine OW.p (PEv.assign (.tmp rfl)) rfl rfl ?_
        refine AW.step (rs := [3]) (by kernel_rfl) (by decide) ?_
        intro i hi
        obtain rfl := List.mem_singleton.1 hi
        refine ⟨_, rfl, rfl, ?_⟩
        refine OW.p (PEv.vl (v' := vu (x % y)) (PEv.rem (.tmp rfl) (.tmp rfl) (by omega)) (congrArg (Go.Value.int .u64) (by rfl))) rfl rfl ?_
        refine AW.step (rs := [5]) (by kernel_rfl) (by decide) ?_
        intro i hi
        obtain rfl := List.mem_singleton.1 hi
        refine ⟨_, rfl, rfl, ?_⟩
        refine OW.p (PEv.assign (.tmp rfl)) rfl rfl ?_
        refine AW.done (by kernel_rfl) ?_
        refine KW.inBlock (KW.round ?_)
        exact ⟨(y, x % y), ⟨by rw [← hg]; exact (gcd_step x y).symm, hW⟩, ⟨rfl, rfl, rfl, trivial⟩, by show x % y < y; exact Nat.mod_lt _ (by omega)⟩
      ·skip
       refine ⟨_, rfl, rfl, ?_⟩
       refine OW.p (PEv.vl (v' := vu (x % y)) (PEv.rem (.tmp rfl) (.tmp rfl) (by omega)) (congrArg (Go.Value.int .u64) (by rfl))) rfl rfl ?_
       refine AW.step (rs := [0]) (by kernel_rfl) (by decide) ?_
       intro i hi
       obtain rfl := List.mem_singleton.1 hi
       refine ⟨_, rfl, rfl, ?_⟩
       refine OW.p (PEv.move (.tmp rfl)) rfl rfl ?_
       refine AW.step (rs := [4]) (by kernel_rfl) (by decide) ?_
       intro i hi
       obtain rfl := List.mem_singleton.1 hi
       refine ⟨_, rfl, rfl, ?_⟩
       refine OW.p (PEv.assign (.tmp rfl)) rfl rfl ?_
       refine AW.step (rs := [5]) (by kernel_rfl) (by decide) ?_
       intro i hi
       obtain rfl := List.mem_singleton.1 hi
       refine ⟨_, rfl, rfl, ?_⟩
       refine OW.p (PEv.assign (.tmp rfl)) rfl rfl ?_
       refine AW.done (by kernel_rfl) ?_
       refine KW.inBlock (KW.round ?_)
       exact ⟨(y, x % y), ⟨by rw [← hg]; exact (gcd_step x y).symm, hW⟩, ⟨rfl, rfl, rfl, trivial⟩, by show x % y < y; exact Nat.mod_lt _ (by omega)⟩
    ·skip
     refine ⟨_, rfl, rfl, ?_⟩
     refine OW.p (PEv.move (.tmp rfl)) rfl rfl ?_
     refine AW.step (rs := [0, 1]) (by kernel_rfl) (by decide) ?_
     intro i hi
     simp only [List.mem_cons, List.mem_nil_iff, or_false] at hi
     rcases hi with rfl | rfl
     ·skip
      refine ⟨_, rfl, rfl, ?_⟩
      refine OW.p (PEv.move (.tmp rfl)) rfl rfl ?_
      refine AW.step (rs := [1]) (by kernel_rfl) (by decide) ?_
      intro i hi
      obtain rfl := List.mem_singleton.1 hi
      refine ⟨_, rfl, rfl, ?_⟩
      refine OW.p (PEv.move (.tmp rfl)) rfl rfl ?_
      refine AW.step (rs := [3, 4]) (by kernel_rfl) (by decide) ?_
      intro i hi
      simp only [List.mem_cons, List.mem_nil_iff, or_false] at hi
      rcases hi with rfl | rfl
      ·skip
       refine ⟨_, rfl, rfl, ?_⟩
       refine OW.p (PEv.vl (v' := vu (x % y)) (PEv.rem (.tmp rfl) (.tmp rfl) (by omega)) (congrArg (Go.Value.int .u64) (by rfl))) rfl rfl ?_
       refine AW.step (rs := [4]) (by kernel_rfl) (by decide) ?_
       intro i hi
       obtain rfl := List.mem_singleton.1 hi
       refine ⟨_, rfl, rfl, ?_⟩
       refine OW.p (PEv.assign (.tmp rfl)) rfl rfl ?_
       refine AW.step (rs := [5]) (by kernel_rfl) (by decide) ?_
       intro i hi
       obtain rfl := List.mem_singleton.1 hi
       refine ⟨_, rfl, rfl, ?_⟩
       refine OW.p (PEv.assign (.tmp rfl)) rfl rfl ?_
       refine AW.done (by kernel_rfl) ?_
       refine KW.inBlock (KW.round ?_)
       exact ⟨(y, x % y), ⟨by rw [← hg]; exact (gcd_step x y).symm, hW⟩, ⟨rfl, rfl, rfl, trivial⟩, by show x % y < y; exact Nat.mod_lt _ (by omega)⟩
      ·skip
       refine ⟨_, rfl, rfl, ?_⟩
       refine OW.p (PEv.assign (.tmp rfl)) rfl rfl ?_
       refine AW.step (rs := [3]) (by kernel_rfl) (by decide) ?_
       intro i hi
       obtain rfl := List.mem_singleton.1 hi
       refine ⟨_, rfl, rfl, ?_⟩
       refine OW.p (PEv.vl (v' := vu (x % y)) (PEv.rem (.tmp rfl) (.tmp rfl) (by omega)) (congrArg (Go.Value.int .u64) (by rfl))) rfl rfl ?_
       refine AW.step (rs := [5]) (by kernel_rfl) (by decide) ?_
       intro i hi
       obtain rfl := List.mem_singleton.1 hi
       refine ⟨_, rfl, rfl, ?_⟩
       refine OW.p (PEv.assign (.tmp rfl)) rfl rfl ?_
       refine AW.done (by kernel_rfl) ?_
       refine KW.inBlock (KW.round ?_)
       exact ⟨(y, x % y), ⟨by rw [← hg]; exact (gcd_step x y).symm, hW⟩, ⟨rfl, rfl, rfl, trivial⟩, by show x % y < y; exact Nat.mod_lt _ (by omega)⟩
     ·skip
      refine ⟨_, rfl, rfl, ?_⟩
      refine OW.p (PEv.move (.tmp rfl)) rfl rfl ?_
      refine AW.step (rs := [0, 3]) (by kernel_rfl) (by decide) ?_
      intro i hi
      simp only [List.mem_cons, List.mem_nil_iff, or_false] at hi
      rcases hi with rfl | rfl
      ·skip
       refine ⟨_, rfl, rfl, ?_⟩
       refine OW.p (PEv.move (.tmp rfl)) rfl rfl ?_
       refine AW.step (rs := [3, 4]) (by kernel_rfl) (by decide) ?_
       intro i hi
       simp only [List.mem_cons, List.mem_nil_iff, or_false] at hi
       rcases hi with rfl | rfl
       ·skip
        refine ⟨_, rfl, rfl, ?_⟩
        refine OW.p (PEv.vl (v' := vu (x % y)) (PEv.rem (.tmp rfl) (.tmp rfl) (by omega)) (congrArg (Go.Value.int .u64) (by rfl))) rfl rfl ?_
        refine AW.step (rs := [4]) (by kernel_rfl) (by decide) ?_
        intro i hi
        obtain rfl := List.mem_singleton.1 hi
        refine ⟨_, rfl, rfl, ?_⟩
        refine OW.p (PEv.assign (.tmp rfl)) rfl rfl ?_
        refine AW.step (rs := [5]) (by kernel_rfl) (by decide) ?_
        intro i hi
        obtain rfl := List.mem_singleton.1 hi
        refine ⟨_, rfl, rfl, ?_⟩
        refine OW.p (PEv.assign (.tmp rfl)) rfl rfl ?_
        refine AW.done (by kernel_rfl) ?_
        refine KW.inBlock (KW.round ?_)
        exact ⟨(y, x % y), ⟨by rw [← hg]; exact (gcd_step x y).symm, hW⟩, ⟨rfl, rfl, rfl, trivial⟩, by show x % y < y; exact Nat.mod_lt _ (by omega)⟩
       ·skip
        refine ⟨_, rfl, rfl, ?_⟩
        refine OW.p (PEv.assign (.tmp rfl)) rfl rfl ?_
        refine AW.step (rs := [3]) (by kernel_rfl) (by decide) ?_
        intro i hi
        obtain rfl := List.mem_singleton.1 hi
        refine ⟨_, rfl, rfl, ?_⟩
        refine OW.p (PEv.vl (v' := vu (x % y)) (PEv.rem (.tmp rfl) (.tmp rfl) (by omega)) (congrArg (Go.Value.int .u64) (by rfl))) rfl rfl ?_
        refine AW.step (rs := [5]) (by kernel_rfl) (by decide) ?_
        intro i hi
        obtain rfl := List.mem_singleton.1 hi
        refine ⟨_, rfl, rfl, ?_⟩
        refine OW.p (PEv.assign (.tmp rfl)) rfl rfl ?_
        refine AW.done (by kernel_rfl) ?_
        refine KW.inBlock (KW.round ?_)
        exact ⟨(y, x % y), ⟨by rw [← hg]; exact (gcd_step x y).symm, hW⟩, ⟨rfl, rfl, rfl, trivial⟩, by show x % y < y; exact Nat.mod_lt _ (by omega)⟩
      ·skip
       refine ⟨_, rfl, rfl, ?_⟩
       refine OW.p (PEv.vl (v' := vu (x % y)) (PEv.rem (.tmp rfl) (.tmp rfl) (by omega)) (congrArg (Go.Value.int .u64) (by rfl))) rfl rfl ?_
       refine AW.step (rs := [0]) (by kernel_rfl) (by decide) ?_
       intro i hi
       obtain rfl := List.mem_singleton.1 hi
       refine ⟨_, rfl, rfl, ?_⟩
       refine OW.p (PEv.move (.tmp rfl)) rfl rfl ?_
       refine AW.step (rs := [4]) (by kernel_rfl) (by decide) ?_
       intro i hi
       obtain rfl := List.mem_singleton.1 hi
       refine ⟨_, rfl, rfl, ?_⟩
       refine OW.p (PEv.assign (.tmp rfl)) rfl rfl ?_
       refine AW.step (rs := [5]) (by kernel_rfl) (by decide) ?_
       intro i hi
       obtain rfl := List.mem_singleton.1 hi
       refine ⟨_, rfl, rfl, ?_⟩
       refine OW.p (PEv.assign (.tmp rfl)) rfl rfl ?_
       refine AW.done (by kernel_rfl) ?_
       refine KW.inBlock (KW.round ?_)
       exact ⟨(y, x % y), ⟨by rw [← hg]; exact (gcd_step x y).symm, hW⟩, ⟨rfl, rfl, rfl, trivial⟩, by show x % y < y; exact Nat.mod_lt _ (by omega)⟩
   ·first | replace h6 := dT h6 | replace h6 := dF h6 | skip
    have hy0 : y = 0 := by simpa using h6
    refine CW.exit (KW.then_exit (KW.then_exit (KW.block_hit (KW.then (CW.S (LW.M rfl (LW.A rfl (LW.T (CW.ret ?_)))))))))
    refine KW.ret1 rfl rfl ⟨_, rfl, ?_⟩
    exact ⟨by rw [← hg, hy0, Nat.gcd_zero_right], hW⟩
end Go.Proofs.YtgffaeachbbjoaaDoor
end
section
namespace Go.Wx
open Go.RowKit
section
variable (R : Option Nat) (m : Nat) (P : Program) (n : Nat) (ds : List Deferred)
def AWU (ops : Array Oper) (Q : Exit → Go.Act → World → Prop) (s : Nat) (l : Env) (w : World) : Prop := ∀ (fuel : Nat) (listed : Array Bool) (a : Go.Act), ops.size - s ≤ fuel → UpTo ops s listed → Ag n ds l a w → wpAnyIn (FR R) m P .any ops Q fuel listed a w
end
def farOK (ops : Array Oper) (k : Nat) : Bool :=
  (List.range ops.size).all fun i => !Nat.ble (k + 1) i || (match ops[i]? with | none => false | some o => o.after.any fun e => Region.binds .any e && Nat.ble k e.on)
def dstOK (n : Nat) (ops : Array Oper) (s k : Nat) : Bool := (List.range k).all fun i => !Nat.ble s i || (match ops[i]? with
  | none => false
  | some o => match o.dst with
    | none => false
    | some d => Nat.ble (d + 1) n && (List.range k).all fun j => !Nat.ble s j || (Nat.beq i j || (match ops[j]? with | none => true | some p => !(p.dst == some d))))
theorem lk_mem : ∀ {l : Env} {i : Nat} {ph : Ph}, lk l i = some ph → (i, ph) ∈ l
  | [], _, _, h => by cases h
  | (j, q) :: l, i, ph, h => by
    by_cases e : i = j
    · subst e; rw [lk_cons_eq] at h; cases h; exact List.mem_cons_self
    · rw [lk_cons_ne e] at h; exact List.mem_cons_of_mem _ (lk_mem h)
section
variable {R : Option Nat} {m : Nat} {P : Program} {n : Nat} {ds : List Deferred} {Q : Exit → Go.Act → World → Prop} {l : Env} {w : World} {ops : Array Oper}
theorem farOK_at {k : Nat} (h : farOK ops k = true) {i : Nat} {o : Oper} (ho : ops[i]? = some o) (hk : k < i) : ∃ e ∈ o.after, Region.binds .any e = true ∧ k ≤ e.on := by
  have hi : i < ops.size := (Array.getElem?_eq_some_iff.1 ho).1
  have h1 := List.all_eq_true.1 h i (List.mem_range.2 hi)
  have hb : Nat.ble (k + 1) i = true := Nat.ble_eq_true_of_le hk
  simp only [ho, hb, Bool.not_true, Bool.false_or] at h1
  obtain ⟨e, he, hh⟩ := Array.any_eq_true.1 h1
  simp only [Bool.and_eq_true] at hh
  exact ⟨_, Array.getElem_mem he, hh.1, Nat.le_of_ble_eq_true hh.2⟩
theorem CW.draws_up {id : Nat} {opsL : List Oper} (hm : P.follows .mixedOrders = true) (hl : noPred l = true) (h : AWU R m P n ds opsL.toArray Q 0 l w.drew) : CW R m P n ds (.region id opsL.toArray true) Q l w := fun a ha =>
  wpIn_region_any hm (h _ _ a (by simp) ⟨by simp, fun j hj => by
    rw [Array.getD_eq_getD_getElem?, Array.getElem?_replicate]
    split <;> rfl⟩ (ha.world hl _))
def allL (p : Nat → Oper → Prop) : Nat → List Oper → Prop
  | _, [] => True
  | i, o :: r => p i o ∧ allL p (i + 1) r
theorem allL.nil {p : Nat → Oper → Prop} {i : Nat} : allL p i [] := trivial
theorem allL.cons {p : Nat → Oper → Prop} {i : Nat} {o : Oper} {r : List Oper} (h : p i o) (k : allL p (i + 1) r) : allL p i (o :: r) := ⟨h, k⟩
theorem allL.at {p : Nat → Oper → Prop} : ∀ {r : List Oper} {i j : Nat} {o : Oper}, allL p i r → r[j]? = some o → p (i + j) o
  | [], _, _, _, _, h => by cases h
  | x :: r, i, 0, o, hp, h => by
    rw [List.getElem?_cons_zero] at h
    cases h; exact hp.1
  | x :: r, i, j + 1, o, hp, h => by
    rw [List.getElem?_cons_succ] at h
    have := allL.at hp.2 h
    rwa [show i + 1 + j = i + (j + 1) by omega] at this
def freeOK (base : Env) (r : List Oper) : Bool := r.all fun o => match o.dst with | none => true | some d => (lk base d).isNone
theorem freeOK_at {base : Env} {r : List Oper} (h : freeOK base r = true) {i : Nat} {ph : Ph} (hi : lk base i = some ph) {o : Oper} (ho : o ∈ r) : o.dst ≠ some i := by
  intro e
  have := List.all_eq_true.1 h o ho
  simp [e, hi] at this
end
end Go.Wx
end
section
namespace Go.Wx
open Go.RowKit Go.MapKept
structure Cel (w w' : World) : Prop where
  size : w.heap.size ≤ w'.heap.size
  cell : ∀ ad v, w.cell? ad = some v → w'.cell? ad = some v
  blk : ∀ (b : Nat) (cs : Array Value) (T : TypeId) (x : Nat × Nat), w.heap[b]? = some (Obj.cells cs T x) → w'.heap[b]? = some (Obj.cells cs T x)
section
variable (R : Option Nat) (m : Nat) (P : Program) (n : Nat) (ds : List Deferred)
def OpG (o : Oper) (a : Go.Act) (w : World) (Post : Value → World → Prop) : Prop := OpY P o a w Post ∨ (∃ w', (execOp a.eval o).run P w = .ok .skip w' ∧ Post undef w')
def TG (ops : Array Oper) (env : Env) (f : Nat → Value) (w : World) (o : Oper) (Post : Value → World → Prop) : Prop := ∀ a, Ag n ds env a w → (∀ t, a.tmps.getD t undef = f t) → if Region.wanted o (yielded ops a.tmps) = true then OpG P o a w Post else Post undef w
def AWF (ops : Array Oper) (Q : Exit → Go.Act → World → Prop) (s : Nat) (l : Env) (f : Nat → Value) (w : World) : Prop := ∀ (fuel : Nat) (listed : Array Bool) (a : Go.Act), ops.size - s ≤ fuel → UpTo ops s listed → Ag n ds l a w → (∀ t, a.tmps.getD t undef = f t) → wpAnyIn (FR R) m P .any ops Q fuel listed a w
end
def dstOK' (n : Nat) (ops : Array Oper) (s k : Nat) : Bool := (List.range k).all fun i => !Nat.ble s i || (match ops[i]? with
  | none => false
  | some o => match o.dst with
    | none => true
    | some d => Nat.ble (d + 1) n && (List.range k).all fun j => !Nat.ble s j || (Nat.beq i j || (match ops[j]? with | none => true | some p => !(p.dst == some d))))
def knp (ops : Array Oper) (ph : Nat → Ph) (s : Nat) (o : Oper) : Env := o.after.toList.filterMap fun e => if (Region.binds .any e && Nat.ble s e.on) = true then ((ops[e.on]?).bind (·.dst)).map fun d => (d, ph e.on) else none
def allP (ops : Array Oper) (ph : Nat → Ph) (s k : Nat) : Env := (List.range k).filterMap fun j => if Nat.ble s j = true then ((ops[j]?).bind (·.dst)).map fun d => (d, ph j) else none
def DnL (ops : Array Oper) (L : Nat → Bool) : Prop := ∀ (i : Nat) (o : Oper), ops[i]? = some o → L i = true → ∀ e ∈ o.after, Region.binds .any e = true → L e.on = true
def setL (L : Nat → Bool) (i : Nat) : Nat → Bool := fun j => if j = i then true else L j
def setS (f : Nat → Value) (d : Option Nat) (v : Value) : Nat → Value := fun t => if d = some t then v else f t
section
variable {R : Option Nat} {m : Nat} {P : Program} {n : Nat} {ds : List Deferred} {Q : Exit → Go.Act → World → Prop} {l : Env} {w : World} {ops : Array Oper}
theorem dstOK'_at {s k : Nat} (h : dstOK' n ops s k = true) {i : Nat} {o : Oper} {d : Nat} (hs : s ≤ i) (hk : i < k) (ho : ops[i]? = some o) (hd : o.dst = some d) : d < n ∧ ∀ (j : Nat) (p : Oper), s ≤ j → j < k → j ≠ i → ops[j]? = some p → p.dst ≠ some d := by
  have h1 := List.all_eq_true.1 h i (List.mem_range.2 hk)
  have hb : Nat.ble s i = true := Nat.ble_eq_true_of_le hs
  simp only [hb, Bool.not_true, Bool.false_or, ho, hd] at h1
  simp only [Bool.and_eq_true] at h1
  refine ⟨Nat.le_of_ble_eq_true h1.1, fun j p hj hjk hne hp => ?_⟩
  have h2 := List.all_eq_true.1 h1.2 j (List.mem_range.2 hjk)
  have hb' : Nat.ble s j = true := Nat.ble_eq_true_of_le hj
  have hb2 : Nat.beq i j = false := by
    cases e : Nat.beq i j with
    | false => rfl
    | true => exact absurd (Nat.eq_of_beq_eq_true e).symm hne
  simp only [hb', Bool.not_true, Bool.false_or, hb2, hp] at h2
  intro e
  rw [e] at h2
  simp at h2
theorem knp_at {ph : Nat → Ph} {s : Nat} {o : Oper} {t : Nat} {q : Ph} (h : lk (knp ops ph s o) t = some q) : ∃ e ∈ o.after, Region.binds .any e = true ∧ s ≤ e.on ∧ ∃ p, ops[e.on]? = some p ∧ p.dst = some t ∧ q = ph e.on := by
  have h1 := lk_mem h
  unfold knp at h1
  rw [List.mem_filterMap] at h1
  obtain ⟨e, he, h2⟩ := h1
  split at h2
  · rename_i hc
    simp only [Bool.and_eq_true] at hc
    cases hp : ops[e.on]? with
    | none => rw [hp] at h2; cases h2
    | some p =>
      rw [hp] at h2
      cases hd : p.dst with
      | none => simp [hd] at h2
      | some d =>
        simp [hd] at h2
        obtain ⟨rfl, rfl⟩ := h2
        exact ⟨e, by simpa using he, hc.1, Nat.le_of_ble_eq_true hc.2, p, hp, hd, rfl⟩
  · cases h2
theorem allP_at {ph : Nat → Ph} {s k : Nat} {t : Nat} {q : Ph} (h : lk (allP ops ph s k) t = some q) : ∃ j p, s ≤ j ∧ j < k ∧ ops[j]? = some p ∧ p.dst = some t ∧ q = ph j := by
  have h1 := lk_mem h
  unfold allP at h1
  rw [List.mem_filterMap] at h1
  obtain ⟨j, hj, h2⟩ := h1
  split at h2
  · rename_i hc
    cases hp : ops[j]? with
    | none => rw [hp] at h2; cases h2
    | some p =>
      rw [hp] at h2
      cases hd : p.dst with
      | none => simp [hd] at h2
      | some d =>
        simp [hd] at h2
        obtain ⟨rfl, rfl⟩ := h2
        exact ⟨j, p, Nat.le_of_ble_eq_true hc, List.mem_range.1 hj, hp, hd, rfl⟩
  · cases h2
theorem wpIn_opG {o : Oper} {a : Go.Act} {Post : Value → World → Prop} {K : Go.Act → World → Prop} {w : World} (h : OpG P o a w Post) (hk : ∀ v w', Post v w' → K (a.put o.dst v) w') : o.wpIn (FR R) m P a w K Q := by
  rcases h with h | ⟨w', hr, hp⟩
  · exact wpIn_opY h hk
  · exact wpIn_skipOp hr (hk _ w' hp)
theorem AWF.gen {s k : Nat} {base : Env} (ph : Nat → Ph) (Rel : World → World → Prop) (Inv : (Nat → Bool) → (Nat → Value) → World → Prop) {f0 : Nat → Value}
    (hrefl : ∀ w, Rel w w) (htr : ∀ w w1 w2, Rel w w1 → Rel w1 w2 → Rel w w2) (hph : ∀ i v w w', (ph i).holds v w → Rel w w' → (ph i).holds v w')
    (hA : aheadOK ops = true) (hC : (Nat.beq k ops.size || closOK ops k) = true) (hF : farOK ops k = true) (hks : Nat.ble k ops.size = true) (hsk : Nat.ble s k = true)
    (hD : dstOK' n ops s k = true) (hbp : noPred base = true) (hbd : ∀ i ph, lk base i = some ph → ∀ (j : Nat) (o : Oper), s ≤ j → j < k → ops[j]? = some o → o.dst ≠ some i)
    (hop : ∀ i o, s ≤ i → i < k → ops[i]? = some o → ∀ L f W, Rel w W → DnL ops L → L i = false → (∀ e ∈ o.after, Region.binds .any e = true → L e.on = true) → Inv L f W →
      TG P n ds ops (knp ops ph s o ++ base) f W o (fun v W' => Rel W W' ∧ (∀ d, o.dst = some d → (ph i).holds v W') ∧ Inv (setL L i) (setS f o.dst v) W'))
    (hw : Inv (fun j => decide (j < s)) f0 w) (hend : ∀ f W, Rel w W → Inv (fun j => decide (j < k)) f W → AWF R m P n ds ops Q k (allP ops ph s k ++ base) f W) : AWF R m P n ds ops Q s base f0 w := by
  have hks : k ≤ ops.size := Nat.le_of_ble_eq_true hks
  have hsk : s ≤ k := Nat.le_of_ble_eq_true hsk
  suffices H : ∀ (fuel : Nat) (listed : Array Bool) (a : Go.Act) (f : Nat → Value) (W : World), listed.size = ops.size → listed.toList.countP (· == false) ≤ fuel → (∀ j, j < s → listed.getD j false = true) → (∀ j, k ≤ j → j < ops.size → listed.getD j false = false) → Dn ops listed → Ag n ds base a W → (∀ t, a.tmps.getD t undef = f t) → Rel w W →
      (∀ (j : Nat) (o : Oper) (d : Nat), s ≤ j → j < k → ops[j]? = some o → o.dst = some d → listed.getD j false = true → (ph j).holds (f d) W) → Inv (fun j => listed.getD j false) f W → wpAnyIn (FR R) m P .any ops Q fuel listed a W by
    intro fuel listed a hf hu ha hsl
    have hno : ∀ j, s ≤ j → j < ops.size → listed.getD j false = false := fun j h1 h2 => by rw [hu.2 j h2]; simpa using h1
    have hyes : ∀ j, j < s → listed.getD j false = true := fun j h1 => by rw [hu.2 j (by omega)]; simpa using h1
    refine H fuel listed a f0 w hu.1 ?_ hyes (fun j h1 h2 => hno j (by omega) h2) ?_ ha hsl (hrefl w) ?_ ?_
    · have e : listed.toList = listed.toList.take s ++ listed.toList.drop s := (List.take_append_drop s _).symm
      rw [e, List.countP_append]
      have z1 : (listed.toList.take s).countP (· == false) = 0 := by
        rw [List.countP_eq_zero]
        intro b hb
        obtain ⟨j, hj, he⟩ := List.mem_iff_getElem.1 hb
        rw [List.getElem_take] at he
        have hj' : j < s := by simp at hj; omega
        have hj2 : j < listed.size := by simp at hj; omega
        have := hyes j hj'
        rw [Array.getD_eq_getD_getElem?] at this
        simp only [hj2, Array.getElem?_eq_getElem, Option.getD_some] at this
        rw [← he]
        simp [this]
      have z2 : (listed.toList.drop s).countP (· == false) ≤ (listed.toList.drop s).length := List.countP_le_length
      have z3 : (listed.toList.drop s).length = ops.size - s := by simp [hu.1]
      omega
    · intro i o ho hli e he hb
      have hi : i < ops.size := (Array.getElem?_eq_some_iff.1 ho).1
      have his : i < s := by
        rcases Nat.lt_or_ge i s with h | h
        · exact h
        · rw [hno i h hi] at hli; cases hli
      exact hyes _ (by have := aheadOK_at hA ho e he hb; omega)
    · intro j o d hj hjk ho _ hlj
      rw [hno j hj (by omega)] at hlj
      cases hlj
    · have e : (fun j => listed.getD j false) = fun j => decide (j < s) := by
        funext j
        rcases Nat.lt_or_ge j ops.size with h | h
        · exact hu.2 j h
        · have := hu.1
          rw [Array.getD_eq_getD_getElem?, Array.getElem?_eq_none (by omega), decide_eq_false (by omega)]
          rfl
      rw [e]
      exact hw
  have last : ∀ (fuel : Nat) (listed : Array Bool) (a : Go.Act) (f : Nat → Value) (W : World), listed.size = ops.size → listed.toList.countP (· == false) ≤ fuel → (∀ j, k ≤ j → j < ops.size → listed.getD j false = false) → Ag n ds base a W → (∀ t, a.tmps.getD t undef = f t) → Rel w W →
      (∀ (j : Nat) (o : Oper) (d : Nat), s ≤ j → j < k → ops[j]? = some o → o.dst = some d → listed.getD j false = true → (ph j).holds (f d) W) → Inv (fun j => listed.getD j false) f W → (∀ j, j < k → listed.getD j false = true) → wpAnyIn (FR R) m P .any ops Q fuel listed a W := by
    intro fuel listed a f W hs hc hno ha hsl hR hI hSt hall
    have e : (fun j => listed.getD j false) = fun j => decide (j < k) := by
      funext j
      rcases Nat.lt_or_ge j k with h | h
      · rw [hall j h, decide_eq_true h]
      · rcases Nat.lt_or_ge j ops.size with h' | h'
        · rw [hno j h h', decide_eq_false (by omega)]
        · rw [Array.getD_eq_getD_getElem?, Array.getElem?_eq_none (by omega), decide_eq_false (by omega)]
          rfl
    rw [e] at hSt
    refine hend f W hR hSt fuel listed a (count_drop hs hc hno) ⟨hs, fun j hj => congrFun e j⟩ ⟨ha.defers, ha.size, fun t q ht => ?_⟩ hsl
    rcases lk_append ht with h | h
    · obtain ⟨j, p, hj, hjk, hp, hd, rfl⟩ := allP_at h
      rw [hsl]
      exact hI j p t hj hjk hp hd (hall j hjk)
    · exact ha.val t q h
  intro fuel
  induction fuel with
  | zero =>
    intro listed a f W hs hc hyes hno hDn ha hsl hR hI hSt
    refine last 0 listed a f W hs hc hno ha hsl hR hI hSt (fun j hj => ?_)
    have h0 : listed.toList.countP (· == false) = 0 := by omega
    rw [List.countP_eq_zero] at h0
    have hlt : j < listed.size := by omega
    have := h0 listed[j] (by simp)
    rw [Array.getD_eq_getD_getElem?]
    simp only [hlt, Array.getElem?_eq_getElem, Option.getD_some]
    simpa using this
  | succ fuel ih =>
    intro listed a f W hs hc hyes hno hDn ha hsl hR hI hSt
    by_cases hall : ∀ j, j < k → listed.getD j false = true
    · exact last (fuel + 1) listed a f W hs hc hno ha hsl hR hI hSt hall
    · simp only [Classical.not_forall] at hall
      obtain ⟨c, hck, hcf⟩ := hall
      have hcf : listed.getD c false = false := by simpa using hcf
      refine ⟨fun hr => ?_, fun i hi => ?_⟩
      · exfalso
        obtain ⟨i, hi⟩ := ready_some hA (k := k) (by omega) hs c hck hcf
        rw [hr] at hi
        cases hi
      obtain ⟨o, hio, hbi, hed⟩ := (ready_iff hs).1 hi
      have hi' : i < ops.size := (Array.getElem?_eq_some_iff.1 hio).1
      have hlt : i < listed.size := by omega
      have hsi : s ≤ i := by
        rcases Nat.lt_or_ge i s with h | h
        · rw [hyes i h] at hbi; cases hbi
        · exact h
      have hik : i < k := by
        rcases Nat.lt_or_ge i k with h | h
        · exact h
        · exfalso
          by_cases e : i = k
          · subst e
            rcases Bool.or_eq_true_iff.1 hC with hC | hC
            · have := Nat.eq_of_beq_eq_true hC; omega
            · have := clos_all hC hDn hio hed (i - c) c rfl hck
              rw [hcf] at this; cases this
          · obtain ⟨e', he, hb, hon⟩ := farOK_at hF hio (by omega)
            have h1 := hed e' he hb
            have h2 := aheadOK_at hA hio e' he hb
            rw [hno e'.on hon (by omega)] at h1
            cases h1
      have hag : Ag n ds (knp ops ph s o ++ base) a W := by
        refine ⟨ha.defers, ha.size, fun t q ht => ?_⟩
        rcases lk_append ht with h | h
        · obtain ⟨e, he, hb, hse, p, hp, hpd, rfl⟩ := knp_at h
          rw [hsl]
          exact hI e.on p t hse (by have := aheadOK_at hA hio e he hb; omega) hp hpd (hed e he hb)
        · exact ha.val t q h
      have eL : (fun j => (listed.setIfInBounds i true).getD j false) = setL (fun j => listed.getD j false) i := by
        funext j
        rw [getD_set hlt]
        rfl
      have key : ∀ (v : Value) (W' : World), Rel W W' ∧ (∀ d, o.dst = some d → (ph i).holds v W') ∧ Inv (setL (fun j => listed.getD j false) i) (setS f o.dst v) W' → wpAnyIn (FR R) m P .any ops Q fuel (listed.setIfInBounds i true) (a.put o.dst v) W' := by
        rintro v W' ⟨hRel, hv, hSt'⟩
        refine ih _ _ (setS f o.dst v) W' (by simpa using hs) (fuel_set hlt hbi hc) ?_ ?_ (dn_set hlt hio hed hDn) ?_ ?_ (htr _ _ _ hR hRel) ?_ (by rw [eL]; exact hSt')
        · intro j hj
          rw [getD_set hlt]
          split
          · rfl
          · exact hyes j hj
        · intro j hj hjs
          rw [getD_set hlt, if_neg (by omega)]
          exact hno j hj hjs
        · cases hd : o.dst with
          | none => exact ha.world hbp W'
          | some d =>
            refine ⟨ha.defers, by simp [Go.Act.put, ha.size], fun t q ht => ?_⟩
            have hne' : t ≠ d := fun e => hbd t q ht i o hsi hik hio (by rw [hd, e])
            rw [getD_put_ne hne']
            exact noPred_lk hbp ht (ha.val t q ht)
        · intro t
          cases hd : o.dst with
          | none => exact hsl t
          | some d =>
            by_cases e : t = d
            · subst e
              rw [getD_put_same (by rw [ha.size]; exact (dstOK'_at hD hsi hik hio hd).1)]
              simp [setS]
            · rw [getD_put_ne e, hsl]
              simp [setS, Ne.symm e]
        · intro j p d' hj hjk hp hpd hl
          by_cases e : j = i
          · subst e
            rw [hio] at hp; cases hp
            rw [hpd]
            simp only [setS, if_true]
            exact hv d' hpd
          · rw [getD_set hlt, if_neg e] at hl
            have hne' : o.dst ≠ some d' := fun ee => (dstOK'_at hD hsi hik hio ee).2 j p hj hjk e hp hpd
            simp only [setS, if_neg hne']
            exact hph j _ _ _ (hI j p d' hj hjk hp hpd hl) hRel
      have top := hop i o hsi hik hio _ f W hR (fun i o ho hli e he hb => hDn i o ho hli e he hb) hbi hed hSt
      have top := top a hag hsl
      unfold wpOpIn
      rw [hio]
      dsimp only
      split
      · rename_i hw'
        rw [if_pos hw'] at top
        exact wpIn_opG top key
      · rename_i hw'
        rw [if_neg hw'] at top
        exact ⟨fun _ _ => trivial, key _ W top⟩
theorem Up.cel {w w' : World} (u : Up w w') : Cel w w' := ⟨u.size, fun _ _ h => cell_up h u, fun _ _ _ _ h => (u.block (lt_of_block h)).trans h⟩
theorem AggAt.cel {w w' : World} {B o : Nat} {cs : Array Value} (h : AggAt w B o cs) (k : Cel w w') : AggAt w' B o cs := fun j v hv => k.cell _ _ (h j v hv)
theorem Els.cel {α : Type} {w w' : World} {ad : Option Addr} {k : Nat} {enc : α → Array Value} {xs : List α} (h : Els w ad k enc xs) (u : Cel w w') : Els w' ad k enc xs := fun i x hx => let ⟨B, o, h1, h2⟩ := h i x hx; ⟨B, o, h1, h2.cel u⟩
theorem Sl.cel {α : Type} {w w' : World} {v : Value} {k : Nat} {enc : α → Array Value} {xs : List α} (h : Sl w v k enc xs) (u : Cel w w') : Sl w' v k enc xs := let ⟨ad, c, h1, h2⟩ := h; ⟨ad, c, h1, Els.cel h2 u⟩
def litOK (ops : Array Oper) (m0 : Nat) (J : List (Nat × Int × Nat)) : Bool :=
  J.all fun j => match ops[j.1]? with
    | none => false
    | some o => o.dst.isNone && (o.after.any fun e => Region.binds .any e && Nat.beq e.on m0) && (o.after.any fun e => Region.binds .any e && (match ops[e.on]? with | none => false | some p => p.dst == some j.2.2))
theorem litOK_at {m0 : Nat} {J : List (Nat × Int × Nat)} (h : litOK ops m0 J = true) {j : Nat × Int × Nat} (hj : j ∈ J) : ∃ o, ops[j.1]? = some o ∧ o.dst = none ∧ (∃ e ∈ o.after, Region.binds .any e = true ∧ e.on = m0) ∧ ∃ e ∈ o.after, Region.binds .any e = true ∧ ∃ p, ops[e.on]? = some p ∧ p.dst = some j.2.2 := by
  have h1 := List.all_eq_true.1 h j hj
  cases ho : ops[j.1]? with
  | none => simp [ho] at h1
  | some o =>
    simp only [ho, Bool.and_eq_true] at h1
    obtain ⟨⟨h2, h3⟩, h4⟩ := h1
    obtain ⟨e, he, hh⟩ := Array.any_eq_true.1 h3
    simp only [Bool.and_eq_true] at hh
    obtain ⟨e', he', hh'⟩ := Array.any_eq_true.1 h4
    simp only [Bool.and_eq_true] at hh'
    refine ⟨o, rfl, by simpa using h2, ⟨_, Array.getElem_mem he, hh.1, Nat.eq_of_beq_eq_true hh.2⟩, ⟨_, Array.getElem_mem he', hh'.1, ?_⟩⟩
    have h5 := hh'.2
    split at h5
    · cases h5
    · rename_i p hp
      exact ⟨p, hp, by simpa using h5⟩
theorem lk_right : ∀ {l r : Env} {t : Nat}, lk l t = none → lk (l ++ r) t = lk r t
  | [], _, _, _ => rfl
  | (j, q) :: l, r, t, h => by
    by_cases e : t = j
    · subst e; rw [lk_cons_eq] at h; cases h
    · rw [lk_cons_ne e] at h
      rw [List.cons_append, lk_cons_ne e]
      exact lk_right h
theorem lk_left : ∀ {l r : Env} {t : Nat} {q : Ph}, lk l t = some q → lk (l ++ r) t = some q
  | [], _, _, _, h => by cases h
  | (j, q') :: l, r, t, q, h => by
    by_cases e : t = j
    · subst e; rw [lk_cons_eq] at h; cases h; rw [List.cons_append, lk_cons_eq]
    · rw [lk_cons_ne e] at h
      rw [List.cons_append, lk_cons_ne e]
      exact lk_left h
theorem lk_of_mem : ∀ {l : Env} {t : Nat} {q : Ph}, (t, q) ∈ l → ∃ q', lk l t = some q'
  | [], _, _, h => by cases h
  | (j, q') :: l, t, q, h => by
    by_cases e : t = j
    · subst e; exact ⟨q', lk_cons_eq⟩
    · rw [lk_cons_ne e]
      rcases List.mem_cons.1 h with h | h
      · cases h; exact absurd rfl e
      · exact lk_of_mem h
def TU (P : Program) (n : Nat) (ds : List Deferred) (env : Env) (W : World) (o : Oper) (q : Ph) : Prop := ∀ a, Ag n ds env a W → OpY P o a W (fun v W' => Up W W' ∧ q.holds v W')
theorem TU.p {env : Env} {o : Oper} {v : Value} {q : Ph} (h : PEv P n ds env w o v) (hx : q.holds v w) : TU P n ds env w o q := fun a ha => .inl ⟨v, w, h a w ha (Up.refl w), Up.refl w, hx⟩
theorem TU.r {env : Env} {o : Oper} {q : Ph} {Post : Value → World → Prop} (h : REv P n ds env w o Post) (hx : ∀ v W', Post v W' → Up w W' ∧ q.holds v W') : TU P n ds env w o q := fun a ha =>
  let ⟨v, W', hr, hp⟩ := h a ha
  .inl ⟨v, W', hr, hx v W' hp⟩
theorem TU.c {env : Env} {o : Oper} {q : Ph} {f : FuncId} {args : Array Value} {Post : Value → World → Prop} (he : ∀ a, Ag n ds env a w → (execOp a.eval o).run P w = .ok (.enter f args) w) (hc : Ret P f args w Post) (hx : ∀ v W', Post v W' → Up w W' ∧ q.holds v W') : TU P n ds env w o q := fun a ha =>
  .inr ⟨f, args, w, he a ha, hc.mono hx⟩
theorem TU.open {env : Env} {o : Oper} {q : Ph} {d : Nat} {p : Value → World → Prop} (hp : lk env d = some (.pred p)) (h : ∀ v, p v w → TU P n ds ((d, .eq v) :: env) w o q) : TU P n ds env w o q := fun a ha =>
  h _ (ha.val d _ hp) a ⟨ha.defers, ha.size, fun i ph hi => by
    by_cases e : i = d
    · subst e
      rw [lk_cons_eq] at hi
      cases hi
      rfl
    · rw [lk_cons_ne e] at hi
      exact ha.val i ph hi⟩
def SlT {α : Type} (e : TypeId) (w : World) (v : Value) (k : Nat) (enc : α → Array Value) (xs : List α) : Prop := Sl w v k enc xs ∧ ∀ B o n c, v = .slice (some ⟨B, o, none⟩) n c → ∃ cs x, w.heap[B]? = some (Obj.cells cs e x)
theorem SlT.cel {α : Type} {e : TypeId} {w w' : World} {v : Value} {k : Nat} {enc : α → Array Value} {xs : List α} (h : SlT e w v k enc xs) (u : Cel w w') : SlT e w' v k enc xs := ⟨h.1.cel u, fun B o n c hv => let ⟨cs, x, hb⟩ := h.2 B o n c hv; ⟨cs, x, u.blk _ _ _ _ hb⟩⟩
theorem SlT.lit {α : Type} {T : TypeId} {w w' : World} {k : Nat} {enc : α → Array Value} {xs : List α} {v : Value} (h : NewSl w T k enc xs v w') : SlT T w' v k enc xs := by
  have h2 := h.q.2
  obtain ⟨B, cs, rfl, N, _, _⟩ := h
  exact ⟨h2, fun B' o n c hv => by cases hv; exact ⟨cs, _, N.blk⟩⟩
end
end Go.Wx
end
section
namespace Go.Wx
open Go.RowKit
structure KeepT (T : TypeId) (w w' : World) : Prop where
  size : w.heap.size ≤ w'.heap.size
  obj : ∀ (b : Nat) (o : Obj), w.heap[b]? = some o → (∀ cs x, o ≠ Obj.cells cs T x) → w'.heap[b]? = some o
theorem KeepT.refl (T : TypeId) (w : World) : KeepT T w w := ⟨Nat.le_refl _, fun _ _ h _ => h⟩
theorem KeepT.trans {T : TypeId} {w w1 w2 : World} (h : KeepT T w w1) (k : KeepT T w1 w2) : KeepT T w w2 := ⟨Nat.le_trans h.size k.size, fun b o hb hn => k.obj b o (h.obj b o hb hn) hn⟩
theorem Up.keepT {T : TypeId} {w w' : World} (u : Up w w') : KeepT T w w' := ⟨u.size, fun _ _ h _ => (u.block (lt_of_block h)).trans h⟩
theorem Sto.keepT {T : TypeId} {w w' : World} {B : Nat} {cs : Array Value} (u : Sto B w w') (hz : w.heap.size ≤ w'.heap.size) (hb : Blk w B cs T) : KeepT T w w' := ⟨hz, fun b o h hn => by
  by_cases e : b = B
  · subst e; unfold Blk at hb; rw [hb] at h; cases h; exact absurd rfl (hn _ _)
  · exact (u.block b (lt_of_block h) e).trans h⟩
theorem Blk.keepT {T e : TypeId} {w w' : World} {B : Nat} {cs : Array Value} (h : Blk w B cs e) (hne : Nat.beq e T = false) (u : KeepT T w w') : Blk w' B cs e := u.obj _ _ h (fun _ _ e' => by cases e'; simp at hne)
section
variable {R : Option Nat} {m : Nat} {P : Program} {n : Nat} {ds : List Deferred} {Q : Exit → Go.Act → World → Prop} {l : Env} {w : World} {ops : Array Oper}
def BInv (ia is sa sv : Nat) (T : TypeId) (z : Array Value) (w0 : World) (L : Nat → Bool) (f : Nat → Value) (W : World) : Prop :=
  Up w0 W ∧ (L is = true → L ia = true) ∧ (L ia = true → ∃ B, f sa = .pointer (some ⟨B, 0, none⟩) ∧ w0.heap.size ≤ B ∧ Blk W B (if L is = true then (f sv).cells else z) T)
def PhT (T : TypeId) (q : Ph) : Prop := ∀ v w w', q.holds v w → KeepT T w w' → q.holds v w'
theorem PhT.eq (T : TypeId) (v : Value) : PhT T (.eq v) := fun _ _ _ h _ => h
theorem PhT.pred {T : TypeId} {p : Value → World → Prop} (h : ∀ v w w', p v w → KeepT T w w' → p v w') : PhT T (.pred p) := h
def allT (T : TypeId) : List Ph → Prop
  | [] => True
  | q :: r => PhT T q ∧ allT T r
theorem allT.at {T : TypeId} : ∀ {l : List Ph}, allT T l → ∀ i, PhT T (l.getD i (.eq undef))
  | [], _, _ => by simpa using PhT.eq T undef
  | _ :: _, h, 0 => by simpa using h.1
  | _ :: _, h, i + 1 => by simpa using allT.at h.2 i
end
end Go.Wx
end
