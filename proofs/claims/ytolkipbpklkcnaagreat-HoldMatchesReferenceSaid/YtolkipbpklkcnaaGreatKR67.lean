import Derived.Test.YtolkipbpklkcnaaGreatKR66
section
namespace Go.Wx
open Go.RowKit
section
variable {P : Program} {n : Nat} {ds : List Deferred} {l : Env} {w : World} {d : Option Tmp} {ty : TypeId} {ps : String} {af : Array Edge} {g : Option (Nat × Bool)}
theorem PEv.bin2 {op : BinOp} {T T' : TypeId} {x y : Operand} {k k' : IntKind} {i j : Int} {v : Value} (hx : Val l x (.int k i)) (hy : Val l y (.int k' j)) (h : ∀ w, (binOp op T (.int k i) (.int k' j)).run P w = .ok v w) :
    PEv P n ds l w ⟨d, .binOp op T x y T', ty, ps, af, g⟩ v := fun a w' ha _ => by
  refine run_v ?_
  rw [ha.ev hx, ha.ev hy, Sem.run_bind]
  have : (eqGuard op T x y (.int k i) (.int k' j)).run P w' = .ok () w' := by unfold eqGuard; cases op <;> rfl
  rw [this]
  exact h w'
theorem PEv.shl_w {T T' : TypeId} {x y : Operand} {k k' : IntKind} {i : Int} {j : Nat} (hx : Val l x (.int k i)) (hy : Val l y (.int k' (j : Int))) : PEv P n ds l w ⟨d, .binOp .shl T x y T', ty, ps, af, g⟩ (.int k (k.wrap (i * 2 ^ (min j k.bits)))) := .bin2 hx hy fun w => by
  have h : ¬ ((j : Int) < 0) := by omega
  simp [binOp, Op.shift, h]
theorem PEv.shr_w {T T' : TypeId} {x y : Operand} {k k' : IntKind} {i : Int} {j : Nat} (hx : Val l x (.int k i)) (hy : Val l y (.int k' (j : Int))) : PEv P n ds l w ⟨d, .binOp .shr T x y T', ty, ps, af, g⟩ (.int k (i.fdiv (2 ^ (min j k.bits)))) := .bin2 hx hy fun w => by
  have h : ¬ ((j : Int) < 0) := by omega
  simp [binOp, Op.shift, h]
theorem PEv.and_w {T T' : TypeId} {x y : Operand} {k : IntKind} {i j : Int} (hx : Val l x (.int k i)) (hy : Val l y (.int k j)) : PEv P n ds l w ⟨d, .binOp .and T x y T', ty, ps, af, g⟩ (.int k (k.wrap (BitVec.ofInt k.bits i &&& BitVec.ofInt k.bits j).toNat)) := .bin hx hy fun w => by simp [binOp, Op.intBits]
theorem PEv.xor_w {T T' : TypeId} {x y : Operand} {k : IntKind} {i j : Int} (hx : Val l x (.int k i)) (hy : Val l y (.int k j)) : PEv P n ds l w ⟨d, .binOp .xor T x y T', ty, ps, af, g⟩ (.int k (k.wrap (BitVec.ofInt k.bits i ^^^ BitVec.ofInt k.bits j).toNat)) := .bin hx hy fun w => by simp [binOp, Op.intBits]
theorem PEv.conv {T T' : TypeId} {x : Operand} {k k' : IntKind} {i : Int} (hT : (P.underlying T).isSome = true) (hT' : P.underlying T' = some (.int k')) (hx : Val l x (.int k i)) : PEv P n ds l w ⟨d, .convert T T' x, ty, ps, af, g⟩ (.int k' (k'.wrap i)) := fun a w' ha _ => by
  refine run_v ?_
  rw [ha.ev hx]
  have hk : P.intKind T' = k' := by simp [Program.intKind, hT']
  have := run_convert_int (P := P) (w := w') T T' k i hT (by rw [hk]; exact hT')
  rw [hk] at this
  exact this
end
def zig (n : Int) : Nat := if 0 ≤ n then (2 * n).toNat else (-2 * n - 1).toNat
theorem zig_inj {a b : Int} (h : zig a = zig b) : a = b := by unfold zig at h; split at h <;> split at h <;> omega
theorem zig_lt {a : Int} (h1 : -4611686018427387903 ≤ a) (h2 : a ≤ 4611686018427387903) : zig a < 18446744073709551616 := by unfold zig; split <;> omega
def grpF : Nat → Nat → List (UInt8 × Bool)
  | 0, _ => []
  | k + 1, z => if z < 128 then [(UInt8.ofNat z, true)] else (UInt8.ofNat (z % 128), false) :: grpF k (z / 128)
theorem grpF_fuel : ∀ (k j z : Nat), z < 128 ^ k → z < 128 ^ j → 0 < k → 0 < j → grpF k z = grpF j z
  | k + 1, j + 1, z, h1, h2, _, _ => by
    unfold grpF
    split
    · rfl
    · rename_i hz
      match k, j with
      | 0, _ => simp at h1; omega
      | _, 0 => simp at h2; omega
      | k + 1, j + 1 =>
        rw [grpF_fuel (k + 1) (j + 1) (z / 128) (by rw [Nat.div_lt_iff_lt_mul (by decide)]; rw [Nat.pow_succ] at h1; exact h1) (by rw [Nat.div_lt_iff_lt_mul (by decide)]; rw [Nat.pow_succ] at h2; exact h2) (by omega) (by omega)]
def grp (z : Nat) : List (UInt8 × Bool) := grpF 10 z
theorem grp_small {z : Nat} (h : z < 128) : grp z = [(UInt8.ofNat z, true)] := by unfold grp grpF; rw [if_pos h]
theorem grp_big {z : Nat} (h : ¬ z < 128) (hz : z < 18446744073709551616) : grp z = (UInt8.ofNat (z % 128), false) :: grp (z / 128) := by
  unfold grp
  conv => lhs; unfold grpF
  rw [if_neg h, grpF_fuel 9 10 (z / 128) (by omega) (by omega) (by decide) (by decide)]
theorem grpF_len : ∀ (k z : Nat), (grpF k z).length ≤ k
  | 0, _ => Nat.le_refl _
  | k + 1, z => by
    unfold grpF
    split
    · simp
    · simp only [List.length_cons]; have := grpF_len k (z / 128); omega
theorem grp_len (z : Nat) : (grp z).length ≤ 10 := grpF_len 10 z
def grpB (p : UInt8 × Bool) : UInt8 := if p.2 then p.1 else p.1 ||| 128
theorem or_toNat {b : Nat} (hb : b < 128) : (UInt8.ofNat b ||| 128).toNat = b + 128 := by
  rw [UInt8.toNat_or, UInt8.toNat_ofNat']
  show b % 2 ^ 8 ||| 2 ^ 7 = _
  have := Nat.two_pow_add_eq_or_of_lt (i := 7) (b := b) (by omega) 1
  rw [Nat.mul_one] at this
  rw [Nat.mod_eq_of_lt (by omega), Nat.or_comm, ← this]
  omega
def encZ (z : Nat) : List UInt8 := (grp z).map grpB
def inW (a : Int) : Prop := -4611686018427387903 ≤ a ∧ a ≤ 4611686018427387903
instance (a : Int) : Decidable (inW a) := by unfold inW; infer_instance
theorem inW_nat {k : Nat} (h : k ≤ 1000000000) : inW (k : Int) := ⟨by omega, by omega⟩
def encI (i : Int) : List UInt8 := if inW i then encZ (zig i) else []
theorem encI_len (i : Int) : (encI i).length ≤ 10 := by
  unfold encI
  split
  · unfold encZ; rw [List.length_map]; exact grp_len _
  · simp
def decZ : List UInt8 → Option (Nat × List UInt8)
  | [] => none
  | b :: r => if b.toNat < 128 then some (b.toNat, r) else match decZ r with
    | none => none
    | some (z, s) => some (b.toNat - 128 + 128 * z, s)
theorem decZ_grpF : ∀ (k z : Nat) (r : List UInt8), z < 128 ^ k → 0 < k → decZ ((grpF k z).map grpB ++ r) = some (z, r)
  | k + 1, z, r, h, _ => by
    unfold grpF
    split
    · rename_i hz
      have e : (UInt8.ofNat z).toNat = z := by rw [UInt8.toNat_ofNat']; omega
      simp only [List.map_cons, List.map_nil, grpB, if_true, List.cons_append, List.nil_append, decZ, e, if_pos hz]
    · rename_i hz
      have e : (UInt8.ofNat (z % 128) ||| 128).toNat = z % 128 + 128 := or_toNat (by omega)
      match k with
      | 0 => simp at h; omega
      | k + 1 =>
        have ih := decZ_grpF (k + 1) (z / 128) r (by rw [Nat.div_lt_iff_lt_mul (by decide)]; rw [Nat.pow_succ] at h; exact h) (by omega)
        simp only [List.map_cons, grpB, Bool.false_eq_true, if_false, List.cons_append, decZ, e]
        rw [if_neg (by omega)]
        rw [ih]
        simp only [Option.some.injEq, Prod.mk.injEq, and_true]
        omega
theorem decZ_encZ {z : Nat} (r : List UInt8) (h : z < 18446744073709551616) : decZ (encZ z ++ r) = some (z, r) := decZ_grpF 10 z r (by omega) (by decide)
theorem encI_cut {a b : Int} {r s : List UInt8} (ha : inW a) (hb : inW b) (h : encI a ++ r = encI b ++ s) : a = b ∧ r = s := by
  have h1 := decZ_encZ r (zig_lt ha.1 ha.2)
  have h2 := decZ_encZ s (zig_lt hb.1 hb.2)
  rw [encI, encI, if_pos ha, if_pos hb] at h
  rw [h, h2] at h1
  simp only [Option.some.injEq, Prod.mk.injEq] at h1
  exact ⟨(zig_inj h1.1).symm, h1.2.symm⟩
theorem encI_ne {a : Int} (h : inW a) : encI a ≠ [] := by
  rw [encI, if_pos h]
  unfold encZ grp grpF
  split <;> simp
def encIs (l : List Int) : List UInt8 := l.flatMap encI
theorem encIs_len : ∀ (l : List Int), (encIs l).length ≤ 10 * l.length
  | [] => by simp [encIs]
  | x :: l => by
    have h1 := encI_len x
    have h2 := encIs_len l
    simp only [encIs, List.flatMap_cons, List.length_append, List.length_cons] at h2 ⊢
    omega
theorem encIs_take {l : List Int} {k : Nat} {x : Int} (h : l[k]? = some x) : encIs (l.take (k + 1)) = encIs (l.take k) ++ encI x := by
  obtain ⟨hk, e⟩ := List.getElem?_eq_some_iff.1 h
  unfold encIs
  rw [List.take_add_one, h]; simp
theorem encIs_snoc (l : List Int) (x : Int) : encIs (l ++ [x]) = encIs l ++ encI x := by simp [encIs]
theorem encIs_one (x : Int) : encIs [x] = encI x := by simp [encIs]
theorem encIs_cut : ∀ {a b : List Int} {r s : List UInt8}, (∀ x ∈ a, inW x) → (∀ x ∈ b, inW x) → a.length = b.length → encIs a ++ r = encIs b ++ s → a = b ∧ r = s
  | [], [], r, s, _, _, _, h => ⟨rfl, by simpa [encIs] using h⟩
  | x :: a, y :: b, r, s, ha, hb, hl, h => by
    simp only [encIs, List.flatMap_cons, List.append_assoc] at h
    obtain ⟨h1, h2⟩ := encI_cut (ha x List.mem_cons_self) (hb y List.mem_cons_self) h
    obtain ⟨h3, h4⟩ := encIs_cut (r := r) (s := s) (fun x hx => ha x (List.mem_cons_of_mem _ hx)) (fun x hx => hb x (List.mem_cons_of_mem _ hx)) (by simpa using hl) h2
    exact ⟨by rw [h1, h3], h4⟩
  | [], _ :: _, _, _, _, _, hl, _ => by simp at hl
  | _ :: _, [], _, _, _, _, hl, _ => by simp at hl
def encT (t : List UInt8) : List UInt8 := encI (t.length : Int) ++ t
def vu (z : Nat) : Value := .int .u64 (z : Int)
theorem u64_wrap (i : Int) : IntKind.u64.wrap i = i % 18446744073709551616 := by rw [IntKind.wrap_u64]
theorem zig_bits {a : Int} (ha : inW a) : IntKind.u64.wrap (BitVec.ofInt IntKind.u64.bits (IntKind.u64.wrap (IntKind.u64.wrap a * 2 ^ (min 1 IntKind.u64.bits))) ^^^ BitVec.ofInt IntKind.u64.bits (IntKind.u64.wrap (a.fdiv (2 ^ (min 63 IntKind.i64.bits))))).toNat = (zig a : Int) := by
  obtain ⟨h1, h2⟩ := ha
  have e1 : min 1 IntKind.u64.bits = 1 := rfl
  have e2 : min 63 IntKind.i64.bits = 63 := rfl
  have e3 : IntKind.u64.bits = 64 := rfl
  rw [e1, e2]
  by_cases h : 0 ≤ a
  · have f : a.fdiv (2 ^ 63) = 0 := by rw [Int.fdiv_eq_ediv_of_nonneg _ (by decide)]; omega
    have g0 : IntKind.u64.wrap 0 = 0 := by rw [u64_wrap]; rfl
    rw [f, g0]
    have z : zig a = (2 * a).toNat := by unfold zig; rw [if_pos h]
    rw [z]
    have v : IntKind.u64.wrap (IntKind.u64.wrap a * 2 ^ 1) = ((2 * a).toNat : Int) := by rw [u64_wrap, u64_wrap]; omega
    rw [v]
    have q : (BitVec.ofInt 64 ((2 * a).toNat : Int) ^^^ 0#64).toNat = (2 * a).toNat := by
      rw [BitVec.xor_zero, BitVec.toNat_ofInt]; omega
    show IntKind.u64.wrap ((BitVec.ofInt 64 ((2 * a).toNat : Int) ^^^ 0#64).toNat : Int) = _
    rw [q, u64_wrap]
    omega
  · have f : a.fdiv (2 ^ 63) = -1 := by rw [Int.fdiv_eq_ediv_of_nonneg _ (by decide)]; omega
    have g0 : IntKind.u64.wrap (-1) = 18446744073709551615 := by rw [u64_wrap]; rfl
    rw [f, g0]
    have z : zig a = (-2 * a - 1).toNat := by unfold zig; rw [if_neg h]
    rw [z]
    have v : IntKind.u64.wrap (IntKind.u64.wrap a * 2 ^ 1) = 18446744073709551616 + 2 * a := by rw [u64_wrap, u64_wrap]; omega
    rw [v]
    have q : (BitVec.ofInt 64 (18446744073709551616 + 2 * a) ^^^ BitVec.allOnes 64).toNat = (-2 * a - 1).toNat := by
      rw [BitVec.xor_allOnes, BitVec.toNat_not, BitVec.toNat_ofInt]; omega
    show IntKind.u64.wrap ((BitVec.ofInt 64 (18446744073709551616 + 2 * a) ^^^ BitVec.allOnes 64).toNat : Int) = _
    rw [q, u64_wrap]
    omega
theorem and127 {z : Nat} (hz : z < 18446744073709551616) : IntKind.u64.wrap (BitVec.ofInt IntKind.u64.bits (z : Int) &&& BitVec.ofInt IntKind.u64.bits 127).toNat = ((z % 128 : Nat) : Int) := by
  have : (BitVec.ofInt IntKind.u64.bits (z : Int) &&& BitVec.ofInt IntKind.u64.bits 127).toNat = z % 128 := by
    have e : BitVec.ofInt IntKind.u64.bits (z : Int) = BitVec.ofNat 64 z := BitVec.ofInt_natCast 64 z
    rw [e]
    have e2 : BitVec.ofInt IntKind.u64.bits 127 = BitVec.ofNat 64 127 := rfl
    rw [e2]
    show (BitVec.ofNat 64 z &&& BitVec.ofNat 64 127).toNat = _
    rw [BitVec.toNat_and, BitVec.toNat_ofNat, BitVec.toNat_ofNat, Nat.mod_eq_of_lt (by omega : z < 2 ^ 64)]
    show z &&& (2 ^ 7 - 1) = z % 2 ^ 7
    exact Nat.and_two_pow_sub_one_eq_mod z 7
  rw [this, u64_wrap]
  omega
theorem shr7 {z : Nat} : ((z : Int).fdiv (2 ^ (min 7 IntKind.u64.bits))) = ((z / 128 : Nat) : Int) := by
  have e1 : min 7 IntKind.u64.bits = 7 := rfl
  rw [e1, Int.fdiv_eq_ediv_of_nonneg _ (by decide)]
  show (z : Int) / 128 = _
  omega
theorem byte_of {z : Nat} : Value.int .u8 (IntKind.u8.wrap (z : Int)) = bv (UInt8.ofNat z) := by
  rw [IntKind.wrap_u8]
  unfold bv
  rw [UInt8.toNat_ofNat']
  congr 1
theorem or128 {b : UInt8} : IntKind.u8.wrap (BitVec.ofInt IntKind.u8.bits (b.toNat : Int) ||| BitVec.ofInt IntKind.u8.bits 128).toNat = ((b ||| 128).toNat : Int) := by
  have e : (BitVec.ofInt IntKind.u8.bits (b.toNat : Int) ||| BitVec.ofInt IntKind.u8.bits 128).toNat = (b ||| 128).toNat := by
    have e : BitVec.ofInt IntKind.u8.bits (b.toNat : Int) = BitVec.ofNat 8 b.toNat := BitVec.ofInt_natCast 8 b.toNat
    rw [e]
    have e2 : BitVec.ofInt IntKind.u8.bits 128 = BitVec.ofNat 8 128 := rfl
    rw [e2, UInt8.toNat_or]
    show (BitVec.ofNat 8 b.toNat ||| BitVec.ofNat 8 128).toNat = _
    rw [BitVec.toNat_or, BitVec.toNat_ofNat, BitVec.toNat_ofNat, Nat.mod_eq_of_lt (UInt8.toNat_lt b)]
    rfl
  rw [e, IntKind.wrap_u8]
  have := UInt8.toNat_lt (b ||| 128)
  omega
end Go.Wx
end
