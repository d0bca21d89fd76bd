/-
  Slices of bytes, strings; clear. Nothing of any program stands here.
-/
import Derived.Test.YthfjagphcekcbaaGreatSp
namespace Go.Wx
open Go.RowKit

def bv (b : UInt8) : Value := .int .u8 (b.toNat : Int)
def byc (c : List UInt8) : Array Value := (c.map bv).toArray
theorem byc_size (c : List UInt8) : (byc c).size = c.length := by simp [byc]
theorem byc_get {c : List UInt8} {i : Nat} {b : UInt8} (h : c[i]? = some b) : (byc c)[i]? = some (bv b) := by simp [byc, h]
theorem byc_set (c : List UInt8) (i : Nat) (b : UInt8) : (byc c).setIfInBounds i (bv b) = byc (c.set i b) := by
  apply Array.ext'
  simp [byc, List.map_set]
def overlay (c : List UInt8) (off : Nat) (s : List UInt8) : List UInt8 := c.take off ++ s ++ c.drop (off + s.length)
theorem overlay_length {c : List UInt8} {off : Nat} {s : List UInt8} (h : off + s.length ≤ c.length) : (overlay c off s).length = c.length := by simp [overlay]; omega
theorem overlay_nil (c : List UInt8) (off : Nat) : overlay c off [] = c := by simp [overlay]
theorem overlay_get {c : List UInt8} {off : Nat} {s : List UInt8} (h : off + s.length ≤ c.length) (i : Nat) : (overlay c off s)[i]? = if i < off then c[i]? else if i < off + s.length then s[i - off]? else c[i]? := by
  unfold overlay
  have h1 : (c.take off).length = off := by simp; omega
  by_cases hi : i < off
  · rw [if_pos hi, List.append_assoc, List.getElem?_append_left (by omega), List.getElem?_take_of_lt hi]
  · rw [if_neg hi]
    by_cases hi2 : i < off + s.length
    · rw [if_pos hi2, List.getElem?_append_left (by simp; omega), List.getElem?_append_right (by omega), h1]
    · rw [if_neg hi2, List.getElem?_append_right (by simp; omega), List.getElem?_drop]
      congr 1
      simp only [List.length_append, h1]
      omega
theorem overlay_step {c : List UInt8} {off k : Nat} {l : List UInt8} (h : off + l.length ≤ c.length) (hk : k < l.length) : (overlay c off (l.take k)).set (off + k) l[k] = overlay c off (l.take (k + 1)) := by
  have e1 : (l.take k).length = k := by simp; omega
  have e2 : (l.take (k + 1)).length = k + 1 := by simp; omega
  apply List.ext_getElem?
  intro i
  rw [List.getElem?_set, overlay_get (by omega), overlay_get (by omega), overlay_length (by omega), e1, e2]
  by_cases h1 : off + k = i
  · subst h1
    rw [if_pos rfl, if_pos (by omega), if_neg (by omega), if_pos (by omega), show off + k - off = k by omega, List.getElem?_take_of_lt (by omega)]
    simp [hk]
  · rw [if_neg h1]
    by_cases h2 : i < off
    · rw [if_pos h2, if_pos h2]
    · rw [if_neg h2, if_neg h2]
      by_cases h3 : i < off + k
      · rw [if_pos h3, if_pos (by omega), List.getElem?_take_of_lt (by omega), List.getElem?_take_of_lt (by omega)]
      · rw [if_neg h3, if_neg (by omega)]
def sliceLo (B n cap j : Nat) : Value := .slice (some (if cap = j then ⟨B, 0, none⟩ else ⟨B, j, none⟩)) (n - j) (cap - j)

section
variable {P : Program} {n : Nat} {ds : List Deferred} {l : Env} {w : World} {d : Option Tmp} {ty : TypeId} {ps : String} {af : Array Edge} {g : Option (Nat × Bool)}
theorem REv.makeBytes {T e : TypeId} {i : TypeInfo} {x y : Operand} {m : Nat} (hT : P.underlying T = some (.slice e)) (hi : P.info? e = some i) (hz : i.zero = some (.int .u8 0)) (hs : i.size = 1) (hb : i.bytes = 1) (hx : Val l x (.int .i64 (m : Int))) (hy : Val l y (.int .i64 (m : Int))) (hm : m ≤ 281474976710656) :
    REv P n ds l w ⟨d, .makeSlice T x y, ty, ps, af, g⟩ (fun v w' => ∃ B, v = .slice (some ⟨B, 0, none⟩) m m ∧ New w w' B (byc (List.replicate m 0)) e) := fun a ha => by
  have hr := run_makeSlice (P := P) w T e i (.int .u8 0) hT hi hz .i64 .i64 (m : Int) (m : Int) (by omega) (Int.le_refl _)
  have hr2 := run_make (P := P) w T e i (.int .u8 0) hT hi hz .i64 .i64 (m : Int) (m : Int) (by omega) (Int.le_refl _) (by rw [hb]; omega) (by omega)
  rw [hs, Nat.mul_one, Int.toNat_natCast] at hr2
  have e1 : madeCells (Value.int .u8 0).cells m = byc (List.replicate m 0) := by
    apply Array.ext'
    rw [show (Value.int .u8 0).cells = #[Value.int .u8 0] from rfl, toList_madeCells_one]
    simp [byc, bv]
  rw [e1] at hr2
  exact ⟨_, _, run_v (by rw [ha.ev hx, ha.ev hy]; exact hr2), _, rfl, New.alloc w _ _⟩
theorem PEv.sliceLo {T e : TypeId} {x lo : Operand} {B m cap j : Nat} (hT : P.underlying T = some (.slice e)) (hs : ∀ w, (sizeOf e).run P w = .ok 1 w) (hx : Val l x (.slice (some ⟨B, 0, none⟩) m cap)) (hl : Val l lo (.int .i64 (j : Int))) (hj : j ≤ m) (_ : m ≤ cap) :
    PEv P n ds l w ⟨d, .slice T x (some lo) none none, ty, ps, af, g⟩ (Wx.sliceLo B m cap j) := fun a w' ha _ => by
  refine run_v ?_
  rw [ha.ev hx]
  simp only [Option.map_none, Option.map_some, ha.ev hl]
  have h1 : (0 : Int) ≤ (j : Int) ∧ (j : Int) ≤ (m : Int) := ⟨by omega, by omega⟩
  simp [Instr.sliceAt, Instr.slice, Instr.sliceBounds, Instr.sliceBound, asIntOf, run_underlying hT, Result.andThen, h1, hs, Wx.sliceLo, add_none, hj]
  split <;> rfl
theorem PEv.sliceHi {T e : TypeId} {x hi : Operand} {ad : Option Addr} {k m cap j : Nat} (hT : P.underlying T = some (.slice e)) (hs : ∀ w, (sizeOf e).run P w = .ok k w) (hx : Val l x (.slice ad m cap)) (hl : Val l hi (.int .i64 (j : Int))) (hj : j ≤ cap) :
    PEv P n ds l w ⟨d, .slice T x none (some hi) none, ty, ps, af, g⟩ (.slice ad j cap) := fun a w' ha _ => by
  refine run_v ?_
  rw [ha.ev hx]
  simp only [Option.map_none, Option.map_some, ha.ev hl]
  have h1 : (0 : Int) ≤ (j : Int) ∧ (j : Int) ≤ (cap : Int) := ⟨by omega, by omega⟩
  cases ad with
  | none => simp [Instr.sliceAt, Instr.slice, Instr.sliceBounds, Instr.sliceBound, asIntOf, run_underlying hT, Result.andThen, h1, hs, hj]
  | some a => simp [Instr.sliceAt, Instr.slice, Instr.sliceBounds, Instr.sliceBound, asIntOf, run_underlying hT, Result.andThen, h1, hs, Addr.add, hj]
theorem Set_.same {w : World} {B : Nat} {cs : Array Value} {T : TypeId} (h : Blk w B cs T) : Set_ w w B cs T := ⟨h, ⟨rfl, rfl, rfl, Nat.le_refl _, fun _ _ _ => rfl⟩, rfl⟩
theorem REv.copyStr {T Ts e : TypeId} {x y : Operand} {B m j : Nat} {s : ByteArray} {c : List UInt8} {TT : TypeId} (hT : P.underlying T = some (.slice e)) (hs : (P.info? e).map (·.size) = some 1) (hx : Val l x (Wx.sliceLo B m m j)) (hy : Val l y (.string s)) (hb : Blk w B (byc c) TT) (hc : c.length = m) (hj : j + s.size ≤ m) :
    REv P n ds l w ⟨d, .call { callee := .builtin .copy, args := #[x, y], argTypes := #[T, Ts] }, ty, ps, af, g⟩ (fun _ w' => Set_ w w' B (byc (overlay c j s.data.toList)) TT) := fun a ha => by
  have hss : s.data.toList.length = s.size := by rw [Array.length_toList]; rfl
  have hdata : (s.data.map fun b => Value.int .u8 (b.toNat : Int)).toList = s.data.toList.map bv := by rw [Array.toList_map]; rfl
  cases hq : P.info? e with
  | none => simp [hq] at hs
  | some i =>
    have hi : i.size = 1 := by simpa [hq] using hs
    by_cases he : m = j
    · have h0 : s.size = 0 := by omega
      have hsl : s.data.toList = [] := List.eq_nil_of_length_eq_zero (by omega)
      refine ⟨goInt 0, w, ?_, by rw [hsl, overlay_nil]; exact Set_.same hb⟩
      have hx' := ha.ev hx
      simp only [Wx.sliceLo, he, if_true, Nat.sub_self] at hx'
      simp only [execOp, resolve, invoke, builtin, Sem.run_bind, Sem.run_pure, Result.andThen_ok, List.map_toArray, List.map_cons, List.map_nil, hx', ha.ev hy]
      simp [Builtin.copy_, run_underlying hT, Builtin.lenOf, Builtin.firstCells, sizeOf, typeInfo, hq, storeCells, Result.andThen, h0]
    · have hx' := ha.ev hx
      simp only [Wx.sliceLo, if_neg he] at hx'
      have hst := run_storeCells_at P B j TT (s.data.toList.map bv) 0 (byc c) w hb (by simp [byc_size, hc, hss]; omega) (fun v hv => by obtain ⟨b, _, rfl⟩ := List.mem_map.1 hv; rfl)
      have hmin : Nat.min s.size (m - j) = s.size := by rw [show Nat.min s.size (m - j) = min s.size (m - j) from rfl]; omega
      have e2 : ((byc c).toList.take (j + 0) ++ s.data.toList.map bv ++ (byc c).toList.drop (j + 0 + (s.data.toList.map bv).length)).toArray = byc (overlay c j s.data.toList) := by
        apply Array.ext'
        simp [byc, overlay, List.map_take, List.map_drop]
      rw [e2] at hst
      refine ⟨goInt s.size, w.setRow B (byc (overlay c j s.data.toList)), ?_, Set_.setRow hb⟩
      simp only [execOp, resolve, invoke, builtin, Sem.run_bind, Sem.run_pure, Result.andThen_ok, List.map_toArray, List.map_cons, List.map_nil, hx', ha.ev hy]
      have htk : List.take (s.size.min (m - j)) (s.data.toList.map (fun b => Value.int .u8 (b.toNat : Int))) = s.data.toList.map bv := by
        rw [hmin, List.take_of_length_le (by rw [List.length_map, hss]; exact Nat.le_refl _)]; rfl
      simp [Builtin.copy_, Builtin.lenOf, Builtin.firstCells, sizeOf, typeInfo, run_underlying hT, hq, Result.andThen]
      rw [htk, hst, hmin]
theorem REv.copyAll {T T2 e : TypeId} {x y : Operand} {B B2 m cp cp2 : Nat} {c c2 : List UInt8} {TT TT2 : TypeId} (hT : P.underlying T = some (.slice e)) (hs : (P.info? e).map (·.size) = some 1) (hx : Val l x (.slice (some ⟨B, 0, none⟩) m cp)) (hy : Val l y (.slice (some ⟨B2, 0, none⟩) m cp2)) (hb : Blk w B (byc c) TT) (hb2 : Blk w B2 (byc c2) TT2) (hc : c.length = m) (hc2 : c2.length = m) :
    REv P n ds l w ⟨d, .call { callee := .builtin .copy, args := #[x, y], argTypes := #[T, T2] }, ty, ps, af, g⟩ (fun _ w' => Set_ w w' B (byc c2) TT) := fun a ha => by
  have hr := run_copy_row (P := P) w T T2 ty e B 0 m cp ⟨B2, 0, none⟩ m cp2 (byc c) TT (c2.map bv) hT hs hb (by simp [hc2]) (fun j v hv => by
    rw [add_none, Nat.zero_add]
    exact hb2.cell (by simpa [byc] using hv)) (by simp [byc_size, hc, hc2]) (fun v hv => by obtain ⟨b, _, rfl⟩ := List.mem_map.1 hv; rfl)
  have e2 : ((byc c).toList.take 0 ++ c2.map bv ++ (byc c).toList.drop (0 + (c2.map bv).length)).toArray = byc c2 := by
    apply Array.ext'
    rw [List.drop_eq_nil_of_le (by simp [byc, hc, hc2])]
    simp [byc]
  rw [e2] at hr
  refine ⟨goInt ((c2.map bv).length : Nat), _, ?_, Set_.setRow hb⟩
  simp only [execOp, resolve, invoke, builtin, Sem.run_bind, Sem.run_pure, Result.andThen_ok, List.map_toArray, List.map_cons, List.map_nil, ha.ev hx, ha.ev hy, hr]
/-- a part of a content as a string -/
def strOf (c : List UInt8) (off m : Nat) : ByteArray := ⟨((c.drop off).take m).toArray⟩
theorem PEv.bytesStr {T Ts e : TypeId} {x : Operand} {B j m tot : Nat} {c : List UInt8} {TT : TypeId} (hT : P.underlying T = some (.slice e)) (he : P.underlying e = some (.int .u8)) (hTs : P.underlying Ts = some .string) (hx : Val l x (.slice (some (if tot = j then ⟨B, 0, none⟩ else ⟨B, j, none⟩)) m (tot - j))) (hb : Blk w B (byc c) TT) (hc : c.length = tot) (hj : j + m ≤ tot) :
    PEv P n ds l w ⟨d, .convert T Ts x, ty, ps, af, g⟩ (.string (strOf c j m)) := fun a w' ha hu => by
  refine run_v ?_
  rw [ha.ev hx]
  have hlen : ((c.drop j).take m).length = m := by simp; omega
  have hr := run_convert_bytes_back (P := P) w' T Ts e (if tot = j then ⟨B, 0, none⟩ else ⟨B, j, none⟩) (tot - j) ((c.drop j).take m) hT he hTs (fun q hq => by
    have hq' : q < m := by rw [hlen] at hq; exact hq
    have hne : tot ≠ j := by omega
    rw [if_neg hne, add_none]
    have hcq : c[j + q]? = some (((c.drop j).take m)[q]) := by
      rw [List.getElem_take, List.getElem_drop, List.getElem?_eq_getElem]
    exact cell_up (hb.cell (byc_get hcq)) hu)
  rw [hlen] at hr
  exact hr
theorem PEv.bytesStr0 {T Ts e : TypeId} {x : Operand} {B m cp : Nat} {c : List UInt8} {TT : TypeId} (hT : P.underlying T = some (.slice e)) (he : P.underlying e = some (.int .u8)) (hTs : P.underlying Ts = some .string) (hx : Val l x (.slice (some ⟨B, 0, none⟩) m cp)) (hb : Blk w B (byc c) TT) (hc : c.length = m) :
    PEv P n ds l w ⟨d, .convert T Ts x, ty, ps, af, g⟩ (.string ⟨c.toArray⟩) := fun a w' ha hu => by
  refine run_v ?_
  rw [ha.ev hx]
  have hr := run_convert_bytes_back (P := P) w' T Ts e ⟨B, 0, none⟩ cp c hT he hTs (fun q hq => by
    rw [add_none, Nat.zero_add]
    exact cell_up (hb.cell (byc_get (by simp [hq]))) hu)
  rw [hc] at hr
  exact hr
theorem PEv.strIndex {T : TypeId} {x ix : Operand} {s : ByteArray} {j : Nat} (hT : P.underlying T = some .string) (hx : Val l x (.string s)) (hi : Val l ix (.int .i64 (j : Int))) (hj : j < s.size) :
    PEv P n ds l w ⟨d, .index T x ix, ty, ps, af, g⟩ (bv (s.data.toList[j]'(by rw [Array.length_toList]; exact hj))) := fun a w' ha _ => by
  refine run_v ?_
  rw [ha.ev hx, ha.ev hi]
  have h1 : (0 : Int) ≤ (j : Int) := by omega
  have h2 : s[j]? = some (s.data.toList[j]'(by rw [Array.length_toList]; exact hj)) := by
    rw [getElem?_pos s j hj]
    rfl
  simp [Instr.index, asIntOf, run_underlying hT, Result.andThen, h1, h2, bv]
theorem PEv.eqlStr {T T' : TypeId} {x y : Operand} {a b : ByteArray} (hx : Val l x (.string a)) (hy : Val l y (.string b)) : PEv P n ds l w ⟨d, .binOp .eql T x y T', ty, ps, af, g⟩ (.bool (a.toList == b.toList)) := fun ac w' ha _ => by
  refine run_v ?_
  rw [ha.ev hx, ha.ev hy, Sem.run_bind]
  have : (eqGuard .eql T x y (.string a) (.string b)).run P w' = .ok () w' := by unfold eqGuard; rfl
  rw [this]
  show (binOp .eql T (.string a) (.string b)).run P w' = _
  rw [binOp_string_eql]; rfl
theorem PEv.neqStr {T T' : TypeId} {x y : Operand} {a b : ByteArray} (hx : Val l x (.string a)) (hy : Val l y (.string b)) : PEv P n ds l w ⟨d, .binOp .neq T x y T', ty, ps, af, g⟩ (.bool (!(a.toList == b.toList))) := fun ac w' ha _ => by
  refine run_v ?_
  rw [ha.ev hx, ha.ev hy, Sem.run_bind]
  have : (eqGuard .neq T x y (.string a) (.string b)).run P w' = .ok () w' := by unfold eqGuard; rfl
  rw [this]
  simp [binOp, Op.stringOp]
/-- the same slice, of no element -/
def cut0 : Value → Value
  | .slice ad _ c => .slice ad 0 c
  | v => v
theorem PEv.sliceCut0 {α : Type} {enc : α → Array Value} {T e e' : TypeId} {k b : Nat} {x : Operand} {v : Value} {xs : List α} {wo : World} (hT : P.underlying T = some (.slice e)) (hs : ∀ w, (sizeOf e).run P w = .ok k w) (hx : Val l x v) (ho : OwnS wo b e' k enc v xs) :
    PEv P n ds l w ⟨d, .slice T x none (some (.const (.int .i64 0))) none, ty, ps, af, g⟩ (cut0 v) := by
  obtain ⟨_, ⟨rfl, _⟩ | ⟨g', cap, cur, rfl, _⟩⟩ := ho
  · exact PEv.sliceHi (j := 0) hT hs hx (.const _) (Nat.zero_le _)
  · exact PEv.sliceHi (j := 0) hT hs hx (.const _) (Nat.zero_le _)
theorem REv.clearOwn {α : Type} {enc : α → Array Value} {T e : TypeId} {k : Nat} {x : Operand} {v z : Value} {xs : List α} (hT : P.underlying T = some (.slice e)) (hz : ∀ w, (zeroValue e).run P w = .ok z w) (hzs : z.cells.size = k) (h1 : z.cells.all (·.oneCell') = true) (hx : Val l x v) (ho : OwnS w 0 e k enc v xs) :
    REv P n ds l w ⟨d, .call { callee := .builtin .clear, args := #[x], argTypes := #[T] }, ty, ps, af, g⟩ (fun _ w' => Stp (aOwn e k enc v xs) (aOwn e k enc (cut0 v) ([] : List α)) w w') := fun a ha => by
  obtain ⟨hlen, ⟨rfl, hn⟩ | ⟨g', cap, cur, rfl, _, hg, hcap, hcm, hcs, htake⟩⟩ := ho
  · refine ⟨.tuple #[], w, ?_, Fr.refl _ _, (show OwnS w 0 e k enc (.slice none 0 0) ([] : List α) from OwnS.nil _ _ _ _ _), fun i h => .inl h⟩
    simp [execOp, resolve, invoke, builtin, ha.ev hx, Builtin.clear_, run_underlying hT, Result.andThen]
  · by_cases h0 : xs.length = 0
    · refine ⟨.tuple #[], w, ?_, Fr.refl _ _, (show OwnS w 0 e k enc (.slice (some ⟨g', 0, none⟩) 0 cap) ([] : List α) from ⟨by simp, .inr ⟨g', cap, cur, rfl, Nat.zero_le _, hg, Nat.zero_le _, hcm, hcs, by simp⟩⟩), fun i h => .inl h⟩
      simp [execOp, resolve, invoke, builtin, ha.ev hx, Builtin.clear_, run_underlying hT, Result.andThen, h0]
    · have hzc : (Builtin.zeroCells z.cells xs.length).size = xs.length * k := by rw [← hzs]; simp [Builtin.zeroCells]
      have hst := run_storeCells_at P g' 0 e (Builtin.zeroCells z.cells xs.length).toList 0 cur w hg (by rw [Array.length_toList, hzc, hcs]; have := Nat.mul_le_mul_right k hcap; omega) (fun u hu => by
        simp only [Builtin.zeroCells, Array.toList_map, List.mem_map] at hu
        obtain ⟨i, _, rfl⟩ := hu
        by_cases hk : z.cells.size = 0
        · have : z.cells = #[] := Array.eq_empty_of_size_eq_zero hk
          simp [this] at *
        · have hlt : i % z.cells.size < z.cells.size := Nat.mod_lt _ (by omega)
          rw [getElem!_pos z.cells _ hlt]
          exact Array.all_eq_true_iff_forall_mem.1 h1 _ (Array.getElem_mem hlt))
      refine ⟨.tuple #[], w.setRow g' (cur.toList.take (0 + 0) ++ (Builtin.zeroCells z.cells xs.length).toList ++ cur.toList.drop (0 + 0 + (Builtin.zeroCells z.cells xs.length).toList.length)).toArray, ?_, ⟨rfl, rfl, rfl, by simp, fun i hi hne => setRow_other w g' i _ (fun e => hne (by rw [e]; rfl))⟩, ?_, fun i h => .inl h⟩
      · obtain ⟨m, hm⟩ : ∃ m, xs.length = m + 1 := ⟨xs.length - 1, by omega⟩
        rw [hm] at hst ⊢
        simp [execOp, resolve, invoke, builtin, ha.ev hx, Builtin.clear_, run_underlying hT, Result.andThen, hz, hm]
        rw [hst]
        simp
      · show OwnS _ 0 e k enc (.slice (some ⟨g', 0, none⟩) 0 cap) ([] : List α)
        refine ⟨by simp, .inr ⟨g', cap, _, rfl, Nat.zero_le _, setRow_heap w g' cur _ e (0, 0) hg, Nat.zero_le _, hcm, ?_, by simp⟩⟩
        have hle : xs.length * k ≤ cur.size := by rw [hcs]; exact Nat.mul_le_mul_right k hcap
        simp only [List.size_toArray, List.length_append, List.length_take, List.length_drop, Array.length_toList, hzc]
        omega
/-- some cells of a block behind one another -/
def setFrom (old : Array Value) (o : Nat) (cs : List Value) : Array Value := (old.toList.take o ++ cs ++ old.toList.drop (o + cs.length)).toArray
theorem SEv.storePart {T TT : TypeId} {x y : Operand} {B k o : Nat} {cs old : Array Value} (hs : ∀ w, (sizeOf T).run P w = .ok k w) (hk : cs.size = k) (hx : Val l x (.pointer (some ⟨B, o, none⟩))) (hy : Val l y (.agg cs)) (h1 : cs.all (·.oneCell') = true) (hb : Blk w B old TT) (ho : o + cs.size ≤ old.size) :
    SEv P n ds l w ⟨none, .store T x y, ty, ps, af, g⟩ (fun w' => Set_ w w' B (setFrom old o cs.toList) TT) := fun a ha => by
  have hst := run_storeCells_at P B o TT cs.toList 0 old w hb (by rw [Array.length_toList]; omega) (fun v hv => (Array.all_eq_true_iff_forall_mem.1 h1) v (by simpa using hv))
  refine ⟨w.setRow B (setFrom old o cs.toList), run_u ?_, Set_.setRow hb⟩
  rw [ha.ev hx, ha.ev hy]
  simp only [Instr.storeAt, Instr.sureAddr, Sem.run_bind, Sem.run_pure, Result.andThen, storeVar, hs, Value.cells]
  rw [Nat.add_zero] at hst
  simp only [hk, setFrom]
  rw [if_neg (by simp), hst]
theorem PEv.tr {o : Oper} {b : Bool} (h : PEv P n ds l w o (.bool b)) (e : b = true) : PEv P n ds l w o (.bool true) := e ▸ h
theorem PEv.fa {o : Oper} {b : Bool} (h : PEv P n ds l w o (.bool b)) (e : b = false) : PEv P n ds l w o (.bool false) := e ▸ h
theorem PEv.addN {T T' : TypeId} {x y : Operand} {i j : Nat} (hx : Val l x (.int .i64 (i : Int))) (hy : Val l y (.int .i64 (j : Int))) (h : i + j < 9223372036854775807) : PEv P n ds l w ⟨d, .binOp .add T x y T', ty, ps, af, g⟩ (.int .i64 ((i + j : Nat) : Int)) := by
  have := PEv.add (P := P) (n := n) (ds := ds) (l := l) (w := w) (d := d) (ty := ty) (ps := ps) (af := af) (g := g) (T := T) (T' := T') hx hy (by omega) (by omega)
  rw [Int.natCast_add]; exact this
theorem PEv.min2N {x y : Operand} {ts : Array TypeId} {i j : Nat} (hx : Val l x (.int .i64 (i : Int))) (hy : Val l y (.int .i64 (j : Int))) :
    PEv P n ds l w ⟨d, .call { callee := .builtin .min, args := #[x, y], argTypes := ts }, ty, ps, af, g⟩ (.int .i64 ((min i j : Nat) : Int)) := by
  have := PEv.min2 (P := P) (n := n) (ds := ds) (l := l) (w := w) (d := d) (ty := ty) (ps := ps) (af := af) (g := g) (ts := ts) hx hy
  have e : (if (j : Int) < (i : Int) then (j : Int) else (i : Int)) = ((min i j : Nat) : Int) := by split <;> omega
  rw [e] at this; exact this
theorem PEv.negI {T : TypeId} {x : Operand} {i : Int} (hx : Val l x (.int .i64 i)) (h1 : -9223372036854775808 ≤ -i) (h2 : -i ≤ 9223372036854775807) : PEv P n ds l w ⟨d, .unOp .neg T x, ty, ps, af, g⟩ (.int .i64 (-i)) := fun a w' ha _ => by
  refine run_v ?_
  rw [ha.ev hx]
  simp [Op.unary, Op.intArith, wrap_i64_in h1 h2]
theorem PEv.remN {T T' : TypeId} {x : Operand} {i j : Nat} (hx : Val l x (.int .i64 (i : Int))) (h0 : j ≠ 0) : PEv P n ds l w ⟨d, .binOp .rem T x (.const (.int .i64 (j : Int))) T', ty, ps, af, g⟩ (.int .i64 ((i % j : Nat) : Int)) := by
  have := PEv.rem (P := P) (n := n) (ds := ds) (l := l) (w := w) (d := d) (ty := ty) (ps := ps) (af := af) (g := g) (T := T) (T' := T') hx (.const (.int .i64 (j : Int))) (by omega)
  rw [show ((i : Int).tmod (j : Int)) = ((i % j : Nat) : Int) from rfl] at this
  exact this
theorem PEv.toByte {T T' : TypeId} {x : Operand} {i : Nat} (hT : (P.underlying T).isSome = true) (hT' : P.underlying T' = some (.int .u8)) (hx : Val l x (.int .i64 (i : Int))) : PEv P n ds l w ⟨d, .convert T T' x, ty, ps, af, g⟩ (bv (UInt8.ofNat i)) := fun a w' ha _ => by
  refine run_v ?_
  rw [ha.ev hx]
  have e : IntKind.u8.wrap (i : Int) = ((UInt8.ofNat i).toNat : Int) := by
    rw [IntKind.wrap_u8, UInt8.toNat_ofNat']
    omega
  have hk : P.intKind T' = .u8 := by simp [Program.intKind, hT']
  have := run_convert_int (P := P) (w := w') T T' .i64 (i : Int) hT (by rw [hk]; exact hT')
  rw [hk, e] at this
  exact this
end
end Go.Wx
