/-
  x[a:b] of a slice; the bytes of any slice as a string. Nothing of any program stands here.
-/
import Derived.Test.YthfjagphcekcbaaGreatBu
import Derived.Test.YthfjagphcekcbaaGreatBt
import Derived.Test.YthfjagphcekcbaaGreatSx
namespace Go.Wx
open Go.RowKit
section
variable {P : Program} {n : Nat} {ds : List Deferred} {l : Env} {w : World} {d : Option Tmp} {ty : TypeId} {ps : String} {af : Array Edge} {g : Option (Nat × Bool)}
theorem PEv.sliceLH {T e : TypeId} {x lo hi : Operand} {ad : Option Addr} {k m cap i j : Nat} (hT : P.underlying T = some (.slice e)) (hs : ∀ w, (sizeOf e).run P w = .ok k w) (hx : Val l x (.slice ad m cap)) (hl : Val l lo (.int .i64 (i : Int))) (hh : Val l hi (.int .i64 (j : Int))) (hij : i ≤ j) (hj : j ≤ cap) :
    PEv P n ds l w ⟨d, .slice T x (some lo) (some hi) none, ty, ps, af, g⟩ (.slice (if cap = i then ad else ad.map (·.add (i * k))) (j - i) (cap - i)) := fun a w' ha _ => by
  refine run_v ?_
  rw [ha.ev hx]
  simp only [Option.map_none, Option.map_some, ha.ev hl, ha.ev hh]
  simp [Instr.sliceAt, Instr.slice, Instr.sliceBounds, Instr.sliceBound, asIntOf, run_underlying hT, Result.andThen, hs, hij, hj]
theorem Els.part {α : Type} {enc : α → Array Value} {ad : Option Addr} {k cap i j : Nat} {xs : List α} (h : Els w ad k enc xs) (hij : i ≤ j) (hj : j ≤ xs.length) (hc : xs.length ≤ cap) : Sl w (.slice (if cap = i then ad else ad.map (·.add (i * k))) (j - i) (cap - i)) k enc ((xs.drop i).take (j - i)) := by
  obtain ⟨ad', c, e, hE⟩ := Els.drop (j := i) h hc
  injection e with e1 e2 e3
  subst e1; subst e3
  exact ⟨_, _, by rw [List.length_take, List.length_drop, Nat.min_eq_left (by omega)], Els.take hE⟩
theorem PEv.elsStr {T Ts e : TypeId} {x : Operand} {v : Value} {bs : List UInt8} (hT : P.underlying T = some (.slice e)) (he : P.underlying e = some (.int .u8)) (hTs : P.underlying Ts = some .string) (hx : Val l x v) (hS : Sl w v 1 eBy bs) :
    PEv P n ds l w ⟨d, .convert T Ts x, ty, ps, af, g⟩ (.string ⟨bs.toArray⟩) := fun a w' ha hu => by
  refine run_v ?_
  rw [ha.ev hx]
  obtain ⟨ad, c, rfl, hE⟩ := hS
  cases ad with
  | none =>
    have hbs : bs = [] := by
      cases bs with
      | nil => rfl
      | cons b r => obtain ⟨B, o, e, _⟩ := hE 0 b rfl; cases e
    subst hbs
    exact run_convert_bytes_nil (P := P) w' T e hT he 0 c Ts hTs
  | some a0 =>
    refine run_convert_bytes_back (P := P) w' T Ts e a0 c bs hT he hTs (fun q hq => ?_)
    obtain ⟨B, o, e, hc⟩ := hE q bs[q] (List.getElem?_eq_getElem hq)
    cases e
    rw [add_none]
    have := hc 0 (bv bs[q]) rfl
    simp only [Nat.mul_one, Nat.add_zero] at this
    exact cell_up this hu
end
theorem own_bytes {w : World} {B n : Nat} {c : List UInt8} {e : TypeId} (hb : Blk w B (byc c) e) (hc : c.length = n) (hn : n ≤ maxLen) : OwnS w 0 e 1 eBy (.slice (some ⟨B, 0, none⟩) n n) c := by
  subst hc
  refine ⟨by rw [flat_length _ 1 (fun _ => rfl)], .inr ⟨B, c.length, byc c, rfl, Nat.zero_le _, hb, Nat.le_refl _, hn, by rw [byc_size, Nat.mul_one], ?_⟩⟩
  rw [flat_eBy, Nat.mul_one]
  simp [byc, List.take_of_length_le]
theorem Sep.addn {α : Type} {S0 : Nat → Prop} {w0 w : World} {As : List Asr} {e k : Nat} {enc : α → Array Value} (h : Sep S0 w0 w As) (ho : OwnS w 0 e k enc (.slice none 0 0) ([] : List α)) : Sep S0 w0 w (As ++ [aOwn e k enc (.slice none 0 0) ([] : List α)]) := h.add (Up.refl _) ho (fun i h => by cases h)
theorem Sep.perm {S0 : Nat → Prop} {w0 w : World} {As Bs : List Asr} (h : Sep S0 w0 w As) (p : As.Perm Bs) : Sep S0 w0 w Bs := ⟨h.fr, fun B hB => h.each B (p.mem_iff.2 hB), (p.pairwise_iff (fun {_ _} hAB i hi hj => hAB i hj hi)).1 h.apart⟩
theorem Sep.pick4 {S0 : Nat → Prop} {w0 w : World} {A B C D E : Asr} (h : Sep S0 w0 w [A, B, C, D, E]) : Sep S0 w0 w ([A, D, E] ++ []) := h.sub (by simp)
theorem Sep.pick5 {S0 : Nat → Prop} {w0 w : World} {A B C D E : Asr} (h : Sep S0 w0 w [A, B, C, D, E]) : Sep S0 w0 w ([A, B, E] ++ []) := h.sub (by simp)
theorem OwnS.elB {α : Type} {enc : α → Array Value} {b k n cp : Nat} {e : TypeId} {w : World} {ad : Option Addr} {xs : List α} (h : OwnS w b e k enc (.slice ad n cp) xs) (hk : ∀ x, (enc x).size = k) : Els w ad k enc xs := by
  obtain ⟨ad', c, e1, hE⟩ := h.sl hk
  cases e1
  exact hE
theorem OwnS.adr {α : Type} {enc : α → Array Value} {b k n cp : Nat} {e : TypeId} {w : World} {ad : Option Addr} {xs : List α} (h : OwnS w b e k enc (.slice ad n cp) xs) (hne : 0 < xs.length) : ∃ g, ad = some ⟨g, 0, none⟩ := by
  obtain ⟨_, ⟨e1, e2⟩ | ⟨g, cap, cur, e1, _⟩⟩ := h
  · omega
  · cases e1; exact ⟨g, rfl⟩
end Go.Wx
