import Derived.Test.YtgjogglfnkgapaaGreatDoorKR19
import Derived.Lib.Bytealg
namespace Go.Wx
open Go.RowKit
def PhU (q : Ph) : Prop := ∀ v w w', q.holds v w → Up w w' → q.holds v w'
theorem PhU.eq (v : Value) : PhU (.eq v) := fun _ _ _ h _ => h
theorem PhU.pred {p : Value → World → Prop} (h : ∀ v w w', p v w → Up w w' → p v w') : PhU (.pred p) := h
def allU : List Ph → Prop
 | [] => True
 | q :: r => PhU q ∧ allU r
theorem allU.at : ∀ {l : List Ph}, allU l → ∀ i, PhU (l.getD i (.eq undef))
 | [], _, _ => by simpa using PhU.eq undef
 | _ :: _, h, 0 => by simpa using h.1
 | _ :: _, h, i + 1 => by simpa using allU.at h.2 i
section
variable {R : Option Nat} {m : Nat} {P : Program} {n : Nat} {ds : List Deferred} {Q : Exit → Go.Act → World → Prop} {l : Env} {w : World} {ops : Array Oper}
theorem Ht {id : Nat} {opsL : List Oper} (k : Nat) (phs : List Ph) (keep : List Nat) (hm : P.follows .mixedOrders = true) (hl : Cf l = true)
   (hA : D7 opsL.toArray = true) (hC : (Nat.beq k opsL.toArray.size || Fh opsL.toArray k) = true) (hF : Jl opsL.toArray k = true) (hks : Nat.ble k opsL.toArray.size = true) (hD : G2 n opsL.toArray 0 k = true) (hTl : G0 opsL.toArray k = true)
   (hfree : Kr l (opsL.take k) = true) (hph : allU phs)
   (hop : ∀ W, Up w.drew W → allL (fun i o => o.guard = none ∧ TU P n ds (Ml opsL.toArray (fun i => phs.getD i (.eq undef)) 0 o ++ l) W o (phs.getD i (.eq undef))) 0 (opsL.take k))
   (hend : ∀ W (g : Nat → Value), Up w.drew W → (∀ i o d, i < k → opsL[i]? = some o → o.dst = some d → (phs.getD i (.eq undef)).holds (g d) W) → LW R m P n ds opsL.toArray Q (opsL.drop k) (keep.map (fun d => (d, .eq (g d))) ++ l) W) :
   CW R m P n ds (.region id opsL.toArray true) Q l w := by
 have hks' : k ≤ opsL.length := by have := Nat.le_of_ble_eq_true hks; simp at this; omega
 have sub : ∀ j o, j < k → opsL.toArray[j]? = some o → (opsL.take k)[j]? = some o := fun j o hjk ho => by
   rw [List.getElem?_take_of_lt hjk]; simpa using ho
 have hbd : ∀ i ph, lk l i = some ph → ∀ (j : Nat) (o : Oper), 0 ≤ j → j < k → opsL.toArray[j]? = some o → o.dst ≠ some i := fun i ph hi j o _ hjk ho => Gu hfree hi (List.mem_of_getElem? (sub j o hjk ho))
 refine Fl hm hl fun fuel listed a hf hu ha => (Jm (k := k) (fun i => phs.getD i (.eq undef)) Up (fun _ _ _ => True) (f0 := fun t => a.tmps.getD t undef) Up.refl (fun _ _ _ => Up.trans) (fun i v w w' h u => (hph.at i) v w w' h u) hA hC hF hks (by simp) hD hl hbd ?_ trivial ?_ fuel listed a hf hu ha (fun _ => rfl))
 · intro i o _ hi hio L f W hU hDn hLi hed _ a ha hsl
   have h3 := (hop W hU).at (sub i o hi hio)
   rw [Nat.zero_add] at h3
   obtain ⟨hg, h3⟩ := h3
   rw [if_pos (by simp [Region.wanted, hg])]
   have done : ∀ v W', Up W W' ∧ (phs.getD i (.eq undef)).holds v W' → Up W W' ∧ (∀ d, o.dst = some d → (phs.getD i (.eq undef)).holds v W') ∧ True := fun v W' h => ⟨h.1, fun _ _ => h.2, trivial⟩
   rcases h3 a ha with ⟨v, W', hr, hp⟩ | ⟨fn, args, w1, hr, hc⟩
   · exact .inl (.inl ⟨v, W', hr, done v W' hp⟩)
   exact .inl (.inr ⟨fn, args, w1, hr, hc.mono done⟩)
 intro f W hUp _ fuel' listed' a' hf' hu' ha' hsl'
 have key : ∀ i o d, i < k → opsL[i]? = some o → o.dst = some d → (phs.getD i (.eq undef)).holds (f d) W := by
   intro i o d hik ho hd
   have ho' : opsL.toArray[i]? = some o := by simpa using ho
   have hmem : (d, phs.getD i (.eq undef)) ∈ He opsL.toArray (fun i => phs.getD i (.eq undef)) 0 k := by
     unfold He
     rw [List.mem_filterMap]
     exact ⟨i, List.mem_range.2 hik, by rw [if_pos (by simp), ho']; simp [hd]⟩
   obtain ⟨q', hq⟩ := Hf hmem
   obtain ⟨j, p, _, hjk, hp, hpd, e⟩ := Fo hq
   have : j = i := by
     by_cases ee : j = i
     · exact ee
     exact absurd hpd ((Dk hD (Nat.zero_le _) hik ho' hd).2 j p (Nat.zero_le _) hjk ee hp)
   subst this
   have := ha'.val d q' (Ks hq)
   rw [hsl', e] at this
   exact this
 refine Fm hTl hA (opsL.toArray.size - k) k fuel' listed' a' W rfl (by simp; omega) (Nat.le_refl _) hf' hu' (hend W f hUp key a' ⟨ha'.defers, ha'.size, fun t q ht => ?_⟩)
 rcases Cy ht with h | h
 · obtain ⟨d, _, he⟩ := List.mem_map.1 (Kq h)
   cases he
   exact hsl' _
 refine ha'.val t q ?_
 rw [Ge]
 · exact h
 cases hq : lk (He opsL.toArray (fun i => phs.getD i (.eq undef)) 0 k) t with
 | none => rfl
 | some q' =>
   obtain ⟨j, p, _, hjk, hp, hpd, _⟩ := Fo hq
   exact absurd hpd (hbd t q h j p (Nat.zero_le _) hjk hp)
end
section
variable {P : Program} {n : Nat} {ds : List Deferred} {l : Env} {w : World} {d : Option Tmp} {ty : TypeId} {ps : String} {af : Array Edge} {g : Option (Nat × Bool)}
theorem PEv.nC {S i : Nat} {x : Operand} {fs : Array Field} {f : Field} {off : Nat} {cs : Array Value} {v : Value} (hS : P.underlying S = some (.struct fs)) (hf : fs[i]? = some f) (ho : f.offset = off) (hA : ∀ w, (isAgg f.type).run P w = .ok false w) (hx : Val l x (.agg cs)) (hv : cs[off]? = some v) :
   PEv P n ds l w ⟨d, .field S x i, ty, ps, af, g⟩ v := fun a w' ha _ => by
 refine Cm ?_
 rw [ha.ev hx]
 simp [Instr.field, run_underlying hS, Sem.run_bind, hf, asAgg, part, hA, ho, hv, Result.andThen]
theorem Uj {f : FuncId} {fn : Func} (hf : P.funcs[f]? = some fn) (h1 : (fn.name == "runtime.NumGoroutine") = false) (h2 : fn.body.isNone = true) (h3 : Extern.findNext fn = none) (h4 : Extern.find fn = some Extern.BytealgCompare.compare) (a b : ByteArray) (w : World) :
   (callFunc f [.string a, .string b].toArray).run P w = .ok (.value (vi (Lib.compareBytes a.data.toList b.data.toList))) w := by
 rw [run_callFunc_extern hf h1 h2 h3 h4]
 have := Lib.run_compareString (P := P) a b w
 show (Sem.run P (Extern.BytealgCompare.compare #[.string a, .string b]) w).andThen _ = _
 rw [this]
 rfl
end
end Go.Wx
namespace Go.Wx
abbrev K2 := Int × Int
def Hu (a b : K2) : Bool := decide (a.1 < b.1) || (decide (a.1 = b.1) && decide (a.2 < b.2))
theorem Q4 {a b : K2} : Hu a b = true ↔ a.1 < b.1 ∨ (a.1 = b.1 ∧ a.2 < b.2) := by simp [Hu]
theorem Kt {a b : K2} : Hu a b = false ↔ ¬ (a.1 < b.1 ∨ (a.1 = b.1 ∧ a.2 < b.2)) := by rw [← Q4]; simp
theorem Kv (a : K2) : Hu a a = false := by rw [Kt]; omega
theorem J5 {a b c : K2} (h : Hu b a = false) (k : Hu c b = false) : Hu c a = false := by rw [Kt] at *; omega
theorem Pk {a b : K2} (h : Hu a b = true) : Hu b a = false := by rw [Q4] at h; rw [Kt]; omega
theorem Wt {a b c : K2} (h : Hu a b = true) (k : Hu c b = false) : Hu a c = true := by rw [Q4] at *; rw [Kt] at k; omega
theorem fN {a b c : K2} (h : Hu b a = false) (k : Hu b c = true) : Hu a c = true := by rw [Q4] at *; rw [Kt] at h; omega
theorem yZ {a b : K2} (h : Hu a b = false) (k : Hu b a = false) : a = b := by rw [Kt] at *; exact Prod.ext oQ oQ
theorem bH {a b : K2} (h : Hu a b = true) : a ≠ b := fun e => by rw [e, Kv] at h; cases h
section
variable {α : Type} (key : α → K2)
def Iv (l : List α) : Prop := l.Pairwise fun x y => Hu (key y) (key x) = false
def sameF (l s : List α) : Prop := ∀ k, s.filter (fun x => key x == k) = l.filter (fun x => key x == k)
structure StS (l s : List α) : Prop where
 ord : Iv key s
 same : sameF key l s
end
section
variable {α : Type} {key : α → K2}
theorem sameF.refl (l : List α) : sameF key l l := fun _ => rfl
theorem sameF.trans {a b c : List α} (h : sameF key a b) (k : sameF key b c) : sameF key a c := fun x => (k x).trans (h x)
theorem sameF.jC {a b c d : List α} (h : sameF key a b) (k : sameF key c d) : sameF key (a ++ c) (b ++ d) := fun x => by rw [List.filter_append, List.filter_append, h x, k x]
theorem sameF.mem {a b : List α} (h : sameF key a b) (x : α) : x ∈ b ↔ x ∈ a := by
 have := h (key x)
 have e : ∀ l : List α, x ∈ l.filter (fun y => key y == key x) ↔ x ∈ l := fun l => by rw [List.mem_filter]; simp
 rw [← e b, ← e a, this]
theorem sameF.swap {U V : List α} (h : ∀ u ∈ U, ∀ v ∈ V, key u ≠ key v) : sameF key (U ++ V) (V ++ U) := fun k => by
 rw [List.filter_append, List.filter_append]
 by_cases e : U.filter (fun x => key x == k) = []
 · rw [e]; simp
 have e2 : V.filter (fun x => key x == k) = [] := by
   rw [List.filter_eq_nil_iff]
   intro v hv hk
   apply e
   rw [List.filter_eq_nil_iff]
   intro u hu hk2
   exact h u hu v hv ((eq_of_beq hk2).trans (eq_of_beq hk).symm)
 rw [e2]; simp
theorem sameF.perm : ∀ {a b : List α}, sameF key a b → b.Perm a
 | [], b, h => by
   have : b = [] := by
     cases b with
     | nil => rfl
     | cons x b => exact absurd ((h.mem x).1 List.mem_cons_self) (by simp)
   rw [this]
 | x :: a, b, h => by
   have hx : x ∈ b := (h.mem x).2 List.mem_cons_self
   -- the first of b with the key of x is x itself
   have hf := h (key x)
   rw [List.filter_cons, if_pos (by simp)] at hf
   obtain ⟨p, q, e, hp⟩ : ∃ p q, b = p ++ x :: q ∧ ∀ y ∈ p, key y ≠ key x := by
     clear hx
     induction b with
     | nil => simp at hf
     | cons y b ih =>
       by_cases hy : key y = key x
       · rw [List.filter_cons, if_pos (by simp [hy])] at hf
         injection hf with h1 h2
         subst h1
         exact ⟨[], b, rfl, by simp⟩
       rw [List.filter_cons, if_neg (by simp [hy])] at hf
       have : ∃ p q, b = p ++ x :: q ∧ ∀ y ∈ p, key y ≠ key x := by
         clear ih h
         induction b with
         | nil => simp at hf
         | cons z b ih =>
           by_cases hz : key z = key x
           · rw [List.filter_cons, if_pos (by simp [hz])] at hf
             injection hf with h1 h2
             subst h1
             exact ⟨[], b, rfl, by simp⟩
           rw [List.filter_cons, if_neg (by simp [hz])] at hf
           obtain ⟨p, q, e, hp⟩ := ih hf
           exact ⟨z :: p, q, by rw [e]; rfl, fun w hw => by
             rcases List.mem_cons.1 hw with rfl | hw
             · exact hz
             exact hp w hw⟩
       obtain ⟨p, q, e, hp⟩ := this
       exact ⟨y :: p, q, by rw [e]; rfl, fun w hw => by
         rcases List.mem_cons.1 hw with rfl | hw
         · exact hy
         exact hp w hw⟩
   subst e
   have h2 : sameF key a (p ++ q) := fun k => by
     have := h k
     by_cases hk : key x = k
     · subst hk
       have ep : p.filter (fun y => key y == key x) = [] := by rw [List.filter_eq_nil_iff]; intro y hy e; exact hp y hy (eq_of_beq e)
       simp only [List.filter_append, List.filter_cons, beq_self_eq_true, if_true, ep, List.nil_append, List.cons.injEq, true_and] at this ⊢
       exact this
     have hk' : (key x == k) = false := by simpa using hk
     simpa only [List.filter_append, List.filter_cons, hk', Bool.false_eq_true, if_false] using this
   exact List.perm_middle.trans ((sameF.perm h2).cons x)
theorem sameF.length {a b : List α} (h : sameF key a b) : b.length = a.length := h.perm.length_eq
theorem StS.unique : ∀ {l s t : List α}, StS key l s → StS key l t → s = t
 | l, [], [], _, _ => rfl
 | l, [], y :: t, h, k => by have := h.same.length.trans k.same.length.symm; simp at this
 | l, x :: s, [], h, k => by have := h.same.length.trans k.same.length.symm; simp at this
 | l, x :: s, y :: t, h, k => by
   have hx := (List.pairwise_cons.1 h.ord)
   have hy := (List.pairwise_cons.1 k.ord)
   have mx : x ∈ y :: t := (k.same.mem x).2 ((h.same.mem x).1 List.mem_cons_self)
   have my : y ∈ x :: s := (h.same.mem y).2 ((k.same.mem y).1 List.mem_cons_self)
   have a1 : Hu (key x) (key y) = false := by
     rcases List.mem_cons.1 mx with e | e
     · rw [e]; exact Kv _
     exact hy.1 x e
   have a2 : Hu (key y) (key x) = false := by
     rcases List.mem_cons.1 my with e | e
     · rw [e]; exact Kv _
     exact hx.1 y e
   have ek := yZ a1 a2
   have hf := (h.same (key x)).trans (k.same (key x)).symm
   rw [List.filter_cons, if_pos (by simp), List.filter_cons, if_pos (by simp [ek])] at hf
   injection hf with h1 h2
   subst h1
   have hst : sameF key t s := fun q => by
     have := (h.same q).trans (k.same q).symm
     simp only [List.filter_cons] at this
     split at this
     · injection this
     exact this
   rw [StS.unique (l := t) ⟨hx.2, hst⟩ ⟨hy.2, sameF.refl t⟩]
theorem StS.refl {l : List α} (h : Iv key l) : StS key l l := ⟨h, sameF.refl l⟩
theorem StS.put {A : List α} {x : α} {j : Nat} (hA : Iv key A) (hj : ∀ y ∈ A.drop j, Hu (key x) (key y) = true) (hl : ∀ y ∈ A.take j, Hu (key x) (key y) = false) : StS key (A ++ [x]) (A.take j ++ x :: A.drop j) := by
 have h := List.pairwise_append.1 (show (A.take j ++ A.drop j).Pairwise fun x y => Hu (key y) (key x) = false by rw [List.take_append_drop]; exact hA)
 refine ⟨List.pairwise_append.2 ⟨h.1, List.pairwise_cons.2 ⟨fun y hy => Pk (hj y hy), h.2.1⟩, fun a ha b hb => ?_⟩, ?_⟩
 · rcases List.mem_cons.1 hb with rfl | hb
   · exact hl a ha
   exact h.2.2 a ha b hb
 have := (sameF.refl (key := key) (A.take j)).jC (sameF.swap (key := key) (U := A.drop j) (V := [x]) (fun u hu v hv => by
   simp at hv; subst hv
   exact fun e => bH (hj u hu) e.symm))
 rw [← List.append_assoc, List.take_append_drop] at this
 simpa using this
theorem nD {A : List α} {x : α} {j : Nat} (hA : Iv key A) (hj : ∀ y ∈ A.take j, Hu (key y) (key x) = true) (hl : ∀ y ∈ A.drop j, Hu (key y) (key x) = false) : StS key (x :: A) (A.take j ++ x :: A.drop j) := by
 have h := List.pairwise_append.1 (show (A.take j ++ A.drop j).Pairwise fun x y => Hu (key y) (key x) = false by rw [List.take_append_drop]; exact hA)
 refine ⟨List.pairwise_append.2 ⟨h.1, List.pairwise_cons.2 ⟨hl, h.2.1⟩, fun a ha b hb => ?_⟩, ?_⟩
 · rcases List.mem_cons.1 hb with rfl | hb
   · exact Pk (hj a ha)
   exact h.2.2 a ha b hb
 have := (sameF.swap (key := key) (U := [x]) (V := A.take j) (fun u hu v hv => by
   simp at hu; subst hu
   exact fun e => bH (hj v hv) e.symm)).jC (sameF.refl (key := key) (A.drop j))
 rw [List.append_assoc, List.append_assoc, List.take_append_drop] at this
 simpa using this
theorem bI {L1 U V R2 X Y : List α} (hL : Iv key (L1 ++ U)) (hR : Iv key (V ++ R2)) (h1 : ∀ x ∈ L1, ∀ y ∈ R2, Hu (key y) (key x) = false) (h2 : ∀ v ∈ V, ∀ u ∈ U, Hu (key v) (key u) = true)
   (hX : StS key (L1 ++ V) X) (hY : StS key (U ++ R2) Y) : StS key (L1 ++ U ++ (V ++ R2)) (X ++ Y) := by
 refine ⟨List.pairwise_append.2 ⟨hX.ord, hY.ord, fun x hx y hy => ?_⟩, ?_⟩
 · have hx := (hX.same.mem x).1 hx
   have hy := (hY.same.mem y).1 hy
   have a := (List.pairwise_append.1 hL).2.2
   have b := (List.pairwise_append.1 hR).2.2
   rcases List.mem_append.1 hx with hx | hx <;> rcases List.mem_append.1 hy with hy | hy
   · exact a x hx y hy
   · exact h1 x hx y hy
   · exact Pk (h2 x hx y hy)
   exact b x hx y hy
 have s1 : sameF key (U ++ V) (V ++ U) := sameF.swap fun u hu v hv e => bH (h2 v hv u hu) e.symm
 have s2 := ((sameF.refl (key := key) L1).jC s1).jC (sameF.refl (key := key) R2)
 have s3 := hX.same.jC hY.same
 intro k
 have a := s3 k
 have b := s2 k
 simp only [List.filter_append, List.append_assoc] at a b ⊢
 rw [a, b]
end
section
variable {α : Type}
def C3 (xs : List α) (a b : Nat) : List α := (xs.take b).drop a
theorem Cj {xs : List α} {a b : Nat} (hb : b ≤ xs.length) : (C3 xs a b).length = b - a := by simp [C3]; omega
theorem Gj {xs : List α} {a b i : Nat} (h : a + i < b) : (C3 xs a b)[i]? = xs[a + i]? := by simp [C3, List.getElem?_drop, h]
theorem F8 {xs : List α} {a m b : Nat} (h1 : a ≤ m) (h2 : m ≤ b) (hb : b ≤ xs.length) : C3 xs a b = C3 xs a m ++ C3 xs m b := by
 unfold C3
 have : xs.take b = xs.take m ++ (xs.take b).drop m := by
   conv => lhs; rw [← List.take_append_drop m (xs.take b)]
   rw [List.take_take, Nat.min_eq_left h2]
 rw [this, List.drop_append]
 have e : a - (xs.take m).length = 0 := by simp; omega
 rw [e, List.drop_zero, ← this]
theorem sU {xs : List α} : C3 xs 0 xs.length = xs := by simp [C3]
theorem F9 {xs : List α} {a b : Nat} (h : b ≤ a) : C3 xs a b = [] := by
 unfold C3
 rw [List.drop_eq_nil_iff]
 simp; omega
theorem fO {xs : List α} {a b : Nat} (h1 : a ≤ b) (hb : b ≤ xs.length) : xs = xs.take a ++ C3 xs a b ++ xs.drop b := by
 have h := F8 (xs := xs) (a := 0) (m := a) (b := b) (Nat.zero_le _) h1 hb
 have e1 : C3 xs 0 a = xs.take a := by simp [C3]
 have e2 : C3 xs 0 b = xs.take b := by simp [C3]
 rw [e1, e2] at h
 rw [← h, List.take_append_drop]
def E7 (xs : List α) (a b : Nat) (ys : List α) : List α := xs.take a ++ ys ++ xs.drop b
theorem Dy {xs ys : List α} {a b : Nat} (h1 : a ≤ b) (hb : b ≤ xs.length) (hy : ys.length = b - a) : (E7 xs a b ys).length = xs.length := by simp [E7]; omega
theorem G5 {xs : List α} {a b : Nat} (h1 : a ≤ b) (hb : b ≤ xs.length) : E7 xs a b (C3 xs a b) = xs := (fO h1 hb).symm
theorem Fp {xs ys : List α} {a b : Nat} (h1 : a ≤ b) (hb : b ≤ xs.length) (hy : ys.length = b - a) (i : Nat) : (E7 xs a b ys)[i]? = if i < a then xs[i]? else if i < b then ys[i - a]? else xs[i]? := by
 unfold E7
 by_cases h : i < a
 · rw [if_pos h, List.append_assoc, List.getElem?_append_left (by simp; omega), List.getElem?_take, if_pos h]
 rw [if_neg h]
 by_cases h2 : i < b
 · rw [if_pos h2, List.getElem?_append_left (by simp; omega), List.getElem?_append_right (by simp; omega)]
   congr 1; simp; omega
 rw [if_neg h2, List.getElem?_append_right (by simp; omega), List.getElem?_drop]
 congr 1; simp; omega
theorem fP {xs ys : List α} {a b : Nat} (h1 : a ≤ b) (hb : b ≤ xs.length) (hy : ys.length = b - a) : C3 (E7 xs a b ys) a b = ys := by
 apply List.ext_getElem?
 intro i
 by_cases h : a + i < b
 · rw [Gj h, Fp h1 hb hy, if_neg oQ, if_pos h]; congr 1; omega
 rw [List.getElem?_eq_none (by rw [Cj (by rw [Dy h1 hb hy]; exact hb)]; omega), List.getElem?_eq_none (by omega)]
theorem E4 {xs ys : List α} {a b c d : Nat} (h1 : a ≤ b) (hb : b ≤ xs.length) (hy : ys.length = b - a) (h : d ≤ a ∨ b ≤ c) : C3 (E7 xs a b ys) c d = C3 xs c d := by
 apply List.ext_getElem?
 intro i
 unfold C3
 rw [List.getElem?_drop, List.getElem?_drop, List.getElem?_take, List.getElem?_take]
 split
 · rw [Fp h1 hb hy]
   split
   · rfl
   split
   · omega
   rfl
 rfl
theorem fQ {xs ys zs : List α} {a m b : Nat} (h1 : a ≤ m) (h2 : m ≤ b) (hb : b ≤ xs.length) (hy : ys.length = m - a) (hz : zs.length = b - m) : E7 (E7 xs a m ys) m b zs = E7 xs a b (ys ++ zs) := by
 apply List.ext_getElem?
 intro i
 rw [Fp h2 (by rw [Dy h1 oQ hy]; exact hb) hz, Fp h1 oQ hy, Fp oQ hb (by simp; omega)]
 by_cases c1 : i < a
 · rw [if_pos oQ, if_pos c1, if_pos c1]
 by_cases c2 : i < m
 · rw [if_pos c2, if_neg c1, if_pos c2, if_neg c1, if_pos oQ, List.getElem?_append_left (by omega)]
 rw [if_neg c2, if_neg c1, if_neg c2]
 by_cases c3 : i < b
 · rw [if_pos c3, if_neg c1, if_pos c3, List.getElem?_append_right (by omega)]; congr 1; omega
 rw [if_neg c3, if_neg c1, if_neg c3]
variable {key : α → K2}
theorem sameF.E7 {xs ys : List α} {a b : Nat} (h1 : a ≤ b) (hb : b ≤ xs.length) (h : sameF key (C3 xs a b) ys) : sameF key xs (Wx.E7 xs a b ys) := by
 have h2 := ((sameF.refl (key := key) (xs.take a)).jC h).jC (sameF.refl (key := key) (xs.drop b))
 rw [← fO h1 hb] at h2
 exact h2
end
end Go.Wx
namespace Go.Wx
open Go.RowKit
theorem OwnS.at {α : Type} {enc : α → Array Value} {b k : Nat} {e : TypeId} {w : World} {g m cp : Nat} {xs : List α} (h : OwnS w b e k enc (.slice (some ⟨g, 0, none⟩) m cp) xs) (hk : ∀ x, (enc x).size = k) {i : Nat} {x : α} (hx : xs[i]? = some x) : AggAt w g (0 + i * k) (enc x) := by
 obtain ⟨ad, c, e', hE⟩ := h.sl hk
 obtain ⟨B, o, h1, h2⟩ := hE i x hx
 cases e'
 cases h1
 exact h2
theorem OwnS.len {α : Type} {enc : α → Array Value} {b k : Nat} {e : TypeId} {w : World} {ad : Option Addr} {m cp : Nat} {xs : List α} (h : OwnS w b e k enc (.slice ad m cp) xs) : xs.length = m := by
 obtain ⟨_, ⟨e', h1⟩ | ⟨g, cap, cur, e', _⟩⟩ := h
 · cases e'; exact h1
 cases e'; rfl
theorem Yb {α : Type} (f : α → List Value) (k : Nat) (hf : ∀ x, (f x).length = k) : ∀ (xs : List α) (i : Nat) (y : α), i < xs.length → (xs.set i y).flatMap f = (xs.flatMap f).take (i * k) ++ f y ++ (xs.flatMap f).drop (i * k + k)
 | [], _, _, h => by simp at h
 | x :: xs, 0, y, _ => by
   rw [List.set_cons_zero, List.flatMap_cons, List.flatMap_cons, Nat.zero_mul, List.take_zero, List.nil_append, Nat.zero_add, List.drop_left' (hf x)]
 | x :: xs, i + 1, y, h => by
   rw [List.set_cons_succ, List.flatMap_cons, List.flatMap_cons, Yb f k hf xs i y (by simpa using h)]
   have e1 : (i + 1) * k = (f x).length + i * k := by rw [hf, Nat.add_mul, Nat.one_mul, Nat.add_comm]
   rw [e1, Nat.add_assoc, List.take_length_add_append, List.drop_length_add_append]
   simp [List.append_assoc]
section
variable {P : Program} {n : Nat} {ds : List Deferred} {l : Env} {w : World} {ty : TypeId} {ps : String} {af : Array Edge} {g : Option (Nat × Bool)}
theorem Wu {α : Type} {enc : α → Array Value} {k b : Nat} {e T : TypeId} {x y : Operand} {B m cp i : Nat} {xs : List α} {z : α} (hs : ∀ w, (sizeOf T).run P w = .ok k w) (hk : ∀ x, (enc x).size = k) (h1 : ∀ x, (enc x).all (·.oneCell') = true) (hx : Val l x (.pointer (some ⟨B, 0 + i * k, none⟩))) (hy : Val l y (.agg (enc z))) (ho : OwnS w b e k enc (.slice (some ⟨B, 0, none⟩) m cp) xs) (hi : i < m) :
   SEv P n ds l w ⟨none, .store T x y, ty, ps, af, g⟩ (fun w' => OwnS w' b e k enc (.slice (some ⟨B, 0, none⟩) m cp) (xs.set i z) ∧ Fr (· = B) w w' ∧ w'.heap.size = w.heap.size) := fun a ha => by
 have hkl : ∀ x, (enc x).toList.length = k := fun x => by rw [Array.length_toList, hk]
 obtain ⟨hl, ⟨e', _⟩ | ⟨g', cap, cur, e', hb, hg, hcap, hcm, hcs, htk⟩⟩ := ho
 · cases e'
 cases e'
 have hik : i * k + k ≤ xs.length * k := by
   have : (i + 1) * k ≤ xs.length * k := Nat.mul_le_mul_right k hi
   rw [Nat.add_mul, Nat.one_mul] at this
   exact this
 have hmk : xs.length * k ≤ cp * k := Nat.mul_le_mul_right k oQ
 obtain ⟨w', hr, hset⟩ := SEv.J4 (P := P) (n := n) (ds := ds) (l := l) (w := w) (ty := ty) (ps := ps) (af := af) (g := g) hs (hk z) hx hy (h1 z) (show Blk w B cur e from hg) (by rw [hk, hcs]; omega) a ha
 refine ⟨w', hr, ⟨by rw [List.length_set, Gt _ k hkl, List.length_set], .inr ⟨B, cp, _, by rw [List.length_set], hb, hset.blk, by rw [List.length_set]; omega, hcm, ?_, ?_⟩⟩, hset.sto.fr, hset.size⟩
 · have hz := hkl z
   simp only [Ly, List.size_toArray, List.length_append, List.length_take, List.length_drop, Array.length_toList]
   rw [Array.length_toList] at hz
   omega
 have hz := hkl z
 rw [List.length_set, Yb _ k hkl xs i z (by omega)]
 simp only [Ly]
 rw [hz, Nat.zero_add, List.take_append, List.take_append]
 have hcl : cur.toList.length = cp * k := by rw [Array.length_toList]; exact hcs
 have t1 : (cur.toList.take (i * k)).take (xs.length * k) = cur.toList.take (i * k) := by rw [List.take_take, Nat.min_eq_right (by omega)]
 have t2 : (cur.toList.take (i * k)).length = i * k := by rw [List.length_take]; omega
 have t3 : ((enc z).toList).take (xs.length * k - i * k) = (enc z).toList := List.take_of_length_le oQ
 have t4 : (cur.toList.take (i * k) ++ (enc z).toList).length = i * k + k := by rw [List.length_append, t2, hz]
 rw [t1, t2, t3, t4]
 have s1 : (xs.flatMap fun x => (enc x).toList).take (i * k) = cur.toList.take (i * k) := by rw [← htk, List.take_take, Nat.min_eq_left (by omega)]
 have s2 : (xs.flatMap fun x => (enc x).toList).drop (i * k + k) = (cur.toList.drop (i * k + k)).take (xs.length * k - (i * k + k)) := by rw [← htk, List.drop_take]
 rw [s1, s2]
theorem SEv.Ga {α : Type} {enc : α → Array Value} {k : Nat} {e T : TypeId} {x y : Operand} {B m cp i : Nat} {xs : List α} {z : α} (hs : ∀ w, (sizeOf T).run P w = .ok k w) (hk : ∀ x, (enc x).size = k) (h1 : ∀ x, (enc x).all (·.oneCell') = true) (hx : Val l x (.pointer (some ⟨B, 0 + i * k, none⟩))) (hy : Val l y (.agg (enc z))) (ho : OwnS w 0 e k enc (.slice (some ⟨B, 0, none⟩) m cp) xs) (hi : i < m) :
   SEv P n ds l w ⟨none, .store T x y, ty, ps, af, g⟩ (fun w' => Stp (J e k enc (.slice (some ⟨B, 0, none⟩) m cp) xs) (J e k enc (.slice (some ⟨B, 0, none⟩) m cp) (xs.set i z)) w w') := fun a ha =>
 let ⟨w', hr, h2, h3, _⟩ := Wu (ty := ty) (ps := ps) (af := af) (g := g) hs hk h1 hx hy ho hi a ha
 ⟨w', hr, ⟨h3.mono (fun i (e : i = B) => by rw [e]; rfl), h2, fun _ h => .inl h⟩⟩
end
section
variable {P : Program} {n : Nat} {ds : List Deferred} {l : Env} {w : World} {d : Option Tmp} {ty : TypeId} {ps : String} {af : Array Edge} {g : Option (Nat × Bool)}
theorem PEv.M9 {T T' : TypeId} {x y : Operand} {i j : Nat} (hx : Val l x (.int .i64 (i : Int))) (hy : Val l y (.int .i64 (j : Int))) (h : j ≤ i) (h2 : i < 9223372036854775807) : PEv P n ds l w ⟨d, .binOp .sub T x y T', ty, ps, af, g⟩ (.int .i64 ((i - j : Nat) : Int)) := by
 have := PEv.sub (P := P) (n := n) (ds := ds) (l := l) (w := w) (d := d) (ty := ty) (ps := ps) (af := af) (g := g) (T := T) (T' := T') hx hy oQ oQ
 rw [Int.ofNat_sub h]; exact this
theorem PEv.Ch {T e k : Nat} {x ix : Operand} {B o size : Nat} {j : Nat} (hT : P.underlying T = some (.array k e)) (hs : ∀ w, (sizeOf e).run P w = .ok size w) (hx : Val l x (.pointer (some ⟨B, o, none⟩))) (hi : Val l ix (.int .i64 (j : Int))) (hj : j < k) :
   PEv P n ds l w ⟨d, .indexAddr T x ix, ty, ps, af, g⟩ (.pointer (some ⟨B, o + j * size, none⟩)) := fun a w' ha _ => by
 refine Cm ?_
 rw [ha.ev hx, ha.ev hi]
 simp [Instr.indexAt, asIntOf, run_underlying hT, Sem.run_bind, Instr.sureAddr, hs, Gc, hj]
theorem PEv.dec {T T' : TypeId} {x : Operand} {i : Nat} (hx : Val l x (.int .i64 (i : Int))) (h : 1 ≤ i) (h2 : i < 9223372036854775807) : PEv P n ds l w ⟨d, .binOp .sub T x (.const (.int .i64 1)) T', ty, ps, af, g⟩ (.int .i64 ((i - 1 : Nat) : Int)) := by
 have := PEv.sub (P := P) (n := n) (ds := ds) (l := l) (w := w) (d := d) (ty := ty) (ps := ps) (af := af) (g := g) (T := T) (T' := T') hx (.const (.int .i64 1)) oQ oQ
 rw [Int.ofNat_sub h]; exact this
end
theorem SEv.mono {P : Program} {n : Nat} {ds : List Deferred} {l : Env} {w : World} {o : Oper} {Post Post' : World → Prop} (h : SEv P n ds l w o Post) (k : ∀ w', Post w' → Post' w') : SEv P n ds l w o Post' := fun a ha => let ⟨w', h1, h2⟩ := h a ha; ⟨w', h1, k w' h2⟩
def Q5 (ops : Array Oper) (i s : Nat) : Bool := match ops[s]? with
 | none => false
 | some o => o.after.any fun e => Region.binds .any e && Nat.beq e.on i
theorem Sb {ops : Array Oper} {i s : Nat} (h : Q5 ops i s = true) : ∃ o, ops[s]? = some o ∧ ∃ e ∈ o.after, Region.binds .any e = true ∧ e.on = i := by
 unfold Q5 at h
 cases ho : ops[s]? with
 | none => rw [ho] at h; cases h
 | some o =>
   rw [ho] at h
   obtain ⟨q, hq, h2⟩ := Array.any_eq_true.1 h
   simp only [Bool.and_eq_true] at h2
   exact ⟨o, rfl, _, Array.getElem_mem hq, h2.1, Nat.eq_of_beq_eq_true h2.2⟩
section
variable {R : Option Nat} {m : Nat} {P : Program} {n : Nat} {ds : List Deferred} {Q : Exit → Go.Act → World → Prop} {l : Env} {w : World} {ops : Array Oper}
theorem Kw {id : Nat} {opsL : List Oper} (s1 s2 : Nat) (vs : List Value) (A0 A1 A2 : World → Prop) (hm : P.follows .mixedOrders = true) (hl : Cf l = true)
   (hA : D7 opsL.toArray = true) (hF : Jl opsL.toArray opsL.toArray.size = true) (hD : G2 n opsL.toArray 0 opsL.toArray.size = true) (hs : Q5 opsL.toArray s1 s2 = true) (hns : Nat.beq s1 s2 = false)
   (hfree : Kr l opsL = true) (h0 : A0 w.drew)
   (hop : allL (fun i o => (i = s1 ∨ i = s2) ∨ (o.guard = none ∧ ((Q5 opsL.toArray i s1 = true ∧ ∀ W, A0 W → PEv P n ds (Ml opsL.toArray (fun i => .eq (vs.getD i undef)) 0 o ++ l) W o (vs.getD i undef)) ∨ ∀ W, PEv P n ds (Ml opsL.toArray (fun i => .eq (vs.getD i undef)) 0 o ++ l) W o (vs.getD i undef)))) 0 opsL)
   (o1 o2 : Oper) (ho1 : opsL[s1]? = some o1) (ho2 : opsL[s2]? = some o2) (hg1 : o1.guard = none ∧ o1.dst = none) (hg2 : o2.guard = none ∧ o2.dst = none)
   (hs1 : ∀ W, A0 W → SEv P n ds (Ml opsL.toArray (fun i => .eq (vs.getD i undef)) 0 o1 ++ l) W o1 A1) (hs2 : ∀ W, A1 W → SEv P n ds (Ml opsL.toArray (fun i => .eq (vs.getD i undef)) 0 o2 ++ l) W o2 A2)
   (hend : ∀ W, A2 W → KW n ds (Q .normal) l W) : CW R m P n ds (.region id opsL.toArray true) Q l w := by
 have hbd : ∀ i ph, lk l i = some ph → ∀ (j : Nat) (o : Oper), 0 ≤ j → j < opsL.toArray.size → opsL.toArray[j]? = some o → o.dst ≠ some i := fun i ph hi j o _ hjk ho => Gu hfree hi (List.mem_of_getElem? (by simpa using ho))
 obtain ⟨p2, hp2, e2, he2, hb2, hon2⟩ := Sb hs
 have ho1' : opsL.toArray[s1]? = some o1 := by simpa using ho1
 have ho2' : opsL.toArray[s2]? = some o2 := by simpa using ho2
 have : p2 = o2 := by rw [ho2'] at hp2; cases hp2; rfl
 subst this
 have hl1 : s1 < opsL.toArray.size := (Array.getElem?_eq_some_iff.1 ho1').1
 have hl2 : s2 < opsL.toArray.size := (Array.getElem?_eq_some_iff.1 ho2').1
 have hne : s1 ≠ s2 := fun e => by subst e; simp at hns
 refine Fl hm hl fun fuel listed a hf hu ha => (Jm (s := 0) (k := opsL.toArray.size) (fun i => .eq (vs.getD i undef)) (fun _ _ => True) (fun L _ W => if L s2 = true then A2 W else if L s1 = true then A1 W else A0 W) (f0 := fun t => a.tmps.getD t undef) (fun _ => trivial) (fun _ _ _ _ _ => trivial) (fun _ _ _ _ h _ => h) hA (by simp) hF (by simp) (by simp) hD hl hbd ?_ ?_ ?_ fuel listed a hf hu ha (fun _ => rfl))
 · intro i o _ hi hio L f W _ hDn hLi hed hInv a ha hsl
   have hio' : opsL[i]? = some o := by simpa using hio
   by_cases e1 : i = s1
   · subst e1
     rw [ho1'] at hio; cases hio
     rw [if_pos (by simp [Region.wanted, hg1.1])]
     have n2 : L s2 = false := by
       cases h : L s2 with
       | false => rfl
       | true => have := hDn s2 _ ho2' h e2 he2 hb2; rw [hon2, hLi] at this; cases this
     rw [n2, hLi] at hInv
     obtain ⟨W', hr, hp⟩ := hs1 W hInv a ha
     refine .inr ⟨W', hr, trivial, (fun d hd => by rw [hg1.2] at hd; cases hd), ?_⟩
     have t1 : C9 L i s2 = false := by simp [C9, Ne.symm hne, n2]
     have t2 : C9 L i i = true := by simp [C9]
     rw [t1, t2]
     exact hp
   by_cases e3 : i = s2
   · subst e3
     rw [ho2'] at hio; cases hio
     rw [if_pos (by simp [Region.wanted, hg2.1])]
     have y1 : L s1 = true := by have := hed e2 he2 hb2; rwa [hon2] at this
     rw [hLi, y1] at hInv
     obtain ⟨W', hr, hp⟩ := hs2 W hInv a ha
     refine .inr ⟨W', hr, trivial, (fun d hd => by rw [hg2.2] at hd; cases hd), ?_⟩
     have t2 : C9 L i i = true := by simp [C9]
     rw [t2]
     exact hp
   have h3 := hop.at hio'
   rw [Nat.zero_add] at h3
   rcases h3 with (h | h) | ⟨hg, h3⟩
   · exact absurd h e1
   · exact absurd h e3
   rw [if_pos (by simp [Region.wanted, hg])]
   have q1 : C9 L i s1 = L s1 := by simp [C9, Ne.symm e1]
   have q2 : C9 L i s2 = L s2 := by simp [C9, Ne.symm e3]
   have hr : (execOp a.eval o).run P W = .ok (.value (vs.getD i undef)) W := by
     rcases h3 with ⟨hE, h3⟩ | h3
     · obtain ⟨p, hp, e, he, hb, hon⟩ := Sb hE
       have n1 : L s1 = false := by
         cases h : L s1 with
         | false => rfl
         | true => have := hDn s1 p hp h e he hb; rw [hon, hLi] at this; cases this
       have n2 : L s2 = false := by
         cases h : L s2 with
         | false => rfl
         | true => have := hDn s2 _ ho2' h e2 he2 hb2; rw [hon2, n1] at this; cases this
       rw [n1, n2] at hInv
       exact h3 W hInv a W ha (Up.refl W)
     exact h3 W a W ha (Up.refl W)
   refine .inl (.inl ⟨_, W, hr, trivial, fun _ _ => rfl, ?_⟩)
   rw [q1, q2]
   exact hInv
 · simpa using h0
 intro f W _ hInv fuel' listed' a' hf' hu' ha' hsl'
 have hInv : A2 W := by
   rw [if_pos (decide_eq_true hl2)] at hInv
   exact hInv
 have hall : ∀ j, j < opsL.toArray.size → listed'.getD j false = true := fun j hj => by rw [hu'.2 j hj]; simpa using hj
 have hrd : Region.ready .any opsL.toArray listed' = [] := by
   rw [List.eq_nil_iff_forall_not_mem]
   intro i hi
   obtain ⟨o, hio, hbi, _⟩ := (Fg hu'.1).1 hi
   have := hall i (Array.getElem?_eq_some_iff.1 hio).1
   rw [hbi] at this; cases this
 have hq : Q .normal a' W := hend W hInv a' ⟨ha'.defers, ha'.size, fun t q ht => by
   refine ha'.val t q ?_
   rw [Ge]
   · exact ht
   cases hq : lk (He opsL.toArray (fun i => .eq (vs.getD i undef)) 0 opsL.toArray.size) t with
   | none => rfl
   | some q' =>
     obtain ⟨j, p, _, hjk, hp, hpd, _⟩ := Fo hq
     exact absurd hpd (hbd t q ht j p (Nat.zero_le _) hjk hp)⟩
 cases fuel' with
 | zero => exact ⟨hrd, hq⟩
 | succ fuel' => exact ⟨fun _ => hq, fun i hi => by rw [hrd] at hi; cases hi⟩
end
theorem Vf {α : Type} (f : α → List Value) (k j : Nat) (v : Value) (hf : ∀ x, (f x).length = k) (hj : j < k) : ∀ (xs : List α) (i : Nat) (x0 z : α), xs[i]? = some x0 → f z = (f x0).set j v → (xs.set i z).flatMap f = (xs.flatMap f).set (i * k + j) v
 | [], _, _, _, h, _ => by simp at h
 | x :: xs, 0, x0, z, h, hz => by
   have e : x = x0 := by simpa using h
   subst e
   rw [List.set_cons_zero, List.flatMap_cons, List.flatMap_cons, hz, List.set_append_left _ _ (by rw [hf]; omega)]
   congr 2; omega
 | x :: xs, i + 1, x0, z, h, hz => by
   rw [List.set_cons_succ, List.flatMap_cons, List.flatMap_cons, Vf f k j v hf hj xs i x0 z (by simpa using h) hz]
   have e1 : (i + 1) * k = k + i * k := by rw [Nat.add_mul, Nat.one_mul, Nat.add_comm]
   rw [List.set_append_right _ _ (by rw [hf, e1]; omega), hf, e1]
   congr 2; omega
section
variable {P : Program} {n : Nat} {ds : List Deferred} {l : Env} {w : World} {ty : TypeId} {ps : String} {af : Array Edge} {g : Option (Nat × Bool)}
theorem SEv.Pm {α : Type} {enc : α → Array Value} {k : Nat} {e T : TypeId} {x y : Operand} {B m cp i j : Nat} {xs : List α} {x0 z : α} {v : Value} (hs : ∀ w, (sizeOf T).run P w = .ok 1 w) (hk : ∀ x, (enc x).size = k) (h1 : v.oneCell' = true) (hx : Val l x (.pointer (some ⟨B, 0 + i * k + j, none⟩))) (hy : Val l y v) (ho : OwnS w 0 e k enc (.slice (some ⟨B, 0, none⟩) m cp) xs) (hx0 : xs[i]? = some x0) (hj : j < k) (hz : (enc z).toList = (enc x0).toList.set j v) :
   SEv P n ds l w ⟨none, .store T x y, ty, ps, af, g⟩ (fun w' => Stp (J e k enc (.slice (some ⟨B, 0, none⟩) m cp) xs) (J e k enc (.slice (some ⟨B, 0, none⟩) m cp) (xs.set i z)) w w') := fun a ha => by
 have hi := (List.getElem?_eq_some_iff.1 hx0).1
 have hkl : ∀ x, (enc x).toList.length = k := fun x => by rw [Array.length_toList, hk]
 obtain ⟨hl, ⟨e', _⟩ | ⟨g', cap, cur, e', hb, hg, hcap, hcm, hcs, htk⟩⟩ := ho
 · cases e'
 cases e'
 have hik : i * k + k ≤ xs.length * k := by
   have : (i + 1) * k ≤ xs.length * k := Nat.mul_le_mul_right k hi
   rw [Nat.add_mul, Nat.one_mul] at this
   exact this
 have hmk : xs.length * k ≤ cp * k := Nat.mul_le_mul_right k oQ
 obtain ⟨w', hr, hset⟩ := SEv.store (P := P) (n := n) (ds := ds) (l := l) (w := w) (ty := ty) (ps := ps) (af := af) (g := g) hs hx hy h1 (show Blk w B cur e from hg) (by rw [hcs]; omega) a ha
 refine ⟨w', hr, hset.sto.fr.mono (fun i (e : i = B) => by rw [e]; rfl), ⟨by rw [List.length_set, Gt _ k hkl, List.length_set], .inr ⟨B, cp, _, by rw [List.length_set], hb, hset.blk, by rw [List.length_set]; omega, hcm, ?_, ?_⟩⟩, fun _ h => .inl h⟩
 · rw [Array.size_setIfInBounds]; exact hcs
 rw [List.length_set, Vf (fun x => (enc x).toList) k j v hkl hj xs i x0 z hx0 hz, ← htk, Array.toList_setIfInBounds, List.take_set, Nat.zero_add]
end
section
variable {R : Option Nat} {m : Nat} {P : Program} {n : Nat} {ds : List Deferred} {Q : Exit → Go.Act → World → Prop} {l : Env} {w : World} {ops : Array Oper}
theorem AWF.jD {k ia is isv sa sv : Nat} {T : TypeId} {z : Array Value} {base : Env} (ph : Nat → Ph) {f0 : Nat → Value} (hz : ∀ w, (zeroValue T).run P w = .ok (.agg z) w) (hs : ∀ w, (sizeOf T).run P w = .ok z.size w)
   (hph : ∀ i v w w', (ph i).holds v w → KeepT T w w' → (ph i).holds v w') (hA : D7 ops = true) (hC : (Nat.beq k ops.size || Fh ops k) = true) (hF : Jl ops k = true) (hks : Nat.ble k ops.size = true)
   (hD : G2 n ops 0 k = true) (hbp : Cf base = true) (hbd : ∀ i ph, lk base i = some ph → ∀ (j : Nat) (o : Oper), 0 ≤ j → j < k → ops[j]? = some o → o.dst ≠ some i)
   (hlit : Og ops ia [(is, 0, sv)] = true) (hik : is < k) (hiak : ia < k) (hne : ia ≠ is)
   (hia : ∃ ty ps af, ops[ia]? = some ⟨some sa, .alloc T, ty, ps, af, none⟩) (his : ∃ ty ps af, ops[is]? = some ⟨none, .store T (.tmp sa) (.tmp sv), ty, ps, af, none⟩)
   (hlk : ∀ o, ops[is]? = some o → lk (Ml ops ph 0 o ++ base) sv = some (ph isv)) (hsv : ∀ v W, (ph isv).holds v W → ∃ cs, v = .agg cs ∧ cs.size = z.size ∧ cs.all (·.oneCell') = true)
   (hpa : ∀ B W, (ph ia).holds (.pointer (some ⟨B, 0, none⟩)) W)
   (hop : ∀ i o, i < k → i ≠ ia → i ≠ is → ops[i]? = some o → o.guard = none ∧ ∀ W, Up w W → ∀ a, Ag n ds (Ml ops ph 0 o ++ base) a W → aO P o a W (fun v W' => Up W W' ∧ (ph i).holds v W'))
   (hend : ∀ f W B, Up w W → f sa = .pointer (some ⟨B, 0, none⟩) → w.heap.size ≤ B → Blk W B (f sv).cells T → AWF R m P n ds ops Q k (He ops ph 0 k ++ base) f W) : AWF R m P n ds ops Q 0 base f0 w := by
 obtain ⟨os, hos, hods, ⟨e, he, hbe, hon⟩, ⟨e', he', hbe', pv, hpv, hpvd⟩⟩ := G4 hlit List.mem_cons_self
 refine Jm ph (KeepT T) (sT ia is sa sv T z w) (KeepT.refl T) (fun _ _ _ => KeepT.trans) hph hA hC hF hks (by simp) hD hbp hbd ?_ ⟨Up.refl w, fun h => by simp at h, fun h => by simp at h⟩ ?_
 · intro i o _ hi hio L f W hRel hDn hLi hed hInv
   obtain ⟨hUp, hsa, hInv⟩ := hInv
   by_cases e0 : i = ia
   · subst e0
     obtain ⟨ty, ps, af, hia⟩ := hia
     rw [hio] at hia; cases hia
     intro a ha hsl
     rw [if_pos (by simp [Region.wanted])]
     obtain ⟨v, W', hr, B, rfl, N⟩ := REv.Bm (P := P) (n := n) (ds := ds) (l := Ml ops ph 0 _ ++ base) (w := W) (d := some sa) (ty := ty) (ps := ps) (af := af) (g := none) hz a ha
     have hLs : L is = false := by
       cases h : L is with
       | false => rfl
       | true => rw [hsa h] at hLi; cases hLi
     refine .inl (.inl ⟨_, W', hr, N.up.Df, fun _ _ => hpa B W', hUp.trans N.up, fun _ => by simp [C9], fun _ => ⟨B, by simp [Fe], by rw [N.at_]; exact hUp.size, ?_⟩⟩)
     have : C9 L i is = false := by simp [C9, Ne.symm hne, hLs]
     rw [this]
     exact N.blk
   by_cases e1 : i = is
   · subst e1
     have hLa : L ia = true := by rw [hos] at hio; cases hio; rw [← hon]; exact hed e he hbe
     obtain ⟨ty, ps, af, his⟩ := his
     rw [hio] at his; cases his
     intro a ha hsl
     rw [if_pos (by simp [Region.wanted])]
     obtain ⟨B, h1, hB, hblk⟩ := hInv hLa
     rw [hLi] at hblk
     obtain ⟨cs, hcs, hcz, hc1⟩ := hsv _ W (ha.val sv _ (hlk _ hio))
     have hfs : f sv = .agg cs := by rw [← hsl]; exact hcs
     have hag : Ag n ds [(sv, .eq (.agg cs)), (sa, .eq (.pointer (some ⟨B, 0, none⟩)))] a W := by
       refine ⟨ha.defers, ha.size, fun t q ht => ?_⟩
       by_cases e1 : t = sv
       · subst e1; rw [Bh] at ht; cases ht; exact hcs
       rw [Bj e1] at ht
       by_cases e2 : t = sa
       · subst e2; rw [Bh] at ht; cases ht; exact (hsl _).trans h1
       rw [Bj e2] at ht; cases ht
     have hsn : sa ≠ sv := fun e' => by rw [e', hfs] at h1; cases h1
     obtain ⟨W', hr, hset⟩ := SEv.Bi (P := P) (n := n) (ds := ds) (w := W) (l := [(sv, .eq (.agg cs)), (sa, .eq (.pointer (some ⟨B, 0, none⟩)))]) (x := .tmp sa) (y := .tmp sv) (ty := ty) (ps := ps) (af := af) (g := none) hs hcz (.tmp (by rw [Bj hsn, Bh])) (.tmp Bh) hc1 hblk (by simp) a hag
     refine .inr ⟨W', hr, hset.sto.Df (by rw [hset.size]; exact Nat.le_refl _) hblk, (fun d hd => by cases hd), hUp.sto hset.sto hB, fun _ => by simp [C9, hLa], fun _ => ⟨B, h1, hB, ?_⟩⟩
     have h2 : C9 L i i = true := by simp [C9]
     rw [h2, if_pos rfl]
     show Blk W' B (f sv).cells T
     rw [hfs]
     exact hset.blk
   obtain ⟨hg, hop⟩ := hop i o hi e0 e1 hio
   intro a ha hsl
   rw [if_pos (by simp [Region.wanted, hg])]
   have done : ∀ v W', Up W W' ∧ (ph i).holds v W' → KeepT T W W' ∧ (∀ d, o.dst = some d → (ph i).holds v W') ∧ sT ia is sa sv T z w (C9 L i) (Fe f o.dst v) W' := by
     rintro v W' ⟨hu, hv⟩
     have ela : C9 L i ia = L ia := by simp [C9, Ne.symm e0]
     have els : C9 L i is = L is := by simp [C9, Ne.symm e1]
     refine ⟨hu.Df, fun _ _ => hv, hUp.trans hu, fun h => by rw [ela]; rw [els] at h; exact hsa h, fun hm => ?_⟩
     rw [ela] at hm
     obtain ⟨B, h1, hB, hblk⟩ := hInv hm
     have hn1 : o.dst ≠ some sa := by
       obtain ⟨ty, ps, af, hia⟩ := hia
       intro ed
       exact (Dk hD (Nat.zero_le _) hi hio ed).2 ia _ (Nat.zero_le _) hiak (Ne.symm e0) hia rfl
     refine ⟨B, by simpa [Fe, hn1] using h1, hB, ?_⟩
     rw [els]
     cases hLs : L is with
     | false => rw [hLs] at hblk; exact hblk.up hu
     | true =>
       rw [hLs] at hblk
       have hn2 : o.dst ≠ some sv := by
         intro ed
         have h2 := hDn _ _ hos hLs e' he' hbe'
         have h3 := Dx hA hos e' he' hbe'
         by_cases ee : e'.on = i
         · rw [ee, hLi] at h2; cases h2
         exact (Dk hD (Nat.zero_le _) hi hio ed).2 e'.on pv (Nat.zero_le _) (by have : e'.on < is := h3; omega) ee hpv hpvd
       have h4 : Fe f o.dst v sv = f sv := by simp [Fe, hn2]
       rw [h4]
       exact hblk.up hu
   rcases hop W hUp a ha with ⟨v, W', hr, hp⟩ | ⟨fn, args, w1, hr, hc⟩
   · exact .inl (.inl ⟨v, W', hr, done v W' hp⟩)
   exact .inl (.inr ⟨fn, args, w1, hr, hc.mono done⟩)
 intro f W hRel hInv
 obtain ⟨hUp, _, hInv⟩ := hInv
 obtain ⟨B, h1, hB, h2⟩ := hInv (by simpa using hiak)
 rw [if_pos (by simpa using hik)] at h2
 exact hend f W B hUp h1 hB h2
theorem Q6 {id : Nat} {opsL : List Oper} (k ia is isv sa sv : Nat) (z : Array Value) (phs : List Ph) (keep : List Nat) {T : TypeId} (hz : ∀ w, (zeroValue T).run P w = .ok (.agg z) w) (hs : ∀ w, (sizeOf T).run P w = .ok z.size w) (hm : P.follows .mixedOrders = true) (hl : Cf l = true)
   (hA : D7 opsL.toArray = true) (hC : (Nat.beq k opsL.toArray.size || Fh opsL.toArray k) = true) (hF : Jl opsL.toArray k = true) (hks : Nat.ble k opsL.toArray.size = true) (hD : G2 n opsL.toArray 0 k = true) (hlit : Og opsL.toArray ia [(is, 0, sv)] = true) (hTl : G0 opsL.toArray k = true)
   (hfree : Kr l (opsL.take k) = true) (hidx : (Nat.ble (is + 1) k && (Nat.ble (ia + 1) k && !Nat.beq ia is)) = true)
   (hia : ∃ ty ps af, opsL[ia]? = some ⟨some sa, .alloc T, ty, ps, af, none⟩) (os : Oper) (hos : opsL[is]? = some os) (his : ∃ ty ps af, os = ⟨none, .store T (.tmp sa) (.tmp sv), ty, ps, af, none⟩) (hph : allT T phs)
   (hlk : lk (Ml opsL.toArray (fun i => phs.getD i (.eq undef)) 0 os ++ l) sv = some (phs.getD isv (.eq undef))) (hsv : ∀ v W, (phs.getD isv (.eq undef)).holds v W → ∃ cs, v = .agg cs ∧ cs.size = z.size ∧ cs.all (·.oneCell') = true)
   (hpa : ∀ B W, (phs.getD ia (.eq undef)).holds (.pointer (some ⟨B, 0, none⟩)) W)
   (hop : ∀ W, Up w.drew W → allL (fun i o => (i = ia ∨ i = is) ∨ (o.guard = none ∧ TU P n ds (Ml opsL.toArray (fun i => phs.getD i (.eq undef)) 0 o ++ l) W o (phs.getD i (.eq undef)))) 0 (opsL.take k))
   (hend : ∀ W B (g : Nat → Value), Up w.drew W → w.drew.heap.size ≤ B → Blk W B (g sv).cells T → (∀ i o d, i < k → opsL[i]? = some o → o.dst = some d → (phs.getD i (.eq undef)).holds (g d) W) → LW R m P n ds opsL.toArray Q (opsL.drop k) ((sa, .eq (.pointer (some ⟨B, 0, none⟩))) :: (keep.map (fun d => (d, .eq (g d))) ++ l)) W) :
   CW R m P n ds (.region id opsL.toArray true) Q l w := by
 simp only [Bool.and_eq_true] at hidx
 obtain ⟨hik, hiak, hne⟩ := hidx
 have hik : is < k := Nat.le_of_ble_eq_true hik
 have hiak : ia < k := Nat.le_of_ble_eq_true hiak
 have hne : ia ≠ is := fun e => by subst e; simp at hne
 have hks' : k ≤ opsL.length := by have := Nat.le_of_ble_eq_true hks; simp at this; omega
 have sub : ∀ j o, j < k → opsL.toArray[j]? = some o → (opsL.take k)[j]? = some o := fun j o hjk ho => by
   rw [List.getElem?_take_of_lt hjk]; simpa using ho
 have hbd : ∀ i ph, lk l i = some ph → ∀ (j : Nat) (o : Oper), 0 ≤ j → j < k → opsL.toArray[j]? = some o → o.dst ≠ some i := fun i ph hi j o _ hjk ho => Gu hfree hi (List.mem_of_getElem? (sub j o hjk ho))
 refine Fl hm hl fun fuel listed a hf hu ha => (AWF.jD (k := k) (ia := ia) (is := is) (isv := isv) (sa := sa) (sv := sv) (T := T) (z := z) (fun i => phs.getD i (.eq undef)) (f0 := fun t => a.tmps.getD t undef) hz hs (fun i v w w' h u => (hph.at i) v w w' h u) hA hC hF hks hD hl hbd hlit hik hiak hne (by simpa using hia) ?_ ?_ hsv hpa ?_ ?_ fuel listed a hf hu ha (fun _ => rfl))
 · obtain ⟨ty, ps, af, e⟩ := his
   exact ⟨ty, ps, af, by rw [← e]; simpa using hos⟩
 · intro o ho
   have : opsL[is]? = some o := by simpa using ho
   rw [hos] at this; cases this
   exact hlk
 · intro i o hi h1 h2 ho
   have h0 := (hop w.drew (Up.refl _)).at (sub i o hi ho)
   rw [Nat.zero_add] at h0
   rcases h0 with (e | e) | ⟨hg, _⟩
   · exact absurd e h1
   · exact absurd e h2
   refine ⟨hg, fun W hW a ha => ?_⟩
   have h3 := (hop W hW).at (sub i o hi ho)
   rw [Nat.zero_add] at h3
   rcases h3 with (e | e) | ⟨_, h⟩
   · exact absurd e h1
   · exact absurd e h2
   exact h a ha
 intro f W B hUp hfa hB hblk fuel' listed' a' hf' hu' ha' hsl'
 have key : ∀ i o d, i < k → opsL[i]? = some o → o.dst = some d → (phs.getD i (.eq undef)).holds (f d) W := by
   intro i o d hik ho hd
   have ho' : opsL.toArray[i]? = some o := by simpa using ho
   have hmem : (d, phs.getD i (.eq undef)) ∈ He opsL.toArray (fun i => phs.getD i (.eq undef)) 0 k := by
     unfold He
     rw [List.mem_filterMap]
     exact ⟨i, List.mem_range.2 hik, by rw [if_pos (by simp), ho']; simp [hd]⟩
   obtain ⟨q', hq⟩ := Hf hmem
   obtain ⟨j, p, _, hjk, hp, hpd, e⟩ := Fo hq
   have : j = i := by
     by_cases ee : j = i
     · exact ee
     exact absurd hpd ((Dk hD (Nat.zero_le _) hik ho' hd).2 j p (Nat.zero_le _) hjk ee hp)
   subst this
   have := ha'.val d q' (Ks hq)
   rw [hsl', e] at this
   exact this
 refine Fm hTl hA (opsL.toArray.size - k) k fuel' listed' a' W rfl (by simp; omega) (Nat.le_refl _) hf' hu' (hend W B f hUp hB hblk key a' ⟨ha'.defers, ha'.size, fun t q ht => ?_⟩)
 by_cases e : t = sa
 · subst e; rw [Bh] at ht; cases ht
   exact (hsl' _).trans hfa
 rw [Bj e] at ht
 rcases Cy ht with h | h
 · obtain ⟨d, _, he⟩ := List.mem_map.1 (Kq h)
   cases he
   exact hsl' _
 refine ha'.val t q ?_
 rw [Ge]
 · exact h
 cases hq : lk (He opsL.toArray (fun i => phs.getD i (.eq undef)) 0 k) t with
 | none => rfl
 | some q' =>
   obtain ⟨j, p, _, hjk, hp, hpd, _⟩ := Fo hq
   exact absurd hpd (hbd t q h j p (Nat.zero_le _) hjk hp)
end
def Q7 (ops : Array Oper) : List Nat → List Nat → Bool
 | _, [] => true
 | acc, j :: r => (match ops[j]? with | some o => o.after.any fun e => Region.binds .any e && acc.contains e.on | none => false) && Q7 ops (j :: acc) r
def Oh (ops : Array Oper) : List Nat → List Nat → Bool
 | _, [] => true
 | acc, j :: r => (acc.any fun i => match ops[i]? with | some o => o.after.any fun e => Region.binds .any e && Nat.beq e.on j | none => false) && Oh ops (j :: acc) r
def zA (ops : Array Oper) (k h : Nat) (early : List Nat) : Bool := (List.range k).all fun i => Nat.beq i h || early.contains i || (match ops[i]? with | some o => o.after.all fun e => !(Region.binds .any e && early.contains e.on) | none => true)
def keptL (K : World → World → Prop) (skip : List Nat) : Nat → List Ph → Prop
 | _, [] => True
 | i, q :: r => (skip.contains i = true ∨ ∀ v W W', q.holds v W → K W W' → q.holds v W') ∧ keptL K skip (i + 1) r
theorem keptL.at {K : World → World → Prop} {skip : List Nat} : ∀ {l : List Ph} {s : Nat}, keptL K skip s l → ∀ i, skip.contains (s + i) = false → ∀ v W W', (l.getD i (.eq undef)).holds v W → K W W' → (l.getD i (.eq undef)).holds v W'
 | [], _, _, i, _, v, W, W', h, _ => by
   have e : ([] : List Ph).getD i (.eq undef) = .eq undef := by simp
   rw [e] at h ⊢
   exact h
 | q :: r, s, hk, 0, hs, v, W, W', h, k => by
   rcases hk.1 with e | e
   · rw [show s + 0 = s from rfl] at hs; rw [hs] at e; cases e
   simpa using e v W W' (by simpa using h) k
 | q :: r, s, hk, i + 1, hs, v, W, W', h, k => by
   simpa using hk.2.at i (by rw [show s + 1 + i = s + (i + 1) by omega]; exact hs) v W W' (by simpa using h) k
theorem fR {ops : Array Oper} {L : Nat → Bool} {h : Nat} (hDn : JK ops L) : ∀ {late acc : List Nat}, Q7 ops acc late = true → (∀ i ∈ acc, L i = true → L h = true) → ∀ j ∈ late, L j = true → L h = true
 | [], _, _, _, j, hj, _ => by cases hj
 | i :: r, acc, hl, ha, j, hj, hL => by
   unfold Q7 at hl
   rw [Bool.and_eq_true] at hl
   have hi : L i = true → L h = true := fun h1 => by
     cases ho : ops[i]? with
     | none => rw [ho] at hl; cases hl.1
     | some o =>
       rw [ho] at hl
       obtain ⟨e, he, hb⟩ := Array.any_eq_true'.1 hl.1
       rw [Bool.and_eq_true] at hb
       exact ha e.on (by simpa using hb.2) (hDn i o ho h1 e he hb.1)
   rcases List.mem_cons.1 hj with rfl | hj
   · exact hi hL
   exact fR hDn hl.2 (fun m hm h2 => (List.mem_cons.1 hm).elim (fun e => hi (e ▸ h2)) (fun hm => ha m hm h2)) j hj hL
theorem Yc {ops : Array Oper} {L : Nat → Bool} (hDn : JK ops L) : ∀ {early acc : List Nat}, Oh ops acc early = true → (∀ i ∈ acc, L i = true) → ∀ j ∈ early, L j = true
 | [], _, _, _, j, hj => by cases hj
 | i :: r, acc, hl, ha, j, hj => by
   unfold Oh at hl
   rw [Bool.and_eq_true] at hl
   have hi : L i = true := by
     obtain ⟨m, hm, h1⟩ := List.any_eq_true.1 hl.1
     cases ho : ops[m]? with
     | none => rw [ho] at h1; cases h1
     | some o =>
       rw [ho] at h1
       obtain ⟨e, he, hb⟩ := Array.any_eq_true'.1 h1
       rw [Bool.and_eq_true] at hb
       rw [← Nat.eq_of_beq_eq_true hb.2]
       exact hDn m o ho (ha m hm) e he hb.1
   rcases List.mem_cons.1 hj with rfl | hj
   · exact hi
   exact Yc hDn hl.2 (fun m hm => (List.mem_cons.1 hm).elim (fun e => e ▸ hi) (fun hm => ha m hm)) j hj
section
variable {R : Option Nat} {m : Nat} {P : Program} {n : Nat} {ds : List Deferred} {Q : Exit → Go.Act → World → Prop} {l : Env} {w : World}
theorem Yd {id : Nat} {opsL : List Oper} (k h : Nat) (early late : List Nat) (phs : List Ph) (keep : List Nat) (K : World → World → Prop) (hm : P.follows .mixedOrders = true) (hl : Cf l = true)
   (hA : D7 opsL.toArray = true) (hC : (Nat.beq k opsL.toArray.size || Fh opsL.toArray k) = true) (hF : Jl opsL.toArray k = true) (hks : Nat.ble k opsL.toArray.size = true) (hD : G2 n opsL.toArray 0 k = true) (hTl : G0 opsL.toArray k = true)
   (hfree : Kr l (opsL.take k) = true) (hla : Q7 opsL.toArray [h] late = true) (hea : Oh opsL.toArray [h] early = true) (hus : zA opsL.toArray k h early = true) (hph : allU phs) (hkp : keptL K (h :: (early ++ late)) 0 phs)
   (hop : ∀ W, Up w.drew W → allL (fun i o => o.guard = none ∧ (i ≠ h → TU P n ds (Ml opsL.toArray (fun i => phs.getD i (.eq undef)) 0 o ++ l) W o (phs.getD i (.eq undef))) ∧
     (i = h → ∀ a, Ag n ds (Ml opsL.toArray (fun i => phs.getD i (.eq undef)) 0 o ++ l) a W → aO P o a W (fun v W' => (Up w.drew W' ∧ K W W') ∧ (phs.getD i (.eq undef)).holds v W'))) 0 (opsL.take k))
   (hend : ∀ W (g : Nat → Value), Up w.drew W → (∀ i o d, i < k → early.contains i = false → opsL[i]? = some o → o.dst = some d → (phs.getD i (.eq undef)).holds (g d) W) → LW R m P n ds opsL.toArray Q (opsL.drop k) (keep.map (fun d => (d, .eq (g d))) ++ l) W) :
   CW R m P n ds (.region id opsL.toArray true) Q l w := by
 have hks' : k ≤ opsL.length := by have := Nat.le_of_ble_eq_true hks; simp at this; omega
 have sub : ∀ j o, j < k → opsL.toArray[j]? = some o → (opsL.take k)[j]? = some o := fun j o hjk ho => by
   rw [List.getElem?_take_of_lt hjk]; simpa using ho
 have hbd : ∀ i ph, lk l i = some ph → ∀ (j : Nat) (o : Oper), 0 ≤ j → j < k → opsL.toArray[j]? = some o → o.dst ≠ some i := fun i ph hi j o _ hjk ho => Gu hfree hi (List.mem_of_getElem? (sub j o hjk ho))
 refine Fl hm hl fun fuel listed a hf hu ha => (Jm (k := k) (fun _ => .pred fun _ _ => True) (fun _ _ => True) (fun L f W => Up w.drew W ∧ ∀ (j : Nat) (o : Oper) (d : Nat), j < k → L j = true → opsL.toArray[j]? = some o → o.dst = some d → (early.contains j = true → L h = false) → (phs.getD j (.eq undef)).holds (f d) W) (f0 := fun t => a.tmps.getD t undef) (fun _ => trivial) (fun _ _ _ _ _ => trivial) (fun _ _ _ _ _ _ => trivial) hA hC hF hks (by simp) hD hl hbd ?_ ⟨Up.refl _, fun j o d _ hj => by simp at hj⟩ ?_ fuel listed a hf hu ha (fun _ => rfl))
 · intro i o _ hi hio L f W _ hDn hLi hed hInv a ha hsl
   obtain ⟨hU, hI⟩ := hInv
   have ha2 : Ag n ds (Ml opsL.toArray (fun i => phs.getD i (.eq undef)) 0 o ++ l) a W := by
     refine ⟨ha.defers, ha.size, fun t q ht => ?_⟩
     rcases Cy ht with h1 | h1
     · obtain ⟨e, he, hb, _, p, hp, hpd, rfl⟩ := bF h1
       rw [hsl]
       refine hI e.on p t (by have := Dx hA hio e he hb; omega) (hed e he hb) hp hpd (fun hE => ?_)
       by_cases ih : i = h
       · rw [← ih]; exact hLi
       have h2 := List.all_eq_true.1 hus i (List.mem_range.2 hi)
       rw [Bool.or_eq_true, Bool.or_eq_true] at h2
       rcases h2 with (h2 | h2) | h2
       · exact absurd (Nat.eq_of_beq_eq_true h2) ih
       · cases hLh : L h with
         | false => rfl
         | true =>
           have := Yc hDn hea (fun m hm => by rw [List.mem_singleton.1 hm]; exact hLh) i (by simpa using h2)
           rw [hLi] at this; cases this
       rw [hio] at h2
       have h3 := Array.all_eq_true_iff_forall_mem.1 h2 e he
       rw [hb, hE] at h3
       cases h3
     refine ha.val t q ?_
     rw [Ge]
     · exact h1
     cases hq : lk (Ml opsL.toArray (fun _ => Ph.pred fun _ _ => True) 0 o) t with
     | none => rfl
     | some q' =>
       obtain ⟨e, he, hb, _, p, hp, hpd, _⟩ := bF hq
       exact absurd hpd (hbd t q h1 e.on p (Nat.zero_le _) (by have := Dx hA hio e he hb; omega) hp)
   have h3 := (hop W hU).at (sub i o hi hio)
   rw [Nat.zero_add] at h3
   obtain ⟨hg, h3, h4⟩ := h3
   rw [if_pos (by simp [Region.wanted, hg])]
   by_cases ih : i = h
   · have done : ∀ v W', (Up w.drew W' ∧ K W W') ∧ (phs.getD i (.eq undef)).holds v W' → True ∧ (∀ d, o.dst = some d → (Ph.pred fun _ _ => True).holds v W') ∧ Up w.drew W' ∧ ∀ (j : Nat) (o' : Oper) (d : Nat), j < k → C9 L i j = true → opsL.toArray[j]? = some o' → o'.dst = some d → (early.contains j = true → C9 L i h = false) → (phs.getD j (.eq undef)).holds (Fe f o.dst v d) W' := by
       rintro v W' ⟨⟨hu, hk⟩, hv⟩
       refine ⟨trivial, fun _ _ => trivial, hu, fun j o' d hj hLj hj' hd hE => ?_⟩
       by_cases e : j = i
       · subst e
         rw [hio] at hj'; cases hj'
         simpa [Fe, hd] using hv
       have h5 : L j = true := by simpa [C9, e] using hLj
       have h6 : Fe f o.dst v d = f d := by
         have := (Dk hD (Nat.zero_le _) hj hj' hd).2 i o (Nat.zero_le _) hi (Ne.symm e) hio
         simp [Fe, this]
       rw [h6]
       have h7 : early.contains j = false := by
         cases hc : early.contains j with
         | false => rfl
         | true => have := hE hc; simp [C9, ih] at this
       have h8 : late.contains j = false := by
         cases hc : late.contains j with
         | false => rfl
         | true =>
           have := fR (h := h) hDn hla (fun m hm h2 => (List.mem_singleton.1 hm) ▸ h2) j (by simpa using hc) h5
           rw [← ih, hLi] at this; cases this
       refine hkp.at j ?_ _ W W' (hI j o' d hj h5 hj' hd (fun hc => by rw [h7] at hc; cases hc)) hk
       rw [Nat.zero_add, Bool.eq_false_iff]
       intro hc
       rw [List.contains_iff_mem, List.mem_cons, List.mem_append] at hc
       rcases hc with hc | hc | hc
       · exact e (hc.trans ih.symm)
       · rw [← List.contains_iff_mem, h7] at hc; cases hc
       rw [← List.contains_iff_mem, h8] at hc; cases hc
     rcases h4 ih a ha2 with ⟨v, W', hr, hp⟩ | ⟨fn, args, w1, hr, hc⟩
     · exact .inl (.inl ⟨v, W', hr, done v W' hp⟩)
     exact .inl (.inr ⟨fn, args, w1, hr, hc.mono done⟩)
   have done : ∀ v W', Up W W' ∧ (phs.getD i (.eq undef)).holds v W' → True ∧ (∀ d, o.dst = some d → (Ph.pred fun _ _ => True).holds v W') ∧ Up w.drew W' ∧ ∀ (j : Nat) (o' : Oper) (d : Nat), j < k → C9 L i j = true → opsL.toArray[j]? = some o' → o'.dst = some d → (early.contains j = true → C9 L i h = false) → (phs.getD j (.eq undef)).holds (Fe f o.dst v d) W' := by
     rintro v W' ⟨hu, hv⟩
     refine ⟨trivial, fun _ _ => trivial, hU.trans hu, fun j o' d hj hLj hj' hd hE => ?_⟩
     by_cases e : j = i
     · subst e
       rw [hio] at hj'; cases hj'
       simpa [Fe, hd] using hv
     have h5 : L j = true := by simpa [C9, e] using hLj
     have h6 : Fe f o.dst v d = f d := by
       have := (Dk hD (Nat.zero_le _) hj hj' hd).2 i o (Nat.zero_le _) hi (Ne.symm e) hio
       simp [Fe, this]
     rw [h6]
     exact hph.at j _ W W' (hI j o' d hj h5 hj' hd (fun hc => by have := hE hc; simpa [C9, Ne.symm ih] using this)) hu
   rcases h3 ih a ha2 with ⟨v, W', hr, hp⟩ | ⟨fn, args, w1, hr, hc⟩
   · exact .inl (.inl ⟨v, W', hr, done v W' hp⟩)
   exact .inl (.inr ⟨fn, args, w1, hr, hc.mono done⟩)
 intro f W _ hInv fuel' listed' a' hf' hu' ha' hsl'
 obtain ⟨hUp, hI⟩ := hInv
 have key : ∀ i o d, i < k → early.contains i = false → opsL[i]? = some o → o.dst = some d → (phs.getD i (.eq undef)).holds (f d) W := fun i o d hik hE ho hd => hI i o d hik (by simpa using hik) (by simpa using ho) hd (fun hc => by rw [hE] at hc; cases hc)
 refine Fm hTl hA (opsL.toArray.size - k) k fuel' listed' a' W rfl (by simp; omega) (Nat.le_refl _) hf' hu' (hend W f hUp key a' ⟨ha'.defers, ha'.size, fun t q ht => ?_⟩)
 rcases Cy ht with h | h
 · obtain ⟨d, _, he⟩ := List.mem_map.1 (Kq h)
   cases he
   exact hsl' _
 refine ha'.val t q ?_
 rw [Ge]
 · exact h
 cases hq : lk (He opsL.toArray (fun _ => Ph.pred fun _ _ => True) 0 k) t with
 | none => rfl
 | some q' =>
   obtain ⟨j, p, _, hjk, hp, hpd, _⟩ := Fo hq
   exact absurd hpd (hbd t q h j p (Nat.zero_le _) hjk hp)
theorem Ag.fS {t : Nat} {v : Value} {a : Go.Act} {env : Env} (ha : Ag n ds env a w) (hv : a.tmps.getD t undef = v) : Ag n ds ((t, .eq v) :: env) a w := ⟨ha.defers, ha.size, fun s q hs => by
 by_cases e : s = t
 · subst e; rw [Bh] at hs; cases hs; exact hv
 rw [Bj e] at hs; exact ha.val s q hs⟩
end
section
variable {P : Program} {n : Nat} {ds : List Deferred} {l : Env} {w : World} {d : Option Tmp} {ty : TypeId} {ps : String} {af : Array Edge} {g : Option (Nat × Bool)}
theorem PEv.sliceFrom {T e : TypeId} {x lo : Operand} {ad : Option Addr} {k m cap j : Nat} (hT : P.underlying T = some (.slice e)) (hs : ∀ w, (sizeOf e).run P w = .ok k w) (hx : Val l x (.slice ad m cap)) (hl : Val l lo (.int .i64 (j : Int))) (hj : j ≤ m) :
   PEv P n ds l w ⟨d, .slice T x (some lo) none none, ty, ps, af, g⟩ (.slice (if cap = j then ad else ad.map (·.add (j * k))) (m - j) (cap - j)) := fun a w' ha _ => by
 refine Cm ?_
 rw [ha.ev hx]
 simp only [Option.map_none, Option.map_some, ha.ev hl]
 simp [Instr.sliceAt, Instr.slice, Instr.sliceBounds, Instr.sliceBound, asIntOf, run_underlying hT, Result.andThen, hs, hj]
theorem Els.take {α : Type} {enc : α → Array Value} {ad : Option Addr} {k j : Nat} {xs : List α} (h : Els w ad k enc xs) : Els w ad k enc (xs.take j) := fun i x hx => by
 rw [List.getElem?_take] at hx
 split at hx
 · exact h i x hx
 cases hx
end
theorem Sep.Ye {α : Type} {S0 : Nat → Prop} {w0 w : World} {As : List Asr} {e k : Nat} {enc : α → Array Value} (h : Sep S0 w0 w As) (ho : OwnS w 0 e k enc (.slice none 0 0) ([] : List α)) : Sep S0 w0 w (As ++ [J e k enc (.slice none 0 0) ([] : List α)]) := h.add (Up.refl _) ho (fun i h => by cases h)
theorem Sep.perm {S0 : Nat → Prop} {w0 w : World} {As Bs : List Asr} (h : Sep S0 w0 w As) (p : As.Perm Bs) : Sep S0 w0 w Bs := ⟨h.fr, fun B hB => h.each B (p.mem_iff.2 hB), (p.pairwise_iff (fun {_ _} hAB i hi hj => hAB i hj hi)).1 h.apart⟩
theorem OwnS.KB {α : Type} {enc : α → Array Value} {b k n cp : Nat} {e : TypeId} {w : World} {ad : Option Addr} {xs : List α} (h : OwnS w b e k enc (.slice ad n cp) xs) (hne : 0 < xs.length) : ∃ g, ad = some ⟨g, 0, none⟩ := by
 obtain ⟨_, ⟨e1, e2⟩ | ⟨g, cap, cur, e1, _⟩⟩ := h
 · omega
 cases e1; exact ⟨g, rfl⟩
theorem OwnS.I9 {α : Type} {enc : α → Array Value} {b e k : Nat} {w : World} {v : Value} {xs : List α} (h : OwnS w 0 e k enc v xs) (hb : ∀ i, (J e k enc v xs).foot i → b ≤ i) : OwnS w b e k enc v xs := by
 obtain ⟨h1, h2⟩ := h
 refine ⟨h1, ?_⟩
 rcases h2 with h2 | ⟨g, cap, cur, e, _, rest⟩
 · exact .inl h2
 exact .inr ⟨g, cap, cur, e, hb g (by rw [e]; rfl), rest⟩
end Go.Wx
namespace Go.Wx
structure Fld where
 off : Nat
 lo : Int
 hi : Int
def Co (o : Nat) : Fld := ⟨o, 1, 1000000⟩
def Cv : List Fld := [Co 1]
def Ky : List Fld := [Co 14, Co 15]
def C6 : List Fld := [⟨11, 0, 59⟩, ⟨12, 0, 3⟩]
def Cl : Fld := ⟨5, 0, 1000000⟩
def D4 : List Fld := [Cl, ⟨6, 0, 1000000⟩]
def Jv : List Fld := [⟨7, 0, 1000000⟩, ⟨9, 0, 1000000⟩, ⟨11, 0, 60⟩, ⟨12, 0, 4⟩, ⟨13, 0, 40⟩, ⟨14, 0, 1000000⟩, ⟨15, 0, 1000000⟩]
def H7 : Fld := ⟨17, 1, 255⟩
def Jh : Fld := ⟨16, -1000000, 1000000⟩
theorem Vg {α : Type} {xss : List (List α)} {k : Nat} {ys : List α} (h : xss[k]? = some ys) : (xss.take (k + 1)).flatten = (xss.take k).flatten ++ ys := by
 obtain ⟨hk, e⟩ := List.getElem?_eq_some_iff.1 h
 rw [List.take_add_one, h]; simp
theorem Uk {α : Type} (xss : List (List α)) (k : Nat) : ((xss.take k).flatten).length ≤ xss.flatten.length := by
 have : xss.flatten = (xss.take k).flatten ++ (xss.drop k).flatten := by rw [← List.flatten_append, List.take_append_drop]
 rw [this, List.length_append]; omega
def Lh : List (List Fld) := [[], Cv ++ [Co 7] ++ C6 ++ [⟨13, 0, 39⟩] ++ Ky ++ D4 ++ [⟨16, -10000000, 10000000⟩], Cv ++ [Cl, Jh], Cv ++ [Co 7, Co 8, Cl], [Co 7, Co 9, Co 10, Cl], [Co 10], Cv ++ C6 ++ Ky ++ D4, Cv ++ Jv ++ D4 ++ [H7], [Co 8, H7, Cl], Cv ++ C6 ++ [Cl], [Co 14, Cl, Jh], Cv ++ C6 ++ D4]
def Pn : List (List Fld) := [[], Cv, Cv, Cv, [Co 7, Cl], [Co 10], Cv, Cv, [Co 8, H7], Cv, [Co 14, Cl], Cv]
def fieldsOf (k : Int) : List Fld := Lh.getD k.toNat []
def Ep (k : Int) : List Fld := Pn.getD k.toNat []
def Gl (k : Int) : Nat := [0, 1, 0, 2, 0, 0, 1, 1, 0, 0, 0, 1].getD k.toNat 0
def Gm (k : Int) : Bool := decide (k = 5)
end Go.Wx
namespace Go.Proofs.YtgjogglfnkgapaaGreatDoor
open Go.Proofs.Tryz
open Go.Wx Go.RowKit
def sV : Nat → FuncId := fun o => match o with
 | 1 => 211
 | 5 => 300
 | 6 => 299
 | 7 => 215
 | 8 => 228
 | 9 => 216
 | 10 => 229
 | 11 => 217
 | 12 => 218
 | 13 => 219
 | 14 => 212
 | 15 => 213
 | 16 => 221
 | 17 => 220
 | _ => 0
def Fld.cells (x : Fld) : Array Go.Value := #[.func (.func (sV x.off)) #[] #[], vi x.lo, vi x.hi]
theorem Fld.one (x : Fld) : (Fld.cells x).all (·.oneCell') = true := by simp [Fld.cells, Value.oneCell']
theorem zC (b : Nat) (w : World) : Ret prog 211 #[.pointer (some ⟨b, 0, none⟩)] w fun r w' => r = .pointer (some ⟨b, 1, none⟩) ∧ Up w w' := by
 have hW := Up.refl w
 refine cT 6 func211 rfl (Af (Ay (Ao (Aa (Ab rfl (I (.nc rfl) (I (.fB 1 rfl) (LW.A rfl (Ai (Ak (KW.q ?_)))))))))))
 exact ⟨rfl, hW⟩
theorem nE (b : Nat) (w : World) : Ret prog 300 #[.pointer (some ⟨b, 0, none⟩)] w fun r w' => r = .pointer (some ⟨b, 5, none⟩) ∧ Up w w' := by
 have hW := Up.refl w
 refine cT 6 func300 rfl (Af (Ay (Ao (Aa (Ab rfl (I (.nc rfl) (I (.fB 5 rfl) (LW.A rfl (Ai (Ak (KW.q ?_)))))))))))
 exact ⟨rfl, hW⟩
theorem jE (b : Nat) (w : World) : Ret prog 299 #[.pointer (some ⟨b, 0, none⟩)] w fun r w' => r = .pointer (some ⟨b, 6, none⟩) ∧ Up w w' := by
 have hW := Up.refl w
 refine cT 6 func299 rfl (Af (Ay (Ao (Aa (Ab rfl (I (.nc rfl) (I (.fB 6 rfl) (LW.A rfl (Ai (Ak (KW.q ?_)))))))))))
 exact ⟨rfl, hW⟩
theorem jF (b : Nat) (w : World) : Ret prog 215 #[.pointer (some ⟨b, 0, none⟩)] w fun r w' => r = .pointer (some ⟨b, 7, none⟩) ∧ Up w w' := by
 have hW := Up.refl w
 refine cT 6 func215 rfl (Af (Ay (Ao (Aa (Ab rfl (I (.nc rfl) (I (.fB 7 rfl) (LW.A rfl (Ai (Ak (KW.q ?_)))))))))))
 exact ⟨rfl, hW⟩
theorem jG (b : Nat) (w : World) : Ret prog 228 #[.pointer (some ⟨b, 0, none⟩)] w fun r w' => r = .pointer (some ⟨b, 8, none⟩) ∧ Up w w' := by
 have hW := Up.refl w
 refine cT 6 func228 rfl (Af (Ay (Ao (Aa (Ab rfl (I (.nc rfl) (I (.fB 8 rfl) (LW.A rfl (Ai (Ak (KW.q ?_)))))))))))
 exact ⟨rfl, hW⟩
theorem sW (b : Nat) (w : World) : Ret prog 216 #[.pointer (some ⟨b, 0, none⟩)] w fun r w' => r = .pointer (some ⟨b, 9, none⟩) ∧ Up w w' := by
 have hW := Up.refl w
 refine cT 6 func216 rfl (Af (Ay (Ao (Aa (Ab rfl (I (.nc rfl) (I (.fB 9 rfl) (LW.A rfl (Ai (Ak (KW.q ?_)))))))))))
 exact ⟨rfl, hW⟩
theorem Yf (b : Nat) (w : World) : Ret prog 229 #[.pointer (some ⟨b, 0, none⟩)] w fun r w' => r = .pointer (some ⟨b, 10, none⟩) ∧ Up w w' := by
 have hW := Up.refl w
 refine cT 6 func229 rfl (Af (Ay (Ao (Aa (Ab rfl (I (.nc rfl) (I (.fB 10 rfl) (LW.A rfl (Ai (Ak (KW.q ?_)))))))))))
 exact ⟨rfl, hW⟩
theorem nG (b : Nat) (w : World) : Ret prog 217 #[.pointer (some ⟨b, 0, none⟩)] w fun r w' => r = .pointer (some ⟨b, 11, none⟩) ∧ Up w w' := by
 have hW := Up.refl w
 refine cT 6 func217 rfl (Af (Ay (Ao (Aa (Ab rfl (I (.nc rfl) (I (.fB 11 rfl) (LW.A rfl (Ai (Ak (KW.q ?_)))))))))))
 exact ⟨rfl, hW⟩
theorem Yg (b : Nat) (w : World) : Ret prog 218 #[.pointer (some ⟨b, 0, none⟩)] w fun r w' => r = .pointer (some ⟨b, 12, none⟩) ∧ Up w w' := by
 have hW := Up.refl w
 refine cT 6 func218 rfl (Af (Ay (Ao (Aa (Ab rfl (I (.nc rfl) (I (.fB 12 rfl) (LW.A rfl (Ai (Ak (KW.q ?_)))))))))))
 exact ⟨rfl, hW⟩
theorem nH (b : Nat) (w : World) : Ret prog 219 #[.pointer (some ⟨b, 0, none⟩)] w fun r w' => r = .pointer (some ⟨b, 13, none⟩) ∧ Up w w' := by
 have hW := Up.refl w
 refine cT 6 func219 rfl (Af (Ay (Ao (Aa (Ab rfl (I (.nc rfl) (I (.fB 13 rfl) (LW.A rfl (Ai (Ak (KW.q ?_)))))))))))
 exact ⟨rfl, hW⟩
theorem bJ (b : Nat) (w : World) : Ret prog 212 #[.pointer (some ⟨b, 0, none⟩)] w fun r w' => r = .pointer (some ⟨b, 14, none⟩) ∧ Up w w' := by
 have hW := Up.refl w
 refine cT 6 func212 rfl (Af (Ay (Ao (Aa (Ab rfl (I (.nc rfl) (I (.fB 14 rfl) (LW.A rfl (Ai (Ak (KW.q ?_)))))))))))
 exact ⟨rfl, hW⟩
theorem Wv (b : Nat) (w : World) : Ret prog 213 #[.pointer (some ⟨b, 0, none⟩)] w fun r w' => r = .pointer (some ⟨b, 15, none⟩) ∧ Up w w' := by
 have hW := Up.refl w
 refine cT 6 func213 rfl (Af (Ay (Ao (Aa (Ab rfl (I (.nc rfl) (I (.fB 15 rfl) (LW.A rfl (Ai (Ak (KW.q ?_)))))))))))
 exact ⟨rfl, hW⟩
theorem jH (b : Nat) (w : World) : Ret prog 221 #[.pointer (some ⟨b, 0, none⟩)] w fun r w' => r = .pointer (some ⟨b, 16, none⟩) ∧ Up w w' := by
 have hW := Up.refl w
 refine cT 6 func221 rfl (Af (Ay (Ao (Aa (Ab rfl (I (.nc rfl) (I (.fB 16 rfl) (LW.A rfl (Ai (Ak (KW.q ?_)))))))))))
 exact ⟨rfl, hW⟩
theorem Yh (b : Nat) (w : World) : Ret prog 220 #[.pointer (some ⟨b, 0, none⟩)] w fun r w' => r = .pointer (some ⟨b, 17, none⟩) ∧ Up w w' := by
 have hW := Up.refl w
 refine cT 6 func220 rfl (Af (Ay (Ao (Aa (Ab rfl (I (.nc rfl) (I (.fB 17 rfl) (LW.A rfl (Ai (Ak (KW.q ?_)))))))))))
 exact ⟨rfl, hW⟩
theorem Dj (g : FuncId) (w : World) : Ret prog 210 #[.func (.func g) #[] #[]] w fun r w' => r = .agg #[.func (.func g) #[] #[], vi 1, vi 1000000] ∧ Up w w' := by
 have hW := Up.refl w
 refine cT 5 func210 rfl (Af (Al (.Bm zeroValue310) rfl ?_))
 rintro _ w1 ⟨B2, rfl, NB2⟩
 have eB2 := NB2.at_
 replace hW := hW.up NB2.up
 have hB2 := NB2.blk
 refine Ao (Aa (Ab rfl (I (.build (cs := #[.func (.func g) #[] #[], vi 1, vi 1000000]) underlying310 zeroValue310 Cn (.ct rfl (.cons (.const _) (.cons (.const _) .nil))) rfl) (Be (.Bi sizeOf310 rfl (.t rfl) (.t rfl) eQ hB2 rfl) ?_))))
 intro w2 Nw2
 replace hW := hW.sto Nw2.sto oQ
 replace hB2 := Nw2.blk
 refine Ai (Ak (E0 rfl rfl isAgg310 sizeOf310 rfl (hB2.agg) ⟨_, rfl, ?_⟩))
 exact ⟨rfl, hW⟩
theorem G6 (w : World) : Ret prog 226 #[] w fun r w' => r = .agg (Fld.cells Cl) ∧ Up w w' := by
 have hW := Up.refl w
 refine cT 2 func226 rfl (Af (Al (.Bm zeroValue310) rfl ?_))
 rintro _ w1 ⟨B0, rfl, NB0⟩
 have eB0 := NB0.at_
 replace hW := hW.up NB0.up
 have hB0 := NB0.blk
 refine Ao (Aa (I (.build (cs := (Fld.cells Cl)) underlying310 zeroValue310 Cn (.cons (.func _) (.cons (.const _) (.cons (.const _) .nil))) rfl) (Be (.Bi sizeOf310 rfl (.t rfl) (.t rfl) (Fld.one _) hB0 rfl) ?_)))
 intro w2 Nw2
 replace hW := hW.sto Nw2.sto oQ
 replace hB0 := Nw2.blk
 refine Ai (Ak (E0 rfl rfl isAgg310 sizeOf310 rfl (hB0.agg) ⟨_, rfl, ?_⟩))
 exact ⟨rfl, hW⟩
theorem Lz (w : World) : Ret prog 223 #[] w fun r w' => SlT 310 w' r 3 Fld.cells C6 ∧ Up w w' := by
 have hW := Up.refl w
 refine cT 4 func223 rfl (Af (Ay (Ao (Aa (I (.build (cs := (Fld.cells ⟨11, 0, 59⟩)) underlying310 zeroValue310 Cn (.cons (.func _) (.cons (.const _) (.cons (.const _) .nil))) rfl) (I (.build (cs := (Fld.cells ⟨12, 0, 3⟩)) underlying310 zeroValue310 Cn (.cons (.func _) (.cons (.const _) (.cons (.const _) .nil))) rfl) (Al (.buildSlice (xs := C6) (enc := Fld.cells) (mk := fun x : Fld => .agg (Fld.cells x)) underlying221 sizeOf310 zeroValue310 rfl cQ (fun _ => rfl) (fun _ => rfl) (.ct rfl (.cu rfl)) rfl) rfl ?_)))))))
 rintro _ w1 ⟨B3, cB3, rfl, NB3, yB3, xB3⟩
 replace hW := hW.up NB3.up
 have hB3 := NB3.blk
 have hE3 := xB3
 refine LW.A rfl (Ai (Ak (KW.q ?_)))
 exact ⟨SlT.lit ⟨B3, cB3, rfl, NB3, yB3, hE3⟩, hW⟩
theorem Oi (w : World) : Ret prog 224 #[] w fun r w' => SlT 310 w' r 3 Fld.cells D4 ∧ Up w w' := by
 have hW := Up.refl w
 refine cT 4 func224 rfl (Af (Ay (Ao (Aa (A3 (eC .nil (N5)) rfl (G6 _) ?_)))))
 rintro _ w1 ⟨rfl, uw1⟩
 replace hW := hW.up uw1
 refine I (.build (cs := (Fld.cells ⟨6, 0, 1000000⟩)) underlying310 zeroValue310 Cn (.cons (.func _) (.cons (.const _) (.cons (.const _) .nil))) rfl) (Al (.buildSlice (xs := D4) (enc := Fld.cells) (mk := fun x : Fld => .agg (Fld.cells x)) underlying221 sizeOf310 zeroValue310 rfl cQ (fun _ => rfl) (fun _ => rfl) (.ct rfl (.cu rfl)) rfl) rfl ?_)
 rintro _ w2 ⟨B3, cB3, rfl, NB3, yB3, xB3⟩
 replace hW := hW.up NB3.up
 have hB3 := NB3.blk
 have hE3 := xB3
 refine LW.A rfl (Ai (Ak (KW.q ?_)))
 exact ⟨SlT.lit ⟨B3, cB3, rfl, NB3, yB3, hE3⟩, hW⟩
theorem Ja (ad : Option Addr) (cp : Nat) (vs : List Go.Value) (xss : List (List Fld)) (w : World) (hE0 : Els w ad 1 (fun v => #[v]) vs) (hl : xss.length = vs.length) (hx0 : ∀ (i : Nat) (v : Go.Value) (xs : List Fld), vs[i]? = some v → xss[i]? = some xs → Sl w v 3 Fld.cells xs) (hv : vs.length ≤ 1000) (hb : xss.flatten.length ≤ 1000) : Ret prog 222 #[.slice ad vs.length cp] w fun r w' => SlT 310 w' r 3 Fld.cells xss.flatten ∧ Up w w' := by
 obtain ⟨w0, rfl, hS⟩ := W0 w
 refine cT 16 func222 rfl (Af (Ay (Ao (Am ?_))))
 replace hS := hS.add (Up.refl _) (A' := J 310 3 Fld.cells (.slice none 0 0) ([] : List Fld)) (OwnS.nil _ _ _ _ _) (fun i h => by cases h)
 refine Aa (Ab rfl (I (.Di underlying379 (.t rfl)) (I (.move (.const _)) (Ai (An (A8 (σ := Nat × Go.Value) (fun s w => (s.1 ≤ vs.length) ∧ (Sep no w0 w [J 310 3 Fld.cells s.2 ((xss.take s.1).flatten)])) (fun s => [(7, .eq (vi (s.1 : Int))), (2, .eq (s.2))]) ([(5, .eq _), (6, .eq _)]) (fun s => vs.length - s.1) (0, .slice none 0 0) ?_ tQ ?_))))))
 ·exact ⟨Nat.zero_le _, hS⟩
 rintro ⟨k, v⟩ w1 ⟨hkk, hS⟩
 dsimp only at hkk hS
 refine Af (I (.l2 rfl rfl) (Ao (CW.b rfl (fun h8 => ?_) (fun h8 => ?_))))
 ·refine Aj (Ac (Am (An (Am ?_))))
  have hE := hE0.up hS.Cr
  have hkl : k < vs.length := by simp at h8; omega
  refine Aa ?_
  obtain ⟨x, hx⟩ := Au (xs := vs) (i := k) oQ
  obtain ⟨Bx, ox, ax, hcx⟩ := hE _ x hx
  refine I (.Av underlying379 sizeOf221 (.t rfl) (.t rfl) oQ ax) (I (.lb rfl (hcx.nth (j := 0) rfl)) (LW.A rfl (Ai ?_)))
  obtain ⟨ys, hys⟩ := Au (xs := xss) (i := k) oQ
  have hSl := ((hx0 k x ys hx hys).up hS.Cr)
  have hfl := Uk xss (k + 1)
  rw [Vg hys, List.length_append] at hfl
  refine Aa (Ab rfl (Ab rfl (Al (.C2 (enc := Fld.cells) (bytes := 24) (i := Tryz.t310) underlying221 kQ rfl rfl rfl rfl cQ (fun _ => rfl) Fld.one (.t rfl) (.t rfl) (hS.own 0 rfl) hSl (by simp only [maxLen]; omega) oQ) rfl ?_)))
  intro v13 w2 Gw2
  replace hS := hS.Ez 0 rfl Gw2
  refine LW.A rfl (LW.nil (Ae (Ac (Aa (I (.ic rfl oQ) (Ab rfl (LW.nil (Ar ?_))))))))
  exact ⟨(k + 1, v13), ⟨by omega, by rw [Vg hys]; exact hS⟩, tQ, by omega⟩
 refine Bl (Ad (Ad (Aq (Ac (Af (Ab rfl (LW.A rfl (Ai (Ak (KW.q ?_))))))))))
 have hk2 : xss.take k = xss := List.take_of_length_le (by simp at h8; omega)
 rw [hk2] at hS
 exact ⟨SlT.own (hS.own 0 rfl) (fun _ => rfl), hS.Cr⟩
def E8 : Nat → FuncId := fun o => match o with
 | 1 => 225
 | 2 => 214
 | _ => 227
def ShV (w : World) (v : Go.Value) (fs ks : List Fld) (r : Nat) (t : Bool) : Prop := ∃ v1 v2, v = .agg #[v1, v2, .func (.func (E8 r)) #[] #[], .bool t] ∧ SlT 310 w v1 3 Fld.cells fs ∧ SlT 310 w v2 3 Fld.cells ks
theorem ShV.G3 {w w' : World} {v : Go.Value} {fs ks : List Fld} {r : Nat} {t : Bool} (h : ShV w v fs ks r t) (u : Cel w w') : ShV w' v fs ks r t := let ⟨v1, v2, e, h1, h2⟩ := h; ⟨v1, v2, e, h1.G3 u, h2.G3 u⟩
def SlS (w : World) (v : Go.Value) (xss : List (List Fld)) : Prop := ∃ vs : List Go.Value, Sl w v 1 (fun v => #[v]) vs ∧ xss.length = vs.length ∧ ∀ (i : Nat) (v : Go.Value) (xs : List Fld), vs[i]? = some v → xss[i]? = some xs → Sl w v 3 Fld.cells xs
theorem SlS.G3 {w w' : World} {v : Go.Value} {xss : List (List Fld)} (h : SlS w v xss) (u : Cel w w') : SlS w' v xss := let ⟨vs, h1, h2, h3⟩ := h; ⟨vs, h1.G3 u, h2, fun i v xs a b => (h3 i v xs a b).G3 u⟩
theorem Kz (xss : List (List Fld)) : PhC (.pred fun v w => SlS w v xss) := fun _ _ _ h u => SlS.G3 h u
theorem G7 (fs ks : List Fld) (r : Nat) (t : Bool) : PhC (.pred fun v w => ShV w v fs ks r t) := fun _ _ _ h u => ShV.G3 h u
def ShMap (w : World) (b : Nat) : Prop := ∃ kv, IMap w b kv ∧ (∀ k v, (k, v) ∈ kv → ShV w v (fieldsOf k) (Ep k) (Gl k) (Gm k)) ∧ ∀ k, k ∈ kv.map (·.1) ↔ 1 ≤ k ∧ k ≤ 11
theorem ShMap.up {w w' : World} {b : Nat} (h : ShMap w b) (u : Up w w') : ShMap w' b := let ⟨kv, h1, h2, h3⟩ := h; ⟨kv, h1.up u, fun k v m => (h2 k v m).G3 u.G3, h3⟩
def AllSl (w : World) : List Go.Value → List (List Fld) → Prop
 | [], [] => True
 | v :: vs, xs :: xss => Sl w v 3 Fld.cells xs ∧ AllSl w vs xss
 | _, _ => False
def Ul (t : Option Addr × Nat × Nat) : Go.Value := .slice t.1 t.2.1 t.2.2
theorem Els.H8 {α : Type} {mk : α → Go.Value} {w : World} {ad : Option Addr} {xs : List α} (h : Els w ad 1 (fun x => #[mk x]) xs) : Els w ad 1 (fun v => #[v]) (xs.map mk) := fun i v hv => by
 rw [List.getElem?_map] at hv
 cases hx : xs[i]? with
 | none => rw [hx] at hv; cases hv
 | some x => rw [hx] at hv; cases hv; exact h i x hx
theorem AllSl.at {w : World} : ∀ {vs : List Go.Value} {xss : List (List Fld)}, AllSl w vs xss → xss.length = vs.length ∧ ∀ (i : Nat) (v : Go.Value) (xs : List Fld), vs[i]? = some v → xss[i]? = some xs → Sl w v 3 Fld.cells xs
 | [], [], _ => ⟨rfl, fun i v xs h => by simp at h⟩
 | v :: vs, xs :: xss, h => ⟨by simp [(AllSl.at h.2).1], fun i v' xs' e1 e2 => by
   match i with
   | 0 => cases e1; cases e2; exact h.1
   | i + 1 => rw [List.getElem?_cons_succ] at e1 e2; exact (AllSl.at h.2).2 i v' xs' e1 e2⟩
 | [], _ :: _, h => h.elim
 | _ :: _, [], h => h.elim
theorem AllSl.up {w w' : World} (u : Up w w') : ∀ {vs : List Go.Value} {xss : List (List Fld)}, AllSl w vs xss → AllSl w' vs xss
 | [], [], _ => trivial
 | _ :: _, _ :: _, h => ⟨h.1.G3 u.G3, AllSl.up u h.2⟩
 | [], _ :: _, h => h.elim
 | _ :: _, [], h => h.elim
set_option maxHeartbeats 8000000 in
theorem K0 (w : World) : Ret prog 107 #[] w fun r w' => ∃ b, r = .map (some b) ∧ ShMap w' b ∧ Up w w' := by
 have hW := Up.refl w
 refine cT 118 func107 rfl (Af (Ay (Ao (Aa (A3 (eC (.cons (.func _) .nil) (Ia)) rfl (Dj _ _) ?_)))))
 rintro _ w1 ⟨rfl, uw1⟩
 replace hW := hW.up uw1
 refine Al (.buildSlice (xs := Cv) (enc := Fld.cells) (mk := fun x : Fld => .agg (Fld.cells x)) underlying221 sizeOf310 zeroValue310 rfl cQ (fun _ => rfl) (fun _ => rfl) (.cu rfl) rfl) rfl ?_
 rintro _ w2 ⟨B8, cB8, rfl, NB8, yB8, xB8⟩
 replace hW := hW.up NB8.up
 have hB8 := NB8.blk
 have hE8 := xB8
 refine LW.A rfl (Ao ?_)
 have hT8 := SlT.lit ⟨B8, cB8, rfl, NB8, yB8, hE8⟩
 refine Aa (A3 (eC (.cons (.func _) .nil) (Ia)) rfl (Dj _ _) ?_)
 rintro _ w3 ⟨rfl, uw3⟩
 replace hW := hW.up uw3
 replace hB8 := hB8.up uw3
 replace hE8 := hE8.up uw3
 replace hT8 := hT8.up uw3
 refine A3 (eC (.cons (.func _) .nil) (Ia)) rfl (Dj _ _) ?_
 rintro _ w4 ⟨rfl, uw4⟩
 replace hW := hW.up uw4
 replace hB8 := hB8.up uw4
 replace hE8 := hE8.up uw4
 replace hT8 := hT8.up uw4
 refine Al (.buildSlice (xs := Ky) (enc := Fld.cells) (mk := fun x : Fld => .agg (Fld.cells x)) underlying221 sizeOf310 zeroValue310 rfl cQ (fun _ => rfl) (fun _ => rfl) (.ct rfl (.cu rfl)) rfl) rfl ?_
 rintro _ w5 ⟨B11, cB11, rfl, NB11, yB11, xB11⟩
 replace hW := hW.up NB11.up
 replace hB8 := hB8.up NB11.up
 replace hE8 := hE8.up NB11.up
 replace hT8 := hT8.up NB11.up
 have hB11 := NB11.blk
 have hE11 := xB11
 refine LW.A rfl (Ao ?_)
 have hT11 := SlT.lit ⟨B11, cB11, rfl, NB11, yB11, hE11⟩
 refine Aa (I (.assign (.func _)) (Ao (Aa (I (.build (cs := (Fld.cells ⟨7, 0, 1000000⟩)) underlying310 zeroValue310 Cn (.cons (.func _) (.cons (.const _) (.cons (.const _) .nil))) rfl) (I (.build (cs := (Fld.cells ⟨9, 0, 1000000⟩)) underlying310 zeroValue310 Cn (.cons (.func _) (.cons (.const _) (.cons (.const _) .nil))) rfl) (I (.build (cs := (Fld.cells ⟨11, 0, 60⟩)) underlying310 zeroValue310 Cn (.cons (.func _) (.cons (.const _) (.cons (.const _) .nil))) rfl) (I (.build (cs := (Fld.cells ⟨12, 0, 4⟩)) underlying310 zeroValue310 Cn (.cons (.func _) (.cons (.const _) (.cons (.const _) .nil))) rfl) (I (.build (cs := (Fld.cells ⟨13, 0, 40⟩)) underlying310 zeroValue310 Cn (.cons (.func _) (.cons (.const _) (.cons (.const _) .nil))) rfl) (I (.build (cs := (Fld.cells ⟨14, 0, 1000000⟩)) underlying310 zeroValue310 Cn (.cons (.func _) (.cons (.const _) (.cons (.const _) .nil))) rfl) (I (.build (cs := (Fld.cells ⟨15, 0, 1000000⟩)) underlying310 zeroValue310 Cn (.cons (.func _) (.cons (.const _) (.cons (.const _) .nil))) rfl) (Al (.buildSlice (xs := Jv) (enc := Fld.cells) (mk := fun x : Fld => .agg (Fld.cells x)) underlying221 sizeOf310 zeroValue310 rfl cQ (fun _ => rfl) (fun _ => rfl) (.ct rfl (.ct rfl (.ct rfl (.ct rfl (.ct rfl (.ct rfl (.cu rfl))))))) rfl) rfl ?_)))))))))))
 rintro _ w6 ⟨B19, cB19, rfl, NB19, yB19, xB19⟩
 replace hW := hW.up NB19.up
 replace hB8 := hB8.up NB19.up
 replace hE8 := hE8.up NB19.up
 replace hT8 := hT8.up NB19.up
 replace hB11 := hB11.up NB19.up
 replace hE11 := hE11.up NB19.up
 replace hT11 := hT11.up NB19.up
 have hB19 := NB19.blk
 have hE19 := xB19
 refine LW.A rfl (Ao ?_)
 have hT19 := SlT.lit ⟨B19, cB19, rfl, NB19, yB19, hE19⟩
 refine Aa (I (.build (cs := (Fld.cells H7)) underlying310 zeroValue310 Cn (.cons (.func _) (.cons (.const _) (.cons (.const _) .nil))) rfl) (Al (.Bm zeroValue310) rfl ?_))
 rintro _ w7 ⟨B5, rfl, MB5⟩
 refine Be (.Bi sizeOf310 rfl (.t rfl) (.t rfl) (Fld.one _) MB5.blk rfl) ?_
 intro w8 LB5
 have NB5 := MB5.set LB5
 replace hW := hW.up NB5.up
 replace hB8 := hB8.up NB5.up
 replace hE8 := hE8.up NB5.up
 replace hT8 := hT8.up NB5.up
 replace hB11 := hB11.up NB5.up
 replace hE11 := hE11.up NB5.up
 replace hT11 := hT11.up NB5.up
 replace hB19 := hB19.up NB5.up
 replace hE19 := hE19.up NB5.up
 replace hT19 := hT19.up NB5.up
 have hB5 := NB5.blk
 refine Ao (Aa (I (.build (cs := (Fld.cells Jh)) underlying310 zeroValue310 Cn (.cons (.func _) (.cons (.const _) (.cons (.const _) .nil))) rfl) (Al (.Bm zeroValue310) rfl ?_)))
 rintro _ w9 ⟨B6, rfl, MB6⟩
 refine Be (.Bi sizeOf310 rfl (.t rfl) (.t rfl) (Fld.one _) MB6.blk rfl) ?_
 intro w10 LB6
 have NB6 := MB6.set LB6
 replace hW := hW.up NB6.up
 replace hB8 := hB8.up NB6.up
 replace hE8 := hE8.up NB6.up
 replace hT8 := hT8.up NB6.up
 replace hB11 := hB11.up NB6.up
 replace hE11 := hE11.up NB6.up
 replace hT11 := hT11.up NB6.up
 replace hB19 := hB19.up NB6.up
 replace hE19 := hE19.up NB6.up
 replace hT19 := hT19.up NB6.up
 replace hB5 := hB5.up NB6.up
 have hB6 := NB6.blk
 refine Ao (jB 106 0 22 [(15, 1, 36), (24, 2, 44), (35, 3, 54), (45, 4, 63), (51, 5, 68), (60, 6, 76), (70, 7, 85), (79, 8, 93), (88, 9, 101), (97, 10, 109), (105, 11, 116)] [(.pred fun v _ => ∃ b, v = .map (some b)), (.pred fun v w => SlT 310 w v 3 Fld.cells (Cv)), (.eq (.agg (Fld.cells (Co 7)))), (.pred fun v w => SlT 310 w v 3 Fld.cells ([Co 7])), (.pred fun v w => SlT 310 w v 3 Fld.cells (C6)), (.eq (.agg (Fld.cells (⟨13, 0, 39⟩)))), (.pred fun v w => SlT 310 w v 3 Fld.cells ([⟨13, 0, 39⟩])), (.pred fun v w => SlT 310 w v 3 Fld.cells (Ky)), (.pred fun v w => SlT 310 w v 3 Fld.cells (D4)), (.eq (.agg (Fld.cells (⟨16, -10000000, 10000000⟩)))), (.pred fun v w => SlT 310 w v 3 Fld.cells ([⟨16, -10000000, 10000000⟩])), (.pred fun v w => SlS w v [Cv, [Co 7], C6, [⟨13, 0, 39⟩], Ky, D4, [⟨16, -10000000, 10000000⟩]]), (.pred fun v w => SlT 310 w v 3 Fld.cells (List.flatten [Cv, [Co 7], C6, [⟨13, 0, 39⟩], Ky, D4, [⟨16, -10000000, 10000000⟩]])), (.pred fun v w => SlT 310 w v 3 Fld.cells (Cv)), (.pred fun v w => ShV w v (List.flatten [Cv, [Co 7], C6, [⟨13, 0, 39⟩], Ky, D4, [⟨16, -10000000, 10000000⟩]]) (Cv) 1 false), (.eq undef), (.pred fun v w => SlT 310 w v 3 Fld.cells (Cv)), (.eq (.agg (Fld.cells (Cl)))), (.eq (.agg (Fld.cells (Jh)))), (.pred fun v w => SlT 310 w v 3 Fld.cells ([Cl, Jh])), (.pred fun v w => SlS w v [Cv, [Cl, Jh]]), (.pred fun v w => SlT 310 w v 3 Fld.cells (List.flatten [Cv, [Cl, Jh]])), (.pred fun v w => SlT 310 w v 3 Fld.cells (Cv)), (.pred fun v w => ShV w v (List.flatten [Cv, [Cl, Jh]]) (Cv) 0 false), (.eq undef), (.pred fun v w => SlT 310 w v 3 Fld.cells (Cv)), (.eq (.agg (Fld.cells (Co 7)))), (.eq (.agg (Fld.cells (Co 8)))), (.eq (.agg (Fld.cells (Cl)))), (.pred fun v w => SlT 310 w v 3 Fld.cells ([Co 7, Co 8, Cl])), (.pred fun v w => SlS w v [Cv, [Co 7, Co 8, Cl]]), (.pred fun v w => SlT 310 w v 3 Fld.cells (List.flatten [Cv, [Co 7, Co 8, Cl]])), (.pred fun v w => SlT 310 w v 3 Fld.cells (Cv)), (.eq (.func (.func (E8 2)) #[] #[])), (.pred fun v w => ShV w v (List.flatten [Cv, [Co 7, Co 8, Cl]]) (Cv) 2 false), (.eq undef), (.eq (.agg (Fld.cells (Co 7)))), (.eq (.agg (Fld.cells (Co 9)))), (.eq (.agg (Fld.cells (Co 10)))), (.eq (.agg (Fld.cells (Cl)))), (.pred fun v w => SlT 310 w v 3 Fld.cells ([Co 7, Co 9, Co 10, Cl])), (.eq (.agg (Fld.cells (Co 7)))), (.eq (.agg (Fld.cells (Cl)))), (.pred fun v w => SlT 310 w v 3 Fld.cells ([Co 7, Cl])), (.pred fun v w => ShV w v ([Co 7, Co 9, Co 10, Cl]) ([Co 7, Cl]) 0 false), (.eq undef), (.eq (.agg (Fld.cells (Co 10)))), (.pred fun v w => SlT 310 w v 3 Fld.cells ([Co 10])), (.eq (.agg (Fld.cells (Co 10)))), (.pred fun v w => SlT 310 w v 3 Fld.cells ([Co 10])), (.pred fun v w => ShV w v ([Co 10]) ([Co 10]) 0 true), (.eq undef), (.pred fun v w => SlT 310 w v 3 Fld.cells (Cv)), (.pred fun v w => SlT 310 w v 3 Fld.cells (C6)), (.pred fun v w => SlT 310 w v 3 Fld.cells (Ky)), (.pred fun v w => SlT 310 w v 3 Fld.cells (D4)), (.pred fun v w => SlS w v [Cv, C6, Ky, D4]), (.pred fun v w => SlT 310 w v 3 Fld.cells (List.flatten [Cv, C6, Ky, D4])), (.pred fun v w => SlT 310 w v 3 Fld.cells (Cv)), (.pred fun v w => ShV w v (List.flatten [Cv, C6, Ky, D4]) (Cv) 1 false), (.eq undef), (.pred fun v w => SlT 310 w v 3 Fld.cells (Cv)), (.pred fun v w => SlT 310 w v 3 Fld.cells (Jv)), (.pred fun v w => SlT 310 w v 3 Fld.cells (D4)), (.eq (.agg (Fld.cells (H7)))), (.pred fun v w => SlT 310 w v 3 Fld.cells ([H7])), (.pred fun v w => SlS w v [Cv, Jv, D4, [H7]]), (.pred fun v w => SlT 310 w v 3 Fld.cells (List.flatten [Cv, Jv, D4, [H7]])), (.pred fun v w => SlT 310 w v 3 Fld.cells (Cv)), (.pred fun v w => ShV w v (List.flatten [Cv, Jv, D4, [H7]]) (Cv) 1 false), (.eq undef), (.eq (.agg (Fld.cells (Co 8)))), (.eq (.agg (Fld.cells (H7)))), (.eq (.agg (Fld.cells (Cl)))), (.pred fun v w => SlT 310 w v 3 Fld.cells ([Co 8, H7, Cl])), (.eq (.agg (Fld.cells (Co 8)))), (.eq (.agg (Fld.cells (H7)))), (.pred fun v w => SlT 310 w v 3 Fld.cells ([Co 8, H7])), (.pred fun v w => ShV w v ([Co 8, H7, Cl]) ([Co 8, H7]) 0 false), (.eq undef), (.pred fun v w => SlT 310 w v 3 Fld.cells (Cv)), (.pred fun v w => SlT 310 w v 3 Fld.cells (C6)), (.eq (.agg (Fld.cells (Cl)))), (.pred fun v w => SlT 310 w v 3 Fld.cells ([Cl])), (.pred fun v w => SlS w v [Cv, C6, [Cl]]), (.pred fun v w => SlT 310 w v 3 Fld.cells (List.flatten [Cv, C6, [Cl]])), (.pred fun v w => SlT 310 w v 3 Fld.cells (Cv)), (.pred fun v w => ShV w v (List.flatten [Cv, C6, [Cl]]) (Cv) 0 false), (.eq undef), (.eq (.agg (Fld.cells (Co 14)))), (.eq (.agg (Fld.cells (Cl)))), (.eq (.agg (Fld.cells (Jh)))), (.pred fun v w => SlT 310 w v 3 Fld.cells ([Co 14, Cl, Jh])), (.eq (.agg (Fld.cells (Co 14)))), (.eq (.agg (Fld.cells (Cl)))), (.pred fun v w => SlT 310 w v 3 Fld.cells ([Co 14, Cl])), (.pred fun v w => ShV w v ([Co 14, Cl, Jh]) ([Co 14, Cl]) 0 false), (.eq undef), (.pred fun v w => SlT 310 w v 3 Fld.cells (Cv)), (.pred fun v w => SlT 310 w v 3 Fld.cells (C6)), (.pred fun v w => SlT 310 w v 3 Fld.cells (D4)), (.pred fun v w => SlS w v [Cv, C6, D4]), (.pred fun v w => SlT 310 w v 3 Fld.cells (List.flatten [Cv, C6, D4])), (.pred fun v w => SlT 310 w v 3 Fld.cells (Cv)), (.pred fun v w => ShV w v (List.flatten [Cv, C6, D4]) (Cv) 1 false), (.eq undef)] underlying224 underlying3 kQ rfl kQ kQ kQ kQ kQ kQ kQ rfl cQ ⟨_, _, rfl⟩ ⟨PhC.pred fun _ _ _ h _ => h, Cg _ _ _ _, PhC.eq _, Cg _ _ _ _, Cg _ _ _ _, PhC.eq _, Cg _ _ _ _, Cg _ _ _ _, Cg _ _ _ _, PhC.eq _, Cg _ _ _ _, Kz _, Cg _ _ _ _, Cg _ _ _ _, G7 _ _ _ _, PhC.eq _, Cg _ _ _ _, PhC.eq _, PhC.eq _, Cg _ _ _ _, Kz _, Cg _ _ _ _, Cg _ _ _ _, G7 _ _ _ _, PhC.eq _, Cg _ _ _ _, PhC.eq _, PhC.eq _, PhC.eq _, Cg _ _ _ _, Kz _, Cg _ _ _ _, Cg _ _ _ _, PhC.eq _, G7 _ _ _ _, PhC.eq _, PhC.eq _, PhC.eq _, PhC.eq _, PhC.eq _, Cg _ _ _ _, PhC.eq _, PhC.eq _, Cg _ _ _ _, G7 _ _ _ _, PhC.eq _, PhC.eq _, Cg _ _ _ _, PhC.eq _, Cg _ _ _ _, G7 _ _ _ _, PhC.eq _, Cg _ _ _ _, Cg _ _ _ _, Cg _ _ _ _, Cg _ _ _ _, Kz _, Cg _ _ _ _, Cg _ _ _ _, G7 _ _ _ _, PhC.eq _, Cg _ _ _ _, Cg _ _ _ _, Cg _ _ _ _, PhC.eq _, Cg _ _ _ _, Kz _, Cg _ _ _ _, Cg _ _ _ _, G7 _ _ _ _, PhC.eq _, PhC.eq _, PhC.eq _, PhC.eq _, Cg _ _ _ _, PhC.eq _, PhC.eq _, Cg _ _ _ _, G7 _ _ _ _, PhC.eq _, Cg _ _ _ _, Cg _ _ _ _, PhC.eq _, Cg _ _ _ _, Kz _, Cg _ _ _ _, Cg _ _ _ _, G7 _ _ _ _, PhC.eq _, PhC.eq _, PhC.eq _, PhC.eq _, Cg _ _ _ _, PhC.eq _, PhC.eq _, Cg _ _ _ _, G7 _ _ _ _, PhC.eq _, Cg _ _ _ _, Cg _ _ _ _, Cg _ _ _ _, Kz _, Cg _ _ _ _, Cg _ _ _ _, G7 _ _ _ _, PhC.eq _, trivial⟩ (fun b W => ⟨b, rfl⟩) ?_ ?_)
 ·intro W hC0
  have hC := (Up.drew w10).G3.trans hC0
  refine aC (.inl (.inl rfl)) (aC (.inr ⟨rfl, rfl, TU.p (.mv rfl) (SlT.G3 hT8 hC)⟩) (aC (.inr ⟨rfl, rfl, TU.c (eC (.cons (.func _) .nil) (Ia)) (Dj _ _) sQ⟩) (aC (.inr ⟨rfl, rfl, TU.r (REv.buildSlice (xs := ([Co 7] : List Fld)) (enc := Fld.cells) (mk := fun x : Fld => .agg (Fld.cells x)) underlying221 sizeOf310 zeroValue310 rfl cQ (fun _ => rfl) (fun _ => rfl) (.cu rfl) rfl) (by rintro _ W1 ⟨B, c, rfl, N, y, x⟩; exact ⟨N.up, SlT.lit ⟨B, c, rfl, N, y, x⟩⟩)⟩) (aC (.inr ⟨rfl, rfl, TU.c (eC .nil (eO)) (Lz _) (fun v W1 h => ⟨h.2, h.1⟩)⟩) (aC (.inr ⟨rfl, rfl, TU.p (.build (cs := Fld.cells ⟨13, 0, 39⟩) underlying310 zeroValue310 Cn (.cons (.func _) (.cons (.const _) (.cons (.const _) .nil))) rfl) rfl⟩) (aC (.inr ⟨rfl, rfl, TU.r (REv.buildSlice (xs := ([⟨13, 0, 39⟩] : List Fld)) (enc := Fld.cells) (mk := fun x : Fld => .agg (Fld.cells x)) underlying221 sizeOf310 zeroValue310 rfl cQ (fun _ => rfl) (fun _ => rfl) (.cu rfl) rfl) (by rintro _ W1 ⟨B, c, rfl, N, y, x⟩; exact ⟨N.up, SlT.lit ⟨B, c, rfl, N, y, x⟩⟩)⟩) (aC (.inr ⟨rfl, rfl, TU.p (.mv rfl) (SlT.G3 hT11 hC)⟩) (aC (.inr ⟨rfl, rfl, TU.c (eC .nil (eP)) (Oi _) (fun v W1 h => ⟨h.2, h.1⟩)⟩) (aC (.inr ⟨rfl, rfl, TU.p (.build (cs := Fld.cells ⟨16, -10000000, 10000000⟩) underlying310 zeroValue310 Cn (.cons (.func _) (.cons (.const _) (.cons (.const _) .nil))) rfl) rfl⟩) (aC (.inr ⟨rfl, rfl, TU.r (REv.buildSlice (xs := ([⟨16, -10000000, 10000000⟩] : List Fld)) (enc := Fld.cells) (mk := fun x : Fld => .agg (Fld.cells x)) underlying221 sizeOf310 zeroValue310 rfl cQ (fun _ => rfl) (fun _ => rfl) (.cu rfl) rfl) (by rintro _ W1 ⟨B, c, rfl, N, y, x⟩; exact ⟨N.up, SlT.lit ⟨B, c, rfl, N, y, x⟩⟩)⟩) (aC (.inr ⟨rfl, rfl, TU.open (d := 23) rfl (by rintro _ ⟨⟨a23, c23, rfl, x23⟩, _⟩; exact TU.open (d := 25) rfl (by rintro _ ⟨⟨a25, c25, rfl, x25⟩, _⟩; exact TU.open (d := 26) rfl (by rintro _ ⟨⟨a26, c26, rfl, x26⟩, _⟩; exact TU.open (d := 28) rfl (by rintro _ ⟨⟨a28, c28, rfl, x28⟩, _⟩; exact TU.open (d := 29) rfl (by rintro _ ⟨⟨a29, c29, rfl, x29⟩, _⟩; exact TU.open (d := 30) rfl (by rintro _ ⟨⟨a30, c30, rfl, x30⟩, _⟩; exact TU.open (d := 32) rfl (by rintro _ ⟨⟨a32, c32, rfl, x32⟩, _⟩; exact TU.r (REv.buildSlice (xs := [(a23, List.length (Cv), c23), (a25, List.length ([Co 7]), c25), (a26, List.length (C6), c26), (a28, List.length ([⟨13, 0, 39⟩]), c28), (a29, List.length (Ky), c29), (a30, List.length (D4), c30), (a32, List.length ([⟨16, -10000000, 10000000⟩]), c32)]) (enc := fun t => #[Ul t]) (mk := Ul) underlying379 sizeOf221 zeroValue221 rfl cQ (fun _ => rfl) (fun _ => rfl) (.ct rfl (.ct rfl (.ct rfl (.ct rfl (.ct rfl (.ct rfl (.cu rfl))))))) rfl) (by rintro _ W1 ⟨B, c, rfl, N, y, x⟩; exact ⟨N.up, _, Aw (Els.H8 x), (AllSl.up N.up (vs := List.map Ul [(a23, List.length (Cv), c23), (a25, List.length ([Co 7]), c25), (a26, List.length (C6), c26), (a28, List.length ([⟨13, 0, 39⟩]), c28), (a29, List.length (Ky), c29), (a30, List.length (D4), c30), (a32, List.length ([⟨16, -10000000, 10000000⟩]), c32)]) (xss := [Cv, [Co 7], C6, [⟨13, 0, 39⟩], Ky, D4, [⟨16, -10000000, 10000000⟩]]) ⟨Aw x23, Aw x25, Aw x26, Aw x28, Aw x29, Aw x30, Aw x32, trivial⟩).at⟩))))))))⟩) (aC (.inr ⟨rfl, rfl, TU.open (d := 33) rfl (by rintro v ⟨vs, ⟨ad, cp, rfl, hE⟩, hl, hx⟩; exact TU.c (eC (.o rfl) (Rv)) (Ja ad cp vs _ _ hE hl hx (by rw [← hl]; decide) cQ) (fun v W1 h => ⟨h.2, h.1⟩))⟩) (aC (.inr ⟨rfl, rfl, TU.p (.mv rfl) (SlT.G3 hT8 hC)⟩) (aC (.inr ⟨rfl, rfl, TU.open (d := 34) rfl (by rintro _ ⟨⟨a34, c34, rfl, x34⟩, p34⟩; exact TU.open (d := 35) rfl (by rintro _ ⟨⟨b35, d35, rfl, y35⟩, q35⟩; exact TU.p (.build (cs := #[.slice a34 (List.length (List.flatten [Cv, [Co 7], C6, [⟨13, 0, 39⟩], Ky, D4, [⟨16, -10000000, 10000000⟩]])) c34, .slice b35 (List.length (Cv)) d35, .func (.func (E8 1)) #[] #[], .bool false]) underlying223 zeroValue223 De (.ct rfl (.ct rfl (.cons (.func _) (.cons (.const _) .nil)))) rfl) ⟨_, _, rfl, ⟨Aw x34, p34⟩, ⟨Aw y35, q35⟩⟩))⟩) (aC (.inl (.inr ⟨rfl, by intro j hj e; simp only [List.mem_cons, List.mem_nil_iff, or_false] at hj; rcases hj with rfl | rfl | rfl | rfl | rfl | rfl | rfl | rfl | rfl | rfl | rfl <;> first | exact absurd e cQ | exact ⟨_, _, _, rfl⟩⟩)) (aC (.inr ⟨rfl, rfl, TU.p (.mv rfl) (SlT.G3 hT8 hC)⟩) (aC (.inr ⟨rfl, rfl, TU.c (eC .nil (N5)) (G6 _) sQ⟩) (aC (.inr ⟨rfl, rfl, TU.p (.lc rfl (AggAt.G3 hB6.agg hC)) rfl⟩) (aC (.inr ⟨rfl, rfl, TU.r (REv.buildSlice (xs := ([Cl, Jh] : List Fld)) (enc := Fld.cells) (mk := fun x : Fld => .agg (Fld.cells x)) underlying221 sizeOf310 zeroValue310 rfl cQ (fun _ => rfl) (fun _ => rfl) (.ct rfl (.cu rfl)) rfl) (by rintro _ W1 ⟨B, c, rfl, N, y, x⟩; exact ⟨N.up, SlT.lit ⟨B, c, rfl, N, y, x⟩⟩)⟩) (aC (.inr ⟨rfl, rfl, TU.open (d := 37) rfl (by rintro _ ⟨⟨a37, c37, rfl, x37⟩, _⟩; exact TU.open (d := 40) rfl (by rintro _ ⟨⟨a40, c40, rfl, x40⟩, _⟩; exact TU.r (REv.buildSlice (xs := [(a37, List.length (Cv), c37), (a40, List.length ([Cl, Jh]), c40)]) (enc := fun t => #[Ul t]) (mk := Ul) underlying379 sizeOf221 zeroValue221 rfl cQ (fun _ => rfl) (fun _ => rfl) (.ct rfl (.cu rfl)) rfl) (by rintro _ W1 ⟨B, c, rfl, N, y, x⟩; exact ⟨N.up, _, Aw (Els.H8 x), (AllSl.up N.up (vs := List.map Ul [(a37, List.length (Cv), c37), (a40, List.length ([Cl, Jh]), c40)]) (xss := [Cv, [Cl, Jh]]) ⟨Aw x37, Aw x40, trivial⟩).at⟩)))⟩) (aC (.inr ⟨rfl, rfl, TU.open (d := 41) rfl (by rintro v ⟨vs, ⟨ad, cp, rfl, hE⟩, hl, hx⟩; exact TU.c (eC (.o rfl) (Rv)) (Ja ad cp vs _ _ hE hl hx (by rw [← hl]; decide) cQ) (fun v W1 h => ⟨h.2, h.1⟩))⟩) (aC (.inr ⟨rfl, rfl, TU.p (.mv rfl) (SlT.G3 hT8 hC)⟩) (aC (.inr ⟨rfl, rfl, TU.open (d := 42) rfl (by rintro _ ⟨⟨a42, c42, rfl, x42⟩, p42⟩; exact TU.open (d := 43) rfl (by rintro _ ⟨⟨b43, d43, rfl, y43⟩, q43⟩; exact TU.p (.build (cs := #[.slice a42 (List.length (List.flatten [Cv, [Cl, Jh]])) c42, .slice b43 (List.length (Cv)) d43, .func (.func (E8 0)) #[] #[], .bool false]) underlying223 zeroValue223 De (.ct rfl (.ct rfl (.cons (.func _) (.cons (.const _) .nil)))) rfl) ⟨_, _, rfl, ⟨Aw x42, p42⟩, ⟨Aw y43, q43⟩⟩))⟩) (aC (.inl (.inr ⟨rfl, by intro j hj e; simp only [List.mem_cons, List.mem_nil_iff, or_false] at hj; rcases hj with rfl | rfl | rfl | rfl | rfl | rfl | rfl | rfl | rfl | rfl | rfl <;> first | exact absurd e cQ | exact ⟨_, _, _, rfl⟩⟩)) (aC (.inr ⟨rfl, rfl, TU.p (.mv rfl) (SlT.G3 hT8 hC)⟩) (aC (.inr ⟨rfl, rfl, TU.c (eC (.cons (.func _) .nil) (Ia)) (Dj _ _) sQ⟩) (aC (.inr ⟨rfl, rfl, TU.c (eC (.cons (.func _) .nil) (Ia)) (Dj _ _) sQ⟩) (aC (.inr ⟨rfl, rfl, TU.c (eC .nil (N5)) (G6 _) sQ⟩) (aC (.inr ⟨rfl, rfl, TU.r (REv.buildSlice (xs := ([Co 7, Co 8, Cl] : List Fld)) (enc := Fld.cells) (mk := fun x : Fld => .agg (Fld.cells x)) underlying221 sizeOf310 zeroValue310 rfl cQ (fun _ => rfl) (fun _ => rfl) (.ct rfl (.ct rfl (.cu rfl))) rfl) (by rintro _ W1 ⟨B, c, rfl, N, y, x⟩; exact ⟨N.up, SlT.lit ⟨B, c, rfl, N, y, x⟩⟩)⟩) (aC (.inr ⟨rfl, rfl, TU.open (d := 45) rfl (by rintro _ ⟨⟨a45, c45, rfl, x45⟩, _⟩; exact TU.open (d := 49) rfl (by rintro _ ⟨⟨a49, c49, rfl, x49⟩, _⟩; exact TU.r (REv.buildSlice (xs := [(a45, List.length (Cv), c45), (a49, List.length ([Co 7, Co 8, Cl]), c49)]) (enc := fun t => #[Ul t]) (mk := Ul) underlying379 sizeOf221 zeroValue221 rfl cQ (fun _ => rfl) (fun _ => rfl) (.ct rfl (.cu rfl)) rfl) (by rintro _ W1 ⟨B, c, rfl, N, y, x⟩; exact ⟨N.up, _, Aw (Els.H8 x), (AllSl.up N.up (vs := List.map Ul [(a45, List.length (Cv), c45), (a49, List.length ([Co 7, Co 8, Cl]), c49)]) (xss := [Cv, [Co 7, Co 8, Cl]]) ⟨Aw x45, Aw x49, trivial⟩).at⟩)))⟩) (aC (.inr ⟨rfl, rfl, TU.open (d := 50) rfl (by rintro v ⟨vs, ⟨ad, cp, rfl, hE⟩, hl, hx⟩; exact TU.c (eC (.o rfl) (Rv)) (Ja ad cp vs _ _ hE hl hx (by rw [← hl]; decide) cQ) (fun v W1 h => ⟨h.2, h.1⟩))⟩) (aC (.inr ⟨rfl, rfl, TU.p (.mv rfl) (SlT.G3 hT8 hC)⟩) (aC (.inr ⟨rfl, rfl, TU.p (.mv rfl) rfl⟩) (aC (.inr ⟨rfl, rfl, TU.open (d := 51) rfl (by rintro _ ⟨⟨a51, c51, rfl, x51⟩, p51⟩; exact TU.open (d := 52) rfl (by rintro _ ⟨⟨b52, d52, rfl, y52⟩, q52⟩; exact TU.p (.build (cs := #[.slice a51 (List.length (List.flatten [Cv, [Co 7, Co 8, Cl]])) c51, .slice b52 (List.length (Cv)) d52, .func (.func (E8 2)) #[] #[], .bool false]) underlying223 zeroValue223 De (.ct rfl (.ct rfl (.ct rfl (.cons (.const _) .nil)))) rfl) ⟨_, _, rfl, ⟨Aw x51, p51⟩, ⟨Aw y52, q52⟩⟩))⟩) (aC (.inl (.inr ⟨rfl, by intro j hj e; simp only [List.mem_cons, List.mem_nil_iff, or_false] at hj; rcases hj with rfl | rfl | rfl | rfl | rfl | rfl | rfl | rfl | rfl | rfl | rfl <;> first | exact absurd e cQ | exact ⟨_, _, _, rfl⟩⟩)) (aC (.inr ⟨rfl, rfl, TU.c (eC (.cons (.func _) .nil) (Ia)) (Dj _ _) sQ⟩) (aC (.inr ⟨rfl, rfl, TU.c (eC (.cons (.func _) .nil) (Ia)) (Dj _ _) sQ⟩) (aC (.inr ⟨rfl, rfl, TU.c (eC (.cons (.func _) .nil) (Ia)) (Dj _ _) sQ⟩) (aC (.inr ⟨rfl, rfl, TU.c (eC .nil (N5)) (G6 _) sQ⟩) (aC (.inr ⟨rfl, rfl, TU.r (REv.buildSlice (xs := ([Co 7, Co 9, Co 10, Cl] : List Fld)) (enc := Fld.cells) (mk := fun x : Fld => .agg (Fld.cells x)) underlying221 sizeOf310 zeroValue310 rfl cQ (fun _ => rfl) (fun _ => rfl) (.ct rfl (.ct rfl (.ct rfl (.cu rfl)))) rfl) (by rintro _ W1 ⟨B, c, rfl, N, y, x⟩; exact ⟨N.up, SlT.lit ⟨B, c, rfl, N, y, x⟩⟩)⟩) (aC (.inr ⟨rfl, rfl, TU.c (eC (.cons (.func _) .nil) (Ia)) (Dj _ _) sQ⟩) (aC (.inr ⟨rfl, rfl, TU.c (eC .nil (N5)) (G6 _) sQ⟩) (aC (.inr ⟨rfl, rfl, TU.r (REv.buildSlice (xs := ([Co 7, Cl] : List Fld)) (enc := Fld.cells) (mk := fun x : Fld => .agg (Fld.cells x)) underlying221 sizeOf310 zeroValue310 rfl cQ (fun _ => rfl) (fun _ => rfl) (.ct rfl (.cu rfl)) rfl) (by rintro _ W1 ⟨B, c, rfl, N, y, x⟩; exact ⟨N.up, SlT.lit ⟨B, c, rfl, N, y, x⟩⟩)⟩) (aC (.inr ⟨rfl, rfl, TU.open (d := 59) rfl (by rintro _ ⟨⟨a59, c59, rfl, x59⟩, p59⟩; exact TU.open (d := 62) rfl (by rintro _ ⟨⟨b62, d62, rfl, y62⟩, q62⟩; exact TU.p (.build (cs := #[.slice a59 (List.length ([Co 7, Co 9, Co 10, Cl])) c59, .slice b62 (List.length ([Co 7, Cl])) d62, .func (.func (E8 0)) #[] #[], .bool false]) underlying223 zeroValue223 De (.ct rfl (.ct rfl (.cons (.func _) (.cons (.const _) .nil)))) rfl) ⟨_, _, rfl, ⟨Aw x59, p59⟩, ⟨Aw y62, q62⟩⟩))⟩) (aC (.inl (.inr ⟨rfl, by intro j hj e; simp only [List.mem_cons, List.mem_nil_iff, or_false] at hj; rcases hj with rfl | rfl | rfl | rfl | rfl | rfl | rfl | rfl | rfl | rfl | rfl <;> first | exact absurd e cQ | exact ⟨_, _, _, rfl⟩⟩)) (aC (.inr ⟨rfl, rfl, TU.c (eC (.cons (.func _) .nil) (Ia)) (Dj _ _) sQ⟩) (aC (.inr ⟨rfl, rfl, TU.r (REv.buildSlice (xs := ([Co 10] : List Fld)) (enc := Fld.cells) (mk := fun x : Fld => .agg (Fld.cells x)) underlying221 sizeOf310 zeroValue310 rfl cQ (fun _ => rfl) (fun _ => rfl) (.cu rfl) rfl) (by rintro _ W1 ⟨B, c, rfl, N, y, x⟩; exact ⟨N.up, SlT.lit ⟨B, c, rfl, N, y, x⟩⟩)⟩) (aC (.inr ⟨rfl, rfl, TU.c (eC (.cons (.func _) .nil) (Ia)) (Dj _ _) sQ⟩) (aC (.inr ⟨rfl, rfl, TU.r (REv.buildSlice (xs := ([Co 10] : List Fld)) (enc := Fld.cells) (mk := fun x : Fld => .agg (Fld.cells x)) underlying221 sizeOf310 zeroValue310 rfl cQ (fun _ => rfl) (fun _ => rfl) (.cu rfl) rfl) (by rintro _ W1 ⟨B, c, rfl, N, y, x⟩; exact ⟨N.up, SlT.lit ⟨B, c, rfl, N, y, x⟩⟩)⟩) (aC (.inr ⟨rfl, rfl, TU.open (d := 65) rfl (by rintro _ ⟨⟨a65, c65, rfl, x65⟩, p65⟩; exact TU.open (d := 67) rfl (by rintro _ ⟨⟨b67, d67, rfl, y67⟩, q67⟩; exact TU.p (.build (cs := #[.slice a65 (List.length ([Co 10])) c65, .slice b67 (List.length ([Co 10])) d67, .func (.func (E8 0)) #[] #[], .bool true]) underlying223 zeroValue223 De (.ct rfl (.ct rfl (.cons (.func _) (.cons (.const _) .nil)))) rfl) ⟨_, _, rfl, ⟨Aw x65, p65⟩, ⟨Aw y67, q67⟩⟩))⟩) (aC (.inl (.inr ⟨rfl, by intro j hj e; simp only [List.mem_cons, List.mem_nil_iff, or_false] at hj; rcases hj with rfl | rfl | rfl | rfl | rfl | rfl | rfl | rfl | rfl | rfl | rfl <;> first | exact absurd e cQ | exact ⟨_, _, _, rfl⟩⟩)) (aC (.inr ⟨rfl, rfl, TU.p (.mv rfl) (SlT.G3 hT8 hC)⟩) (aC (.inr ⟨rfl, rfl, TU.c (eC .nil (eO)) (Lz _) (fun v W1 h => ⟨h.2, h.1⟩)⟩) (aC (.inr ⟨rfl, rfl, TU.p (.mv rfl) (SlT.G3 hT11 hC)⟩) (aC (.inr ⟨rfl, rfl, TU.c (eC .nil (eP)) (Oi _) (fun v W1 h => ⟨h.2, h.1⟩)⟩) (aC (.inr ⟨rfl, rfl, TU.open (d := 69) rfl (by rintro _ ⟨⟨a69, c69, rfl, x69⟩, _⟩; exact TU.open (d := 70) rfl (by rintro _ ⟨⟨a70, c70, rfl, x70⟩, _⟩; exact TU.open (d := 71) rfl (by rintro _ ⟨⟨a71, c71, rfl, x71⟩, _⟩; exact TU.open (d := 72) rfl (by rintro _ ⟨⟨a72, c72, rfl, x72⟩, _⟩; exact TU.r (REv.buildSlice (xs := [(a69, List.length (Cv), c69), (a70, List.length (C6), c70), (a71, List.length (Ky), c71), (a72, List.length (D4), c72)]) (enc := fun t => #[Ul t]) (mk := Ul) underlying379 sizeOf221 zeroValue221 rfl cQ (fun _ => rfl) (fun _ => rfl) (.ct rfl (.ct rfl (.ct rfl (.cu rfl)))) rfl) (by rintro _ W1 ⟨B, c, rfl, N, y, x⟩; exact ⟨N.up, _, Aw (Els.H8 x), (AllSl.up N.up (vs := List.map Ul [(a69, List.length (Cv), c69), (a70, List.length (C6), c70), (a71, List.length (Ky), c71), (a72, List.length (D4), c72)]) (xss := [Cv, C6, Ky, D4]) ⟨Aw x69, Aw x70, Aw x71, Aw x72, trivial⟩).at⟩)))))⟩) (aC (.inr ⟨rfl, rfl, TU.open (d := 73) rfl (by rintro v ⟨vs, ⟨ad, cp, rfl, hE⟩, hl, hx⟩; exact TU.c (eC (.o rfl) (Rv)) (Ja ad cp vs _ _ hE hl hx (by rw [← hl]; decide) cQ) (fun v W1 h => ⟨h.2, h.1⟩))⟩) (aC (.inr ⟨rfl, rfl, TU.p (.mv rfl) (SlT.G3 hT8 hC)⟩) (aC (.inr ⟨rfl, rfl, TU.open (d := 74) rfl (by rintro _ ⟨⟨a74, c74, rfl, x74⟩, p74⟩; exact TU.open (d := 75) rfl (by rintro _ ⟨⟨b75, d75, rfl, y75⟩, q75⟩; exact TU.p (.build (cs := #[.slice a74 (List.length (List.flatten [Cv, C6, Ky, D4])) c74, .slice b75 (List.length (Cv)) d75, .func (.func (E8 1)) #[] #[], .bool false]) underlying223 zeroValue223 De (.ct rfl (.ct rfl (.cons (.func _) (.cons (.const _) .nil)))) rfl) ⟨_, _, rfl, ⟨Aw x74, p74⟩, ⟨Aw y75, q75⟩⟩))⟩) (aC (.inl (.inr ⟨rfl, by intro j hj e; simp only [List.mem_cons, List.mem_nil_iff, or_false] at hj; rcases hj with rfl | rfl | rfl | rfl | rfl | rfl | rfl | rfl | rfl | rfl | rfl <;> first | exact absurd e cQ | exact ⟨_, _, _, rfl⟩⟩)) (aC (.inr ⟨rfl, rfl, TU.p (.mv rfl) (SlT.G3 hT8 hC)⟩) (aC (.inr ⟨rfl, rfl, TU.p (.mv rfl) (SlT.G3 hT19 hC)⟩) (aC (.inr ⟨rfl, rfl, TU.c (eC .nil (eP)) (Oi _) (fun v W1 h => ⟨h.2, h.1⟩)⟩) (aC (.inr ⟨rfl, rfl, TU.p (.lc rfl (AggAt.G3 hB5.agg hC)) rfl⟩) (aC (.inr ⟨rfl, rfl, TU.r (REv.buildSlice (xs := ([H7] : List Fld)) (enc := Fld.cells) (mk := fun x : Fld => .agg (Fld.cells x)) underlying221 sizeOf310 zeroValue310 rfl cQ (fun _ => rfl) (fun _ => rfl) (.cu rfl) rfl) (by rintro _ W1 ⟨B, c, rfl, N, y, x⟩; exact ⟨N.up, SlT.lit ⟨B, c, rfl, N, y, x⟩⟩)⟩) (aC (.inr ⟨rfl, rfl, TU.open (d := 77) rfl (by rintro _ ⟨⟨a77, c77, rfl, x77⟩, _⟩; exact TU.open (d := 78) rfl (by rintro _ ⟨⟨a78, c78, rfl, x78⟩, _⟩; exact TU.open (d := 79) rfl (by rintro _ ⟨⟨a79, c79, rfl, x79⟩, _⟩; exact TU.open (d := 81) rfl (by rintro _ ⟨⟨a81, c81, rfl, x81⟩, _⟩; exact TU.r (REv.buildSlice (xs := [(a77, List.length (Cv), c77), (a78, List.length (Jv), c78), (a79, List.length (D4), c79), (a81, List.length ([H7]), c81)]) (enc := fun t => #[Ul t]) (mk := Ul) underlying379 sizeOf221 zeroValue221 rfl cQ (fun _ => rfl) (fun _ => rfl) (.ct rfl (.ct rfl (.ct rfl (.cu rfl)))) rfl) (by rintro _ W1 ⟨B, c, rfl, N, y, x⟩; exact ⟨N.up, _, Aw (Els.H8 x), (AllSl.up N.up (vs := List.map Ul [(a77, List.length (Cv), c77), (a78, List.length (Jv), c78), (a79, List.length (D4), c79), (a81, List.length ([H7]), c81)]) (xss := [Cv, Jv, D4, [H7]]) ⟨Aw x77, Aw x78, Aw x79, Aw x81, trivial⟩).at⟩)))))⟩) (aC (.inr ⟨rfl, rfl, TU.open (d := 82) rfl (by rintro v ⟨vs, ⟨ad, cp, rfl, hE⟩, hl, hx⟩; exact TU.c (eC (.o rfl) (Rv)) (Ja ad cp vs _ _ hE hl hx (by rw [← hl]; decide) cQ) (fun v W1 h => ⟨h.2, h.1⟩))⟩) (aC (.inr ⟨rfl, rfl, TU.p (.mv rfl) (SlT.G3 hT8 hC)⟩) (aC (.inr ⟨rfl, rfl, TU.open (d := 83) rfl (by rintro _ ⟨⟨a83, c83, rfl, x83⟩, p83⟩; exact TU.open (d := 84) rfl (by rintro _ ⟨⟨b84, d84, rfl, y84⟩, q84⟩; exact TU.p (.build (cs := #[.slice a83 (List.length (List.flatten [Cv, Jv, D4, [H7]])) c83, .slice b84 (List.length (Cv)) d84, .func (.func (E8 1)) #[] #[], .bool false]) underlying223 zeroValue223 De (.ct rfl (.ct rfl (.cons (.func _) (.cons (.const _) .nil)))) rfl) ⟨_, _, rfl, ⟨Aw x83, p83⟩, ⟨Aw y84, q84⟩⟩))⟩) (aC (.inl (.inr ⟨rfl, by intro j hj e; simp only [List.mem_cons, List.mem_nil_iff, or_false] at hj; rcases hj with rfl | rfl | rfl | rfl | rfl | rfl | rfl | rfl | rfl | rfl | rfl <;> first | exact absurd e cQ | exact ⟨_, _, _, rfl⟩⟩)) (aC (.inr ⟨rfl, rfl, TU.c (eC (.cons (.func _) .nil) (Ia)) (Dj _ _) sQ⟩) (aC (.inr ⟨rfl, rfl, TU.p (.lc rfl (AggAt.G3 hB5.agg hC)) rfl⟩) (aC (.inr ⟨rfl, rfl, TU.c (eC .nil (N5)) (G6 _) sQ⟩) (aC (.inr ⟨rfl, rfl, TU.r (REv.buildSlice (xs := ([Co 8, H7, Cl] : List Fld)) (enc := Fld.cells) (mk := fun x : Fld => .agg (Fld.cells x)) underlying221 sizeOf310 zeroValue310 rfl cQ (fun _ => rfl) (fun _ => rfl) (.ct rfl (.ct rfl (.cu rfl))) rfl) (by rintro _ W1 ⟨B, c, rfl, N, y, x⟩; exact ⟨N.up, SlT.lit ⟨B, c, rfl, N, y, x⟩⟩)⟩) (aC (.inr ⟨rfl, rfl, TU.c (eC (.cons (.func _) .nil) (Ia)) (Dj _ _) sQ⟩) (aC (.inr ⟨rfl, rfl, TU.p (.lc rfl (AggAt.G3 hB5.agg hC)) rfl⟩) (aC (.inr ⟨rfl, rfl, TU.r (REv.buildSlice (xs := ([Co 8, H7] : List Fld)) (enc := Fld.cells) (mk := fun x : Fld => .agg (Fld.cells x)) underlying221 sizeOf310 zeroValue310 rfl cQ (fun _ => rfl) (fun _ => rfl) (.ct rfl (.cu rfl)) rfl) (by rintro _ W1 ⟨B, c, rfl, N, y, x⟩; exact ⟨N.up, SlT.lit ⟨B, c, rfl, N, y, x⟩⟩)⟩) (aC (.inr ⟨rfl, rfl, TU.open (d := 89) rfl (by rintro _ ⟨⟨a89, c89, rfl, x89⟩, p89⟩; exact TU.open (d := 92) rfl (by rintro _ ⟨⟨b92, d92, rfl, y92⟩, q92⟩; exact TU.p (.build (cs := #[.slice a89 (List.length ([Co 8, H7, Cl])) c89, .slice b92 (List.length ([Co 8, H7])) d92, .func (.func (E8 0)) #[] #[], .bool false]) underlying223 zeroValue223 De (.ct rfl (.ct rfl (.cons (.func _) (.cons (.const _) .nil)))) rfl) ⟨_, _, rfl, ⟨Aw x89, p89⟩, ⟨Aw y92, q92⟩⟩))⟩) (aC (.inl (.inr ⟨rfl, by intro j hj e; simp only [List.mem_cons, List.mem_nil_iff, or_false] at hj; rcases hj with rfl | rfl | rfl | rfl | rfl | rfl | rfl | rfl | rfl | rfl | rfl <;> first | exact absurd e cQ | exact ⟨_, _, _, rfl⟩⟩)) (aC (.inr ⟨rfl, rfl, TU.p (.mv rfl) (SlT.G3 hT8 hC)⟩) (aC (.inr ⟨rfl, rfl, TU.c (eC .nil (eO)) (Lz _) (fun v W1 h => ⟨h.2, h.1⟩)⟩) (aC (.inr ⟨rfl, rfl, TU.c (eC .nil (N5)) (G6 _) sQ⟩) (aC (.inr ⟨rfl, rfl, TU.r (REv.buildSlice (xs := ([Cl] : List Fld)) (enc := Fld.cells) (mk := fun x : Fld => .agg (Fld.cells x)) underlying221 sizeOf310 zeroValue310 rfl cQ (fun _ => rfl) (fun _ => rfl) (.cu rfl) rfl) (by rintro _ W1 ⟨B, c, rfl, N, y, x⟩; exact ⟨N.up, SlT.lit ⟨B, c, rfl, N, y, x⟩⟩)⟩) (aC (.inr ⟨rfl, rfl, TU.open (d := 94) rfl (by rintro _ ⟨⟨a94, c94, rfl, x94⟩, _⟩; exact TU.open (d := 95) rfl (by rintro _ ⟨⟨a95, c95, rfl, x95⟩, _⟩; exact TU.open (d := 97) rfl (by rintro _ ⟨⟨a97, c97, rfl, x97⟩, _⟩; exact TU.r (REv.buildSlice (xs := [(a94, List.length (Cv), c94), (a95, List.length (C6), c95), (a97, List.length ([Cl]), c97)]) (enc := fun t => #[Ul t]) (mk := Ul) underlying379 sizeOf221 zeroValue221 rfl cQ (fun _ => rfl) (fun _ => rfl) (.ct rfl (.ct rfl (.cu rfl))) rfl) (by rintro _ W1 ⟨B, c, rfl, N, y, x⟩; exact ⟨N.up, _, Aw (Els.H8 x), (AllSl.up N.up (vs := List.map Ul [(a94, List.length (Cv), c94), (a95, List.length (C6), c95), (a97, List.length ([Cl]), c97)]) (xss := [Cv, C6, [Cl]]) ⟨Aw x94, Aw x95, Aw x97, trivial⟩).at⟩))))⟩) (aC (.inr ⟨rfl, rfl, TU.open (d := 98) rfl (by rintro v ⟨vs, ⟨ad, cp, rfl, hE⟩, hl, hx⟩; exact TU.c (eC (.o rfl) (Rv)) (Ja ad cp vs _ _ hE hl hx (by rw [← hl]; decide) cQ) (fun v W1 h => ⟨h.2, h.1⟩))⟩) (aC (.inr ⟨rfl, rfl, TU.p (.mv rfl) (SlT.G3 hT8 hC)⟩) (aC (.inr ⟨rfl, rfl, TU.open (d := 99) rfl (by rintro _ ⟨⟨a99, c99, rfl, x99⟩, p99⟩; exact TU.open (d := 100) rfl (by rintro _ ⟨⟨b100, d100, rfl, y100⟩, q100⟩; exact TU.p (.build (cs := #[.slice a99 (List.length (List.flatten [Cv, C6, [Cl]])) c99, .slice b100 (List.length (Cv)) d100, .func (.func (E8 0)) #[] #[], .bool false]) underlying223 zeroValue223 De (.ct rfl (.ct rfl (.cons (.func _) (.cons (.const _) .nil)))) rfl) ⟨_, _, rfl, ⟨Aw x99, p99⟩, ⟨Aw y100, q100⟩⟩))⟩) (aC (.inl (.inr ⟨rfl, by intro j hj e; simp only [List.mem_cons, List.mem_nil_iff, or_false] at hj; rcases hj with rfl | rfl | rfl | rfl | rfl | rfl | rfl | rfl | rfl | rfl | rfl <;> first | exact absurd e cQ | exact ⟨_, _, _, rfl⟩⟩)) (aC (.inr ⟨rfl, rfl, TU.c (eC (.cons (.func _) .nil) (Ia)) (Dj _ _) sQ⟩) (aC (.inr ⟨rfl, rfl, TU.c (eC .nil (N5)) (G6 _) sQ⟩) (aC (.inr ⟨rfl, rfl, TU.p (.lc rfl (AggAt.G3 hB6.agg hC)) rfl⟩) (aC (.inr ⟨rfl, rfl, TU.r (REv.buildSlice (xs := ([Co 14, Cl, Jh] : List Fld)) (enc := Fld.cells) (mk := fun x : Fld => .agg (Fld.cells x)) underlying221 sizeOf310 zeroValue310 rfl cQ (fun _ => rfl) (fun _ => rfl) (.ct rfl (.ct rfl (.cu rfl))) rfl) (by rintro _ W1 ⟨B, c, rfl, N, y, x⟩; exact ⟨N.up, SlT.lit ⟨B, c, rfl, N, y, x⟩⟩)⟩) (aC (.inr ⟨rfl, rfl, TU.c (eC (.cons (.func _) .nil) (Ia)) (Dj _ _) sQ⟩) (aC (.inr ⟨rfl, rfl, TU.c (eC .nil (N5)) (G6 _) sQ⟩) (aC (.inr ⟨rfl, rfl, TU.r (REv.buildSlice (xs := ([Co 14, Cl] : List Fld)) (enc := Fld.cells) (mk := fun x : Fld => .agg (Fld.cells x)) underlying221 sizeOf310 zeroValue310 rfl cQ (fun _ => rfl) (fun _ => rfl) (.ct rfl (.cu rfl)) rfl) (by rintro _ W1 ⟨B, c, rfl, N, y, x⟩; exact ⟨N.up, SlT.lit ⟨B, c, rfl, N, y, x⟩⟩)⟩) (aC (.inr ⟨rfl, rfl, TU.open (d := 105) rfl (by rintro _ ⟨⟨a105, c105, rfl, x105⟩, p105⟩; exact TU.open (d := 108) rfl (by rintro _ ⟨⟨b108, d108, rfl, y108⟩, q108⟩; exact TU.p (.build (cs := #[.slice a105 (List.length ([Co 14, Cl, Jh])) c105, .slice b108 (List.length ([Co 14, Cl])) d108, .func (.func (E8 0)) #[] #[], .bool false]) underlying223 zeroValue223 De (.ct rfl (.ct rfl (.cons (.func _) (.cons (.const _) .nil)))) rfl) ⟨_, _, rfl, ⟨Aw x105, p105⟩, ⟨Aw y108, q108⟩⟩))⟩) (aC (.inl (.inr ⟨rfl, by intro j hj e; simp only [List.mem_cons, List.mem_nil_iff, or_false] at hj; rcases hj with rfl | rfl | rfl | rfl | rfl | rfl | rfl | rfl | rfl | rfl | rfl <;> first | exact absurd e cQ | exact ⟨_, _, _, rfl⟩⟩)) (aC (.inr ⟨rfl, rfl, TU.p (.mv rfl) (SlT.G3 hT8 hC)⟩) (aC (.inr ⟨rfl, rfl, TU.c (eC .nil (eO)) (Lz _) (fun v W1 h => ⟨h.2, h.1⟩)⟩) (aC (.inr ⟨rfl, rfl, TU.c (eC .nil (eP)) (Oi _) (fun v W1 h => ⟨h.2, h.1⟩)⟩) (aC (.inr ⟨rfl, rfl, TU.open (d := 110) rfl (by rintro _ ⟨⟨a110, c110, rfl, x110⟩, _⟩; exact TU.open (d := 111) rfl (by rintro _ ⟨⟨a111, c111, rfl, x111⟩, _⟩; exact TU.open (d := 112) rfl (by rintro _ ⟨⟨a112, c112, rfl, x112⟩, _⟩; exact TU.r (REv.buildSlice (xs := [(a110, List.length (Cv), c110), (a111, List.length (C6), c111), (a112, List.length (D4), c112)]) (enc := fun t => #[Ul t]) (mk := Ul) underlying379 sizeOf221 zeroValue221 rfl cQ (fun _ => rfl) (fun _ => rfl) (.ct rfl (.ct rfl (.cu rfl))) rfl) (by rintro _ W1 ⟨B, c, rfl, N, y, x⟩; exact ⟨N.up, _, Aw (Els.H8 x), (AllSl.up N.up (vs := List.map Ul [(a110, List.length (Cv), c110), (a111, List.length (C6), c111), (a112, List.length (D4), c112)]) (xss := [Cv, C6, D4]) ⟨Aw x110, Aw x111, Aw x112, trivial⟩).at⟩))))⟩) (aC (.inr ⟨rfl, rfl, TU.open (d := 113) rfl (by rintro v ⟨vs, ⟨ad, cp, rfl, hE⟩, hl, hx⟩; exact TU.c (eC (.o rfl) (Rv)) (Ja ad cp vs _ _ hE hl hx (by rw [← hl]; decide) cQ) (fun v W1 h => ⟨h.2, h.1⟩))⟩) (aC (.inr ⟨rfl, rfl, TU.p (.mv rfl) (SlT.G3 hT8 hC)⟩) (aC (.inr ⟨rfl, rfl, TU.open (d := 114) rfl (by rintro _ ⟨⟨a114, c114, rfl, x114⟩, p114⟩; exact TU.open (d := 115) rfl (by rintro _ ⟨⟨b115, d115, rfl, y115⟩, q115⟩; exact TU.p (.build (cs := #[.slice a114 (List.length (List.flatten [Cv, C6, D4])) c114, .slice b115 (List.length (Cv)) d115, .func (.func (E8 1)) #[] #[], .bool false]) underlying223 zeroValue223 De (.ct rfl (.ct rfl (.cons (.func _) (.cons (.const _) .nil)))) rfl) ⟨_, _, rfl, ⟨Aw x114, p114⟩, ⟨Aw y115, q115⟩⟩))⟩) (aC (.inl (.inr ⟨rfl, by intro j hj e; simp only [List.mem_cons, List.mem_nil_iff, or_false] at hj; rcases hj with rfl | rfl | rfl | rfl | rfl | rfl | rfl | rfl | rfl | rfl | rfl <;> first | exact absurd e cQ | exact ⟨_, _, _, rfl⟩⟩)) ?_)))))))))))))))))))))))))))))))))))))))))))))))))))))))))))))))))))))))))))))))))))))))))))))))))))))))))
  exact allL.nil
 intro W b kv g hU hM hP hg
 have hW := hW.trans ((Up.drew _).trans hU)
 refine Ab rfl (LW.A rfl (Ai (Ak (KW.q ?_))))
 refine ⟨_, rfl, ⟨kv, hM, ?_, ?_⟩, hW⟩
 ·intro k v hm
  have := hP.mem_iff.1 hm
  simp only [List.map_cons, List.map_nil, List.mem_cons, List.mem_nil_iff, or_false, Prod.mk.injEq] at this
  rcases this with ⟨rfl, rfl⟩ | ⟨rfl, rfl⟩ | ⟨rfl, rfl⟩ | ⟨rfl, rfl⟩ | ⟨rfl, rfl⟩ | ⟨rfl, rfl⟩ | ⟨rfl, rfl⟩ | ⟨rfl, rfl⟩ | ⟨rfl, rfl⟩ | ⟨rfl, rfl⟩ | ⟨rfl, rfl⟩
  · exact hg 14 _ 36 cQ rfl rfl
  · exact hg 23 _ 44 cQ rfl rfl
  · exact hg 34 _ 54 cQ rfl rfl
  · exact hg 44 _ 63 cQ rfl rfl
  · exact hg 50 _ 68 cQ rfl rfl
  · exact hg 59 _ 76 cQ rfl rfl
  · exact hg 69 _ 85 cQ rfl rfl
  · exact hg 78 _ 93 cQ rfl rfl
  · exact hg 87 _ 101 cQ rfl rfl
  · exact hg 96 _ 109 cQ rfl rfl
  exact hg 104 _ 116 cQ rfl rfl
 intro k
 rw [(hP.map (·.1)).mem_iff]
 simp
 omega
end Go.Proofs.YtgjogglfnkgapaaGreatDoor
namespace Go.Proofs
open Go.Proofs.Tryz
open Go.Wx Go.RowKit
set_option maxRecDepth 4000 in
theorem Li (f g : Fact) (w : World) : (Op.equalIn 10000 28 (.agg f.cells) (.agg g.cells)).run Tryz.prog w = .ok (Cz f g) w := by
 have hf : Tryz.prog.underlying 28 = some (.struct (Tryz.prog.fieldsOf 28)) := by rw [Program.fieldsOf, underlying28]
 rw [run_equalIn_agg w 9999 28 _ _ hf stoodInHeld28]
 have h : (Op.eqFields 9999 f.cells g.cells (Tryz.prog.fieldsOf 28).toList).run Tryz.prog w = .ok (Cz f g) w := by
   rw [Program.fieldsOf, underlying28]
   dsimp only
   iterate 4 (refine Pb cQ isAgg3 rfl rfl (run_equalIn_int w 9998 _ _ _ _ _ underlying3) ?_)
   refine Pb cQ isAgg4 rfl rfl (run_equalIn_bool' w 9998 _ _ _ underlying4) ?_
   iterate 13 (refine Pb cQ isAgg3 rfl rfl (run_equalIn_int w 9998 _ _ _ _ _ underlying3) ?_)
   rw [show (f.Text.toList == g.Text.toList) = ((f.Text.toList == g.Text.toList) && true) by simp]
   exact Pb cQ isAgg9 rfl rfl (run_equalIn_string w 9998 _ _ _ underlying9) rfl
 exact h
end Go.Proofs
namespace Go.Wx
def Gn (f : Fact) (o : Nat) : Int := match o with
 | 1 => f.ID
 | 5 => f.Time
 | 6 => f.Until
 | 7 => f.Wafer
 | 8 => f.Other
 | 9 => f.Lot
 | 10 => f.Product
 | 11 => f.Tool
 | 12 => f.Chamber
 | 13 => f.Step
 | 14 => f.Recipe
 | 15 => f.Revision
 | 16 => f.Value
 | 17 => f.Parties
 | _ => 0
def jI (f : Fact) (o : Nat) (n : Int) : Fact := match o with
 | 1 => { f with ID := n }
 | 5 => { f with Time := n }
 | 6 => { f with Until := n }
 | 7 => { f with Wafer := n }
 | 8 => { f with Other := n }
 | 9 => { f with Lot := n }
 | 10 => { f with Product := n }
 | 11 => { f with Tool := n }
 | 12 => { f with Chamber := n }
 | 13 => { f with Step := n }
 | 14 => { f with Recipe := n }
 | 15 => { f with Revision := n }
 | 16 => { f with Value := n }
 | 17 => { f with Parties := n }
 | _ => f
def Fc (o : Nat) : Bool := Nat.beq o 1 || (Nat.ble 5 o && Nat.ble o 17)
theorem Ej {o : Nat} (h : Fc o = true) : o = 1 ∨ o = 5 ∨ o = 6 ∨ o = 7 ∨ o = 8 ∨ o = 9 ∨ o = 10 ∨ o = 11 ∨ o = 12 ∨ o = 13 ∨ o = 14 ∨ o = 15 ∨ o = 16 ∨ o = 17 := by
 simp [Fc] at h; omega
theorem Vh (k : Int) : ∀ x ∈ fieldsOf k, Fc x.off = true := by
 intro x hx
 have h : ∀ l ∈ Lh, ∀ y ∈ l, Fc y.off = true := by decide
 unfold fieldsOf at hx
 rw [List.getD_eq_getElem?_getD] at hx
 cases hl : Lh[k.toNat]? with
 | none => rw [hl] at hx; simp at hx
 | some l => rw [hl] at hx; exact h l (List.mem_of_getElem? hl) x (by simpa using hx)
theorem Po {f : Fact} {o : Nat} (h : Fc o = true) : nth f.cells.toList o = some (vi (Gn f o)) := by
 rcases Ej h with rfl | rfl | rfl | rfl | rfl | rfl | rfl | rfl | rfl | rfl | rfl | rfl | rfl | rfl <;> rfl
theorem bK {f : Fact} {o : Nat} {n : Int} (h : Fc o = true) : f.cells.setIfInBounds o (vi n) = (jI f o n).cells := by
 rcases Ej h with rfl | rfl | rfl | rfl | rfl | rfl | rfl | rfl | rfl | rfl | rfl | rfl | rfl | rfl <;> rfl
def Mr (r : Nat) (f : Fact) : Bool := match r with
 | 1 => decide (f.Time ≤ f.Until)
 | 2 => !decide (f.Wafer = f.Other)
 | _ => true
def Ij : List Fld → Fact → Option Fact
 | [], g => some g
 | x :: r, g => if Gn g x.off < x.lo ∨ x.hi < Gn g x.off then none else Ij r (jI g x.off 0)
def Lj (k v d : Int) (g : Bool) : Fact := ⟨k, 0, v, d, g, 0, 0, 0, 0, 0, 0, 0, 0, 0, 0, 0, 0, 0, ByteArray.empty⟩
def preB (f : Fact) : Bool := decide (f.Version < 1) || decide (1000000 < f.Version) || decide (f.Day < 0) || decide (100000 < f.Day) || decide (8192 < (f.Text.size : Int))
def Bk (f : Fact) : Bool := decide (1 ≤ f.Kind ∧ f.Kind ≤ 11) && (!(preB f || !Mr (Gl f.Kind) f) &&
 match Ij (fieldsOf f.Kind) f with
 | none => false
 | some g => Cz (if Gm f.Kind then { g with Text := ByteArray.empty } else g) (Lj f.Kind f.Version f.Day f.Gone))
def fT (f : Fact) : Fact := Lj f.Kind f.Version f.Day f.Gone
theorem jJ {fs : List Fld} {f g : Fact} {k : Nat} {x : Fld} (hg : Ij fs f = Ij (fs.drop k) g) (hx : fs[k]? = some x) (h : ¬ (Gn g x.off < x.lo ∨ x.hi < Gn g x.off)) : Ij fs f = Ij (fs.drop (k + 1)) (jI g x.off 0) := by
 obtain ⟨hk, e⟩ := List.getElem?_eq_some_iff.1 hx
 rw [hg, List.drop_eq_getElem_cons hk, e]
 simp only [Ij, if_neg h]
theorem jK {fs : List Fld} {f g : Fact} {k : Nat} {x : Fld} (hg : Ij fs f = Ij (fs.drop k) g) (hx : fs[k]? = some x) (h : Gn g x.off < x.lo ∨ x.hi < Gn g x.off) : Ij fs f = none := by
 obtain ⟨hk, e⟩ := List.getElem?_eq_some_iff.1 hx
 rw [hg, List.drop_eq_getElem_cons hk, e]
 simp only [Ij, if_pos h]
theorem Na (k : Int) : (fieldsOf k).length ≤ 16 := by
 have h : ∀ l ∈ Lh, l.length ≤ 16 := by decide
 unfold fieldsOf
 rw [List.getD_eq_getElem?_getD]
 cases hl : Lh[k.toNat]? with
 | none => simp
 | some l => exact h l (List.mem_of_getElem? hl)
theorem HG {f : Fact} (h : ¬ (1 ≤ f.Kind ∧ f.Kind ≤ 11)) : false = Bk f := by simp [Bk, decide_eq_false h]
theorem HH {f : Fact} (h : preB f = true) : false = Bk f := by simp [Bk, h]
theorem zD {f : Fact} {r : Nat} (hr : r = Gl f.Kind) (h : Mr r f = false) : false = Bk f := by subst hr; simp [Bk, h]
theorem zE {f : Fact} (h : Ij (fieldsOf f.Kind) f = none) : false = Bk f := by simp [Bk, h]
theorem bL {f : Fact} {o : Nat} (h : Fc o = true) : o + 1 ≤ f.cells.size := by
 rcases Ej h with rfl | rfl | rfl | rfl | rfl | rfl | rfl | rfl | rfl | rfl | rfl | rfl | rfl | rfl <;> exact Nat.le_of_ble_eq_true rfl
theorem zF {f g : Fact} {r : Nat} {t : Bool} (hk : 1 ≤ f.Kind ∧ f.Kind ≤ 11) (hp : preB f = false) (hr : r = Gl f.Kind) (h : Mr r f = true) (hg : Ij (fieldsOf f.Kind) f = some g) (ht0 : t = Gm f.Kind) (ht : t = true) : Cz ({ g with Text := ByteArray.empty } : Fact) (fT f) = Bk f := by
 subst hr ht0; simp only [Bk, decide_eq_true hk, hp, h, hg, ht]; rfl
theorem zG {f g : Fact} {r : Nat} {t : Bool} (hk : 1 ≤ f.Kind ∧ f.Kind ≤ 11) (hp : preB f = false) (hr : r = Gl f.Kind) (h : Mr r f = true) (hg : Ij (fieldsOf f.Kind) f = some g) (ht0 : t = Gm f.Kind) (ht : t = false) : Cz g (fT f) = Bk f := by
 subst hr ht0; simp only [Bk, decide_eq_true hk, hp, h, hg, ht]; rfl
theorem Yi {fs : List Fld} {f g : Fact} {k : Nat} (hg : Ij fs f = Ij (fs.drop k) g) (hk : fs.length ≤ k) : Ij fs f = some g := by
 rw [hg, List.drop_eq_nil_of_le hk]
 rfl
end Go.Wx
namespace Go.Proofs.YtgjogglfnkgapaaGreatDoor
open Go.Proofs.Tryz
open Go.Wx Go.RowKit
theorem jL (f : Fact) (w : World) : Ret prog 227 #[.agg f.cells] w fun r w' => r = .bool (Mr 0 f) ∧ Up w w' := by
 have hW := Up.refl w
 refine cT 3 func227 rfl (Af (Al (.bA rfl) rfl ?_))
 rintro _ w1 ⟨B1, rfl, NB1⟩
 replace hW := hW.up NB1.up
 have hB1 := NB1.blk
 refine Ay (Ao (Aa (Ay (Ai (Ak (KW.q ?_))))))
 exact ⟨rfl, hW⟩
theorem bM (f : Fact) (w : World) : Ret prog 225 #[.agg f.cells] w fun r w' => r = .bool (Mr 1 f) ∧ Up w w' := by
 have hW := Up.refl w
 refine cT 8 func225 rfl (Af (Al (.bA rfl) rfl ?_))
 rintro _ w1 ⟨B1, rfl, NB1⟩
 replace hW := hW.up NB1.up
 have hB1 := NB1.blk
 refine Ay (Ao (Aa (I (.fB 5 rfl) (I (.lb rfl (hB1.Ah rfl)) (I (.fB 6 rfl) (I (.lb rfl (hB1.Ah rfl)) (I (.leq (.t rfl) (.t rfl)) (LW.A rfl (Ai (Ak (KW.q ?_)))))))))))
 exact ⟨rfl, hW⟩
theorem jM (f : Fact) (w : World) : Ret prog 214 #[.agg f.cells] w fun r w' => r = .bool (Mr 2 f) ∧ Up w w' := by
 have hW := Up.refl w
 refine cT 8 func214 rfl (Af (Al (.bA rfl) rfl ?_))
 rintro _ w1 ⟨B1, rfl, NB1⟩
 replace hW := hW.up NB1.up
 have hB1 := NB1.blk
 refine Ay (Ao (Aa (I (.fB 7 rfl) (I (.lb rfl (hB1.Ah rfl)) (I (.fB 8 rfl) (I (.lb rfl (hB1.Ah rfl)) (I (.neq (.t rfl) (.t rfl)) (LW.A rfl (Ai (Ak (KW.q ?_)))))))))))
 exact ⟨rfl, hW⟩
theorem fU (o b : Nat) (w : World) (ho : Fc o = true) : Ret Tryz.prog (sV o) #[.pointer (some ⟨b, 0, none⟩)] w fun r w' => r = .pointer (some ⟨b, o, none⟩) ∧ Up w w' := by
 rcases Ej ho with rfl | rfl | rfl | rfl | rfl | rfl | rfl | rfl | rfl | rfl | rfl | rfl | rfl | rfl
 · exact zC b w
 · exact nE b w
 · exact jE b w
 · exact jF b w
 · exact jG b w
 · exact sW b w
 · exact Yf b w
 · exact nG b w
 · exact Yg b w
 · exact nH b w
 · exact bJ b w
 · exact Wv b w
 · exact jH b w
 exact Yh b w
theorem nJ (o : Nat) (ho : Fc o = true) : ∀ (args : Array Go.Value) (w : World), (callFunc (sV o) args).run Tryz.prog w = .ok (.enter (sV o) args) w := by
 rcases Ej ho with rfl | rfl | rfl | rfl | rfl | rfl | rfl | rfl | rfl | rfl | rfl | rfl | rfl | rfl
 · exact EE
 · exact FO
 · exact FN
 · exact EI
 · exact ER
 · exact EJ
 · exact ES
 · exact EK
 · exact EL
 · exact EM
 · exact EF
 · exact EG
 · exact EO
 exact EN
theorem nK (r : Nat) (f : Fact) (w : World) (hr : r < 3) : Ret Tryz.prog (E8 r) #[.agg f.cells] w fun v w' => v = .bool (Mr r f) ∧ Up w w' := by
 match r, hr with
 | 0, _ => exact jL f w
 | 1, _ => exact bM f w
 | 2, _ => exact jM f w
theorem sX (r : Nat) (hr : r < 3) : ∀ (args : Array Go.Value) (w : World), (callFunc (E8 r) args).run Tryz.prog w = .ok (.enter (E8 r) args) w := by
 match r, hr with
 | 0, _ => exact EQ
 | 1, _ => exact EP
 | 2, _ => exact EH
theorem sY (k : Int) : Gl k < 3 := by
 unfold Gl
 rw [List.getD_eq_getElem?_getD]
 have h : ∀ x ∈ [0, 1, 0, 2, 0, 0, 1, 1, 0, 0, 0, 1], x < 3 := by decide
 cases hl : [0, 1, 0, 2, 0, 0, 1, 1, 0, 0, 0, 1][k.toNat]? with
 | none => simp
 | some x => exact h x (List.mem_of_getElem? hl)
theorem ShV.Df {w w' : World} {v : Go.Value} {fs ks : List Fld} {r : Nat} {t : Bool} (h : ShV w v fs ks r t) (u : KeepT 223 w w') : ShV w' v fs ks r t := let ⟨v1, v2, e, h1, h2⟩ := h; ⟨v1, v2, e, h1.Df rfl u, h2.Df rfl u⟩
theorem ShMap.Df {w w' : World} {b : Nat} (h : ShMap w b) (u : KeepT 223 w w') : ShMap w' b := let ⟨kv, h1, h2, h3⟩ := h; ⟨kv, h1.Df u, fun k v m => (h2 k v m).Df u, h3⟩
def ShM (v : Go.Value) (w : World) : Prop := ∃ b, v = .map (some b) ∧ ShMap w b
theorem ShM.Df {v : Go.Value} {w w' : World} (h : ShM v w) (u : KeepT 223 w w') : ShM v w' := let ⟨b, e, m⟩ := h; ⟨b, e, m.Df u⟩
def shOf (f : Fact) (v : Go.Value) (w : World) : Prop := ShV w v (fieldsOf f.Kind) (Ep f.Kind) (Gl f.Kind) (Gm f.Kind)
def xW (f : Fact) (v : Go.Value) (w : World) : Prop := ∃ s, v = .tuple #[s, .bool true] ∧ shOf f s w
def Ww : Go.Value := .agg #[.slice none 0 0, .slice none 0 0, .nilFunc, .bool false]
theorem shOf.agg {f : Fact} {v : Go.Value} {w : World} (h : shOf f v w) : ∃ cs, v = .agg cs ∧ cs.size = 4 ∧ cs.all (·.oneCell') = true := by
 obtain ⟨v1, v2, rfl, ⟨⟨a1, c1, rfl, _⟩, _⟩, ⟨a2, c2, rfl, _⟩, _⟩ := h
 exact ⟨_, rfl, rfl, by simp [Value.oneCell']⟩
set_option maxHeartbeats 4000000 in
theorem L0 (f : Fact) (w : World) : Ret prog 103 #[.agg f.cells] w fun r w' => r = .bool (Bk f) ∧ Up w w' := by
 obtain ⟨w0, rfl, hS⟩ := W0 w
 refine cT 93 func103 rfl (Af (Al (.bA rfl) rfl ?_))
 rintro _ w1 ⟨B1, rfl, NB1⟩
 replace hS := hS.Bn NB1
 refine Ay (Ao ?_)
 cases hq1 : decide (1 ≤ f.Kind ∧ f.Kind ≤ 11) with
 | true =>
  have hkn := of_decide_eq_true hq1
  obtain ⟨r0, hr0⟩ : ∃ r, r = Gl f.Kind := ⟨_, rfl⟩
  have hr3 : r0 < 3 := by rw [hr0]; exact sY _
  obtain ⟨t0, ht0⟩ : ∃ t, t = Gm f.Kind := ⟨_, rfl⟩
  have hB1T := hS.blk 0 rfl
  have hU0 := hS.Cr
  refine CW.box 9 7 8 5 3 14 #[.slice none 0 0, .slice none 0 0, .nilFunc, .bool false] [.pred ShM, .eq (.pointer (some ⟨B1, 0, none⟩)), .eq (vi f.Kind), .pred (xW f), .pred (xW f), .pred (shOf f), .eq (.bool true), .pred fun v _ => ∃ B, v = .pointer (some ⟨B, 0, none⟩), .eq undef] [15] zeroValue223 sizeOf223 kQ rfl kQ kQ kQ kQ kQ kQ kQ rfl rfl ⟨_, _, _, rfl⟩ _ rfl ⟨_, _, _, rfl⟩ ⟨PhT.pred fun _ _ _ h u => ShM.Df h u, PhT.eq _ _, PhT.eq _ _, PhT.pred fun _ _ _ h u => let ⟨s, e, h⟩ := h; ⟨s, e, ShV.Df h u⟩, PhT.pred fun _ _ _ h u => let ⟨s, e, h⟩ := h; ⟨s, e, ShV.Df h u⟩, PhT.pred fun _ _ _ h u => ShV.Df h u, PhT.eq _ _, PhT.pred fun _ _ _ h _ => h, PhT.eq _ _, trivial⟩ rfl (fun v W h => shOf.agg h) (fun B W => ⟨B, rfl⟩) ?_ ?_
  ·intro W hK0
   have hK := (Up.drew w1).Df.trans hK0
   have hB1W := Blk.Df hB1T (T := 223) rfl hK
   refine aC (.inr ⟨rfl, TU.c (eC .nil (eK)) (K0 _) (fun v W1 h => let ⟨b, e, m, u⟩ := h; ⟨u, b, e, m⟩)⟩) (aC (.inr ⟨rfl, TU.p (.fB 0 rfl) rfl⟩) (aC (.inr ⟨rfl, TU.p (.lb rfl (hB1W.Ah rfl)) rfl⟩) (aC (.inr ⟨rfl, TU.open (d := 10) rfl (by rintro _ ⟨b, rfl, kv, hI, hV, hK⟩; obtain ⟨⟨k0, sv⟩, hkv, e0⟩ := List.mem_map.1 ((hK f.Kind).2 hkn); cases e0; exact TU.p (.D0 underlying224 underlying3 (.t rfl) (.t rfl) hI hkv) ⟨_, rfl, hV _ _ hkv⟩)⟩) (aC (.inr ⟨rfl, TU.open (d := 13) rfl (by rintro _ ⟨s, rfl, h⟩; exact TU.p (.mv rfl) ⟨s, rfl, h⟩)⟩) (aC (.inr ⟨rfl, TU.open (d := 9) rfl (by rintro _ ⟨s, rfl, h⟩; exact TU.p (.xt rfl rfl) h)⟩) (aC (.inr ⟨rfl, TU.open (d := 9) rfl (by rintro _ ⟨s, rfl, h⟩; exact TU.p (.xt rfl rfl) rfl)⟩) (aC (.inl (.inl rfl)) (aC (.inl (.inr rfl)) ?_))))))))
   exact allL.nil
  intro wT B3 g hU hBn hB3 hg
  have h15 : g 15 = .bool true := hg 6 _ 15 cQ rfl rfl
  have hUT := (Up.drew _).trans hU
  have hB1X := hB1T.up hUT
  replace hB1T := hB1X
  replace hU0 := hU0.trans hUT
  obtain ⟨v1, v2, e14, hs1, hs2⟩ := hg 5 _ 14 cQ rfl rfl
  rw [e14] at hB3
  obtain ⟨⟨ad, cp, rfl, hE0⟩, _⟩ := hs1
  obtain ⟨⟨ad2, cp2, rfl, hE2⟩, _⟩ := hs2
  rw [← hr0, ← ht0] at hB3
  replace hB3 : Blk wT B3 #[.slice ad (fieldsOf f.Kind).length cp, .slice ad2 (Ep f.Kind).length cp2, .func (.func (E8 r0)) #[] #[], .bool t0] 223 := hB3
  have hB3T := hB3
  change LW _ _ _ _ _ _ _ _ ((3, _) :: (15, .eq (g 15)) :: _) _
  rw [h15]
  replace hS := (Sep.start no wT)
  refine LW.A rfl (Ao (Am ?_))
  cases hq2 : preB f with
  | true =>
   refine Aa (I (.tr (PEv.mv rfl) (rfl)) (I (.n1 rfl) (Ab rfl (Cb (I (.fB 2 rfl) (Cb (I (.lb rfl ((hB1T.up hS.Cr).Ah rfl)) (Cb (I (.lss (.t rfl) (.const _)) (I (.po rfl (fun hp => (by exact .tmp rfl))) (Ab rfl (LW.gr rfl (fun hc => PEv.fB 2 rfl) (LW.gr rfl (fun hc => PEv.load isAgg3 vQ ((hB1T.up hS.Cr).Ah rfl)) (LW.gr rfl (fun hc => PEv.gtr vQ (.const _)) (I (.po rfl (fun hp => (by exact .cond rfl (by simp_all)))) (Ab rfl (LW.gr rfl (fun hc => PEv.fB 3 rfl) (LW.gr rfl (fun hc => PEv.load isAgg3 vQ ((hB1T.up hS.Cr).Ah rfl)) (LW.gr rfl (fun hc => PEv.lss vQ (.const _)) (I (.po rfl (fun hp => (by exact .cond rfl (by simp_all)))) (Ab rfl (LW.gr rfl (fun hc => PEv.fB 3 rfl) (LW.gr rfl (fun hc => PEv.load isAgg3 vQ ((hB1T.up hS.Cr).Ah rfl)) (LW.gr rfl (fun hc => PEv.gtr vQ (.const _)) (I (.po rfl (fun hp => (by exact .cond rfl (by simp_all)))) (Ab rfl (LW.gr rfl (fun hc => PEv.fB 18 rfl) (LW.gr rfl (fun hc => PEv.load isAgg9 vQ ((hB1T.up hS.Cr).Ah rfl)) (LW.gr rfl (fun hc => PEv.Ro underlying9 vQ) (LW.gr rfl (fun hc => PEv.gtr vQ (.const _)) (I (.po rfl (fun hp => (by exact .cond rfl (by simp_all)))) (I (.tr (PEv.mv rfl) (by simpa [preB] using hq2)) (Da (Da (Da (Da (Da (I (.E1 (b := false) (.t rfl) (fun hp => absurd (show true = false from hp) cQ)) (Ai (CW.v rfl (Af (Ay (Ai (Ak (Ap (KW.q ?_))))))))))))))))))))))))))))))))))))))))))))))
   refine ⟨congrArg Go.Value.bool ?_, hU0.trans hS.Cr⟩
   exact HH hq2
  | false =>
   obtain ⟨hp1, hp2, hp3, hp4, hp5⟩ : ¬ f.Version < 1 ∧ ¬ 1000000 < f.Version ∧ ¬ f.Day < 0 ∧ ¬ 100000 < f.Day ∧ ¬ 8192 < (f.Text.size : Int) := by simp [preB] at hq2; omega
   refine Aa (I (.tr (PEv.mv rfl) (rfl)) (I (.n1 rfl) (Ab rfl (Cb (I (.fB 2 rfl) (Cb (I (.lb rfl ((hB1T.up hS.Cr).Ah rfl)) (Cb (I (.fa (PEv.lss (.t rfl) (.const _)) (decide_eq_false hp1)) (I (.po rfl (fun hp => (by exact .tmp rfl))) (Ab rfl (Cb (I (.fB 2 rfl) (Cb (I (.lb rfl ((hB1T.up hS.Cr).Ah rfl)) (Cb (I (.fa (PEv.gtr (.t rfl) (.const _)) (decide_eq_false hp2)) (I (.po rfl (fun hp => (by exact .tmp rfl))) (Ab rfl (Cb (I (.fB 3 rfl) (Cb (I (.lb rfl ((hB1T.up hS.Cr).Ah rfl)) (Cb (I (.fa (PEv.lss (.t rfl) (.const _)) (decide_eq_false hp3)) (I (.po rfl (fun hp => (by exact .tmp rfl))) (Ab rfl (Cb (I (.fB 3 rfl) (Cb (I (.lb rfl ((hB1T.up hS.Cr).Ah rfl)) (Cb (I (.fa (PEv.gtr (.t rfl) (.const _)) (decide_eq_false hp4)) (I (.po rfl (fun hp => (by exact .tmp rfl))) (Ab rfl (Cb (I (.fB 18 rfl) (Cb (I (.lb rfl ((hB1T.up hS.Cr).Ah rfl)) (Cb (I (.Ro underlying9 (.t rfl)) (Cb (I (.fa (PEv.gtr (.t rfl) (.const _)) (decide_eq_false hp5)) (I (.po rfl (fun hp => (by exact .tmp rfl))) (Ab rfl (Cb (I (.fB 2 rfl) (Cb (I (.lb rfl ((hB3T.up hS.Cr).Ah rfl)) (Cb (I (.lc rfl ((hB1T.up hS.Cr).agg)) (Cb (A3 (Fy (.t rfl) (.cu rfl) (sX r0 hr3)) rfl (nK r0 f _ hr3) ?_)))))))))))))))))))))))))))))))))))))))))))))))))))))
   rintro _ w2 ⟨rfl, uw2⟩
   replace hS := hS.up uw2
   refine Cb (I (.n1 rfl) (I (.po rfl (fun hp => (by exact .tmp rfl))) (Ai (CW.b rfl (fun h50 => ?_) (fun h50 => ?_)))))
   ·refine Af (Ay (Ai (Ak (Ap (KW.q ?_)))))
    refine ⟨congrArg Go.Value.bool ?_, hU0.trans hS.Cr⟩
    exact zD hr0 (by simpa using h50)
   refine Aj (Ac (Af (I (.lc rfl ((hB1T.up hS.Cr).agg)) (Al (.Bm zeroValue28) rfl ?_))))
   rintro _ w3 ⟨B5, rfl, MB5⟩
   refine Be (.Bi sizeOf28 rfl (.t rfl) (.t rfl) eQ MB5.blk rfl) ?_
   intro w4 LB5
   have NB5 := MB5.set LB5
   replace hS := hS.Bn NB5
   refine Ao (Af (I (.fB 0 rfl) (I (.lb rfl ((hB3T.up hS.Cr).Ah rfl)) (I (.Di underlying221 (.t rfl)) (I (.move (.const _)) (Ai (An (A8 (σ := Nat × Fact) (fun s w => (s.1 ≤ (fieldsOf f.Kind).length) ∧ (Ij (fieldsOf f.Kind) f = Ij ((fieldsOf f.Kind).drop s.1) s.2) ∧ (Sep no wT w [Cc B5 s.2.cells 28])) (fun s => [(55, .eq (vi (s.1 : Int)))]) ([(1, .eq _), (3, .eq _), (5, .eq _), (53, .eq _), (54, .eq _)]) (fun s => (fieldsOf f.Kind).length - s.1) (0, f) ?_ tQ ?_))))))))
   ·exact ⟨Nat.zero_le _, rfl, hS⟩
   rintro ⟨k, g⟩ w5 ⟨hkk, hg, hS⟩
   refine Af (I (.l2 rfl rfl) (Ao (CW.b rfl (fun h56 => ?_) (fun h56 => ?_))))
   ·refine Aj (Ac (Am (An (Am ?_))))
    have hfl := Na f.Kind
    have hE := Els.up hE0 hS.Cr
    have hkl : k < (fieldsOf f.Kind).length := by simp at h56; omega
    refine Aa ?_
    obtain ⟨x, hx⟩ := Au (xs := fieldsOf f.Kind) (i := k) oQ
    obtain ⟨Bx, ox, ax, hcx⟩ := hE _ x hx
    refine I (.Av underlying221 sizeOf310 (.t rfl) (.t rfl) oQ ax) (I (.lc rfl (hcx)) (Al (.Bm zeroValue310) rfl ?_))
    rintro _ w6 ⟨B7, rfl, MB7⟩
    refine Be (.Bi sizeOf310 rfl (.t rfl) (.t rfl) (Fld.one _) MB7.blk rfl) ?_
    intro w7 LB7
    have NB7 := MB7.set LB7
    replace hcx := hcx.up NB7.up
    replace hS := hS.Bn NB7
    refine Ao ?_
    have hox := Vh _ x (List.mem_of_getElem? hx)
    refine Aa (I (.fB 0 rfl) (I (.lb rfl (hS.b1.Ah rfl)) (A3 (Fy (.t rfl) (.cu rfl) (nJ x.off hox)) rfl (fU x.off _ _ hox) ?_)))
    rintro _ w8 ⟨rfl, uw8⟩
    replace hS := hS.up uw8
    refine LW.A rfl (Ao (Am (C5 kQ kQ rfl rfl (U (.mv rfl) (U (.nc rfl) (U (.lb rfl (hS.b0.Ah (Po hox))) (U (.fB 1 rfl) (U (.lb rfl (hS.b1.Ah (v := vi x.lo) rfl)) (U (.l2 rfl rfl) (U (.mv rfl) (iP rfl rfl rfl rfl rfl rfl (fun hc => PEv.mv rfl) (iP rfl rfl rfl rfl rfl rfl (fun hc => PEv.nilCheck vQ) (iP rfl rfl rfl rfl rfl rfl (fun hc => PEv.load isAgg3 vQ (hS.b0.Ah (Po hox))) (iP rfl rfl rfl rfl rfl rfl (fun hc => PEv.fB 2 rfl) (iP rfl rfl rfl rfl rfl rfl (fun hc => PEv.load isAgg3 vQ (hS.b1.Ah (v := vi x.hi) rfl)) (iP rfl rfl rfl rfl rfl rfl (fun hc => PEv.gtr vQ vQ) (U (.po rfl (fun hp => (by exact .cond rfl (by simp_all)))) (HW.nil ?_))))))))))))))))))
    intro w9 uw9
    replace hS := hS.up uw9
    refine Ac (CW.b rfl (fun h75 => ?_) (fun h75 => ?_))
    ·refine Af (Ay (Ai (Ak (Ap (A9 (Ap (Ap (A9 (Ap (KW.q ?_))))))))))
     refine ⟨congrArg Go.Value.bool ?_, hU0.trans hS.Cr⟩
     exact zE (jK hg hx (by simp at h75; omega))
    refine Aj (Ac (Aa (Ab rfl (I (.nc rfl) (Be (.store sizeOf3 (.t rfl) (.const _) rfl hS.b0 (bL hox)) ?_)))))
    intro w10 Nw10
    have zw10 := Nw10.size
    replace hS := hS.Cp 0 rfl (by rw [bK hox] at Nw10; exact Nw10)
    refine LW.nil (Ae (Ac (Aa (I (.ic rfl oQ) (Ab rfl (LW.nil (Ar ?_)))))))
    exact ⟨(k + 1, jI g x.off 0), ⟨by omega, jJ hg hx (by simp at h75; omega), hS.take 1⟩, tQ, by omega⟩
   refine Bl (Ad (Ad (Aq (Ac (Am (Af (I (.fB 3 rfl) (I (.lb rfl ((hB3T.up hS.Cr).Ah rfl)) (Ai (CW.b rfl (fun h80 => ?_) (fun h80 => ?_)))))))))))
   ·refine Aa (I (.fB 18 rfl) (Be (.store sizeOf9 (.t rfl) (.const _) rfl hS.b0 bQ) ?_))
    intro w11 Nw11
    replace hS := hS.Cp 0 rfl (show Set_ _ w11 _ (({ g with Text := ByteArray.empty } : Fact).cells) _ from Nw11)
    refine Ao (Aa (I (.lc rfl (hS.b0.agg)) (I (.fB 0 rfl) (I (.lb rfl ((hB1T.up hS.Cr).Ah rfl)) (I (.fB 2 rfl) (I (.lb rfl ((hB1T.up hS.Cr).Ah rfl)) (I (.fB 3 rfl) (I (.lb rfl ((hB1T.up hS.Cr).Ah rfl)) (I (.fB 4 rfl) (I (.lb rfl ((hB1T.up hS.Cr).Ah rfl)) (I (.build (cs := (fT f).cells) underlying28 zeroValue28 Hr (.ct rfl (.ct rfl (.ct rfl (.cu rfl)))) rfl) (I (.mF eqGuardType28 (Li _ _) (.t rfl) (.t rfl)) (LW.A rfl (Ai (Ak (KW.q ?_))))))))))))))))
    refine ⟨congrArg Go.Value.bool ?_, hU0.trans hS.Cr⟩
    exact zF hkn hq2 hr0 (by simpa using h50) (Yi hg (by simp at h56; omega)) ht0 h80
   refine Aj (Ac (Af (I (.lc rfl (hS.b0.agg)) (I (.fB 0 rfl) (I (.lb rfl ((hB1T.up hS.Cr).Ah rfl)) (I (.fB 2 rfl) (I (.lb rfl ((hB1T.up hS.Cr).Ah rfl)) (I (.fB 3 rfl) (I (.lb rfl ((hB1T.up hS.Cr).Ah rfl)) (I (.fB 4 rfl) (I (.lb rfl ((hB1T.up hS.Cr).Ah rfl)) (I (.build (cs := (fT f).cells) underlying28 zeroValue28 Hr (.ct rfl (.ct rfl (.ct rfl (.cu rfl)))) rfl) (I (.mF eqGuardType28 (Li _ _) (.t rfl) (.t rfl)) (LW.A rfl (Ai (Ak (KW.q ?_)))))))))))))))))
   refine ⟨congrArg Go.Value.bool ?_, hU0.trans hS.Cr⟩
   exact zG hkn hq2 hr0 (by simpa using h50) (Yi hg (by simp at h56; omega)) ht0 h80
 | false =>
  have hkn := of_decide_eq_false hq1
  have hB1T := hS.blk 0 rfl
  have hU0 := hS.Cr
  refine CW.box 9 7 8 5 3 14 #[.slice none 0 0, .slice none 0 0, .nilFunc, .bool false] [.pred ShM, .eq (.pointer (some ⟨B1, 0, none⟩)), .eq (vi f.Kind), .eq (.tuple #[Ww, .bool false]), .eq (.tuple #[Ww, .bool false]), .eq Ww, .eq (.bool false), .pred fun v _ => ∃ B, v = .pointer (some ⟨B, 0, none⟩), .eq undef] [15] zeroValue223 sizeOf223 kQ rfl kQ kQ kQ kQ kQ kQ kQ rfl rfl ⟨_, _, _, rfl⟩ _ rfl ⟨_, _, _, rfl⟩ ⟨PhT.pred fun _ _ _ h u => ShM.Df h u, PhT.eq _ _, PhT.eq _ _, PhT.eq _ _, PhT.eq _ _, PhT.eq _ _, PhT.eq _ _, PhT.pred fun _ _ _ h _ => h, PhT.eq _ _, trivial⟩ rfl (fun v W h => ⟨_, h, rfl, by simp [Value.oneCell']⟩) (fun B W => ⟨B, rfl⟩) ?_ ?_
  ·intro W hK0
   have hK := (Up.drew w1).Df.trans hK0
   have hB1W := Blk.Df hB1T (T := 223) rfl hK
   refine aC (.inr ⟨rfl, TU.c (eC .nil (eK)) (K0 _) (fun v W1 h => let ⟨b, e, m, u⟩ := h; ⟨u, b, e, m⟩)⟩) (aC (.inr ⟨rfl, TU.p (.fB 0 rfl) rfl⟩) (aC (.inr ⟨rfl, TU.p (.lb rfl (hB1W.Ah rfl)) rfl⟩) (aC (.inr ⟨rfl, TU.open (d := 10) rfl (by rintro _ ⟨b, rfl, kv, hI, hV, hK⟩; exact TU.p (.Gf underlying224 underlying3 zeroValue223 (.t rfl) (.t rfl) hI (fun h => hkn ((hK f.Kind).1 h))) rfl)⟩) (aC (.inr ⟨rfl, TU.p (.mv rfl) rfl⟩) (aC (.inr ⟨rfl, TU.p (.xt rfl rfl) rfl⟩) (aC (.inr ⟨rfl, TU.p (.xt rfl rfl) rfl⟩) (aC (.inl (.inl rfl)) (aC (.inl (.inr rfl)) ?_))))))))
   exact allL.nil
  intro wT B3 g hU hBn hB3 hg
  have h15 : g 15 = .bool false := hg 6 _ 15 cQ rfl rfl
  have hUT := (Up.drew _).trans hU
  have hB1X := hB1T.up hUT
  replace hB1T := hB1X
  replace hU0 := hU0.trans hUT
  have e14 : g 14 = Ww := hg 5 _ 14 cQ rfl rfl
  rw [e14] at hB3
  replace hB3 : Blk wT B3 #[.slice none 0 0, .slice none 0 0, .nilFunc, .bool false] 223 := hB3
  change LW _ _ _ _ _ _ _ _ ((3, _) :: (15, .eq (g 15)) :: _) _
  rw [h15]
  replace hS := (Sep.start no wT)
  refine LW.A rfl (Ao (Af (I (.fa (PEv.mv rfl) (rfl)) (I (.n1 rfl) (Ab rfl (Da (Da (Da (I (.E1 (b := false) (.t rfl) (fun hp => absurd (show true = false from hp) cQ)) (Ab rfl (Da (Da (Da (I (.E1 (b := false) (.t rfl) (fun hp => absurd (show true = false from hp) cQ)) (Ab rfl (Da (Da (Da (I (.E1 (b := false) (.t rfl) (fun hp => absurd (show true = false from hp) cQ)) (Ab rfl (Da (Da (Da (I (.E1 (b := false) (.t rfl) (fun hp => absurd (show true = false from hp) cQ)) (Ab rfl (Da (Da (Da (Da (I (.E1 (b := false) (.t rfl) (fun hp => absurd (show true = false from hp) cQ)) (Ab rfl (Da (Da (Da (Da (Da (I (.E1 (b := false) (.t rfl) (fun hp => absurd (show true = false from hp) cQ)) (Ai (CW.v rfl (Af (Ay (Ai (Ak (Ap (KW.q ?_)))))))))))))))))))))))))))))))))))))))))))))
  refine ⟨congrArg Go.Value.bool ?_, hU0.trans hS.Cr⟩
  exact HG hkn
end Go.Proofs.YtgjogglfnkgapaaGreatDoor
namespace Go.Wx
open Go.RowKit
def zH {α : Type} (bq : Nat) (Z : Nat → Prop) (I : List α → World → Prop) (ys : List α) (W : World) : Exit → Go.Act → World → Prop
 | .normal, _, W' => KeepsFrom bq W W' ∧ (∀ b, Z b → W'.heap[b]? = W.heap[b]?) ∧ I ys W'
 | _, _, _ => False
def xX {α : Type} (P : Program) (g : Nat) (lb : Array Value) (encs : α → Array Value) (Z : Nat → Prop) (S : List α → Prop) (N : Nat) (w : World) : Prop :=
 ∀ (lp : Nat) (J : List α → World → Prop) (W : World), Up w W → (∀ s A B, J s A → Fr Z A B → J s B) →
   (∀ pre x W1, J pre W1 → pre.length < N → YieldAt (FR none) 8 P lp (encs x) W1 fun e W' => ∃ v, e = .returned v ∧ v = .bool true ∧ J (pre ++ [x]) W' ∧ ∀ b, Z b → W'.heap[b]? = W1.heap[b]?) →
   J [] W → Ret P g (#[.func (.yield lp) #[] #[]] ++ lb) W fun _ W' => ∃ ys, S ys ∧ J ys W'
theorem Sz.T9 {B : Nat} {Z : Nat → Prop} {w w' : World} (h : Sz B w) (k : Fr Z w w') : Sz B w' := Nat.le_trans h k.size
theorem Blk.T9 {B : Nat} {cs : Array Value} {T : TypeId} {Z : Nat → Prop} {w w' : World} (h : Blk w B cs T) (k : Fr Z w w') (hn : ¬ Z B) : Blk w' B cs T := (k.block B h.lt hn).trans h
theorem OwnS.T9 {α : Type} {enc : α → Array Value} {base k : Nat} {e : TypeId} {Z : Nat → Prop} {w w' : World} {v : Value} {xs : List α} (h : OwnS w base e k enc v xs) (u : Fr Z w w') (hn : ∀ b, Z b → b < base) : OwnS w' base e k enc v xs := by
 obtain ⟨h1, h2⟩ := h
 refine ⟨h1, ?_⟩
 rcases h2 with h2 | ⟨g, cap, cur, rfl, hb, hg, rest⟩
 · exact .inl h2
 exact .inr ⟨g, cap, cur, rfl, hb, (u.block g (lt_of_block hg) (fun hz => by have := hn g hz; omega)).trans hg, rest⟩
theorem Up.T9 {Z : Nat → Prop} {w0 w w' : World} (h : Up w0 w) (k : Fr Z w w') (hn : ∀ b, Z b → w0.heap.size ≤ b) : Up w0 w' :=
 ⟨k.os.trans h.os, k.tape.trans h.tape, k.output.trans h.output, Nat.le_trans (Up.size h) k.size, fun i hi => (k.block i (Nat.lt_of_lt_of_le hi (Up.size h)) (fun hz => by have := hn i hz; omega)).trans (h.block hi)⟩
structure Zk (B : Nat) (w w' : World) : Prop where
 lt : B < w'.heap.size
 same : w'.heap[B]? = w.heap[B]?
theorem Zk.refl {B : Nat} {w : World} (h : B < w.heap.size) : Zk B w w := ⟨h, rfl⟩
theorem Zk.up {B : Nat} {w0 w w' : World} (h : Zk B w0 w) (u : Up w w') : Zk B w0 w' := ⟨Nat.lt_of_lt_of_le h.lt u.size, (u.block h.lt).trans h.same⟩
theorem Zk.sto {B B' : Nat} {w0 w w' : World} (h : Zk B w0 w) (u : Sto B' w w') (hne : B ≠ B') : Zk B w0 w' := ⟨Nat.lt_of_lt_of_le h.lt u.size, (u.block _ h.lt hne).trans h.same⟩
theorem Zk.gr {B base : Nat} {w0 w w' : World} (h : Zk B w0 w) (u : Grew base w w') (hb : B < base) : Zk B w0 w' := ⟨Nat.lt_of_lt_of_le h.lt u.size, (u.block _ h.lt hb).trans h.same⟩
section
variable {R : Option Nat} {m : Nat} {P : Program} {n : Nat} {ds : List Deferred} {Q : Exit → Go.Act → World → Prop} {l : Env} {w : World}
theorem bN {lp : Nat} {c : Code} {p q : Nat} {v u : Value} (hp : Nat.ble (p + 1) n = true) (hq : Nat.ble (q + 1) n = true) (h : CW (some lp) m P n [] c Q ((q, .eq u) :: (p, .eq v) :: l) w) :
   ∀ a, Ag n ds l a w → c.wpIn (FR (some lp)) m P Q { tmps := (#[p, q].zip #[v, u]).foldl (fun t (p, v) => t.setIfInBounds p v) a.tmps, defers := [] } w := fun a ha => by
 have e : (#[p, q].zip #[v, u]).foldl (fun t (p, v) => t.setIfInBounds p v) a.tmps = (a.tmps.setIfInBounds p v).setIfInBounds q u := by simp
 rw [e]
 have h1 : Ag n [] l { tmps := a.tmps, defers := [] } w := ⟨rfl, ha.size, ha.val⟩
 exact h _ ((h1.put hp (ph := .eq v) rfl).put hq (ph := .eq u) rfl)
theorem Um {α : Type} {g : Operand} {ps : Array Tmp} {assign body : Code} {gf : Nat} {lb : Array Value} {encs : α → Array Value} (Z : Nat → Prop) {S : List α → Prop} {N : Nat} (I : List α → World → Prop) (env : α → Env)
   (hx : Val l g (.func (.func gf) #[] lb)) (en : ∀ args w, (callFunc gf args).run P w = .ok (.enter gf args) w) (hit : ∀ W, Up w W → xX P gf lb encs Z S N W) (hps : ∀ x, (encs x).size = ps.size) (hl : Cf l = true) (hZ : ∀ b, Z b → b < w.heap.size)
   (hI : OwnFrom w.heap.size I) (hIZ : ∀ s A B, I s A → Fr Z A B → I s B) (h0 : I [] w)
   (hassign : ∀ (lp : Nat) (x : α) (W : World) (a : Go.Act), Ag n ds l a W → assign.wpIn (FR (some lp)) 8 P (Exit.then (fun a' W' => W' = W ∧ Ag n [] (env x) a' W) (fun _ _ _ => False)) { tmps := (ps.zip (encs x)).foldl (fun t (p, v) => t.setIfInBounds p v) a.tmps, defers := [] } W)
   (henv : ∀ x, Cf (env x) = true)
   (hbody : ∀ (lp : Nat) (pre : List α) (x : α) (W : World), I pre W → pre.length < N → CW (some lp) 8 P n [] body (zH w.heap.size Z I (pre ++ [x]) W) (env x) W)
   (hdone : ∀ (D : Nat) (ys : List α) (W : World), w.heap.size ≤ D → S ys → I ys W → W.heap[D]? = some (.deferred (some [])) → KW n ({ target := .collected D, args := #[] } :: ds) (Q .normal) l W) :
   CW none 10 P n ds (.rangeFunc g ps assign body) Q l w := fun a ha => by
 have hg := ha.ev hx
 refine wpIn_rangeFunc ?_
 intro fn hfn
 -- the loop's record, and the block of what the rounds defer
 let rec_ : LoopState → Option Code → Loop := fun st pe => { state := st, pending := pe, fn, tmps := a.tmps, params := ps, assign, body, defers := w.heap.size }
 let kd : Nat := w.heap.size
 let lp : Nat := w.heap.size + 1
 let W1 : World := (w.alloc (.deferred (some []))).alloc (.loop (rec_ .ready none))
 have hU : Up w W1 := (Up.alloc _ _).trans (Up.alloc _ _)
 have rec1 : W1.heap[lp]? = some (.loop (rec_ .ready none)) := by
   have := World.alloc_heap_new (w.alloc (.deferred (some []))) (.loop (rec_ .ready none))
   rw [World.size_alloc] at this
   exact this
 have dfr1 : W1.heap[kd]? = some (.deferred (some [])) := (Below.heap_alloc _ _ _ (by simp [kd])).trans (World.alloc_heap_new w _)
 have hne : kd ≠ lp := by show w.heap.size ≠ w.heap.size + 1; omega
 have hI1 : I [] W1 := hI.alloc _ (hI.alloc _ h0)
 refine ⟨lp, [{ target := .collected kd, args := #[] }], W1, { target := .fn (.func gf) lb, args := #[.func (.yield lp) #[] #[]] }, W1, gf, #[.func (.yield lp) #[] #[]] ++ lb, W1, run_enterLoop_outer _ _ _ _ _, ?_, fun f' hf' => ?_, ?_, fun _ => cQ, ?_⟩
 · simp only [resolve, hg]
   simp [go_sem]
 · simp [Target.leads] at hf'; subst hf'; trivial
 · simp [invoke, go_sem, en]
 have fine : ∀ {A B : World}, Fr Z A B → ∀ (k : Nat) (o : Obj), w.heap.size ≤ k → A.heap[k]? = some o → B.heap[k]? = some o := fun hf k o hk ho =>
   (hf.block k (lt_of_block ho) (fun hz => by have := hZ k hz; omega)).trans ho
 have all := hit W1 hU lp (fun pre W => I pre W ∧ W.heap[lp]? = some (.loop (rec_ .ready none)) ∧ W.heap[kd]? = some (.deferred (some []))) W1 (Up.refl _)
   (fun s A B hs hf => ⟨hIZ s A B hs.1 hf, fine hf lp _ (by show w.heap.size ≤ w.heap.size + 1; omega) hs.2.1, fine hf kd _ (Nat.le_refl _) hs.2.2⟩) ?_ ⟨hI1, rec1, dfr1⟩
 · refine (show CallsIn (FR none) 9 P gf _ W1 _ from callsIn_wide.2 all).mono ?_
   rintro e W2 ⟨v, rfl, xs, hS, hi, hlr, hk⟩
   refine ⟨none, W2.putObj lp (.loop (rec_ .exhausted none)), ?_, ?_⟩
   · exact run_endLoop (P := P) hlr (by simp [rec_])
   exact hdone kd xs _ (Nat.le_refl _) hS (hI.putObj _ hi (by show w.heap.size ≤ w.heap.size + 1; omega) hlr rfl) ((World.putObj_heap_other hne).trans hk) _ ⟨by rw [← ha.defers]; rfl, ha.size, (ha.world hl _).val⟩
 -- one round
 rintro pre x W ⟨hi, hlr, hk⟩ hlen
 have hlt := lt_of_block hlr
 have hy := run_yield (P := P) (args := encs x) hlr (by simp only [rec_]; exact hps x)
 refine ⟨fn, _, assign, body, hy, roundIn_of_wpIn hfn ?_⟩
 refine wpIn_mono (hassign lp x W a (ha.world hl W)) ?_
 intro e a1 W' hq
 cases e with
 | normal =>
   obtain ⟨rfl, ha1⟩ := hq
   refine ⟨_, run_beginRound hlr rfl, ?_⟩
   have hput : OwnFrom w.heap.size I → I pre (W'.putObj lp (.loop { rec_ .ready none with state := .busy })) := fun h => h.putObj _ hi (by show w.heap.size ≤ w.heap.size + 1; omega) hlr rfl
   have l2 : (W'.putObj lp (.loop { rec_ .ready none with state := .busy })).heap[lp]? = some (.loop { rec_ .ready none with state := .busy }) := World.putObj_heap_same hlt
   have k2 : (W'.putObj lp (.loop { rec_ .ready none with state := .busy })).heap[kd]? = some (.deferred (some [])) := (World.putObj_heap_other hne).trans hk
   refine wpIn_mono (hbody lp pre x _ (hput hI) hlen a1 (ha1.world (henv x) _)) ?_
   intro e2 a2 W3 hp
   cases e2 with
   | normal =>
     obtain ⟨hk3, hz3, hi3⟩ := hp
     have l3 := hk3.same _ _ (by show w.heap.size ≤ w.heap.size + 1; omega) l2 rfl
     have k3 := hk3.same _ _ (Nat.le_refl _) k2 rfl
     have hr := run_endRound (P := P) none l3
     have ne : ∀ b, Z b → b ≠ lp := fun b hb => by have := hZ b hb; show b ≠ w.heap.size + 1; omega
     refine ⟨_, _, hr, _, rfl, rfl, ⟨hI.putObj _ hi3 (by show w.heap.size ≤ w.heap.size + 1; omega) l3 rfl, World.putObj_heap_same (lt_of_block l3), (World.putObj_heap_other hne).trans k3⟩, fun b hb => ?_⟩
     exact (World.putObj_heap_other (ne b hb)).trans ((hz3 b hb).trans (World.putObj_heap_other (ne b hb)))
   | ret => exact hp.elim
   | exit id => exact hp.elim
   | goto t => exact hp.elim
   | panic ch => exact hp.elim
   | outgrown => exact hp.elim
 | ret => exact hq.elim
 | exit id => exact hq.elim
 | goto t => exact hq.elim
 | panic ch => exact hq.elim
 | outgrown => exact hq.elim
end
end Go.Wx
