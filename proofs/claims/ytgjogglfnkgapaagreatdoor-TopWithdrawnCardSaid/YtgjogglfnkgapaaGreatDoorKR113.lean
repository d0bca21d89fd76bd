import Derived.Test.YtgjogglfnkgapaaGreatDoorKR112
import Derived.ChangeKeysEq
namespace Go.Wx
open Go.RowKit in
theorem Gg {P : Program} {n : Nat} {l : Env} {w : World} {fn : Func} {RR : Ending → World → Prop} {t u : Tmp} {T : TypeId} {B k : Nat} {cs : Array Go.Value} {x : Go.Value} (hr : fn.results = #[.cell t T, .tmp u]) (hv : lk l t = some (.eq (.pointer (some ⟨B, 0, none⟩)))) (hu : lk l u = some (.eq x)) (hT : ∀ w, (isAgg T).run P w = .ok true w) (hs : ∀ w, (sizeOf T).run P w = .ok k w) (hk : cs.size = k)
   (hc : AggAt w B 0 cs) (hR : RR (.returned (.tuple #[.agg cs, x])) w) : KW n [] (bodyPost P fn RR .ret) l w := fun a ha =>
 ⟨ha.defers, .tuple #[.agg cs, x], by
   have h1 : a.tmps.getD t undef = .pointer (some ⟨B, 0, none⟩) := ha.val _ _ hv
   have h2 : a.tmps.getD u undef = x := ha.val _ _ hu
   rw [Array.getD_eq_getD_getElem?] at h1 h2
   simp [results, hr, h1, h2, asAddr, F6 hT hs hk hc], hR⟩
def Ee : Fact := Lj 0 0 0 false
def Ps (r t : Int) (s : Fact × Bool) (x : Fact) : Fact × Bool := if decide (x.Recipe = r) && decide (x.Time ≤ t) && (!s.2 || decide (s.1.Time < x.Time)) then (x, true) else s
def W9 (r t : Int) (l : List Fact) : Fact × Bool := l.foldl (Ps r t) (Ee, false)
theorem Y4 {r t : Int} {l : List Fact} {k : Nat} {x : Fact} (h : l[k]? = some x) : W9 r t (l.take (k + 1)) = Ps r t (W9 r t (l.take k)) x := by
 rw [Dw h, W9, List.foldl_append]; rfl
theorem AF {r t : Int} {s : Fact × Bool} {x : Fact} (h : (decide (x.Recipe = r) && decide (x.Time ≤ t) && (!s.2 || decide (s.1.Time < x.Time))) = true) : Ps r t s x = (x, true) := if_pos h
theorem xY {r t : Int} {s : Fact × Bool} {x : Fact} (h : (decide (x.Recipe = r) && decide (x.Time ≤ t) && (!s.2 || decide (s.1.Time < x.Time))) = false) : Ps r t s x = s := if_neg (by rw [h]; exact Bool.false_ne_true)
theorem kA {p : Fact → Bool} {l : List Fact} {k : Nat} {x : Fact} (h : l[k]? = some x) (hk : ∀ y ∈ l.take k, p y = false) (hx : p x = false) : ∀ y ∈ l.take (k + 1), p y = false := fun y hy => by
 rw [Dw h] at hy
 rcases List.mem_append.1 hy with hy | hy
 · exact hk y hy
 cases List.mem_singleton.1 hy; exact hx
theorem tU {p : Fact → Bool} {l : List Fact} {k : Nat} {x : Fact} (h : l[k]? = some x) (hk : ∀ y ∈ l.take k, p y = false) (hx : p x = true) : l.find? p = some x := by
 have hlt := (List.getElem?_eq_some_iff.1 h).1
 have e : l = l.take k ++ x :: l.drop (k + 1) := by
   have h1 : l.drop k = x :: l.drop (k + 1) := by
     rw [List.drop_eq_getElem_cons hlt, (List.getElem?_eq_some_iff.1 h).2]
   rw [← h1, List.take_append_drop]
 rw [e, List.find?_append, List.find?_eq_none.2 (fun y hy => by rw [hk y hy]; exact Bool.false_ne_true), List.find?_cons, hx]
 rfl
theorem tV {p : Fact → Bool} {l : List Fact} (h : ∀ y ∈ l, p y = false) : l.find? p = none := List.find?_eq_none.2 (fun y hy => by rw [h y hy]; exact Bool.false_ne_true)
def JN (p : Fact → Bool) (l : List Fact) (i : Int) : Prop := (∃ k x, i = ((k : Nat) : Int) ∧ l[k]? = some x ∧ p x = true ∧ ∀ y ∈ l.take k, p y = false) ∨ (i = -1 ∧ ∀ y ∈ l, p y = false)
def Eo (b : Base) (id : Int) : Option Fact := b.Processes.find? fun f => decide (f.ID = id)
def oL (b : Base) (id : Int) : Option Fact := b.Measures.find? fun f => decide (f.ID = id)
def runK (f : Fact) : K2 := (f.Time, f.ID)
def Lm (t c : Int) (f : Fact) : Bool := decide (f.Tool = t) && decide (f.Chamber = c)
def S9 (b : Base) (t c : Int) : List Fact := Jb runK (b.Processes.filter (Lm t c))
theorem oM {p : Fact → Bool} {l : List Fact} {k : Nat} {x : Fact} (h : l[k]? = some x) (hx : p x = true) : (l.take (k + 1)).filter p = (l.take k).filter p ++ [x] := by
 rw [Dw h, List.filter_append, List.filter_cons, if_pos hx]; rfl
theorem xZ {p : Fact → Bool} {l : List Fact} {k : Nat} {x : Fact} (h : l[k]? = some x) (hx : p x = false) : (l.take (k + 1)).filter p = (l.take k).filter p := by
 rw [Dw h, List.filter_append, List.filter_cons, if_neg (by rw [hx]; exact Bool.false_ne_true)]; simp
theorem Ov (p : Fact → Bool) (l : List Fact) (k : Nat) : ((l.take k).filter p).length ≤ k := Nat.le_trans (List.length_filter_le _ _) (by rw [List.length_take]; omega)
def A5 (c n : Int) : Int := (if c < 0 then IntKind.i64.wrap (-(IntKind.i64.wrap (c + 1))) else c).tmod n
def Ef (b : Base) (j : Nat) : List Fact := [b.Processes, b.Measures, b.Swaps, b.Lots, b.Flows, b.Qualified, b.Holds, b.Releases, b.Resets, b.Targets, b.Gaps].getD j []
theorem K3 {j : Nat} (h : j < 11) : j = 0 ∨ j = 1 ∨ j = 2 ∨ j = 3 ∨ j = 4 ∨ j = 5 ∨ j = 6 ∨ j = 7 ∨ j = 8 ∨ j = 9 ∨ j = 10 := by omega
theorem BaseC.at_ {w : World} {bc : Array Go.Value} {b : Base} (h : BaseC w bc b) {j : Nat} (hj : j < 11) : ∃ v, bc[j]? = some v ∧ Sl w v 19 Fact.cells (Ef b j) := by
 obtain ⟨v0, v1, v2, v3, v4, v5, v6, v7, v8, v9, v10, e, h0, h1, h2, h3, h4, h5, h6, h7, h8, h9, h10⟩ := h
 subst e
 rcases K3 hj with rfl | rfl | rfl | rfl | rfl | rfl | rfl | rfl | rfl | rfl | rfl
 · exact ⟨v0, rfl, h0⟩
 · exact ⟨v1, rfl, h1⟩
 · exact ⟨v2, rfl, h2⟩
 · exact ⟨v3, rfl, h3⟩
 · exact ⟨v4, rfl, h4⟩
 · exact ⟨v5, rfl, h5⟩
 · exact ⟨v6, rfl, h6⟩
 · exact ⟨v7, rfl, h7⟩
 · exact ⟨v8, rfl, h8⟩
 · exact ⟨v9, rfl, h9⟩
 exact ⟨v10, rfl, h10⟩
theorem cC (l : List Fact) (d : Int) : (Fs (Az l d)).length ≤ l.length := by unfold Fs; rw [List.length_map]; exact (K1 d l).2
theorem Re (l : List Fact) (d : Int) {j : Nat} (hj : j < 11) : Ef (D5 l d) j = Ed [((j + 1 : Nat) : Int)] (Fs (Az l d)) j := by
 rcases K3 hj with rfl | rfl | rfl | rfl | rfl | rfl | rfl | rfl | rfl | rfl | rfl <;> rfl
theorem Pt (b : Base) {j : Nat} (hj : ¬ j < 11) : Ef b j = [] := by
 unfold Ef
 rw [List.getD_eq_getElem?_getD, List.getElem?_eq_none (by simp; omega)]; rfl
theorem Rt.ok.neg {a : Rt} (h : a.ok) : (Rt.mk (-a.n) a.d).ok := by
 refine ⟨h.pos, h.den, by show (-a.n).natAbs ≤ _; rw [Int.natAbs_neg]; exact h.num, ?_⟩
 show Dr (-a.n) a.d = 1
 unfold Dr
 rw [Int.natAbs_neg]; exact h.co
theorem JO {a : Rt} (h : a.ok) : IntKind.i64.wrap (-a.n) = -a.n := by have h1 := h.num; exact Ce oQ oQ
theorem kB {n d : Int} (hd : 0 < d) : -((d - 1 - n) / d) = n / d := by
 have h1 := Int.mul_ediv_add_emod n d
 have h2 := Int.emod_nonneg n (show d ≠ 0 by omega)
 have h3 := Int.emod_lt_of_pos n hd
 generalize n / d = q at *
 generalize n % d = r at *
 have e : d - 1 - n = (d - 1 - r) + d * (-q) := by rw [← h1, Int.mul_neg]; omega
 rw [e, Int.add_mul_ediv_left _ _ (show d ≠ 0 by omega), Int.ediv_eq_zero_of_lt oQ (by omega)]
 omega
theorem Y5 {m d : Int} (hd : 0 < d) (hm : 0 ≤ m) : 0 ≤ m / d ∧ m / d ≤ m := ⟨Int.ediv_nonneg hm oQ, Int.ediv_le_self d hm⟩
def HO (n d : Int) : Prop := -4000000000000000000 ≤ n ∧ n ≤ 4000000000000000000 ∧ 0 < d ∧ d ≤ 4000000000000000000
theorem AG {n d : Int} (h : HO n d) (hn : n < 0) : IntKind.i64.wrap (-(IntKind.i64.wrap ((IntKind.i64.wrap (IntKind.i64.wrap (d - 1) - n)).tdiv d))) = n / d := by
 obtain ⟨h1, h2, h3, h4⟩ := h
 rw [Ce (i := d - 1) oQ oQ, Ce (i := d - 1 - n) oQ oQ, Int.tdiv_eq_ediv_of_nonneg (by omega)]
 have hb := Y5 h3 (show 0 ≤ d - 1 - n by omega)
 rw [Ce (i := (d - 1 - n) / d) oQ oQ, Ce oQ oQ, kB h3]
theorem AH {n d : Int} (h : HO n d) (hn : 0 ≤ n) : IntKind.i64.wrap (n.tdiv d) = n / d := by
 obtain ⟨h1, h2, h3, h4⟩ := h
 rw [Int.tdiv_eq_ediv_of_nonneg hn]
 have hb := Y5 h3 hn
 exact Ce oQ oQ
def Y6 (a : Rt) (d : Int) : Int := (2 * a.n * d + a.d) / (2 * a.d)
def oN (a : Rt) (d : Int) : Int := 2 * a.n * d + a.d
theorem HP {x k : Int} (hx : x.natAbs ≤ 1000000000) (hk : 0 ≤ k ∧ k ≤ 1000000) : -2000000000000000 ≤ 2 * x * k ∧ 2 * x * k ≤ 2000000000000000 := by
 have h : (2 * x * k).natAbs ≤ 2 * 1000000000 * 1000000 := by
   rw [Int.natAbs_mul, Int.natAbs_mul]
   exact Nat.mul_le_mul (Nat.mul_le_mul (Nat.le_refl _) hx) oQ
 omega
theorem AI {a : Rt} (ha : a.ok) {d : Int} (hd : 1 ≤ d ∧ d ≤ 1000000) : IntKind.i64.wrap (IntKind.i64.wrap (IntKind.i64.wrap (2 * a.n) * d) + a.d) = oN a d ∧ IntKind.i64.wrap (2 * a.d) = 2 * a.d ∧ HO (oN a d) (2 * a.d) := by
 have h0 := ha.num
 have h1 := ha.pos
 have h2 := ha.den
 have h3 := HP h0 (k := d) oQ
 refine ⟨?_, Ce oQ oQ, ?_⟩
 · rw [Ce (i := 2 * a.n) oQ oQ, Ce (i := 2 * a.n * d) oQ oQ, Ce oQ (by omega)]; rfl
 unfold HO oN; omega
theorem AJ {a : Rt} (ha : a.ok) {d : Int} (hd : 1 ≤ d ∧ d ≤ 1000000) : J1 (Y6 a d) := by
 have h0 := ha.num
 have h1 := ha.pos
 have h2 := ha.den
 have h3 := HP h0 (k := d) oQ
 show J1 ((2 * a.n * d + a.d) / (2 * a.d))
 generalize 2 * a.n * d = m at *
 have hl : -(3000000000000000 : Int) ≤ (m + a.d) / (2 * a.d) := by
   refine Int.le_ediv_of_mul_le oQ ?_
   have : -(3000000000000000 : Int) * (2 * a.d) ≤ -(3000000000000000 : Int) * 2 := by
     refine Int.mul_le_mul_of_nonpos_left oQ oQ
   omega
 have hu : (m + a.d) / (2 * a.d) < 4000000000000000 := by
   refine Int.ediv_lt_of_lt_mul oQ ?_
   have : (4000000000000000 : Int) * 2 ≤ 4000000000000000 * (2 * a.d) := Int.mul_le_mul_of_nonneg_left oQ oQ
   omega
 exact ⟨by omega, by omega⟩
def Tb (a lo hi : Rt) : Rt := if Mm (a.n * lo.d) (lo.n * a.d) < 0 then lo else if 0 < Mm (a.n * hi.d) (hi.n * a.d) then hi else a
theorem HQ {a b : Rt} (ha : a.ok) (hb : b.ok) : IntKind.i64.wrap (a.n * b.d) = a.n * b.d := by
 have h := jA ha.num hb.d'
 exact Ce oQ oQ
theorem Nj {c n : Int} (hc : J1 c) (hn : 0 < n) : 0 ≤ A5 c n ∧ A5 c n < n := by
 unfold A5
 obtain ⟨h1, h2⟩ := hc
 split
 · rw [Ce (i := c + 1) oQ oQ, Ce oQ oQ, Int.tmod_eq_emod_of_nonneg (by omega)]; exact ⟨Int.emod_nonneg _ oQ, Int.emod_lt_of_pos _ hn⟩
 rw [Int.tmod_eq_emod_of_nonneg (by omega)]; exact ⟨Int.emod_nonneg _ oQ, Int.emod_lt_of_pos _ hn⟩
theorem OwnS.els {α : Type} {enc : α → Array Go.Value} {b k n cp : Nat} {e : TypeId} {w : World} {ad : Option Addr} {xs : List α} (h : OwnS w b e k enc (.slice ad n cp) xs) (hk : ∀ x, (enc x).size = k) : Els w ad k enc xs := by
 obtain ⟨ad', cp', e, hE⟩ := h.sl hk
 injection e with e1
 rw [e1]; exact hE
theorem Ow (f : Fact) : Cz f f = true := by simp [Cz]
theorem Vt {f : Fact} (h : Bk f = true) : f.Day ≤ 100000 := by
 have := L2 h
 simp only [preB, Bool.or_eq_false_iff, decide_eq_false_iff_not] at this
 omega
theorem AK (l : List Fact) (d : Int) : Az (l.filter fun f => decide (f.Day ≤ d)) 100000 = Az l d := by
 have key : ∀ (l : List Fact) (a : Dg), (l.filter fun f => decide (f.Day ≤ d)).foldl (Ck 100000) a = l.foldl (Ck d) a := by
   intro l
   induction l with
   | nil => exact fun _ => rfl
   | cons x l ih =>
     intro a
     by_cases hx : x.Day ≤ d
     · rw [List.filter_cons, if_pos (decide_eq_true hx), List.foldl_cons, List.foldl_cons, ih]
       congr 1
       by_cases hk : A7 x = []
       · rw [Hh (.inl hk), Hh (.inl hk)]
       have hv := Vt (Gp hk)
       unfold Ck
       rw [if_neg (fun h => h.elim hk oQ), if_neg (fun h => h.elim hk oQ)]
     rw [List.filter_cons, if_neg (by rw [decide_eq_false hx]; exact Bool.false_ne_true), ih, List.foldl_cons, Hh (.inr oQ)]
 exact key l []
theorem Tc {f g : Fact} (hf : Bk f = true) (hg : Bk g = true) (h : A7 f = A7 g) : f.Kind = g.Kind := by
 have kf := Es hf
 have kg := Es hg
 unfold A7 Oj at h
 rw [if_pos hf, if_pos hg] at h
 exact (R7 (r := Ct (Er (Ep f.Kind) f)) (s := Ct (Er (Ep g.Kind) g)) (a := f.Kind) (b := g.Kind) ⟨by omega, by omega⟩ ⟨by omega, by omega⟩ h).1
theorem Xa : ∀ (a b : List UInt8), Go.Lib.compareBytes b a = - Go.Lib.compareBytes a b
 | [], [] => rfl
 | [], _ :: _ => rfl
 | _ :: _, [] => rfl
 | x :: a, y :: b => by
   unfold Go.Lib.compareBytes
   by_cases h1 : x < y
   · have h2 : ¬ y < x := by rw [UInt8.lt_iff_toNat_lt] at *; omega
     rw [if_pos h1, if_neg h2, if_pos h1]; rfl
   by_cases h2 : y < x
   · rw [if_pos h2, if_neg h1, if_pos h2]
   rw [if_neg h2, if_neg h1, if_neg h1, if_neg h2]; exact Xa a b
theorem gE : ∀ {a b : List UInt8}, Go.Lib.compareBytes a b = 0 → a = b
 | [], [], _ => rfl
 | [], _ :: _, h => by simp [Go.Lib.compareBytes] at h
 | _ :: _, [], h => by simp [Go.Lib.compareBytes] at h
 | x :: a, y :: b, h => by
   unfold Go.Lib.compareBytes at h
   by_cases h1 : x < y
   · rw [if_pos h1] at h; cases h
   by_cases h2 : y < x
   · rw [if_neg h1, if_pos h2] at h; cases h
   rw [if_neg h1, if_neg h2] at h
   rw [gE h, show x = y from UInt8.toNat_inj.1 (by rw [UInt8.lt_iff_toNat_lt] at h1 h2; omega)]
theorem tW (a : List UInt8) : Go.Lib.compareBytes a a = 0 := by have := Xa a a; omega
theorem Y7 : ∀ {a b c : List UInt8}, 0 < Go.Lib.compareBytes a b → 0 < Go.Lib.compareBytes b c → 0 < Go.Lib.compareBytes a c
 | [], [], _, h, _ => by simp [Go.Lib.compareBytes] at h
 | [], _ :: _, _, h, _ => by simp [Go.Lib.compareBytes] at h
 | _ :: _, [], [], _, h => by simp [Go.Lib.compareBytes] at h
 | _ :: _, [], _ :: _, _, h => by simp [Go.Lib.compareBytes] at h
 | _ :: _, _ :: _, [], _, _ => by simp [Go.Lib.compareBytes]
 | x :: a, y :: b, z :: c, h, k => by
   unfold Go.Lib.compareBytes at h k ⊢
   by_cases h1 : x < y
   · rw [if_pos h1] at h; omega
   by_cases k1 : y < z
   · rw [if_pos k1] at k; omega
   rw [if_neg h1] at h
   rw [if_neg k1] at k
   have e1 : ¬ x < z := by rw [UInt8.lt_iff_toNat_lt] at *; omega
   rw [if_neg e1]
   by_cases h2 : y < x
   · rw [if_pos (show z < x by rw [UInt8.lt_iff_toNat_lt] at *; omega)]; decide
   by_cases k2 : z < y
   · rw [if_pos (show z < x by rw [UInt8.lt_iff_toNat_lt] at *; omega)]; decide
   rw [if_neg h2] at h
   rw [if_neg k2] at k
   rw [if_neg (show ¬ z < x by rw [UInt8.lt_iff_toNat_lt] at *; omega)]
   exact Y7 h k
theorem E5 {a b : Fact} : Dp a b = true ↔ Bk a = true ∧ Bk b = true ∧ A7 a = A7 b ∧ (b.Version < a.Version ∨ (a.Version = b.Version ∧ 0 < Go.Lib.compareBytes (Ik a) (Ik b))) := by
 unfold Dp
 simp only [Bool.and_eq_true, Bool.or_eq_true, decide_eq_true_eq, beq_iff_eq, and_assoc]
theorem Ln (a : Fact) : Dp a a = false := by
 rw [Bool.eq_false_iff]
 intro h
 have := (E5.1 h).2.2.2
 rw [tW] at this
 omega
theorem cD {a b c : Fact} (h : Dp a b = true) (k : Dp b c = true) : Dp a c = true := by
 obtain ⟨h1, h2, h3, h4⟩ := E5.1 h
 obtain ⟨k1, k2, k3, k4⟩ := E5.1 k
 refine E5.2 ⟨h1, k2, h3.trans k3, ?_⟩
 rcases h4 with h4 | ⟨h4, h5⟩ <;> rcases k4 with k4 | ⟨k4, k5⟩
 · exact .inl oQ
 · exact .inl oQ
 · exact .inl oQ
 exact .inr ⟨by omega, Y7 h5 k5⟩
theorem Xb {f : Fact} {o o' : Nat} {n : Int} (h : Fc o = true) (h' : Fc o' = true) : Gn (jI f o n) o' = if o = o' then n else Gn f o' := by
 rcases Ej h with rfl | rfl | rfl | rfl | rfl | rfl | rfl | rfl | rfl | rfl | rfl | rfl | rfl | rfl <;> rcases Ej h' with rfl | rfl | rfl | rfl | rfl | rfl | rfl | rfl | rfl | rfl | rfl | rfl | rfl | rfl <;> rfl
theorem oO {f : Fact} {o : Nat} {n : Int} (h : Fc o = true) : (jI f o n).Text = f.Text := by
 rcases Ej h with rfl | rfl | rfl | rfl | rfl | rfl | rfl | rfl | rfl | rfl | rfl | rfl | rfl | rfl <;> rfl
theorem Y8 : ∀ {fs : List Fld} {f g : Fact}, (∀ x ∈ fs, Fc x.off = true ∧ M6 x.lo ∧ M6 x.hi) → Ij fs f = some g → (∀ o, Fc o = true → Gn g o ≠ 0 → Gn f o = Gn g o) ∧ (∀ o, Fc o = true → (∀ x ∈ fs, x.off ≠ o) → Gn f o = Gn g o) ∧ g.Text = f.Text ∧ ∀ x ∈ fs, M6 (Gn f x.off)
 | [], f, g, _, h => by cases h; exact ⟨fun _ _ _ => rfl, fun _ _ _ => rfl, rfl, fun x hx => by cases hx⟩
 | x :: fs, f, g, hf, h => by
   unfold Ij at h
   split at h
   · cases h
   rename_i hx
   have ok := hf x List.mem_cons_self
   obtain ⟨h1, h2, h3, h4⟩ := Y8 (fun y hy => hf y (List.mem_cons_of_mem _ hy)) h
   refine ⟨fun o ho hne => ?_, fun o ho hn => ?_, h3.trans (oO ok.1), fun y hy => ?_⟩
   · have := h1 o ho hne
     rw [Xb ok.1 ho] at this
     by_cases e : x.off = o
     · rw [if_pos e] at this; exact absurd this.symm hne
     rwa [if_neg e] at this
   · have := h2 o ho (fun y hy => hn y (List.mem_cons_of_mem _ hy))
     rwa [Xb ok.1 ho, if_neg (hn x List.mem_cons_self)] at this
   have hb : M6 (Gn f x.off) := by
     have := ok.2.1.1
     have := ok.2.2.2
     exact ⟨by omega, by omega⟩
   rcases List.mem_cons.1 hy with rfl | hy
   · exact hb
   have := h4 y hy
   rw [Xb ok.1 (hf y (List.mem_cons_of_mem _ hy)).1] at this
   by_cases e : x.off = y.off
   · rw [← e]; exact hb
   rwa [if_neg e] at this
theorem cE (k : Int) : ∀ x ∈ fieldsOf k, Fc x.off = true ∧ M6 x.lo ∧ M6 x.hi := by
 intro x hx
 have h : ∀ l ∈ Lh, ∀ y ∈ l, (Fc y.off && decide (-4611686018427387903 ≤ y.lo) && decide (y.lo ≤ 4611686018427387903) && decide (-4611686018427387903 ≤ y.hi) && decide (y.hi ≤ 4611686018427387903)) = true := by decide
 unfold fieldsOf at hx
 rw [List.getD_eq_getElem?_getD] at hx
 cases hl : Lh[k.toNat]? with
 | none => rw [hl] at hx; simp at hx
 | some l =>
   rw [hl] at hx
   have := h l (List.mem_of_getElem? hl) x (by simpa using hx)
   simp only [Bool.and_eq_true, decide_eq_true_eq] at this
   exact ⟨this.1.1.1.1, ⟨this.1.1.1.2, this.1.1.2⟩, ⟨this.1.2, this.2⟩⟩
theorem gF {f g : Fact} (h : Cz f g = true) : (∀ o, Fc o = true → Gn f o = Gn g o) ∧ f.Text.toList = g.Text.toList := by
 simp only [Cz, Bool.and_eq_true, beq_iff_eq] at h
 obtain ⟨_, h1, _, _, _, h5, h6, h7, h8, h9, h10, h11, h12, h13, h14, h15, h16, h17, h18⟩ := h
 refine ⟨fun o ho => ?_, h18⟩
 rcases Ej ho with rfl | rfl | rfl | rfl | rfl | rfl | rfl | rfl | rfl | rfl | rfl | rfl | rfl | rfl
 · exact h1
 · exact h5
 · exact h6
 · exact h7
 · exact h8
 · exact h9
 · exact h10
 · exact h11
 · exact h12
 · exact h13
 · exact h14
 · exact h15
 · exact h16
 exact h17
theorem kC (k v d : Int) (g : Bool) {o : Nat} (h : Fc o = true) : Gn (Lj k v d g) o = 0 := by
 rcases Ej h with rfl | rfl | rfl | rfl | rfl | rfl | rfl | rfl | rfl | rfl | rfl | rfl | rfl | rfl <;> rfl
theorem oP (g : Fact) (t : ByteArray) {o : Nat} (h : Fc o = true) : Gn { g with Text := t } o = Gn g o := by
 rcases Ej h with rfl | rfl | rfl | rfl | rfl | rfl | rfl | rfl | rfl | rfl | rfl | rfl | rfl | rfl <;> rfl
theorem H3 {f : Fact} (h : Bk f = true) : (∀ o, Fc o = true → (∀ x ∈ fieldsOf f.Kind, x.off ≠ o) → Gn f o = 0) ∧ (∀ x ∈ fieldsOf f.Kind, M6 (Gn f x.off)) ∧ (Gm f.Kind = false → f.Text.toList = []) := by
 unfold Bk at h
 rw [Bool.and_eq_true, Bool.and_eq_true] at h
 have h3 := h.2.2
 cases hr : Ij (fieldsOf f.Kind) f with
 | none => rw [hr] at h3; cases h3
 | some g =>
   rw [hr] at h3
   obtain ⟨r1, r2, r3, r4⟩ := Y8 (cE f.Kind) hr
   obtain ⟨e1, e2⟩ := gF h3
   have z : ∀ o, Fc o = true → Gn g o = 0 := fun o ho => by
     have := e1 o ho
     rw [kC _ _ _ _ ho] at this
     split at this
     · rwa [oP _ _ ho] at this
     exact this
   refine ⟨fun o ho hn => (r2 o ho hn).trans (z o ho), r4, fun ht => ?_⟩
   rw [ht] at e2
   rw [← r3]
   rw [if_neg Bool.false_ne_true] at e2
   rw [e2, ByteArray.toList_eq]; rfl
theorem Y9 {a b : ByteArray} (h : a.toList = b.toList) : a = b := by
 rw [ByteArray.toList_eq, ByteArray.toList_eq] at h
 cases a; cases b
 exact congrArg ByteArray.mk (Array.toList_inj.1 h)
theorem Za {a b : Fact} (hk : a.Kind = b.Kind) (hv : a.Version = b.Version) (hd : a.Day = b.Day) (hg : a.Gone = b.Gone) (ht : a.Text = b.Text) (h : ∀ o, Fc o = true → Gn a o = Gn b o) : a = b := by
 have h1 := h 1 rfl
 have h5 := h 5 rfl
 have h6 := h 6 rfl
 have h7 := h 7 rfl
 have h8 := h 8 rfl
 have h9 := h 9 rfl
 have h10 := h 10 rfl
 have h11 := h 11 rfl
 have h12 := h 12 rfl
 have h13 := h 13 rfl
 have h14 := h 14 rfl
 have h15 := h 15 rfl
 have h16 := h 16 rfl
 have h17 := h 17 rfl
 cases a; cases b
 rw [Fact.mk.injEq]
 exact ⟨hk, h1, hv, hd, hg, h5, h6, h7, h8, h9, h10, h11, h12, h13, h14, h15, h16, h17, ht⟩
theorem oR {a b : Fact} (ha : Bk a = true) (hb : Bk b = true) (hk : a.Kind = b.Kind) (h : Ik a = Ik b) : a = b := by
 obtain ⟨a1, a2, a3⟩ := H3 ha
 obtain ⟨b1, b2, b3⟩ := H3 hb
 have pa := L2 ha
 have pb := L2 hb
 have ka := Es ha
 have kb := Es hb
 simp only [preB, Bool.or_eq_false_iff, decide_eq_false_iff_not] at pa pb
 have win : ∀ (f : Fact), (1 ≤ f.Kind ∧ f.Kind ≤ 11) → (¬ f.Version < 1 ∧ ¬ 1000000 < f.Version ∧ ¬ f.Day < 0 ∧ ¬ 100000 < f.Day) → (∀ x ∈ fieldsOf f.Kind, M6 (Gn f x.off)) → ∀ x ∈ Pp f, M6 x := fun f k p q x hx => by
   unfold Pp at hx
   rcases List.mem_append.1 hx with hx | hx
   · simp only [List.mem_cons, List.not_mem_nil, or_false] at hx
     rcases hx with rfl | rfl | rfl | rfl
     · exact ⟨by omega, by omega⟩
     · exact ⟨by omega, by omega⟩
     · exact ⟨by omega, by omega⟩
     unfold J6; split <;> exact ⟨by omega, by omega⟩
   obtain ⟨y, hy, rfl⟩ := List.mem_map.1 hx
   exact q y hy
 unfold Ik at h
 obtain ⟨e1, e2⟩ := Pg (win a ka ⟨pa.1.1.1.1, pa.1.1.1.2, pa.1.1.2, pa.1.2⟩ a2) (win b kb ⟨pb.1.1.1.1, pb.1.1.1.2, pb.1.1.2, pb.1.2⟩ b2) (by unfold Pp; simp [Er, hk]) h
 unfold Pp at e1
 simp only [List.cons_append, List.nil_append, List.cons.injEq] at e1
 obtain ⟨_, e3, e4, e5, e6⟩ := e1
 refine Za hk e3 e4 ?_ ?_ fun o ho => ?_
 · revert e5
   unfold J6
   cases a.Gone <;> cases b.Gone <;> simp
 · by_cases ht : Gm a.Kind = true
   · rw [if_pos ht, if_pos (by rw [← hk]; exact ht)] at e2
     unfold bB at e2
     have := (R7 (fD (by simp; omega)) (fD (by simp; omega)) e2).2
     cases ea : a.Text; cases eb : b.Text
     rw [ea, eb] at this
     exact congrArg ByteArray.mk (Array.toList_inj.1 this)
   have ht := Bool.eq_false_iff.2 ht
   exact Y9 ((a3 ht).trans (b3 (hk ▸ ht)).symm)
 by_cases hx : ∃ x ∈ fieldsOf a.Kind, x.off = o
 · obtain ⟨x, hx, rfl⟩ := hx
   unfold Er at e6
   rw [← hk] at e6
   exact List.map_inj_left.1 e6 x hx
 have hn : ∀ x ∈ fieldsOf a.Kind, x.off ≠ o := fun x h1 h2 => hx ⟨x, h1, h2⟩
 rw [a1 o ho hn, b1 o ho (hk ▸ hn)]
theorem Nk {a b : Fact} (ha : Bk a = true) (hb : Bk b = true) (hk : A7 a = A7 b) (h1 : Dp a b = false) (h2 : Dp b a = false) : a = b := by
 rw [Bool.eq_false_iff] at h1 h2
 have c1 : ¬ (b.Version < a.Version ∨ (a.Version = b.Version ∧ 0 < Go.Lib.compareBytes (Ik a) (Ik b))) := fun c => h1 (E5.2 ⟨ha, hb, hk, c⟩)
 have c2 : ¬ (a.Version < b.Version ∨ (b.Version = a.Version ∧ 0 < Go.Lib.compareBytes (Ik b) (Ik a))) := fun c => h2 (E5.2 ⟨hb, ha, hk.symm, c⟩)
 rw [Xa (Ik a) (Ik b)] at c2
 exact oR ha hb (Tc ha hb hk) (gE oQ)
def Mw (l : List Fact) (d : Int) (f : Fact) : Prop := f ∈ l ∧ A7 f ≠ [] ∧ f.Day ≤ d ∧ ∀ g ∈ l, g.Day ≤ d → Dp g f = false
structure EInv (l : List Fact) (d : Int) (m : Dg) : Prop where
 ok : MOk m
 top : ∀ p ∈ m, Mw l d p.2
 all : ∀ f ∈ l, A7 f ≠ [] → f.Day ≤ d → A7 f ∈ m.map (·.1)
theorem L7 {a b : Fact} (h : Dp a b = true) : A7 a = A7 b := (E5.1 h).2.2.1
theorem oS {m : Dg} {c : List UInt8} {x : Fact} {p : List UInt8 × Fact} (h : p ∈ Hg m c x) : p = (c, x) ∨ (p ∈ m ∧ p.1 ≠ c) := by
 unfold Hg at h
 split at h
 · obtain ⟨q, hq, e⟩ := List.mem_map.1 h
   split at e
   · exact .inl e.symm
   rename_i hc; subst e; exact .inr ⟨hq, hc⟩
 rename_i hn
 rcases List.mem_append.1 h with h | h
 · exact .inr ⟨h, fun e => hn (List.mem_map.2 ⟨p, h, e⟩)⟩
 exact .inl (List.mem_singleton.1 h)
theorem oT {m : Dg} {c : List UInt8} {x : Fact} {k : List UInt8} (h : k ∈ m.map (·.1) ∨ k = c) : k ∈ (Hg m c x).map (·.1) := by
 rw [Vq]
 split
 · rename_i hc; rcases h with h | rfl
   · exact h
   exact hc
 rcases h with h | rfl
 · exact List.mem_append_left _ h
 simp
theorem Td {l : List Fact} {d : Int} {x f : Fact} (h : Mw l d f) (hx : x.Day ≤ d → Dp x f = false) : Mw (l ++ [x]) d f := by
 refine ⟨List.mem_append_left _ h.1, h.2.1, h.2.2.1, fun g hg hd => ?_⟩
 rcases List.mem_append.1 hg with hg | hg
 · exact h.2.2.2 g hg hd
 cases List.mem_singleton.1 hg; exact hx hd
theorem EInv.step {l : List Fact} {d : Int} {m : Dg} (h : EInv l d m) (x : Fact) : EInv (l ++ [x]) d (Ck d m x) := by
 by_cases hc : A7 x = [] ∨ d < x.Day
 · rw [Hh hc]
   refine ⟨h.ok, fun p hp => Td (h.top p hp) fun hd => ?_, fun f hf hk hd => ?_⟩
   · rw [Bool.eq_false_iff]
     intro e
     rcases hc with hc | hc
     · exact (h.top p hp).2.1 ((L7 e).symm.trans hc)
     omega
   rcases List.mem_append.1 hf with hf | hf
   · exact h.all f hf hk hd
   cases List.mem_singleton.1 hf
   rcases hc with hc | hc
   · exact absurd hc hk
   omega
 have hk : A7 x ≠ [] := fun e => hc (.inl e)
 have hd : x.Day ≤ d := by
   by_cases hd : x.Day ≤ d
   · exact hd
   exact absurd (.inr oQ) hc
 have others : ∀ p ∈ m, p.1 ≠ A7 x → Mw (l ++ [x]) d p.2 := fun p hp hne => Td (h.top p hp) fun _ => by
   rw [Bool.eq_false_iff]
   intro e
   exact hne ((h.ok p hp).1.trans (L7 e).symm)
 have put : (∀ g ∈ l, g.Day ≤ d → Dp g x = false) → EInv (l ++ [x]) d (Hg m (A7 x) x) := fun hx => by
   refine ⟨h.ok.set (Gp hk), fun p hp => ?_, fun f hf hkf hdf => ?_⟩
   · rcases oS hp with rfl | ⟨h1, h2⟩
     · refine ⟨by simp, hk, hd, fun g hg hdg => ?_⟩
       rcases List.mem_append.1 hg with hg | hg
       · exact hx g hg hdg
       cases List.mem_singleton.1 hg; exact Ln x
     exact others p h1 h2
   refine oT ?_
   rcases List.mem_append.1 hf with hf | hf
   · exact .inl (h.all f hf hkf hdf)
   cases List.mem_singleton.1 hf; exact .inr rfl
 cases hg : Eb m (A7 x) with
 | none =>
   rw [Sv hc hg]
   refine put fun g hgl hgd => ?_
   rw [Bool.eq_false_iff]
   intro e
   have e1 := L7 e
   have := h.all g hgl (by rw [e1]; exact hk) hgd
   rw [e1] at this
   have hno := Kb hg
   rw [Iy] at hno
   exact hno this
 | some old =>
   have hmem : ∃ p ∈ m, p.1 = A7 x ∧ p.2 = old := by
     unfold Eb at hg
     rw [Option.map_eq_some_iff] at hg
     obtain ⟨p, hp, e⟩ := hg
     have h2 : (p.1 == A7 x) = true := List.find?_some (p := fun p : List UInt8 × Fact => p.1 == A7 x) hp
     exact ⟨p, List.mem_of_find?_eq_some hp, eq_of_beq h2, e⟩
   obtain ⟨p, hp, hpk, rfl⟩ := hmem
   cases hq : Dp x p.2 with
   | true =>
     rw [Sw hc hg hq]
     refine put fun g hgl hgd => ?_
     rw [Bool.eq_false_iff]
     intro e
     have := (h.top p hp).2.2.2 g hgl hgd
     rw [cD e hq] at this
     cases this
   | false =>
     rw [Sx hc hg hq]
     refine ⟨h.ok, fun q hq' => ?_, fun f hf hkf hdf => ?_⟩
     · refine Td (h.top q hq') fun _ => ?_
       rw [Bool.eq_false_iff]
       intro e
       have e1 := L7 e
       have e2 := (h.ok q hq').1
       have e3 : q.1 = p.1 := by rw [e2, ← e1, hpk]
       have n := Hi
       by_cases hqp : q.2 = p.2
       · rw [hqp, hq] at e; cases e
       exact absurd (Nk (h.ok q hq').2 (h.ok p hp).2 (by rw [← e2, ← (h.ok p hp).1, e3]) ((h.top p hp).2.2.2 _ (h.top q hq').1 (h.top q hq').2.2.1) ((h.top q hq').2.2.2 _ (h.top p hp).1 (h.top p hp).2.2.1)) hqp
     rcases List.mem_append.1 hf with hf | hf
     · exact h.all f hf hkf hdf
     cases List.mem_singleton.1 hf
     exact List.mem_map.2 ⟨p, hp, hpk⟩
theorem Ke (l : List Fact) (d : Int) : EInv l d (Az l d) := by
 have key : ∀ (r l : List Fact) (m : Dg), EInv l d m → EInv (l ++ r) d (r.foldl (Ck d) m) := by
   intro r
   induction r with
   | nil => intro l m h; rw [List.append_nil]; exact h
   | cons x r ih => intro l m h; have := ih (l ++ [x]) _ (h.step x); rwa [List.append_assoc] at this
 exact key l [] [] ⟨fun p hp => (by cases hp), fun p hp => (by cases hp), fun f hf => (by cases hf)⟩
theorem Lo {l : List Fact} {d : Int} {f : Fact} : f ∈ Fs (Az l d) ↔ Mw l d f := by
 have h := Ke l d
 rw [Hj h.ok]
 constructor
 · exact fun hf => h.top _ hf
 intro hf
 obtain ⟨p, hp, e⟩ := List.mem_map.1 (h.all f hf.1 hf.2.1 hf.2.2.1)
 have e : p.1 = A7 f := e
 have hpe := h.top p hp
 have : p.2 = f := Nk (h.ok p hp).2 (Gp hf.2.1) ((h.ok p hp).1.symm.trans e) (hf.2.2.2 _ hpe.1 hpe.2.2.1) (hpe.2.2.2 _ hf.1 hf.2.2.1)
 rw [← e, ← this]; exact hp
theorem K4 (l : List Fact) (d : Int) : (Fs (Az l d)).Nodup := Iq (f := A7) (by rw [Qg (Ke l d).ok]; exact Hi l d)
theorem Pu {α : Type} {enc : α → Array Go.Value} {k : Nat} (hk : ∀ x, (enc x).size = k) : ∀ xs : List α, (xs.flatMap fun x => (enc x).toList).length = xs.length * k
 | [] => by simp
 | x :: xs => by rw [List.flatMap_cons, List.length_append, Pu hk xs, Array.length_toList, hk, List.length_cons, Nat.add_mul]; omega
theorem kD {α : Type} {enc : α → Array Go.Value} {k i : Nat} (hk : ∀ x, (enc x).size = k) {xs : List α} (hi : i ≤ xs.length) : (xs.flatMap fun x => (enc x).toList).take (i * k) = (xs.take i).flatMap fun x => (enc x).toList := by
 have hl : ((xs.take i).flatMap fun x => (enc x).toList).length = i * k := by rw [Pu hk, List.length_take, Nat.min_eq_left hi]
 rw [show (xs.flatMap fun x => (enc x).toList) = ((xs.take i).flatMap fun x => (enc x).toList) ++ ((xs.drop i).flatMap fun x => (enc x).toList) by rw [← List.flatMap_append, List.take_append_drop], ← hl, List.take_left']
 rfl
section
variable {P : Program} {n : Nat} {ds : List Deferred} {l : Env} {w : World} {d : Option Tmp} {ty : TypeId} {ps : String} {af : Array Edge} {g : Option (Nat × Bool)}
theorem Ur {α : Type} {enc : α → Array Go.Value} {T e : TypeId} {k i cp : Nat} {x : Operand} {z : Go.Value} {ad : Option Addr} {xs : List α} (hT : P.underlying T = some (.slice e)) (hz : ∀ w, (zeroValue e).run P w = .ok z w) (hzs : z.cells.size = k) (h1 : z.cells.all (·.oneCell') = true) (hk : ∀ x, (enc x).size = k)
   (hx : Val l x (.slice (if cp = i then ad else ad.map (·.add (i * k))) (xs.length - i) (cp - i))) (hi : i ≤ xs.length) (ho : OwnS w 0 e k enc (.slice ad xs.length cp) xs) :
   REv P n ds l w ⟨d, .call { callee := .builtin .clear, args := #[x], argTypes := #[T] }, ty, ps, af, g⟩ (fun _ w' => Stp (J e k enc (.slice ad xs.length cp) xs) (J e k enc (.slice ad i cp) (xs.take i)) w w') := fun a ha => by
 by_cases h0 : xs.length - i = 0
 · have hie : i = xs.length := by omega
   subst hie
   refine ⟨.tuple #[], w, ?_, Fr.refl _ _, (show OwnS w 0 e k enc (.slice ad xs.length cp) (xs.take xs.length) by rw [List.take_length]; exact ho), fun i h => .inl h⟩
   have hx' := ha.ev hx
   rw [h0] at hx'
   simp only [execOp, resolve, invoke, builtin, Builtin.clear_]
   split at hx' <;> (try cases ad) <;> simp [hx', run_underlying hT, Result.andThen]
 obtain ⟨hlen, ⟨he, hn⟩ | ⟨g', cap', cur, he, _, hg, hcap, hcm, hcs, htake⟩⟩ := ho
 · exact absurd hn oQ
 cases he
 rw [if_neg (show ¬ cp = i by omega)] at hx
 have hzc : (Builtin.zeroCells z.cells (xs.length - i)).size = (xs.length - i) * k := by rw [← hzs]; simp [Builtin.zeroCells]
 have hle : xs.length * k ≤ cur.size := by rw [hcs]; exact Nat.mul_le_mul_right k hcap
 have hsum : i * k + (xs.length - i) * k = xs.length * k := by rw [← Nat.add_mul]; congr 1; omega
 have hst := run_storeCells_at P g' (i * k) e (Builtin.zeroCells z.cells (xs.length - i)).toList 0 cur w hg (by rw [Array.length_toList, hzc]; omega) (fun u hu => by
   simp only [Builtin.zeroCells, Array.toList_map, List.mem_map] at hu
   obtain ⟨i, _, rfl⟩ := hu
   by_cases hk : z.cells.size = 0
   · have : z.cells = #[] := Array.eq_empty_of_size_eq_zero hk
     simp [this] at *
   have hlt : i % z.cells.size < z.cells.size := Nat.mod_lt _ oQ
   rw [getElem!_pos z.cells _ hlt]
   exact Array.all_eq_true_iff_forall_mem.1 h1 _ (Array.getElem_mem hlt))
 refine ⟨.tuple #[], w.setRow g' (cur.toList.take (i * k + 0) ++ (Builtin.zeroCells z.cells (xs.length - i)).toList ++ cur.toList.drop (i * k + 0 + (Builtin.zeroCells z.cells (xs.length - i)).toList.length)).toArray, ?_, ⟨rfl, rfl, rfl, by simp, fun i hi hne => setRow_other w g' i _ (fun e => hne (by rw [e]; rfl))⟩, ?_, fun i h => .inl h⟩
 · obtain ⟨m, hm⟩ : ∃ m, xs.length - i = m + 1 := ⟨xs.length - i - 1, by omega⟩
   rw [hm] at hst hx ⊢
   have ead : (⟨g', 0, none⟩ : Addr).add (i * k) = ⟨g', i * k, none⟩ := by
     unfold Addr.add
     by_cases h : i * k = 0 <;> simp [h]
   simp only [Option.map_some] at hx
   rw [ead] at hx
   simp [execOp, resolve, invoke, builtin, ha.ev hx, Builtin.clear_, run_underlying hT, Result.andThen, hz]
   rw [hst]
   simp
 show OwnS _ 0 e k enc (.slice (some ⟨g', 0, none⟩) i cp) (xs.take i)
 have hf := kD hk hi
 refine ⟨by rw [Pu hk, List.length_take, Nat.min_eq_left hi], .inr ⟨g', cp, _, by rw [List.length_take, Nat.min_eq_left hi], Nat.zero_le _, setRow_heap w g' cur _ e (0, 0) hg, by rw [List.length_take]; omega, hcm, ?_, ?_⟩⟩
 · simp only [List.size_toArray, List.length_append, List.length_take, List.length_drop, Array.length_toList, hzc]
   omega
 rw [List.length_take, Nat.min_eq_left hi, ← hf, ← htake]
 simp only [Nat.add_zero, List.append_assoc]
 rw [List.take_append_of_le_length (by rw [List.length_take, Array.length_toList]; omega), List.take_take, List.take_take]
 congr 1
 omega
theorem PEv.gG {T T' e : TypeId} {x : Operand} {ad : Option Addr} {m c : Nat} (hT : P.underlying T = some (.slice e)) (hx : Val l x (.slice ad m c)) : PEv P n ds l w ⟨d, .binOp .eql T x (.const (.slice none 0 0)) T', ty, ps, af, g⟩ (.bool ad.isNone) := fun a w' ha _ => by
 refine Cm ?_
 have e1 : a.eval (.const (.slice none 0 0)) = .slice none 0 0 := rfl
 rw [ha.ev hx, e1, Sem.run_bind]
 have : (eqGuard .eql T x (.const (.slice none 0 0)) (.slice ad m c) (.slice none 0 0)).run P w' = .ok () w' := by unfold eqGuard; rfl
 rw [this]
 exact Lib.run_eql_slice_nil w' T e ad m c 0 0 hT
end
def Ic {α : Type} (p : α → Bool) (l : List α) (j : Nat) : List α := (l.take j).filter fun x => !p x
theorem Pv {α : Type} (p : α → Bool) (l : List α) (j : Nat) : (Ic p l j).length ≤ j := Nat.le_trans (List.length_filter_le _ _) (by rw [List.length_take]; omega)
theorem Qh {α : Type} {p : α → Bool} {l : List α} {k : Nat} {x : α} (hx : l[k]? = some x) (hp : p x = true) (hn : ∀ y ∈ l.take k, p y = false) : Ic p l (k + 1) = l.take k := by
 unfold Ic
 rw [Dw hx, List.filter_append, List.filter_cons_of_neg (by rw [hp]; decide), List.filter_nil, List.append_nil]
 exact List.filter_eq_self.2 fun y hy => by rw [hn y hy]; rfl
theorem Vu {α : Type} {p : α → Bool} {l : List α} {k : Nat} {x : α} (hx : l[k]? = some x) (hp : p x = false) : Ic p l (k + 1) = Ic p l k ++ [x] := by
 unfold Ic
 rw [Dw hx, List.filter_append, List.filter_cons_of_pos (by rw [hp]; rfl), List.filter_nil]
theorem Zb {α : Type} {p : α → Bool} {l : List α} {k : Nat} {x : α} (hx : l[k]? = some x) (hp : p x = true) : Ic p l (k + 1) = Ic p l k := by
 unfold Ic
 rw [Dw hx, List.filter_append, List.filter_cons_of_neg (by rw [hp]; decide), List.filter_nil, List.append_nil]
theorem cF {α : Type} {p : α → Bool} {l : List α} (hn : ∀ y ∈ l, p y = false) : (l.filter fun x => !p x) = l := List.filter_eq_self.2 fun y hy => by rw [hn y hy]; rfl
structure DelX {α : Type} (p : α → Bool) (l M : List α) (j : Nat) : Prop where
 len : M.length = l.length
 kept : M.take (Ic p l j).length = Ic p l j
 rest : ∀ m, j ≤ m → M[m]? = l[m]?
theorem DelX.start {α : Type} {p : α → Bool} {l : List α} {k : Nat} {x : α} (hx : l[k]? = some x) (hp : p x = true) (hn : ∀ y ∈ l.take k, p y = false) : DelX p l l (k + 1) := by
 have hk : k < l.length := (List.getElem?_eq_some_iff.1 hx).1
 refine ⟨rfl, ?_, fun _ _ => rfl⟩
 rw [Qh hx hp hn, List.length_take, Nat.min_eq_left (by omega)]
theorem DelX.no {α : Type} {p : α → Bool} {l M : List α} {j : Nat} {x : α} (h : DelX p l M j) (hx : l[j]? = some x) (hp : p x = true) : DelX p l M (j + 1) :=
 ⟨h.len, by rw [Zb hx hp]; exact h.kept, fun m hm => h.rest m oQ⟩
theorem DelX.yes {α : Type} {p : α → Bool} {l M : List α} {j : Nat} {x : α} (h : DelX p l M j) (hx : l[j]? = some x) (hp : p x = false) : DelX p l (M.set (Ic p l j).length x) (j + 1) := by
 have hj : j < l.length := (List.getElem?_eq_some_iff.1 hx).1
 have hk := Pv p l j
 have hM := h.len
 refine ⟨by rw [List.length_set, hM], ?_, fun m hm => ?_⟩
 · rw [Vu hx hp, List.length_append, List.length_singleton, List.take_succ_eq_append_getElem (by rw [List.length_set]; omega), List.getElem_set_self, List.take_set_of_le (Nat.le_refl _), h.kept]
 rw [List.getElem?_set_ne (by omega)]
 exact h.rest m oQ
theorem kE {α : Type} {p : α → Bool} {l : List α} : Ic p l l.length = l.filter fun x => !p x := by unfold Ic; rw [List.take_length]
theorem OwnS.KC {α : Type} {enc : α → Array Go.Value} {b k m cp : Nat} {e : TypeId} {w : World} {ad : Option Addr} {xs : List α} (h : OwnS w b e k enc (.slice ad m cp) xs) : xs.length ≤ cp := by
 obtain ⟨_, ⟨he, hn⟩ | ⟨g', cap, cur, he, _, _, hcap, _⟩⟩ := h
 · cases he; omega
 cases he; exact hcap
section
variable {P : Program} {n : Nat} {ds : List Deferred} {l : Env} {w : World} {d : Option Tmp} {ty : TypeId} {ps : String} {af : Array Edge} {g : Option (Nat × Bool)}
theorem PEv.tX {T T' : TypeId} {ms : Array (String × TypeId)} {x : Operand} (hT : P.underlying T = some (.interface ms)) (hx : Val l x .nilIface) : PEv P n ds l w ⟨d, .binOp .eql T x (.const .nilIface) T', ty, ps, af, g⟩ (.bool true) := fun a w' ha _ => by
 refine Cm ?_
 have e1 : a.eval (.const .nilIface) = .nilIface := rfl
 rw [ha.ev hx, e1, Sem.run_bind]
 have : (eqGuard .eql T x (.const .nilIface) .nilIface .nilIface).run P w' = .ok () w' := by unfold eqGuard; cases x <;> rfl
 rw [this]
 have h : ∀ d : Nat, (Op.equalIn (d + 2) T .nilIface .nilIface).run P w' = .ok true w' := fun d => by simp [Op.equalIn, run_underlying hT]
 simp only [binOp]
 simp [Op.equal, Op.maxDepth, h 9998]
end
theorem AggAt.pre {w : World} {B o : Nat} {a b : Array Value} (h : AggAt w B o (a ++ b)) : AggAt w B o a := fun j v hv => h j v (by
 have hj := (Array.getElem?_eq_some_iff.1 hv).1
 rw [Array.getElem?_append_left hj]; exact hv)
def E9 (bc : Array Value) (t c r : Int) : Array Value := bc ++ #[vi t, vi c, vi r]
theorem H4 {w : World} {bc : Array Value} {b : Base} (h : BaseC w bc b) (t c r : Int) : (E9 bc t c r).size = 14 := by unfold E9; rw [Array.size_append, h.size]; rfl
theorem Lp {w : World} {B : Nat} {bc : Array Value} {t c r : Int} {T : TypeId} (h : Blk w B (E9 bc t c r) T) : AggAt w B 0 bc := h.agg.pre
theorem Iz {w w0 : World} {B : Nat} {bc : Array Value} {b : Base} {t c r : Int} {T : TypeId} (h : Blk w B (E9 bc t c r) T) (hC : BaseC w0 bc b) (j : Nat) {v : Value} (hv : (#[vi t, vi c, vi r] : Array Value)[j]? = some v) : w.cell? ⟨B, 11 + j, none⟩ = some v :=
 h.cell (by
   unfold E9
   have := hC.size
   rw [Array.getElem?_append_right oQ, this, Nat.add_sub_cancel_left]; exact hv)
theorem cG {w : World} {B : Nat} {bc : Array Value} {t c r : Int} {T : TypeId} (h : Blk w B (E9 bc t c r) T) {j : Nat} {v : Value} (hv : bc[j]? = some v) : w.cell? ⟨B, j, none⟩ = some v :=
 h.cell (by
   unfold E9
   rw [Array.getElem?_append_left (Array.getElem?_eq_some_iff.1 hv).1]; exact hv)
def Qi (n : Int) : Bool := decide (-1000000 ≤ n) && decide (n ≤ 1000000)
def Fa (T : List Fact) (r t : Int) : Int := if (W9 r t T).2 && Qi (W9 r t T).1.Value then (W9 r t T).1.Value else 0
theorem Zc {T : List Fact} {r t : Int} (h : ((W9 r t T).2 && Qi (W9 r t T).1.Value) = true) : Fa T r t = (W9 r t T).1.Value := if_pos h
theorem gH {T : List Fact} {r t : Int} (h : ((W9 r t T).2 && Qi (W9 r t T).1.Value) = false) : Fa T r t = 0 := if_neg (by rw [h]; exact Bool.false_ne_true)
theorem Xc (T : List Fact) (r t : Int) : -1000000 ≤ Fa T r t ∧ Fa T r t ≤ 1000000 := by
 cases h : (W9 r t T).2 && Qi (W9 r t T).1.Value with
 | false => rw [gH h]; omega
 | true =>
   rw [Zc h]
   rw [Bool.and_eq_true] at h
   have h2 := h.2
   unfold Qi at h2
   rw [Bool.and_eq_true] at h2
   exact ⟨of_decide_eq_true h2.1, of_decide_eq_true h2.2⟩
def Ex (m : Option Fact) (t : Int) : Bool := !m.isSome || !Qi (m.getD Ee).Value || decide (t < (m.getD Ee).Time)
def Fb (M T : List Fact) (r : Int) (x : Fact) (t : Int) : Int × Bool :=
 if Ex (M.find? fun y => decide (y.ID = x.ID)) t then (0, false) else (((M.find? fun y => decide (y.ID = x.ID)).getD Ee).Value - Fa T r x.Time, true)
theorem Rf {M T : List Fact} {r : Int} {x : Fact} {t : Int} (h : Ex (M.find? fun y => decide (y.ID = x.ID)) t = true) : Fb M T r x t = (0, false) := if_pos h
theorem Te {M T : List Fact} {r : Int} {x : Fact} {t : Int} (h : Ex (M.find? fun y => decide (y.ID = x.ID)) t = false) : Fb M T r x t = (((M.find? fun y => decide (y.ID = x.ID)).getD Ee).Value - Fa T r x.Time, true) := if_neg (by rw [h]; exact Bool.false_ne_true)
theorem oU {m : Option Fact} {t : Int} (h : Ex m t = false) : -1000000 ≤ (m.getD Ee).Value ∧ (m.getD Ee).Value ≤ 1000000 := by
 unfold Ex at h
 simp only [Bool.or_eq_false_iff, Bool.not_eq_false'] at h
 have h2 := h.1.2
 unfold Qi at h2
 rw [Bool.and_eq_true] at h2
 exact ⟨of_decide_eq_true h2.1, of_decide_eq_true h2.2⟩
theorem Xd (M T : List Fact) (r : Int) (x : Fact) (t : Int) : -2000000 ≤ (Fb M T r x t).1 ∧ (Fb M T r x t).1 ≤ 2000000 := by
 cases h : Ex (M.find? fun y => decide (y.ID = x.ID)) t with
 | true => rw [Rf h]; exact ⟨by decide, by decide⟩
 | false =>
   rw [Te h]
   have h1 := oU h
   have h2 := Xc T r x.Time
   show -2000000 ≤ _ - _ ∧ _ - _ ≤ 2000000
   omega
def CondOk (P : Program) (w : World) (v : Value) (p : Fact → Bool) : Prop := ∃ cf lb, v = .func (.func cf) #[] lb ∧ (∀ args w, (callFunc cf args).run P w = .ok (.enter cf args) w) ∧ ∀ W, Up w W → ∀ x : Fact, Ret P cf (#[.agg x.cells] ++ lb) W fun r W' => r = .bool (p x) ∧ Up W W'
theorem CondOk.up {P : Program} {w w' : World} {v : Value} {p : Fact → Bool} (h : CondOk P w v p) (u : Up w w') : CondOk P w' v p :=
 let ⟨cf, lb, e, he, hp⟩ := h
 ⟨cf, lb, e, he, fun W k => hp W (u.trans k)⟩
structure Cnd where
 cf : Nat
 lb : Array Value
 p : Fact → Bool
def Cnd.v (q : Cnd) : Value := .func (.func q.cf) #[] q.lb
def Cnd.cells (q : Cnd) : Array Value := #[q.v]
def CndsOk (P : Program) (w : World) (qs : List Cnd) : Prop := ∀ q ∈ qs, CondOk P w q.v q.p
theorem CndsOk.up {P : Program} {w w' : World} {qs : List Cnd} (h : CndsOk P w qs) (u : Up w w') : CndsOk P w' qs := fun q hq => (h q hq).up u
def Tf (qs : List Cnd) (x : Fact) : Bool := qs.all fun q => q.p x
theorem kF {qs : List Cnd} {k : Nat} {q : Cnd} {g : Cnd → Bool} (h : qs[k]? = some q) (hk : ∀ y ∈ qs.take k, g y = false) (hx : g q = false) : ∀ y ∈ qs.take (k + 1), g y = false := fun y hy => by
 rw [List.take_add_one, h] at hy
 rcases List.mem_append.1 hy with hy | hy
 · exact hk y hy
 cases List.mem_singleton.1 hy; exact hx
theorem AL {qs : List Cnd} {k : Nat} {q : Cnd} {g : Cnd → Bool} (h : qs[k]? = some q) (hx : g q = true) : qs.any g = true := List.any_eq_true.2 ⟨q, List.mem_of_getElem? h, hx⟩
theorem any_none {qs : List Cnd} {g : Cnd → Bool} (h : ∀ y ∈ qs, g y = false) : qs.any g = false := List.any_eq_false.2 fun y hy => by rw [h y hy]; exact Bool.false_ne_true
theorem oV (qs : List Cnd) (x : Fact) : (qs.any fun q => !q.p x) = !Tf qs x := by
 unfold Tf
 rw [List.not_all_eq_any_not]
theorem Zd (qs : List Cnd) (l : List Fact) : (l.filter fun x => !(!Tf qs x)) = l.filter fun x => Tf qs x := by simp only [Bool.not_not]
theorem CndsOk.cons {P : Program} {w : World} {q : Cnd} {qs : List Cnd} (h : CondOk P w q.v q.p) (hs : CndsOk P w qs) : CndsOk P w (q :: qs) := fun y hy => (List.mem_cons.1 hy).elim (fun e => e ▸ h) (fun h => hs y h)
theorem CndsOk.nil {P : Program} {w : World} : CndsOk P w [] := fun _ h => by cases h
def Ey (b : Base) (t c r : Int) : List Fact := (S9 b t c).filter fun x => decide (x.Recipe = r)
theorem Vv (b : Base) (t c : Int) : (S9 b t c).length ≤ b.Processes.length := by
 unfold S9
 rw [show (Jb runK (b.Processes.filter (Lm t c))).length = (b.Processes.filter (Lm t c)).length from (Em _).same.length]
 exact List.length_filter_le _ _
theorem G8 (b : Base) (t c r : Int) : (Ey b t c r).length ≤ b.Processes.length := Nat.le_trans (List.length_filter_le _ _) (Vv b t c)
theorem JP {a b : Int} : Bu (addN (Bu a 4) (Bu b 4)) ((Bu a 4).d * (Bu b 4).d) = Bu (a + b) 4 := by
 have h1 := Gd (n := a) (d := 4) cQ
 have h2 := Gd (n := b) (d := 4) cQ
 have p1 := I8 (n := a) (d := 4) cQ
 have p2 := I8 (n := b) (d := 4) cQ
 generalize Bu a 4 = x at *
 generalize Bu b 4 = y at *
 refine Q3 (Int.mul_pos p1 p2) cQ ?_
 show (x.n * y.d + y.n * x.d) * 4 = (a + b) * (x.d * y.d)
 calc (x.n * y.d + y.n * x.d) * 4 = (x.n * 4) * y.d + (y.n * 4) * x.d := by rw [Int.add_mul]; ac_rfl
   _ = (a * x.d) * y.d + (b * y.d) * x.d := by rw [h1, h2]
   _ = (a + b) * (x.d * y.d) := by rw [Int.add_mul]; ac_rfl
theorem kG {a b : Int} (h : (a + b).natAbs ≤ 1000000000) : Oe (addN (Bu a 4) (Bu b 4)) ((Bu a 4).d * (Bu b 4).d) = true := by
 have h1 := Gd (n := a) (d := 4) cQ
 have h2 := Gd (n := b) (d := 4) cQ
 have p1 := I8 (n := a) (d := 4) cQ
 have p2 := I8 (n := b) (d := 4) cQ
 generalize Bu a 4 = x at *
 generalize Bu b 4 = y at *
 refine fK (v' := 4) (u' := a + b) (Int.mul_pos p1 p2) cQ ?_ (Hd h cQ)
 show (x.n * y.d + y.n * x.d) * 4 = (a + b) * (x.d * y.d)
 calc (x.n * y.d + y.n * x.d) * 4 = (x.n * 4) * y.d + (y.n * 4) * x.d := by rw [Int.add_mul]; ac_rfl
   _ = (a * x.d) * y.d + (b * y.d) * x.d := by rw [h1, h2]
   _ = (a + b) * (x.d * y.d) := by rw [Int.add_mul]; ac_rfl
theorem Xe {a b : Int} (h : (a + b).natAbs ≤ 1000000000) : La (addN (Bu a 4) (Bu b 4)) ((Bu a 4).d * (Bu b 4).d) = (Bu (a + b) 4, 0) := by rw [Hy (kG h), JP]
def AM (a : Rt) : Rt := ⟨-a.n, a.d⟩
theorem HR (T : Int) : Bu T 1 = Bu (4 * T) 4 := Q3 cQ cQ oQ
theorem AN (e : Int) : AM (Bu e 4) = Bu (-e) 4 := by
 refine fI (I8 cQ) (I8 cQ) ?_ (Of cQ) ?_
 · show Dr (-(Bu e 4).n) (Bu e 4).d = 1
   unfold Dr
   rw [Int.natAbs_neg]; exact Of cQ
 have h1 := Gd (n := e) (d := 4) cQ
 have h2 := Gd (n := -e) (d := 4) cQ
 generalize Bu (-e) 4 = y at *
 have p : (Bu e 4).d = (Bu e 4).d := rfl
 show -(Bu e 4).n * y.d = y.n * (Bu e 4).d
 generalize Bu e 4 = x at *
 refine Int.eq_of_mul_eq_mul_right (show (4 : Int) ≠ 0 by decide) ?_
 calc -x.n * y.d * 4 = -(x.n * 4) * y.d := by rw [Int.neg_mul, Int.neg_mul, Int.neg_mul]; ac_rfl
   _ = (-e * y.d) * x.d := by rw [h1, Int.neg_mul, Int.neg_mul, Int.neg_mul]; ac_rfl
   _ = y.n * x.d * 4 := by rw [← h2]; ac_rfl
theorem tY {T e : Int} (h : (4 * T - e).natAbs ≤ 1000000000) : La (addN (Bu T 1) (AM (Bu e 4))) ((Bu T 1).d * (Bu e 4).d) = (Bu (4 * T - e) 4, 0) := by
 have hd : (Bu e 4).d = (Bu (-e) 4).d := by rw [← AN]; rfl
 rw [hd, AN, HR, show 4 * T - e = 4 * T + -e by omega]
 exact Xe (by rw [show 4 * T + -e = 4 * T - e by omega]; exact h)
theorem JQ (e : Int) : Y6 (Bu e 4) 1000 = 250 * e := by
 have h1 := Gd (n := e) (d := 4) cQ
 have p1 := I8 (n := e) (d := 4) cQ
 generalize Bu e 4 = x at *
 show (2 * x.n * 1000 + x.d) / (2 * x.d) = 250 * e
 have e1 : 2 * x.n * 1000 + x.d = x.d + (2 * x.d) * (250 * e) := by
   have : 2 * x.n * 1000 = 500 * (x.n * 4) := by omega
   have h3 : 2 * x.d * (250 * e) = (2 * 250) * (e * x.d) := by ac_rfl
   rw [this, h1, h3]
   omega
 rw [e1, Int.add_mul_ediv_left _ _ oQ, Int.ediv_eq_zero_of_lt oQ (by omega)]
 omega
theorem tZ {e : Int} (h : e.natAbs ≤ 1000000000) : La (Y6 (Bu e 4) 1000) 1000 = (Bu e 4, 0) := by
 rw [JQ, Hy (fK (v' := 4) (u' := e) cQ cQ oQ (Hd h cQ)), Q3 (u' := e) (v' := 4) cQ cQ (by omega)]
theorem Ir {e : Int} (h : e.natAbs ≤ 1000000000) : (Bu e 4).ok := fJ cQ (Hd h cQ)
theorem Xf {e : Int} (h : e.natAbs ≤ 1000000000) : (Bu e 1).ok := fJ cQ (Hd h cQ)
def Hk (d : Int × Bool) : Bool := d.2 && (decide (d.1 < -2) || decide (2 < d.1))
def Cq (M T : List Fact) (r t : Int) (s : Int × List Int) (x : Fact) : Int × List Int := if Hk (Fb M T r x t) then (s.1 + (Fb M T r x t).1, s.2 ++ [x.ID]) else s
def Ji (M T : List Fact) (r t : Int) (l : List Fact) : Int × List Int := l.foldl (Cq M T r t) (0, [])
theorem Vw {M T : List Fact} {r t : Int} {l : List Fact} {k : Nat} {x : Fact} (h : l[k]? = some x) : Ji M T r t (l.take (k + 1)) = Cq M T r t (Ji M T r t (l.take k)) x := by
 rw [Dw h, Ji, List.foldl_append]; rfl
theorem Is {M T : List Fact} {r t : Int} {s : Int × List Int} {x : Fact} (h : Hk (Fb M T r x t) = true) : Cq M T r t s x = (s.1 + (Fb M T r x t).1, s.2 ++ [x.ID]) := if_pos h
theorem Lq {M T : List Fact} {r t : Int} {s : Int × List Int} {x : Fact} (h : Hk (Fb M T r x t) = false) : Cq M T r t s x = s := if_neg (by rw [h]; exact Bool.false_ne_true)
theorem oW (M T : List Fact) (r t : Int) : ∀ (l : List Fact) (s : Int × List Int), -2000000 * (l.length : Int) ≤ (l.foldl (Cq M T r t) s).1 - s.1 ∧ (l.foldl (Cq M T r t) s).1 - s.1 ≤ 2000000 * (l.length : Int) ∧ (l.foldl (Cq M T r t) s).2.length ≤ s.2.length + l.length
 | [], s => by simp
 | x :: l, s => by
   have h := oW M T r t l (Cq M T r t s x)
   have hd := Xd M T r x t
   rw [List.foldl_cons]
   generalize l.foldl (Cq M T r t) (Cq M T r t s x) = q at *
   have hs : -2000000 ≤ (Cq M T r t s x).1 - s.1 ∧ (Cq M T r t s x).1 - s.1 ≤ 2000000 ∧ (Cq M T r t s x).2.length ≤ s.2.length + 1 := by
     cases hc : Hk (Fb M T r x t) with
     | true => rw [Is hc]; dsimp only; rw [List.length_append]; simp only [List.length_cons, List.length_nil]; omega
     | false => rw [Lq hc]; omega
   rw [List.length_cons]
   push_cast
   omega
theorem L8 (M T : List Fact) (r t : Int) (l : List Fact) : -2000000 * (l.length : Int) ≤ (Ji M T r t l).1 ∧ (Ji M T r t l).1 ≤ 2000000 * (l.length : Int) ∧ (Ji M T r t l).2.length ≤ l.length := by
 have h := oW M T r t l (0, [])
 unfold Ji
 simp only [Int.sub_zero, List.length_nil, Nat.zero_add] at h
 exact h
def Dl (rs a : List Fact) : List Fact := rs.foldl (fun a y => a.filter fun x => decide (y.Time ≤ x.Time)) a
theorem Ze {rs a : List Fact} {k : Nat} {y : Fact} (h : rs[k]? = some y) : Dl (rs.take (k + 1)) a = (Dl (rs.take k) a).filter fun x => decide (y.Time ≤ x.Time) := by
 rw [Dw h, Dl, List.foldl_append]; rfl
theorem Nl (rs : List Fact) : ∀ a : List Fact, (Dl rs a).length ≤ a.length := by
 induction rs with
 | nil => exact fun _ => Nat.le_refl _
 | cons y rs ih => exact fun a => Nat.le_trans (ih _) (List.length_filter_le _ _)
def gI (t c time : Int) (x : Fact) : Bool := decide (x.Tool = t) && decide (x.Chamber = c) && decide (x.Time ≤ time)
def Gh (b : Base) (t c time : Int) : List Fact := b.Resets.filter (gI t c time)
def uA (T E : Int) : Rt := Tb (Bu (4 * T - E) 4) (Bu (-10000) 1) (Bu 10000 1)
structure Dec where
 run : Int
 par : Rt
 est : Rt
 uses : List Int
def F2 (b : Base) (t c r time : Int) (ahead : List Fact) : Dec :=
 ⟨0, uA (Fa b.Targets r time) (Ji b.Measures b.Targets r time (Dl (Gh b t c time) ahead)).1, Bu (Ji b.Measures b.Targets r time (Dl (Gh b t c time) ahead)).1 4, (Ji b.Measures b.Targets r time (Dl (Gh b t c time) ahead)).2⟩
structure DecV where
 run : Int
 par : Rt
 est : Rt
 uv : Value
def DecV.cells (d : DecV) : Array Value := #[vi d.run, vi d.par.n, vi d.par.d, vi d.est.n, vi d.est.d, d.uv]
def Dec.v (d : Dec) (v : Value) : DecV := ⟨d.run, d.par, d.est, v⟩
def rz : Rt := ⟨0, 0⟩
theorem Zf {w : World} {B : Nat} {d : DecV} {T : TypeId} (h : Blk w B d.cells T) : AggAt w B 3 d.est.cells := fun j v hv => h.cell (by
 match j with
 | 0 => simpa [Rt.cells, DecV.cells] using hv
 | 1 => simpa [Rt.cells, DecV.cells] using hv
 | j + 2 => simp [Rt.cells] at hv)
theorem Zg (d : DecV) (h : d.uv.oneCell' = true) : d.cells.all (·.oneCell') = true := by simp [DecV.cells, show ∀ i : Int, (vi i).oneCell' = true from fun _ => rfl, h]
def CArg (P : Program) (w : World) (v : Value) (p : Fact → Bool) : Prop := ∃ ad cp qs, v = .slice ad (List.length qs) cp ∧ Els w ad 1 Cnd.cells qs ∧ CndsOk P w qs ∧ qs.length ≤ 100000 ∧ ∀ x, Tf qs x = p x
theorem CArg.up {P : Program} {w w' : World} {v : Value} {p : Fact → Bool} (h : CArg P w v p) (u : Up w w') : CArg P w' v p :=
 let ⟨ad, cp, qs, e, hE, hq, hl, hp⟩ := h
 ⟨ad, cp, qs, e, Els.up hE u, hq.up u, hl, hp⟩
theorem filter_eq {p q : Fact → Bool} (h : ∀ x, p x = q x) (l : List Fact) : l.filter p = l.filter q := by rw [show p = q from funext h]
theorem OwnS.uC {α : Type} {w : World} {b e k : Nat} {enc : α → Array Value} {v : Value} {xs : List α} (h : OwnS w b e k enc v xs) (hk : ∀ x, (enc x).size = k) : v.oneCell' = true := by
 obtain ⟨ad, cp, rfl, _⟩ := h.sl hk
 rfl
def IH (B : Nat) (ad : Option Addr) (xs : List Fact) : Prop := xs = [] ∨ ∀ q, ad = some q → q.block ≠ B
theorem oX {w w' : World} {ad : Option Addr} {xs : List Fact} {B : Nat} (h : Els w ad 19 Fact.cells xs) (f : Fr (fun i => i = B) w w') (hn : IH B ad xs) : Els w' ad 19 Fact.cells xs :=
 hn.elim (fun e => by subst e; exact fun i x hx => by simp at hx) (fun hn => h.fr f (fun B o e hb => hn _ e hb))
theorem uD {w : World} {ad : Option Addr} {xs : List Fact} {B : Nat} (h : Els w ad 19 Fact.cells xs) (hB : w.heap.size ≤ B) : IH B ad xs := by
 cases xs with
 | nil => exact .inl rfl
 | cons x r =>
   refine .inr fun q hq => ?_
   obtain ⟨B', o, e, hx⟩ := h 0 x rfl
   cases e.symm.trans hq
   have h1 := hx 0 (vi x.Kind) rfl
   unfold World.cell? at h1
   show B' ≠ B
   cases hb : w.heap[B']? with
   | none => rw [hb] at h1; cases h1
   | some ob => have := lt_of_block hb; omega
theorem uE {w : World} {b e n cp : Nat} {ad : Option Addr} {xs : List Fact} {B : Nat} (h : OwnS w b e 19 Fact.cells (.slice ad n cp) xs) (hB : B < b) : IH B ad xs := by
 cases xs with
 | nil => exact .inl rfl
 | cons x r =>
   refine .inr fun q hq => ?_
   obtain ⟨g, rfl⟩ := h.KB (by simp)
   cases hq
   have := h.base g rfl
   show g ≠ B
   omega
theorem HS {w0 w w' : World} {B : Nat} (h : Up w0 w) (f : Fr (fun i => i = B) w w') (hB : w0.heap.size ≤ B) : Up w0 w' := ((h.fr (fun _ => False)).next f (fun i e => .inr oQ)).aW (fun _ h => h)
end Go.Wx
namespace Go.Proofs.YtgjogglfnkgapaaGreatDoor
open Go.Proofs.Tryz
open Go.Wx Go.RowKit
theorem cH (bc : Array Go.Value) (b : Base) (r t : Int) (w : World) (hC : BaseC w bc b) (hl : b.Targets.length ≤ 100000) : Ret prog 369 #[.agg bc, vi r, vi t] w fun r0 w' => r0 = .tuple #[vi (W9 r t b.Targets).1.Value, .bool (W9 r t b.Targets).2] ∧ Up w w' := by
 obtain ⟨w0, rfl, hS⟩ := W0 w
 obtain ⟨v9, h9, hr9⟩ := hC.at9
 obtain ⟨ad, cp, rfl, hE0⟩ := hr9
 refine cT 45 func369 rfl (Af (Al (.bA rfl) rfl ?_))
 rintro _ w1 ⟨B3, rfl, NB3⟩
 replace hS := hS.Bn NB3
 refine Ay (Ay (Ao (Aa (Al (.Bm zeroValue28) rfl ?_))))
 rintro _ w2 ⟨B8, rfl, NB8⟩
 replace hS := hS.Bn NB8
 refine Ao (Aa (Ay (Ao (Af (I (.fB 9 rfl) (I (.lb rfl (hS.b0.cell h9)) (I (.Di underlying25 (.t rfl)) (I (.move (.const _)) (Ai (An (A8 (σ := Nat × Fact × Bool) (fun s w => (s.1 ≤ b.Targets.length) ∧ (s.2 = W9 r t (b.Targets.take s.1)) ∧ (Wx.Sep no w0 w [Cc B3 (bc) 50, Cc B8 (s.2.1.cells) 28])) (fun s => [(15, .eq (vi (s.1 : Int))), (9, .eq (.bool s.2.2))]) ([(1, .eq _), (2, .eq _), (6, .eq _), (7, .eq _), (8, .eq _), (13, .eq _), (14, .eq _)]) (fun s => b.Targets.length - s.1) (0, Ee, false) ?_ tQ ?_)))))))))))
 ·exact ⟨Nat.zero_le _, rfl, hS⟩
 rintro ⟨k, f, fd⟩ w3 ⟨hk, ht, hS⟩
 change CW _ _ _ _ _ _ _ ([(15, .eq (vi (k : Int))), (9, .eq (.bool fd))] ++ _) _
 refine Af (I (.l2 rfl rfl) (Ao (CW.b rfl (fun h16 => ?_) (fun h16 => ?_))))
 ·replace h16 := dQ h16
  refine Aj (Ac (Am (An (Am ?_))))
  have hE := Els.up hE0 hS.Cr
  refine Aa ?_
  obtain ⟨x, hx⟩ := Au (xs := b.Targets) (i := k) oQ
  obtain ⟨Bx, ox, ax, hcx⟩ := hE _ x hx
  refine I (.Av underlying25 sizeOf28 (.t rfl) (.t rfl) oQ ax) (I (.lc rfl (hcx)) (Al (.Bm zeroValue28) rfl ?_))
  rintro _ w4 ⟨B11, rfl, MB11⟩
  refine Be (.Bi sizeOf28 rfl (.t rfl) (.t rfl) eQ MB11.blk rfl) ?_
  intro w5 LB11
  have NB11 := MB11.set LB11
  replace hcx := hcx.up NB11.up
  replace hS := hS.Bn NB11
  refine Ao (Aa (I (.fB 14 rfl) (I (.lb rfl (hS.b2.Ah rfl)) (Ab rfl (I (.eql (.t rfl) (.t rfl)) (Ab rfl (LW.gr rfl (fun hc => PEv.fB 5 rfl) (LW.gr rfl (fun hc => PEv.load isAgg3 vQ (hS.b2.Ah rfl)) (Fk rfl rfl (LW.gr rfl (fun hc => PEv.leq vQ vQ) (I (.pa rfl (fun hp => (by exact .cond rfl (by simp_all)))) (Ab rfl (Fk rfl rfl (LW.gr rfl (fun hc => PEv.not vQ) (LW.gr rfl (fun hc => PEv.move vQ) (Rl rfl rfl rfl rfl rfl rfl rfl (fun hc => PEv.fB 5 rfl) (Rl rfl rfl rfl rfl rfl rfl rfl (fun hc => PEv.load isAgg3 vQ (hS.b2.Ah rfl)) (Rl rfl rfl rfl rfl rfl rfl rfl (fun hc => PEv.fB 5 rfl) (Rl rfl rfl rfl rfl rfl rfl rfl (fun hc => PEv.load isAgg3 vQ (hS.b1.Ah rfl)) (Rl rfl rfl rfl rfl rfl rfl rfl (fun hc => PEv.gtr vQ vQ) (LW.gr rfl (fun hc => PEv.E1 vQ (fun hp => (by exact .cond rfl (by simp_all)))) (I (.pa rfl (fun hp => (by exact .cond rfl (by simp_all)))) (Ai (CW.b rfl (fun h39 => ?_) (fun h39 => ?_)))))))))))))))))))))))))
  ·replace h39 := dQ h39
   refine Aa (I (.lc rfl (hS.b2.agg)) (Be (.Bi sizeOf28 rfl (.t rfl) (.t rfl) eQ hS.b1 rfl) ?_))
   intro w6 Nw6
   replace hS := hS.Cp 1 rfl Nw6
   refine Ay (LW.nil (Ae (Ac (Aa (I (.ic rfl oQ) (Ab rfl (LW.nil (Ar ?_))))))))
   exact ⟨(k + 1, x, true), ⟨by show k + 1 ≤ _; omega, by rw [Y4 hx, ← ht]; exact (AF (by simpa using h39)).symm, hS.take 2⟩, tQ, by show b.Targets.length - (k + 1) < b.Targets.length - k; omega⟩
  replace h39 := dQ h39
  refine Aj (Ae (Ac (Aa (I (.ic rfl oQ) (Ab rfl (LW.nil (Ar ?_)))))))
  exact ⟨(k + 1, f, fd), ⟨by show k + 1 ≤ _; omega, by rw [Y4 hx, ← ht]; exact (xY (by simpa using h39)).symm, hS.take 2⟩, tQ, by show b.Targets.length - (k + 1) < b.Targets.length - k; omega⟩
 replace h16 := dQ h16
 refine Bl (Ad (Ad (Aq (Ac (Af (I (.fB 16 rfl) (I (.lb rfl (hS.b1.Ah rfl)) (Ab rfl (LW.A rfl (LW.A rfl (Ai (Ak (Fu rfl rfl rfl ⟨_, rfl, ?_⟩)))))))))))))
 have hkl : k = b.Targets.length := by omega
 rw [hkl, List.take_length] at ht
 rw [← ht]
 exact ⟨rfl, hS.Cr⟩
theorem Vx (cf : Nat) (lb : Array Go.Value) (p : Fact → Bool) (hen : ∀ args w, (callFunc cf args).run Tryz.prog w = .ok (.enter cf args) w) (ad : Option Addr) (cp : Nat) (l : List Fact) (w : World) (hE0 : Els w ad 19 Fact.cells l) (hl : l.length ≤ 100000) (hp : ∀ W, Up w W → ∀ x, Ret Tryz.prog cf (#[.agg (Fact.cells x)] ++ lb) W fun r W' => r = .bool (p x) ∧ Up W W') : Ret prog 159 #[.slice ad l.length cp, .func (.func cf) #[] lb] w fun r w' => ∃ i, r = vi i ∧ JN p l i ∧ Up w w' := by
 have hW := Up.refl w
 obtain ⟨w0, rfl, _⟩ := W0 w
 refine cT 19 func159 rfl (Af (Ay (Ao (Af (Ab rfl (I (.Di underlying25 (.t rfl)) (I (.move (.const _)) (Ai (An (A8 (σ := Nat) (fun s w => (s ≤ l.length) ∧ (∀ y ∈ l.take s, p y = false) ∧ (Up w0 w)) (fun s => [(8, .eq (vi (s : Int)))]) ([(0, .eq _), (1, .eq _), (7, .eq _)]) (fun s => l.length - s) 0 ?_ tQ ?_))))))))))
 ·exact ⟨Nat.zero_le _, by simp, hW⟩
 rintro k w1 ⟨hk, hn, hW⟩
 refine Af (I (.l2 rfl rfl) (Ao (CW.b rfl (fun h9 => ?_) (fun h9 => ?_))))
 ·replace h9 := dQ h9
  refine Aj (Ac (Am (An (Af (Ab rfl (LW.A rfl (Ao ?_)))))))
  have hE := Els.up hE0 hW
  refine Aa (Ab rfl (Ab rfl (Ab rfl ?_)))
  obtain ⟨x, hx⟩ := Au (xs := l) (i := k) oQ
  obtain ⟨Bx, ox, ax, hcx⟩ := hE _ x hx
  refine I (.Av underlying25 sizeOf28 (.t rfl) (.t rfl) oQ ax) (I (.lc rfl (hcx)) (A3 (Cs (.t rfl) (.cu rfl) (hen)) rfl (hp _ hW x) ?_))
  rintro _ w2 ⟨rfl, uw2⟩
  replace hW := hW.up uw2
  replace hcx := hcx.up uw2
  refine Ai (CW.b rfl (fun h16 => ?_) (fun h16 => ?_))
  ·replace h16 := dQ h16
   refine Af (Ab rfl (LW.A rfl (Ai (Ak (A9 (Ap (Ap (A9 (Ap (KW.q ?_))))))))))
   exact ⟨_, rfl, .inl ⟨k, x, rfl, hx, by simpa using h16, hn⟩, hW⟩
  replace h16 := dQ h16
  refine Aj (Ae (Ac (Aa (I (.ic rfl oQ) (Ab rfl (LW.nil (Ar ?_)))))))
  exact ⟨k + 1, ⟨by omega, kA hx hn (by simpa using h16), hW⟩, tQ, by omega⟩
 replace h9 := dQ h9
 refine Bl (Ad (Ad (Aq (Ac (Af (Ay (Ai (Ak (KW.q ?_)))))))))
 exact ⟨-1, rfl, .inr ⟨rfl, by rw [show k = l.length by omega, List.take_length] at hn; exact hn⟩, hW⟩
theorem Vy (cf : Nat) (lb : Array Go.Value) (p : Fact → Bool) (hen : ∀ args w, (callFunc cf args).run Tryz.prog w = .ok (.enter cf args) w) (ad : Option Addr) (cp : Nat) (l : List Fact) (w : World) (hE0 : Els w ad 19 Fact.cells l) (hl : l.length ≤ 100000) (hp : ∀ W, Up w W → ∀ x, Ret Tryz.prog cf (#[.agg (Fact.cells x)] ++ lb) W fun r W' => r = .bool (p x) ∧ Up W W') : Ret prog 238 #[.slice ad l.length cp, .func (.func cf) #[] lb] w fun r w' => r = .tuple #[.agg ((l.find? p).getD Ee).cells, .bool (l.find? p).isSome] ∧ Up w w' := by
 obtain ⟨w0, rfl, hS⟩ := W0 w
 refine cT 18 func238 rfl (Af (Al (.Bm zeroValue28) rfl ?_))
 rintro _ w1 ⟨B4, rfl, NB4⟩
 replace hS := hS.Bn NB4
 refine Ay (Ao (Af (Ab rfl (Ab rfl (A3 (eC (.u rfl rfl) (xB)) rfl (Vx cf lb p hen ad cp l _ (Els.up hE0 hS.Cr) hl (fun W u x => hp W (hS.Cr.trans u) x)) ?_)))))
 rintro _ w2 ⟨i, rfl, hi, uw2⟩
 replace hS := hS.up uw2
 refine LW.A rfl (Ao (Aa (Ab rfl (I (.geq (.t rfl) (.const _)) (Ai (CW.b rfl (fun h12 => ?_) (fun h12 => ?_)))))))
 ·replace h12 := dQ h12
  refine Am ?_
  obtain ⟨k, x, rfl, hx, hpx, hn⟩ := hi.resolve_right (fun ⟨e, _⟩ => by omega)
  rw [tU hx hn hpx]
  obtain ⟨Bx, ox, ax, hcx⟩ := (Els.up hE0 hS.Cr) k x hx
  have hkl := (List.getElem?_eq_some_iff.1 hx).1
  refine Aa (Ab rfl (Ab rfl (I (.Av underlying25 sizeOf28 (.t rfl) (.t rfl) oQ ax) (I (.lc rfl (hcx)) (Be (.Bi sizeOf28 rfl (.t rfl) (.t rfl) eQ hS.b0 rfl) ?_)))))
  intro w3 Nw3
  replace hS := hS.Cp 0 rfl Nw3
  refine Ay (Ai (Ak (Ap (Gg rfl rfl rfl isAgg28 sizeOf28 rfl (hS.b0).agg ⟨_, rfl, ?_⟩))))
  exact ⟨rfl, hS.Cr⟩
 replace h12 := dQ h12
 refine Aj (Ac (Am ?_))
 have hn := (hi.resolve_left (fun ⟨k, x, e, _⟩ => by omega)).2
 rw [tV hn]
 refine Aa (Al (.Bm zeroValue28) rfl ?_)
 rintro _ w4 ⟨B7, rfl, NB7⟩
 replace hS := hS.Bn NB7
 refine Ao (Aa (I (.lc rfl (hS.b1.agg)) (Be (.Bi sizeOf28 rfl (.t rfl) (.t rfl) eQ hS.b0 rfl) ?_)))
 intro w5 Nw5
 replace hS := hS.Cp 0 rfl Nw5
 refine Ay (Ai (Ak (Gg rfl rfl rfl isAgg28 sizeOf28 rfl (hS.b0).agg ⟨_, rfl, ?_⟩)))
 exact ⟨rfl, hS.Cr⟩
theorem Xg (f : Fact) (id : Int) (B : Nat) (w : World) (hB : Blk w B #[vi id] 3) : Ret prog 239 #[.agg f.cells, .pointer (some ⟨B, 0, none⟩)] w fun r w' => r = .bool (decide (f.ID = id)) ∧ Up w w' := by
 have hW := Up.refl w
 obtain ⟨w0, rfl, _⟩ := W0 w
 refine cT 8 func239 rfl (Af (Al (.bA rfl) rfl ?_))
 rintro _ w1 ⟨B2, rfl, NB2⟩
 replace hW := hW.up NB2.up
 have hB2 := NB2.blk
 refine Ay (Ao (Aa (I (.fB 1 rfl) (I (.lb rfl (hB2.Ah rfl)) (I (.lb rfl ((hB.up hW).Ah rfl)) (I (.eql (.t rfl) (.t rfl)) (LW.A rfl (Ai (Ak (KW.q ?_))))))))))
 exact ⟨rfl, hW⟩
theorem Lr (bc : Array Go.Value) (b : Base) (id : Int) (w : World) (hC : BaseC w bc b) (hl : b.Processes.length ≤ 100000) : Ret prog 119 #[.agg bc, vi id] w fun r w' => r = .tuple #[.agg ((Eo b id).getD Ee).cells, .bool (Eo b id).isSome] ∧ Up w w' := by
 obtain ⟨w0, rfl, hS⟩ := W0 w
 obtain ⟨v0, h0, hr0⟩ := hC.JY
 obtain ⟨ad, cp, rfl, hE0⟩ := hr0
 refine cT 12 func119 rfl (Af (Al (.bA rfl) rfl ?_))
 rintro _ w1 ⟨B2, rfl, NB2⟩
 replace hS := hS.Bn NB2
 refine Al (.Pc (.t rfl) rfl) rfl ?_
 rintro _ w2 ⟨B3, rfl, NB3⟩
 replace hS := hS.Bn NB3
 refine Al (.Bm zeroValue28) rfl ?_
 rintro _ w3 ⟨B4, rfl, NB4⟩
 replace hS := hS.Bn NB4
 refine Ay (Ao (Aa (I (.fB 0 rfl) (I (.lb rfl (hS.b0.cell h0)) (I (.makeFunc (.cu rfl)) (A3 (eC (.u rfl rfl) (xG)) rfl (Vy 239 #[.pointer (some ⟨B3, 0, none⟩)] (fun f => decide (f.ID = id)) FA ad cp b.Processes _ (Els.up hE0 hS.Cr) hl (fun W u x => Xg x id B3 W (hS.b1.up u))) ?_))))))
 rintro _ w4 ⟨rfl, uw4⟩
 replace hS := hS.up uw4
 refine I (.xt rfl rfl) (I (.xt rfl rfl) (Be (.Bi sizeOf28 rfl (.t rfl) (.t rfl) eQ hS.b2 rfl) ?_))
 intro w5 Nw5
 replace hS := hS.Cp 2 rfl Nw5
 refine LW.A rfl (Ai (Ak (Gg rfl rfl rfl isAgg28 sizeOf28 rfl (hS.b2).agg ⟨_, rfl, ?_⟩)))
 exact ⟨rfl, hS.Cr⟩
theorem Xh (f : Fact) (id : Int) (B : Nat) (w : World) (hB : Blk w B #[vi id] 3) : Ret prog 385 #[.agg f.cells, .pointer (some ⟨B, 0, none⟩)] w fun r w' => r = .bool (decide (f.ID = id)) ∧ Up w w' := by
 have hW := Up.refl w
 obtain ⟨w0, rfl, _⟩ := W0 w
 refine cT 8 func385 rfl (Af (Al (.bA rfl) rfl ?_))
 rintro _ w1 ⟨B2, rfl, NB2⟩
 replace hW := hW.up NB2.up
 have hB2 := NB2.blk
 refine Ay (Ao (Aa (I (.fB 1 rfl) (I (.lb rfl (hB2.Ah rfl)) (I (.lb rfl ((hB.up hW).Ah rfl)) (I (.eql (.t rfl) (.t rfl)) (LW.A rfl (Ai (Ak (KW.q ?_))))))))))
 exact ⟨rfl, hW⟩
theorem Zh (bc : Array Go.Value) (b : Base) (id : Int) (w : World) (hC : BaseC w bc b) (hl : b.Measures.length ≤ 100000) : Ret prog 367 #[.agg bc, vi id] w fun r w' => r = .tuple #[.agg ((oL b id).getD Ee).cells, .bool (oL b id).isSome] ∧ Up w w' := by
 obtain ⟨w0, rfl, hS⟩ := W0 w
 obtain ⟨v1, h1, hr1⟩ := hC.KE
 obtain ⟨ad, cp, rfl, hE0⟩ := hr1
 refine cT 12 func367 rfl (Af (Al (.bA rfl) rfl ?_))
 rintro _ w1 ⟨B2, rfl, NB2⟩
 replace hS := hS.Bn NB2
 refine Al (.Pc (.t rfl) rfl) rfl ?_
 rintro _ w2 ⟨B3, rfl, NB3⟩
 replace hS := hS.Bn NB3
 refine Al (.Bm zeroValue28) rfl ?_
 rintro _ w3 ⟨B4, rfl, NB4⟩
 replace hS := hS.Bn NB4
 refine Ay (Ao (Aa (I (.fB 1 rfl) (I (.lb rfl (hS.b0.cell h1)) (I (.makeFunc (.cu rfl)) (A3 (eC (.u rfl rfl) (xG)) rfl (Vy 385 #[.pointer (some ⟨B3, 0, none⟩)] (fun f => decide (f.ID = id)) GV ad cp b.Measures _ (Els.up hE0 hS.Cr) hl (fun W u x => Xh x id B3 W (hS.b1.up u))) ?_))))))
 rintro _ w4 ⟨rfl, uw4⟩
 replace hS := hS.up uw4
 refine I (.xt rfl rfl) (I (.xt rfl rfl) (Be (.Bi sizeOf28 rfl (.t rfl) (.t rfl) eQ hS.b2 rfl) ?_))
 intro w5 Nw5
 replace hS := hS.Cp 2 rfl Nw5
 refine LW.A rfl (Ai (Ak (Gg rfl rfl rfl isAgg28 sizeOf28 rfl (hS.b2).agg ⟨_, rfl, ?_⟩)))
 exact ⟨rfl, hS.Cr⟩
theorem kH (f : Fact) (w : World) : Ret prog 365 #[.agg f.cells] w fun r w' => r = .agg #[vi (runK f).1, vi (runK f).2] ∧ Up w w' := by
 have hW := Up.refl w
 obtain ⟨w0, rfl, _⟩ := W0 w
 refine cT 8 func365 rfl (Af (Al (.bA rfl) rfl ?_))
 rintro _ w1 ⟨B1, rfl, NB1⟩
 have eB1 := NB1.at_
 have zB1 := NB1.size
 replace hW := hW.up NB1.up
 have hB1 := NB1.blk
 refine Al (.Bm zeroValue157) rfl ?_
 rintro _ w2 ⟨B2, rfl, NB2⟩
 have eB2 := NB2.at_
 replace hW := hW.up NB2.up
 replace hB1 := hB1.up NB2.up
 have hB2 := NB2.blk
 refine Ao (Aa (I (.fB 5 rfl) (I (.lb rfl (hB1.Ah rfl)) (I (.fB 1 rfl) (I (.lb rfl (hB1.Ah rfl)) (I (.J9 (cs := #[vi f.Time, vi f.ID]) underlying157 zeroValue157 sizeOf3 (.ct rfl (.cu rfl)) rfl) (Be (.Bi sizeOf157 rfl (.t rfl) (.t rfl) eQ hB2 rfl) ?_)))))))
 intro w3 Nw3
 replace hW := hW.sto Nw3.sto oQ
 replace hB1 := hB1.sto Nw3.sto oQ
 replace hB2 := Nw3.blk
 refine Ai (Ak (E0 rfl rfl isAgg157 sizeOf157 rfl (hB2.agg) ⟨_, rfl, ?_⟩))
 exact ⟨rfl, hW⟩
theorem oY (bc : Array Go.Value) (b : Base) (t c : Int) (w : World) (hC : BaseC w bc b) (hl : b.Processes.length ≤ 100000) : Ret prog 302 #[.agg bc, vi t, vi c] w fun r w' => OwnS w' 0 28 19 Fact.cells r (S9 b t c) ∧ Up w w' := by
 obtain ⟨w0, rfl, hS⟩ := W0 w
 obtain ⟨v0, h0, hr0⟩ := hC.JY
 obtain ⟨ad, cp, rfl, hE0⟩ := hr0
 refine cT 35 func302 rfl (Af (Al (.bA rfl) rfl ?_))
 rintro _ w1 ⟨B3, rfl, NB3⟩
 replace hS := hS.Bn NB3
 refine Ay (Ao (Aa (Ay (Ao (Am ?_)))))
 replace hS := hS.add (Up.refl _) (A' := J 28 19 Fact.cells (.slice none 0 0) ([] : List Fact)) (OwnS.nil _ _ _ _ _) (fun i h => by cases h)
 refine Aa (I (.fB 0 rfl) (I (.lb rfl (hS.b0.cell h0)) (I (.Di underlying25 (.t rfl)) (I (.move (.const _)) (Ai (An (A8 (σ := Nat × Go.Value) (fun s w => (s.1 ≤ b.Processes.length) ∧ (Wx.Sep no w0 w [Cc B3 (bc) 50, J 28 19 Fact.cells s.2 ((b.Processes.take s.1).filter (Lm t c))])) (fun s => [(13, .eq (vi (s.1 : Int))), (7, .eq (s.2))]) ([(1, .eq _), (2, .eq _), (6, .eq _), (11, .eq _), (12, .eq _)]) (fun s => b.Processes.length - s.1) (0, .slice none 0 0) ?_ tQ ?_)))))))
 ·exact ⟨Nat.zero_le _, hS⟩
 rintro ⟨k, v⟩ w2 ⟨hk, hS⟩
 dsimp only at hk hS
 change CW _ _ _ _ _ _ _ ([(13, .eq (vi (k : Int))), (7, .eq (v))] ++ _) _
 refine Af (I (.l2 rfl rfl) (Ao (CW.b rfl (fun h14 => ?_) (fun h14 => ?_))))
 ·replace h14 := dQ h14
  refine Aj (Ac (Am (An (Am ?_))))
  have hE := Els.up hE0 hS.Cr
  have hfl := Ov (Lm t c) b.Processes k
  refine Aa ?_
  obtain ⟨x, hx⟩ := Au (xs := b.Processes) (i := k) oQ
  obtain ⟨Bx, ox, ax, hcx⟩ := hE _ x hx
  refine I (.Av underlying25 sizeOf28 (.t rfl) (.t rfl) oQ ax) (I (.lc rfl (hcx)) (Al (.Bm zeroValue28) rfl ?_))
  rintro _ w3 ⟨B9, rfl, MB9⟩
  refine Be (.Bi sizeOf28 rfl (.t rfl) (.t rfl) eQ MB9.blk rfl) ?_
  intro w4 LB9
  have NB9 := MB9.set LB9
  replace hcx := hcx.up NB9.up
  replace hS := hS.Bn NB9
  refine Ao (Aa (I (.fB 11 rfl) (I (.lb rfl (hS.b2.Ah rfl)) (Ab rfl (I (.eql (.t rfl) (.t rfl)) (Ab rfl (LW.gr rfl (fun hc => PEv.fB 12 rfl) (LW.gr rfl (fun hc => PEv.load isAgg3 vQ (hS.b2.Ah rfl)) (Fk rfl rfl (LW.gr rfl (fun hc => PEv.eql vQ vQ) (I (.pa rfl (fun hp => (by exact .cond rfl (by simp_all)))) (Ai (CW.b rfl (fun h26 => ?_) (fun h26 => ?_))))))))))))))
  ·replace h26 := dQ h26
   refine Aa (Ab rfl (I (.lc rfl (hS.b2.agg)) (Al (.buildSlice (xs := [x]) (enc := Fact.cells) (mk := fun f : Fact => .agg f.cells) underlying25 sizeOf28 zeroValue28 rfl cQ (fun _ => rfl) (fun _ => rfl) (.cu rfl) rfl) rfl ?_)))
   rintro _ w5 ⟨B29, cB29, rfl, NB29, yB29, xB29⟩
   replace hS := hS.up NB29.up
   have hE29 := xB29
   refine Al (.C2 (enc := Fact.cells) (bytes := 160) (i := Tryz.t28) underlying25 kQ rfl rfl rfl rfl cQ (fun _ => rfl) Fact.one (.t rfl) (.t rfl) (hS.own 1 rfl) (Aw hE29) (by simp only [List.length_cons, List.length_nil, maxLen]; omega) (by simp only [List.length_cons, List.length_nil]; omega)) rfl ?_
   intro v30 w6 Gw6
   replace hS := hS.Ez 1 rfl Gw6
   refine LW.A rfl (LW.nil (Ae (Ac (Aa (I (.ic rfl oQ) (Ab rfl (LW.nil (Ar ?_))))))))
   exact ⟨(k + 1, v30), ⟨by show k + 1 ≤ _; omega, by (rw [oM hx (show Lm t c x = true from h26)]; exact hS.take 2)⟩, tQ, by show b.Processes.length - (k + 1) < b.Processes.length - k; omega⟩
  replace h26 := dQ h26
  refine Aj (Ae (Ac (Aa (I (.ic rfl oQ) (Ab rfl (LW.nil (Ar ?_)))))))
  exact ⟨(k + 1, v), ⟨by show k + 1 ≤ _; omega, by (rw [xZ hx (show Lm t c x = false from h26)]; exact hS.take 2)⟩, tQ, by show b.Processes.length - (k + 1) < b.Processes.length - k; omega⟩
 replace h14 := dQ h14
 refine Bl (Ad (Ad (Aq (Ac (Af (Ab rfl (A3 (eC (.ct rfl (.cons (.func _) .nil)) (CC)) rfl (Sr 365 runK GK (fun W x => kH x W) v _ _ (hS.own 1 rfl) (by have := Ov (Lm t c) b.Processes k; omega)) ?_)))))))
 rintro _ w7 ⟨rfl, uw7⟩
 replace hS := hS.Ez 1 rfl uw7
 refine Ao (Aa (Ab rfl (LW.A rfl (Ai (Ak (KW.q ?_))))))
 have hkl : k = b.Processes.length := by omega
 rw [hkl, List.take_length] at hS
 exact ⟨hS.own 1 rfl, hS.Cr⟩
theorem Ox (n d : Int) (w : World) (hn : J1 n) (hd : 0 < d) (hdi : J1 d) : Ret prog 122 #[vi n, vi d] w fun r w' => r = .tuple #[.agg (La n d).1.cells, vi (La n d).2] ∧ Up w w' := by
 obtain ⟨w0, rfl, hS⟩ := W0 w
 refine cT 46 func122 rfl (Af (Al (.Bm zeroValue39) rfl ?_))
 rintro _ w1 ⟨B4, rfl, NB4⟩
 replace hS := hS.Bn NB4
 refine Ay (Ao (Af (Ab rfl (I (.fa (PEv.eql (.t rfl) (.const _)) (decide_eq_false oQ)) (Ai (CW.f rfl (Aj (Ac (Af (Ab rfl (A3 (eC (.o rfl) (Rw)) rfl (Kp n _ hn) ?_)))))))))))
 rintro _ w2 ⟨rfl, uw2⟩
 replace hS := hS.up uw2
 refine Ab rfl (A3 (eC (.o rfl) (Rw)) rfl (Kp d _ hdi) ?_)
 rintro _ w3 ⟨rfl, uw3⟩
 replace hS := hS.up uw3
 refine A3 (eC (.u rfl rfl) (xH)) rfl (fM n.natAbs d.natAbs _) ?_
 rintro _ w4 ⟨rfl, uw4⟩
 replace hS := hS.up uw4
 refine LW.A rfl (Ao (C5 kQ kQ rfl rfl (U (.mv rfl) (HW.c (fun a w _ ha => Ci (.cu rfl) (Rw) a ha) rfl rfl (fun w hu => Kp n w hn) (U (.mv rfl) (U (.vl (v' := vu (n.natAbs / Dr n d)) (PEv.quo (.t rfl) (.t rfl) (by have := Lg (n := n) hd; unfold Dr at this; omega)) (HB _ _ (by have h1 := hn.1; have h2 := hn.2; omega))) (U (.mv rfl) (HW.c (fun a w _ ha => Ci (.cu rfl) (Rw) a ha) rfl rfl (fun w hu => Kp d w hdi) (U (.mv rfl) (U (.vl (v' := vu (d.natAbs / Dr n d)) (PEv.quo (.t rfl) (.t rfl) (by have := Lg (n := n) hd; unfold Dr at this; omega)) (HB _ _ (by have h1 := hdi.1; have h2 := hdi.2; omega))) (U (.assign (.t rfl)) (U (.assign (.t rfl)) (HW.nil ?_)))))))))))))
 intro w5 uw5
 replace hS := hS.up uw5
 refine Ac (Am (Af (Ab rfl (Ab rfl (I (.HC (.t rfl) (.t rfl)) (I (.gtr (.t rfl) (.const _)) (Ai (CW.b rfl (fun h29 => ?_) (fun h29 => ?_)))))))))
 ·replace h29 := dQ h29
  have hmx := mX h29
  refine Af (I (.build (cs := HA.cells) underlying39 zeroValue39 Hs .nil rfl) (Be (.Bi sizeOf39 rfl (.t rfl) (.t rfl) (Rt.one _) hS.b0 rfl) ?_))
  intro w6 Nw6
  replace hS := hS.Cp 0 rfl (show Set_ _ w6 _ (HA.cells) _ from Nw6)
  refine Ay (Ai (Ak (Ap (Gg rfl rfl rfl isAgg39 sizeOf39 rfl (hS.b0).agg ⟨_, rfl, ?_⟩))))
  exact ⟨by rw [yX hmx], hS.Cr⟩
 replace h29 := dQ h29
 have hmx := sN h29
 refine Aj (Ac (Af (Ab rfl (I (.vl (v' := vi ((n.natAbs / Dr n d : Nat) : Int)) (PEv.conv (k' := .i64) (by rw [underlying277]; rfl) underlying3 (.t rfl)) (xV hmx.1)) (Ab rfl (I (.vl (v' := vi ((d.natAbs / Dr n d : Nat) : Int)) (PEv.conv (k' := .i64) (by rw [underlying277]; rfl) underlying3 (.t rfl)) (xV hmx.2)) (I (.build (cs := (Rt.mk ((n.natAbs / Dr n d : Nat) : Int) ((d.natAbs / Dr n d : Nat) : Int)).cells) underlying39 zeroValue39 Hs (.ct rfl (.cu rfl)) rfl) (Al (.Bm zeroValue39) rfl ?_))))))))
 rintro _ w7 ⟨B9, rfl, MB9⟩
 refine Be (.Bi sizeOf39 rfl (.t rfl) (.t rfl) (Rt.one _) MB9.blk rfl) ?_
 intro w8 LB9
 have NB9 := MB9.set LB9
 replace hS := hS.Bn NB9
 refine Ao (Af (Ab rfl (I (.lss (.t rfl) (.const _)) (Ab rfl (I (.fa (PEv.lss (.t rfl) (.const _)) (decide_eq_false oQ)) (I (.rY underlying4 (.t rfl) (.t rfl)) (Ai (CW.b rfl (fun h40 => ?_) (fun h40 => ?_)))))))))
 ·have hng : n < 0 := by revert h40; by_cases h : n < 0 <;> simp [h]
  refine Aa (I (.fB 0 rfl) (I (.lb rfl (hS.b1.Ah rfl)) (I (.vl (v' := vi (-((n.natAbs / Dr n d : Nat) : Int))) (PEv.neg underlying3 (.t rfl)) (congrArg (Go.Value.int .i64) (JJ hmx.1))) (I (.fB 0 rfl) (Be (.store sizeOf3 (.t rfl) (.t rfl) rfl hS.b1 bQ) ?_)))))
  intro w9 Nw9
  replace hS := hS.Cp 1 rfl (show Set_ _ w9 _ ((Rt.mk (-((n.natAbs / Dr n d : Nat) : Int)) ((d.natAbs / Dr n d : Nat) : Int)).cells) _ from Nw9)
  refine Ao (Aa (I (.lc rfl (hS.b1.agg)) (Be (.Bi sizeOf39 rfl (.t rfl) (.t rfl) (Rt.one _) hS.b0 rfl) ?_)))
  intro w10 Nw10
  replace hS := hS.Cp 0 rfl Nw10
  refine Ay (Ai (Ak (Gg rfl rfl rfl isAgg39 sizeOf39 rfl (hS.b0).agg ⟨_, rfl, ?_⟩)))
  exact ⟨by rw [sO hmx hng], hS.Cr⟩
 have hng : ¬ n < 0 := by revert h40; by_cases h : n < 0 <;> simp [h]
 refine Aj (Ac (Af (I (.lc rfl (hS.b1.agg)) (Be (.Bi sizeOf39 rfl (.t rfl) (.t rfl) (Rt.one _) hS.b0 rfl) ?_))))
 intro w11 Nw11
 replace hS := hS.Cp 0 rfl Nw11
 refine Ay (Ai (Ak (Gg rfl rfl rfl isAgg39 sizeOf39 rfl (hS.b0).agg ⟨_, rfl, ?_⟩)))
 exact ⟨by rw [sP hmx hng], hS.Cr⟩
theorem Hl (a : Rt) (w : World) (h : a.ok) : Ret prog 255 #[.agg a.cells] w fun r w' => r = .bool true ∧ Up w w' := by
 have hW := Up.refl w
 refine cT 27 func255 rfl (Af (Al (.bA rfl) rfl ?_))
 rintro _ w1 ⟨B1, rfl, NB1⟩
 replace hW := hW.up NB1.up
 have hB1 := NB1.blk
 refine Ay (Ao (C5 kQ kQ rfl rfl (U (.fB 1 rfl) (U (.lb rfl (hB1.Ah rfl)) (U (.tr (PEv.gtr (.t rfl) (.const _)) (decide_eq_true h.pos)) (U (.mv rfl) (A6 (.fB 1 rfl) (A6 (.lb rfl (hB1.Ah rfl)) (A6 (.tr (PEv.leq (.t rfl) (.const _)) (decide_eq_true h.den)) (U (.pa rfl (fun hp => (by exact .tmp rfl))) (U (.mv rfl) (A6 (.fB 0 rfl) (A6 (.lb rfl (hB1.Ah rfl)) (U4 rfl rfl rfl rfl rfl (fun a w _ ha => Ci (.cu rfl) (Rw) a ha) rfl (fun w hu => Kp a.n w h.nI) (A6 (.tr (PEv.leq (.t rfl) (.const _)) (decide_eq_true (by have := h.num; omega))) (U (.pa rfl (fun hp => (by exact .tmp rfl))) (U (.mv rfl) (A6 (.fB 0 rfl) (A6 (.lb rfl (hB1.Ah rfl)) (U4 rfl rfl rfl rfl rfl (fun a w _ ha => Ci (.cu rfl) (Rw) a ha) rfl (fun w hu => Kp a.n w h.nI) (A6 (.fB 1 rfl) (A6 (.lb rfl (hB1.Ah rfl)) (U4 rfl rfl rfl rfl rfl (fun a w _ ha => Ci (.cu rfl) (Rw) a ha) rfl (fun w hu => Kp a.d w h.dI) (U4 rfl rfl rfl rfl rfl (fun a w _ ha => Ci (.ct rfl (.cu rfl)) (xH) a ha) rfl (fun w hu => fM a.n.natAbs a.d.natAbs w) (A6 (.tr (PEv.eql (.t rfl) (.const _)) (decide_eq_true (by have := h.co; unfold Dr at this; omega))) (U (.pa rfl (fun hp => (by exact .tmp rfl))) (U (.assign (.t rfl)) (HW.nil ?_))))))))))))))))))))))))))))
 intro w2 uw2
 replace hW := hW.up uw2
 replace hB1 := hB1.up uw2
 refine Ac (Ak (KW.q ?_))
 exact ⟨rfl, hW⟩
theorem Xi (a : Rt) (w : World) (h : a.ok) : Ret prog 127 #[.agg a.cells] w fun r w' => r = .agg a.cells ∧ Up w w' := by
 obtain ⟨w0, rfl, hS⟩ := W0 w
 refine cT 12 func127 rfl (Af (Al (.bA rfl) rfl ?_))
 rintro _ w1 ⟨B1, rfl, NB1⟩
 replace hS := hS.Bn NB1
 refine Al (.Bm zeroValue246) rfl ?_
 rintro _ w2 ⟨B2, rfl, NB2⟩
 replace hS := hS.Bn NB2
 refine Ao (Af (I (.lc rfl (hS.b0.agg)) (A3 (eC (.o rfl) (U7)) rfl (Hl a _ h) ?_)))
 rintro _ w3 ⟨rfl, uw3⟩
 replace hS := hS.up uw3
 refine I (.n1 rfl) (Ai (CW.f rfl (Aj (Ac (Af (I (.fB 0 rfl) (I (.lb rfl (hS.b0.Ah rfl)) (I (.fB 1 rfl) (I (.lb rfl (hS.b0.Ah rfl)) (I (.build (cs := a.cells) underlying246 zeroValue246 R1 (.ct rfl (.cu rfl)) rfl) (Be (.Bi sizeOf246 rfl (.t rfl) (.t rfl) (Rt.one _) hS.b1 rfl) ?_)))))))))))
 intro w4 Nw4
 replace hS := hS.Cp 1 rfl Nw4
 refine Ai (Ak (E0 rfl rfl isAgg246 sizeOf246 rfl (hS.b1.agg) ⟨_, rfl, ?_⟩))
 exact ⟨rfl, hS.Cr⟩
theorem gJ (cf : Nat) (lb : Array Go.Value) (hen : ∀ args w, (callFunc cf args).run Tryz.prog w = .ok (.enter cf args) w) (n d : Int) (w : World) (hn : J1 n) (hd : 0 < d) (hdi : J1 d) (hp : ∀ W, Up w W → Ret Tryz.prog cf (#[] ++ lb) W fun r W' => r = .tuple #[vi n, vi d] ∧ Up W W') : Ret prog 125 #[.func (.func cf) #[] lb] w fun r w' => r = .tuple #[.agg (La n d).1.cells, vi (La n d).2] ∧ Up w w' := by
 obtain ⟨w0, rfl, hS⟩ := W0 w
 refine N6 (n := 12) (m := 9) func125 rfl rfl rfl (Af (Al (.Bm zeroValue39) rfl ?_))
 rintro _ w1 ⟨B2, rfl, NB2⟩
 replace hS := hS.Bn NB2
 refine Al (.H6 zeroValue40 rfl) rfl ?_
 rintro _ w2 ⟨B3, rfl, NB3⟩
 replace hS := hS.Bn NB3
 refine Ao (Aa (I (.makeFunc (.ct rfl (.cu rfl))) (U8 (.t rfl) (Ao (Aa (Ab rfl (A3 (Cs (.t rfl) .nil (hen)) rfl (hp _ hS.Cr) ?_)))))))
 rintro _ w3 ⟨rfl, uw3⟩
 replace hS := hS.up uw3
 refine I (.xt rfl rfl) (I (.xt rfl rfl) (A3 (eC (.u rfl rfl) (eN)) rfl (Ox n d _ hn hd hdi) ?_))
 rintro _ w4 ⟨rfl, uw4⟩
 replace hS := hS.up uw4
 refine I (.xt rfl rfl) (I (.xt rfl rfl) (Be (.Bi sizeOf39 rfl (.t rfl) (.t rfl) (Rt.one _) hS.b0 rfl) ?_))
 intro w5 Nw5
 replace hS := hS.Cp 0 rfl (show Set_ _ w5 _ ((La n d).1.cells) _ from Nw5)
 refine Be (.store sizeOf40 (.t rfl) (.t rfl) rfl hS.b1 bQ) ?_
 intro w6 Nw6
 replace hS := hS.Cp 1 rfl Nw6
 refine Ai (Ak (eX (f := 253) (args := #[.pointer (some ⟨B2, 0, none⟩), .pointer (some ⟨B3, 0, none⟩)]) (by exact (FB _ _)) rfl (mZ B2 B3 _) (fun w9 u9 => ?_)))
 replace hS := hS.up u9
 refine Xx rfl rfl rfl isAgg39 sizeOf39 rfl hS.b0.agg isAgg40 (hS.b1.Ah rfl) ⟨_, rfl, ?_⟩
 exact ⟨rfl, hS.Cr⟩
theorem oZ (Ba Bb : Nat) (a b : Rt) (w : World) (hBa : Blk w Ba a.cells 39) (hBb : Blk w Bb b.cells 39) (ha : a.ok) (hb : b.ok) : Ret prog 126 #[.pointer (some ⟨Ba, 0, none⟩), .pointer (some ⟨Bb, 0, none⟩)] w fun r w' => r = .tuple #[vi (addN a b), vi (a.d * b.d)] ∧ Up w w' := by
 have hW := Up.refl w
 refine cT 26 func126 rfl (Af (Ay (Ay (Ao (CW.vars 8 [⟨4, 6, 1, 4, 7⟩, ⟨5, 7, 3, 5, 9⟩] #[vi 0, vi 0] [.eq (.agg (Rt.cells a)), .eq (.agg (Rt.cells a)), .eq (.agg (Rt.cells b)), .eq (.agg (Rt.cells b)), .pred fun v _ => ∃ B, v = .pointer (some ⟨B, 0, none⟩), .pred fun v _ => ∃ B, v = .pointer (some ⟨B, 0, none⟩), .eq undef, .eq undef] [4, 5] zeroValue246 sizeOf246 kQ rfl kQ kQ kQ kQ kQ kQ kQ kQ cQ kQ kQ ?_ ?_ ⟨PhT.eq _ _, PhT.eq _ _, PhT.eq _ _, PhT.eq _ _, PhT.pred fun _ _ _ h _ => h, PhT.pred fun _ _ _ h _ => h, PhT.eq _ _, PhT.eq _ _, trivial⟩ ?_ ?_ ?_ ?_ ?_)))))
 ·intro v hv; simp only [List.mem_cons, List.mem_nil_iff, or_false] at hv; rcases hv with rfl | rfl <;> exact ⟨_, _, _, rfl⟩
 ·intro v hv; simp only [List.mem_cons, List.mem_nil_iff, or_false] at hv; rcases hv with rfl | rfl <;> exact ⟨_, _, _, rfl⟩
 ·intro v hv; simp only [List.mem_cons, List.mem_nil_iff, or_false] at hv; rcases hv with rfl | rfl <;> (intro o ho; cases ho; rfl)
 ·intro v hv; simp only [List.mem_cons, List.mem_nil_iff, or_false] at hv; rcases hv with rfl | rfl
  ·exact fun v W h => ⟨_, h, rfl, (fL a).2⟩
  exact fun v W h => ⟨_, h, rfl, (fL b).2⟩
 ·intro v hv; simp only [List.mem_cons, List.mem_nil_iff, or_false] at hv; rcases hv with rfl | rfl <;> exact fun B W => ⟨B, rfl⟩
 ·intro W hK0
  have hK := (Up.drew w).Df.trans hK0
  have hBaW := Blk.Df hBa (T := 246) cQ hK
  have hBbW := Blk.Df hBb (T := 246) cQ hK
  refine aC (.inr ⟨rfl, TU.p (.lc rfl (hBaW.agg)) rfl⟩) (aC (.inr ⟨rfl, TU.c (eC (.o rfl) (mM)) (Xi a _ ha) sQ⟩) (aC (.inr ⟨rfl, TU.p (.lc rfl (hBbW.agg)) rfl⟩) (aC (.inr ⟨rfl, TU.c (eC (.o rfl) (mM)) (Xi b _ hb) sQ⟩) (aC (.inl (by simp)) (aC (.inl (by simp)) (aC (.inl (by simp)) (aC (.inl (by simp)) ?_)))))))
  exact allL.nil
 intro wT g hU0 hbl hpw hg
 have hU := (Up.drew w).trans hU0
 obtain ⟨B4, e4, z4, hB4⟩ := hbl ⟨4, 6, 1, 4, 7⟩ (by simp)
 obtain ⟨B5, e5, z5, hB5⟩ := hbl ⟨5, 7, 3, 5, 9⟩ (by simp)
 have e7 : g 7 = .agg (Rt.cells a) := hg 1 _ 7 cQ rfl rfl
 have e9 : g 9 = .agg (Rt.cells b) := hg 3 _ 9 cQ rfl rfl
 replace e4 : g 4 = .pointer (some ⟨B4, 0, none⟩) := e4
 replace e5 : g 5 = .pointer (some ⟨B5, 0, none⟩) := e5
 change LW _ _ _ _ _ _ _ _ ((4, .eq (g 4)) :: (5, .eq (g 5)) :: _) _
 rw [e4, e5]
 rw [e7] at hB4
 rw [e9] at hB5
 replace hB4 : Blk wT B4 a.cells 246 := hB4
 replace hB5 : Blk wT B5 b.cells 246 := hB5
 replace hW := hW.trans hU
 refine Ao (C5 kQ kQ rfl rfl (U (.fB 0 rfl) (U (.lb rfl (hB4.Ah rfl)) (U (.fB 1 rfl) (U (.lb rfl (hB5.Ah rfl)) (U (.Jj (.t rfl) (.t rfl)) (U (.fB 0 rfl) (U (.lb rfl (hB5.Ah rfl)) (U (.fB 1 rfl) (U (.lb rfl (hB4.Ah rfl)) (U (.Jj (.t rfl) (.t rfl)) (U (.Gr (.t rfl) (.t rfl)) (U (.fB 1 rfl) (U (.lb rfl (hB4.Ah rfl)) (U (.fB 1 rfl) (U (.lb rfl (hB5.Ah rfl)) (U (.Jj (.t rfl) (.t rfl)) (U (.assign (.t rfl)) (U (.assign (.t rfl)) (HW.nil ?_))))))))))))))))))))
 intro w1 uw1
 replace hW := hW.up uw1
 replace hB4 := hB4.up uw1
 replace hB5 := hB5.up uw1
 refine Ac (Ak (Fu rfl rfl rfl ⟨_, rfl, ?_⟩))
 exact ⟨by rw [JI ha hb, KI ha hb], hW⟩
theorem gK (a b : Rt) (w : World) (ha : a.ok) (hb : b.ok) : Ret prog 56 #[.agg a.cells, .agg b.cells] w fun r w' => r = .tuple #[.agg (La (addN a b) (a.d * b.d)).1.cells, vi (La (addN a b) (a.d * b.d)).2] ∧ Up w w' := by
 obtain ⟨w0, rfl, hS⟩ := W0 w
 refine cT 10 func56 rfl (Af (Al (.bA rfl) rfl ?_))
 rintro _ w1 ⟨B2, rfl, NB2⟩
 replace hS := hS.Bn NB2
 refine Al (.bA rfl) rfl ?_
 rintro _ w2 ⟨B3, rfl, NB3⟩
 replace hS := hS.Bn NB3
 refine Al (.Bm zeroValue39) rfl ?_
 rintro _ w3 ⟨B4, rfl, NB4⟩
 replace hS := hS.Bn NB4
 refine Ay (Ao (Aa (I (.makeFunc (.ct rfl (.cu rfl))) (A3 (eC (.o rfl) (wY)) rfl (gJ 126 #[.pointer (some ⟨B2, 0, none⟩), .pointer (some ⟨B3, 0, none⟩)] CO (addN a b) (a.d * b.d) _ (by have h := sR ha hb; exact ⟨by omega, by omega⟩) ((mY ha hb).1) (by have h := mY ha hb; exact ⟨by omega, by omega⟩) (fun W u => oZ B2 B3 a b W (hS.b0.up u) (hS.b1.up u) ha hb)) ?_))))
 rintro _ w4 ⟨rfl, uw4⟩
 replace hS := hS.up uw4
 refine I (.xt rfl rfl) (I (.xt rfl rfl) (Be (.Bi sizeOf39 rfl (.t rfl) (.t rfl) (Rt.one _) hS.b2 rfl) ?_))
 intro w5 Nw5
 replace hS := hS.Cp 2 rfl (show Set_ _ w5 _ ((La (addN a b) (a.d * b.d)).1.cells) _ from Nw5)
 refine LW.A rfl (Ai (Ak (Gg rfl rfl rfl isAgg39 sizeOf39 rfl (hS.b2).agg ⟨_, rfl, ?_⟩)))
 exact ⟨rfl, hS.Cr⟩
theorem Xj (a b : Rt) (w : World) (ha : a.ok) (hb : b.ok) : Ret prog 15 #[.agg a.cells, .agg b.cells] w fun r w' => r = .tuple #[.agg (La (addN a (Rt.mk (-b.n) b.d)) (a.d * b.d)).1.cells, vi (La (addN a (Rt.mk (-b.n) b.d)) (a.d * b.d)).2] ∧ Up w w' := by
 obtain ⟨w0, rfl, hS⟩ := W0 w
 refine cT 16 func15 rfl (Af (Al (.bA rfl) rfl ?_))
 rintro _ w1 ⟨B2, rfl, NB2⟩
 replace hS := hS.Bn NB2
 refine Al (.bA rfl) rfl ?_
 rintro _ w2 ⟨B3, rfl, NB3⟩
 replace hS := hS.Bn NB3
 refine Al (.Bm zeroValue39) rfl ?_
 rintro _ w3 ⟨B4, rfl, NB4⟩
 replace hS := hS.Bn NB4
 refine Ay (Ao (Aa (I (.lc rfl (hS.b0.agg)) (I (.fB 0 rfl) (I (.lb rfl (hS.b1.Ah rfl)) (I (.vl (v' := vi (-b.n)) (PEv.neg underlying3 (.t rfl)) (congrArg (Go.Value.int .i64) (JO hb))) (I (.fB 1 rfl) (I (.lb rfl (hS.b1.Ah rfl)) (I (.build (cs := (Rt.mk (-b.n) b.d).cells) underlying39 zeroValue39 Hs (.ct rfl (.cu rfl)) rfl) (A3 (eC (.u rfl rfl) (CA)) rfl (gK a (Rt.mk (-b.n) b.d) _ ha hb.neg) ?_))))))))))
 rintro _ w4 ⟨rfl, uw4⟩
 replace hS := hS.up uw4
 refine I (.xt rfl rfl) (I (.xt rfl rfl) (Be (.Bi sizeOf39 rfl (.t rfl) (.t rfl) (Rt.one _) hS.b2 rfl) ?_))
 intro w5 Nw5
 replace hS := hS.Cp 2 rfl (show Set_ _ w5 _ ((La (addN a (Rt.mk (-b.n) b.d)) (a.d * b.d)).1.cells) _ from Nw5)
 refine LW.A rfl (Ai (Ak (Gg rfl rfl rfl isAgg39 sizeOf39 rfl (hS.b2).agg ⟨_, rfl, ?_⟩)))
 exact ⟨rfl, hS.Cr⟩
theorem kJ (n d : Int) (w : World) (h : HO n d) : Ret prog 372 #[vi n, vi d] w fun r w' => r = vi (n / d) ∧ Up w w' := by
 have hW := Up.refl w
 refine cT 17 func372 rfl (Af (Ay (Ao (Af (Ab rfl (I (.lss (.t rfl) (.const _)) (Ai (CW.b rfl (fun h6 => ?_) (fun h6 => ?_)))))))))
 ·replace h6 := dQ h6
  have hng := h6
  refine Af (Ab rfl (I (.Xv (.t rfl) (.const _)) (Ab rfl (I (.Xv (.t rfl) (.t rfl)) (Ab rfl (I (.quo (.t rfl) (.t rfl) (by have := h.2.2.1; omega)) (I (.neg underlying3 (.t rfl)) (LW.A rfl (Ai (Ak (Ap (KW.q ?_))))))))))))
  exact ⟨congrArg vi (AG h hng), hW⟩
 replace h6 := dQ h6
 have hng : 0 ≤ n := by omega
 refine Aj (Ac (Af (Ab rfl (Ab rfl (I (.quo (.t rfl) (.t rfl) (by have := h.2.2.1; omega)) (LW.A rfl (Ai (Ak (KW.q ?_)))))))))
 exact ⟨congrArg vi (AH h hng), hW⟩
theorem cI (Ba Bd : Nat) (a : Rt) (d : Int) (w : World) (hBa : Blk w Ba a.cells 39) (hBd : Blk w Bd #[vi d] 3) (ha : a.ok) (hd : 1 ≤ d ∧ d ≤ 1000000) : Ret prog 371 #[.pointer (some ⟨Ba, 0, none⟩), .pointer (some ⟨Bd, 0, none⟩)] w fun r w' => r = .tuple #[vi (Y6 a d), vi d] ∧ Up w w' := by
 have hW := Up.refl w
 refine cT 20 func371 rfl (Af (Ay (Ay (Ao (Aa (I (.lc rfl (hBa.agg)) (A3 (eC (.o rfl) (mM)) rfl (Xi a _ ha) ?_)))))))
 rintro _ w1 ⟨rfl, uw1⟩
 replace hBa := hBa.up uw1
 replace hBd := hBd.up uw1
 replace hW := hW.up uw1
 refine Al (.Bm zeroValue246) rfl ?_
 rintro _ w2 ⟨B4, rfl, MB4⟩
 refine Be (.Bi sizeOf246 rfl (.t rfl) (.t rfl) (Rt.one _) MB4.blk rfl) ?_
 intro w3 LB4
 have NB4 := MB4.set LB4
 replace hBa := hBa.up NB4.up
 replace hBd := hBd.up NB4.up
 replace hW := hW.up NB4.up
 have hB4 := NB4.blk
 refine Ao (C5 kQ kQ rfl rfl (U (.fB 0 rfl) (U (.lb rfl (hB4.Ah rfl)) (U (.Jj (.const _) (.t rfl)) (U (.lb rfl (hBd.Ah rfl)) (U (.Jj (.t rfl) (.t rfl)) (U (.fB 1 rfl) (U (.lb rfl (hB4.Ah rfl)) (U (.vl (v' := vi (oN a d)) (PEv.Gr (.t rfl) (.t rfl)) (congrArg (Go.Value.int .i64) (AI ha hd).1)) (U (.fB 1 rfl) (U (.lb rfl (hB4.Ah rfl)) (U (.vl (v' := vi (2 * a.d)) (PEv.Jj (.const _) (.t rfl)) (congrArg (Go.Value.int .i64) (AI ha hd).2.1)) (HW.c (fun a w _ ha => Ci (.ct rfl (.cu rfl)) (GP) a ha) rfl rfl (fun w hu => kJ (oN a d) (2 * a.d) w (AI ha hd).2.2) (U (.lb rfl (hBd.Ah rfl)) (U (.assign (.t rfl)) (U (.assign (.t rfl)) (HW.nil ?_)))))))))))))))))
 intro w4 uw4
 replace hBa := hBa.up uw4
 replace hBd := hBd.up uw4
 replace hW := hW.up uw4
 replace hB4 := hB4.up uw4
 refine Ac (Ak (Fu rfl rfl rfl ⟨_, rfl, ?_⟩))
 exact ⟨rfl, hW⟩
theorem kK (a : Rt) (d : Int) (w : World) (ha : a.ok) (hd : 1 ≤ d ∧ d ≤ 1000000) : Ret prog 312 #[.agg a.cells, vi d] w fun r w' => r = .tuple #[.agg (La (Y6 a d) d).1.cells, vi (La (Y6 a d) d).2] ∧ Up w w' := by
 obtain ⟨w0, rfl, hS⟩ := W0 w
 refine cT 17 func312 rfl (Af (Al (.bA rfl) rfl ?_))
 rintro _ w1 ⟨B2, rfl, NB2⟩
 replace hS := hS.Bn NB2
 refine Al (.Pc (.t rfl) rfl) rfl ?_
 rintro _ w2 ⟨B3, rfl, NB3⟩
 replace hS := hS.Bn NB3
 refine Al (.Bm zeroValue39) rfl ?_
 rintro _ w3 ⟨B4, rfl, NB4⟩
 replace hS := hS.Bn NB4
 refine Ay (Ao (Af (I (.lb rfl (hS.b1.Ah rfl)) (I (.fa (PEv.lss (.t rfl) (.const _)) (decide_eq_false oQ)) (Ab rfl (Cb (I (.lb rfl (hS.b1.Ah rfl)) (Cb (I (.fa (PEv.gtr (.t rfl) (.const _)) (decide_eq_false oQ)) (I (.po rfl (fun hp => (by exact .tmp rfl))) (Ai (CW.f rfl (Aj (Ac (Af (I (.makeFunc (.ct rfl (.cu rfl))) (A3 (eC (.o rfl) (wY)) rfl (gJ 371 #[.pointer (some ⟨B2, 0, none⟩), .pointer (some ⟨B3, 0, none⟩)] GO (Y6 a d) (d) _ (AJ ha hd) oQ (⟨by omega, by omega⟩) (fun W u => cI B2 B3 a d W (hS.b0.up u) (hS.b1.up u) ha hd)) ?_)))))))))))))))))
 rintro _ w4 ⟨rfl, uw4⟩
 replace hS := hS.up uw4
 refine I (.xt rfl rfl) (I (.xt rfl rfl) (Be (.Bi sizeOf39 rfl (.t rfl) (.t rfl) (Rt.one _) hS.b2 rfl) ?_))
 intro w5 Nw5
 replace hS := hS.Cp 2 rfl (show Set_ _ w5 _ ((La (Y6 a d) d).1.cells) _ from Nw5)
 refine LW.A rfl (Ai (Ak (Gg rfl rfl rfl isAgg39 sizeOf39 rfl (hS.b2).agg ⟨_, rfl, ?_⟩)))
 exact ⟨rfl, hS.Cr⟩
theorem Oy (a b : Rt) (w : World) (ha : a.ok) (hb : b.ok) : Ret prog 370 #[.agg a.cells, .agg b.cells] w fun r w' => r = vi (Mm (a.n * b.d) (b.n * a.d)) ∧ Up w w' := by
 obtain ⟨w0, rfl, hS⟩ := W0 w
 refine cT 24 func370 rfl (Af (Al (.bA rfl) rfl ?_))
 rintro _ w1 ⟨B2, rfl, NB2⟩
 replace hS := hS.Bn NB2
 refine Al (.bA rfl) rfl ?_
 rintro _ w2 ⟨B3, rfl, NB3⟩
 replace hS := hS.Bn NB3
 refine Ay (Ao (Af (I (.lc rfl (hS.b0.agg)) (A3 (eC (.o rfl) (U7)) rfl (Hl a _ ha) ?_))))
 rintro _ w3 ⟨rfl, uw3⟩
 replace hS := hS.up uw3
 refine I (.n1 rfl) (Ab rfl (Cb (I (.lc rfl (hS.b1.agg)) (Cb (A3 (eC (.o rfl) (U7)) rfl (Hl b _ hb) ?_)))))
 rintro _ w4 ⟨rfl, uw4⟩
 replace hS := hS.up uw4
 refine Cb (I (.n1 rfl) (I (.po rfl (fun hp => (by exact .tmp rfl))) (Ai (CW.f rfl (Aj (Ac (Af (I (.fB 0 rfl) (I (.lb rfl (hS.b0.Ah rfl)) (I (.fB 1 rfl) (I (.lb rfl (hS.b1.Ah rfl)) (I (.Jj (.t rfl) (.t rfl)) (I (.fB 0 rfl) (I (.lb rfl (hS.b1.Ah rfl)) (I (.fB 1 rfl) (I (.lb rfl (hS.b0.Ah rfl)) (I (.Jj (.t rfl) (.t rfl)) (A3 (eC (.u rfl rfl) (yR)) rfl (Nh _ _ _) ?_))))))))))))))))))
 rintro _ w5 ⟨rfl, uw5⟩
 replace hS := hS.up uw5
 refine LW.A rfl (Ai (Ak (KW.q ?_)))
 exact ⟨by rw [HQ ha hb, HQ hb ha], hS.Cr⟩
theorem kL (a lo hi : Rt) (w : World) (ha : a.ok) (hlo : lo.ok) (hhi : hi.ok) : Ret prog 311 #[.agg a.cells, .agg lo.cells, .agg hi.cells] w fun r w' => r = .agg (Tb a lo hi).cells ∧ Up w w' := by
 obtain ⟨w0, rfl, hS⟩ := W0 w
 refine cT 31 func311 rfl (Af (Al (.bA rfl) rfl ?_))
 rintro _ w1 ⟨B3, rfl, NB3⟩
 replace hS := hS.Bn NB3
 refine Al (.bA rfl) rfl ?_
 rintro _ w2 ⟨B4, rfl, NB4⟩
 replace hS := hS.Bn NB4
 refine Al (.bA rfl) rfl ?_
 rintro _ w3 ⟨B5, rfl, NB5⟩
 replace hS := hS.Bn NB5
 refine Al (.Bm zeroValue39) rfl ?_
 rintro _ w4 ⟨B6, rfl, NB6⟩
 replace hS := hS.Bn NB6
 refine Ao (An (Am (Af (I (.lc rfl (hS.b0.agg)) (A3 (eC (.o rfl) (U7)) rfl (Hl a _ ha) ?_)))))
 rintro _ w5 ⟨rfl, uw5⟩
 replace hS := hS.up uw5
 refine I (.n1 rfl) (LW.A rfl (Ai (CW.f rfl (Af (I (.lc rfl (hS.b1.agg)) (A3 (eC (.o rfl) (U7)) rfl (Hl lo _ hlo) ?_))))))
 rintro _ w6 ⟨rfl, uw6⟩
 replace hS := hS.up uw6
 refine I (.n1 rfl) (LW.A rfl (Ai (CW.f rfl (Aa (I (.lc rfl (hS.b2.agg)) (A3 (eC (.o rfl) (U7)) rfl (Hl hi _ hhi) ?_))))))
 rintro _ w7 ⟨rfl, uw7⟩
 replace hS := hS.up uw7
 refine I (.n1 rfl) (LW.A rfl (Ai (CW.f rfl (Af (I (.lc rfl (hS.b0.agg)) (I (.lc rfl (hS.b1.agg)) (A3 (eC (.u rfl rfl) (xQ)) rfl (Oy a lo _ ha hlo) ?_)))))))
 rintro _ w8 ⟨rfl, uw8⟩
 replace hS := hS.up uw8
 refine I (.lss (.t rfl) (.const _)) (LW.A rfl (Ai (CW.b rfl (fun h18 => ?_) (fun h18 => ?_))))
 ·replace h18 := dQ h18
  have h1 := h18
  refine Af (I (.lc rfl (hS.b1.agg)) (Be (.Bi sizeOf39 rfl (.t rfl) (.t rfl) (Rt.one _) hS.b3 rfl) ?_))
  intro w9 Nw9
  replace hS := hS.Cp 3 rfl Nw9
  refine Ai (Ak (A9 (Ap (E0 rfl rfl isAgg39 sizeOf39 rfl (hS.b3.agg) ⟨_, rfl, ?_⟩))))
  exact ⟨by unfold Tb; rw [if_pos h1], hS.Cr⟩
 replace h18 := dQ h18
 have h1 := h18
 refine Af (I (.lc rfl (hS.b0.agg)) (I (.lc rfl (hS.b2.agg)) (A3 (eC (.u rfl rfl) (xQ)) rfl (Oy a hi _ ha hhi) ?_)))
 rintro _ w10 ⟨rfl, uw10⟩
 replace hS := hS.up uw10
 refine I (.gtr (.t rfl) (.const _)) (LW.A rfl (Ai (CW.b rfl (fun h24 => ?_) (fun h24 => ?_))))
 ·replace h24 := dQ h24
  have h2 := h24
  refine Af (I (.lc rfl (hS.b2.agg)) (Be (.Bi sizeOf39 rfl (.t rfl) (.t rfl) (Rt.one _) hS.b3 rfl) ?_))
  intro w11 Nw11
  replace hS := hS.Cp 3 rfl Nw11
  refine Ai (Ak (A9 (Ap (E0 rfl rfl isAgg39 sizeOf39 rfl (hS.b3.agg) ⟨_, rfl, ?_⟩))))
  exact ⟨by unfold Tb; rw [if_neg h1, if_pos h2], hS.Cr⟩
 replace h24 := dQ h24
 have h2 := h24
 refine Aj (Ae (Ac (Af (I (.lc rfl (hS.b0.agg)) (Be (.Bi sizeOf39 rfl (.t rfl) (.t rfl) (Rt.one _) hS.b3 rfl) ?_)))))
 intro w12 Nw12
 replace hS := hS.Cp 3 rfl Nw12
 refine Ai (Ak (E0 rfl rfl isAgg39 sizeOf39 rfl (hS.b3.agg) ⟨_, rfl, ?_⟩))
 exact ⟨by unfold Tb; rw [if_neg h1, if_neg h2], hS.Cr⟩
theorem Zi (cf : Nat) (lb : Array Go.Value) (p : Fact → Bool) (hen : ∀ args w, (callFunc cf args).run Tryz.prog w = .ok (.enter cf args) w) (ad : Option Addr) (cp : Nat) (l : List Fact) (w : World) (ho : OwnS w 0 28 19 Fact.cells (.slice ad l.length cp) l) (hl : l.length ≤ 100000) (hp : ∀ W, Fr (J 28 19 Fact.cells (.slice ad l.length cp) (l)).foot w W → ∀ x, Ret Tryz.prog cf (#[.agg (Fact.cells x)] ++ lb) W fun r W' => r = .bool (p x) ∧ Up W W') : Ret prog 363 #[.slice ad l.length cp, .func (.func cf) #[] lb] w fun r w' => Stp (J 28 19 Fact.cells (.slice ad l.length cp) (l)) (J 28 19 Fact.cells (r) (l.filter fun x => !p x)) w w' := by
 obtain ⟨w0, rfl, _⟩ := W0 w
 have hS : Wx.Sep (J 28 19 Fact.cells (.slice ad l.length cp) (l)).foot w0 w0 [J 28 19 Fact.cells (.slice ad l.length cp) (l)] := Sep.cons ho (fun _ h => h) (Sep.start _ _) (by simp)
 refine cT 42 func363 rfl (Af (Ay (Ao (Aa (Ab rfl (Ab rfl (A3 (eC (.u rfl rfl) (xB)) rfl (Vx cf lb p hen ad cp l _ ((hS.own 0 rfl).els (fun _ => rfl)) hl (fun W u x => hp W (hS.fr.trans (u.fr _)) x)) ?_)))))))
 rintro _ w1 ⟨i, rfl, hi, uw1⟩
 replace hS := hS.up uw1
 refine LW.A rfl (Ao (Af (Ab rfl (I (.eql (.t rfl) (.const _)) (Ai (CW.b rfl (fun h12 => ?_) (fun h12 => ?_)))))))
 ·replace h12 := dQ h12
  have hn := (hi.resolve_left (fun ⟨k, x, e, _⟩ => by omega)).2
  refine Af (Ab rfl (LW.A rfl (Ai (Ak (Ap (KW.q ?_))))))
  exact ⟨hS.fr, by rw [cF hn]; exact hS.get 0 rfl, fun _ h => .inl h⟩
 replace h12 := dQ h12
 refine Aj (Ac (Am (Am ?_)))
 obtain ⟨k, x, rfl, hx, hpx, hn⟩ := hi.resolve_right (fun ⟨e, _⟩ => h12 e)
 have hkl := (List.getElem?_eq_some_iff.1 hx).1
 obtain ⟨g, rfl⟩ := (hS.own 0 rfl).KB oQ
 have hD0 := DelX.start hx hpx hn
 have hk0 : k = (Ic p l (k + 1)).length := by rw [Qh hx hpx hn, List.length_take]; omega
 refine Aa (Ab rfl (I (.ic rfl oQ) (LW.A rfl (Ai (An (A8 (σ := Nat × Nat × List Fact) (fun s w => (s.1 ≤ l.length) ∧ (s.2.1 = (Ic p l s.1).length) ∧ (DelX p l s.2.2 s.1) ∧ (Wx.Sep (J 28 19 Fact.cells (.slice (some ⟨g, 0, none⟩) l.length cp) l).foot w0 w [J 28 19 Fact.cells (.slice (some ⟨g, 0, none⟩) l.length cp) s.2.2])) (fun s => [(6, .eq (vi (s.1 : Int))), (5, .eq (vi (s.2.1 : Int)))]) ([(0, .eq _), (1, .eq _), (4, .eq _)]) (fun s => l.length - s.1) (k + 1, k, l) ?_ tQ ?_))))))
 ·exact ⟨by show k + 1 ≤ _; omega, hk0, hD0, hS⟩
 rintro ⟨j, i, M⟩ w2 ⟨hj, hi2, hD, hS⟩
 dsimp only at hj hi2 hD hS
 change CW _ _ _ _ _ _ _ ([(6, .eq (vi (j : Int))), (5, .eq (vi (i : Int)))] ++ _) _
 refine Am (Af (Ab rfl (Ab rfl (I (.Di underlying25 (.t rfl)) (I (.l2 rfl rfl) (Ai (CW.b rfl (fun h19 => ?_) (fun h19 => ?_))))))))
 ·replace h19 := dQ h19
  refine Aj (Ac (Am (An (Am ?_))))
  have hjl : j < l.length := by omega
  obtain ⟨x, hx⟩ := Au (xs := l) (i := j) hjl
  have hxM := (hD.rest j (Nat.le_refl _)).trans hx
  obtain ⟨Bx, ox, ax, hcx⟩ := ((hS.own 0 rfl).els (fun _ => rfl)) j x hxM
  cases ax
  refine Aa (Ab rfl (Ab rfl (I (.Av underlying25 sizeOf28 (.t rfl) (.t rfl) oQ rfl) (I (.lc rfl (hcx)) (Al (.Bm zeroValue28) rfl ?_)))))
  rintro _ w3 ⟨B7, rfl, MB7⟩
  refine Be (.Bi sizeOf28 rfl (.t rfl) (.t rfl) (Fact.one _) MB7.blk rfl) ?_
  intro w4 LB7
  have NB7 := MB7.set LB7
  have eB7 := NB7.at_
  replace hS := hS.Bn NB7
  refine Ao (Aa (Ab rfl (I (.lc rfl (hS.b1.agg)) (A3 (Cs (.t rfl) (.cu rfl) (hen)) rfl (hp _ hS.fr x) ?_))))
  rintro _ w5 ⟨rfl, uw5⟩
  replace hS := hS.up uw5
  refine I (.n1 rfl) (Ai (CW.b rfl (fun h29 => ?_) (fun h29 => ?_)))
  ·replace h29 := dQ h29
   refine Am ?_
   have hkj := Pv p l j
   have hMl := hD.len
   have hpn : p x = false := by simpa using h29
   have hky := Vu hx hpn
   refine Aa (Ab rfl (Ab rfl (I (.lc rfl (hS.b1.agg)) (I (.Av underlying25 sizeOf28 (.t rfl) (.t rfl) oQ rfl) (Be (.Ga (enc := Fact.cells) (k := 19) (z := x) (i := i) sizeOf28 (fun _ => rfl) Fact.one (.t rfl) (.t rfl) (hS.own 0 rfl) oQ) ?_)))))
   intro w6 Gw6
   replace hS := hS.Ez 0 rfl Gw6
   refine Ai (Aa (Ab rfl (I (.ic rfl oQ) (LW.A rfl (LW.nil (Ae (Ac (Aa (Ab rfl (I (.ic rfl oQ) (LW.A rfl (LW.nil (Ar ?_)))))))))))))
   exact ⟨(j + 1, i + 1, M.set i x), ⟨by show j + 1 ≤ _; omega, by show i + 1 = _; rw [hky, hi2]; simp, by show DelX p l (M.set i x) (j + 1); rw [hi2]; exact hD.yes hx hpn, hS.take 1⟩, tQ, by show l.length - (j + 1) < l.length - j; omega⟩
  replace h29 := dQ h29
  refine Aj (Ae (Ac (Aa (Ab rfl (I (.ic rfl oQ) (LW.A rfl (LW.nil (Ar ?_))))))))
  exact ⟨(j + 1, i, M), ⟨by show j + 1 ≤ _; omega, by show i = _; rw [Zb hx (by simpa using h29)]; exact hi2, hD.no hx (by simpa using h29), hS.take 1⟩, tQ, by show l.length - (j + 1) < l.length - j; omega⟩
 replace h19 := dQ h19
 refine Bl (Ad (Ad (Aq (Ac (Am ?_)))))
 have hjl : j = l.length := by omega
 have hkj := Pv p l j
 have hMl := hD.len
 have hcl := (hS.own 0 rfl).KC
 refine Aa (Ab rfl (Ab rfl (I (.sliceFrom underlying25 sizeOf28 (.t rfl) (.t rfl) oQ) (xR (Ur (enc := Fact.cells) (k := 19) underlying25 zeroValue28 rfl (by simp [Value.cells, Value.oneCell']) (fun _ => rfl) (xs := M) (i := i) (by rw [hD.len]; exact .tmp rfl) oQ (by rw [hD.len]; exact hS.own 0 rfl)) rfl rfl rfl ?_))))
 intro v_ w7 Gw7
 rw [hD.len] at Gw7
 replace hS := hS.Ez 0 rfl Gw7
 refine Ao (Aa (Ab rfl (Ab rfl (I (.N9 underlying25 sizeOf28 (.t rfl) (.t rfl) oQ) (LW.A rfl (Ai (Ak (KW.q ?_))))))))
 exact ⟨hS.fr, by rw [← kE, ← hjl, ← hD.kept, ← hi2]; exact hS.get 0 rfl, fun _ h => .inl h⟩
theorem cJ (ad : Option Addr) (cp : Nat) (l : List Fact) (w : World) (hE0 : Els w ad 19 Fact.cells l) (hl : l.length ≤ 100000) : Ret prog 364 #[.slice ad l.length cp] w fun r w' => OwnS w' w.heap.size 28 19 Fact.cells r l ∧ Up w w' := by
 obtain ⟨w0, rfl, hS⟩ := W0 w
 refine cT 8 func364 rfl (Af (Ay (Ao (Af (Ab rfl (I (.gG underlying25 (.t rfl)) (Ai (CW.b rfl (fun h4 => ?_) (fun h4 => ?_)))))))))
 ·have hnil : l = [] := by cases l with | nil => rfl | cons x r => (obtain ⟨B, o, e, _⟩ := hE0 0 x rfl; rw [e] at h4; cases h4)
  refine Af (Ay (Ai (Ak (Ap (KW.q ?_)))))
  (subst hnil; exact ⟨OwnS.nil _ _ _ _ _, hS.Cr⟩)
 refine Aj (Ac (Af (Al (.buildSlice (xs := ([] : List Fact)) (enc := Fact.cells) (mk := fun f => .agg f.cells) underlying25 sizeOf28 zeroValue28 rfl cQ (fun _ => rfl) (fun _ => rfl) .nil rfl) rfl ?_)))
 intro v5 w1 hN5
 obtain ⟨uw1, B5, rfl, hO5⟩ := M5 hN5 (Nat.le_refl _)
 replace hS := hS.add uw1 (A' := J 28 19 Fact.cells (.slice (some ⟨B5, 0, none⟩) 0 0) ([] : List Fact)) (hO5.mono (Nat.zero_le _)) (fun i h => hO5.base i h)
 refine Ab rfl (Al (.C2 (enc := Fact.cells) (bytes := 160) (i := Tryz.t28) underlying25 kQ rfl rfl rfl rfl cQ (fun _ => rfl) Fact.one (.t rfl) (.t rfl) (hS.own 0 rfl) (Aw (Els.up hE0 hS.Cr)) (by simp [maxLen]; omega) (by simp; omega)) rfl ?_)
 intro v7 w2 Gw2
 replace hS := hS.Ez 0 rfl Gw2
 refine LW.A rfl (Ai (Ak (KW.q ?_)))
 exact ⟨(hS.own 0 rfl).I9 (fun i h => (hS.foot 0 rfl i h).resolve_left (fun h => h)), hS.Cr⟩
theorem Lt (a : Rt) (w : World) : Ret prog 309 #[.agg a.cells, vi 0] w fun r w' => r = .agg a.cells ∧ Up w w' := by
 obtain ⟨w0, rfl, hS⟩ := W0 w
 refine cT 9 func309 rfl (Af (Al (.bA rfl) rfl ?_))
 rintro _ w1 ⟨B2, rfl, NB2⟩
 replace hS := hS.Bn NB2
 refine Al (.Bm zeroValue39) rfl ?_
 rintro _ w2 ⟨B4, rfl, NB4⟩
 replace hS := hS.Bn NB4
 refine Ao (Af (Ab rfl (I (.neq (.t rfl) (.const _)) (Ai (CW.f rfl (Aj (Ac (Af (I (.lc rfl (hS.b0.agg)) (Be (.Bi sizeOf39 rfl (.t rfl) (.t rfl) (Rt.one _) hS.b1 rfl) ?_))))))))))
 intro w3 Nw3
 replace hS := hS.Cp 1 rfl Nw3
 refine Ai (Ak (E0 rfl rfl isAgg39 sizeOf39 rfl (hS.b1.agg) ⟨_, rfl, ?_⟩))
 exact ⟨rfl, hS.Cr⟩
theorem L9 (n : Int) (w : World) (hn : n.natAbs ≤ 1000000000) : Ret prog 307 #[vi n] w fun r w' => r = .agg (Bu n 1).cells ∧ Up w w' := by
 obtain ⟨w0, rfl, hS⟩ := W0 w
 refine cT 8 func307 rfl (Af (Al (.Bm zeroValue39) rfl ?_))
 rintro _ w1 ⟨B2, rfl, NB2⟩
 replace hS := hS.Bn NB2
 refine Ao (Aa (Ab rfl (A3 (eC (.ct rfl (.cons (.const _) .nil)) (eN)) rfl (Ox n 1 _ ⟨by omega, by omega⟩ cQ ⟨by decide, by decide⟩) ?_)))
 rintro _ w2 ⟨rfl, uw2⟩
 replace hS := hS.up uw2
 rw [Hy (Hd hn cQ)]
 refine I (.xt rfl rfl) (I (.xt rfl rfl) (A3 (eC (.u rfl rfl) (X3)) rfl (Lt (Bu n 1) _) ?_))
 rintro _ w3 ⟨rfl, uw3⟩
 replace hS := hS.up uw3
 refine Be (.Bi sizeOf39 rfl (.t rfl) (.t rfl) (Rt.one _) hS.b0 rfl) ?_
 intro w4 Nw4
 replace hS := hS.Cp 0 rfl (show Set_ _ w4 _ ((Bu n 1).cells) _ from Nw4)
 refine Ai (Ak (E0 rfl rfl isAgg39 sizeOf39 rfl (hS.b0.agg) ⟨_, rfl, ?_⟩))
 exact ⟨rfl, hS.Cr⟩
theorem Qj (n : Int) (w : World) : Ret prog 368 #[vi n] w fun r w' => r = .bool (Qi n) ∧ Up w w' := by
 have hW := Up.refl w
 refine cT 9 func368 rfl (Af (Ay (Ao (Aa (Ab rfl (I (.geq (.t rfl) (.const _)) (Ab rfl (Fk rfl rfl (LW.gr rfl (fun hc => PEv.leq vQ (.const _)) (I (.pa rfl (fun hp => (by exact .cond rfl (by (rw [hp]; rfl))))) (LW.A rfl (Ai (Ak (KW.q ?_))))))))))))))
 exact ⟨rfl, hW⟩
theorem Zj (w : World) : Ret prog 235 #[Value.nilIface] w fun r w' => r = vi 0 ∧ Up w w' := by
 have hW := Up.refl w
 refine cT 19 func235 rfl (Af (Ay (Ao (Af (Ab rfl (I (.tX underlying20 (.t rfl)) (Ai (CW.v rfl (Af (Ay (Ai (Ak (Ap (KW.q ?_))))))))))))))
 exact ⟨rfl, hW⟩
theorem Qk (bc : Array Go.Value) (b : Base) (t c r time : Int) (w : World) (hC : BaseC w bc b) (hl : b.Targets.length ≤ 100000) : Ret prog 310 #[.agg (E9 bc t c r), vi time] w fun r0 w' => r0 = vi (Fa b.Targets r time) ∧ Up w w' := by
 obtain ⟨w0, rfl, hS⟩ := W0 w
 refine cT 22 func310 rfl (Af (Al (.bA rfl) rfl ?_))
 rintro _ w1 ⟨B2, rfl, NB2⟩
 replace hS := hS.Bn NB2
 refine Ay (Ao (Af (I (.fB 0 rfl) (I (.Gs isAgg50 sizeOf50 (hC.size) (.t rfl) (Lp hS.b0)) (I (.fB 13 rfl) (I (.lb rfl (Iz hS.b0 hC 2 rfl)) (Ab rfl (A3 (eC (.ct rfl (.ct rfl (.cu rfl))) (GN)) rfl (cH bc b r time _ (hC.up hS.Cr) hl) ?_))))))))
 rintro _ w2 ⟨rfl, uw2⟩
 replace hS := hS.up uw2
 refine Ab rfl (I (.xt rfl rfl) (I (.xt rfl rfl) (LW.A rfl (LW.A rfl (Ao (Aa (Ab rfl (Ab rfl (Fk rfl rfl (Rm rfl rfl rfl rfl rfl rfl rfl rfl (fun hc => Ci (.cons vQ .nil) (xP)) (fun hc => Qj (W9 r time b.Targets).1.Value _) ?_))))))))))
 intro w3 uw3
 replace hS := hS.up uw3
 refine I (.pa rfl (fun hp => (by exact .cond rfl (by (rw [hp]; rfl))))) (Ai (CW.b rfl (fun h20 => ?_) (fun h20 => ?_)))
 ·have hv := h20
  refine Af (Ab rfl (LW.A rfl (Ai (Ak (Ap (KW.q ?_))))))
  exact ⟨by rw [Zc (by simpa using hv)], hS.Cr⟩
 have hv := h20
 refine Aj (Ac (Af (Ay (Ai (Ak (KW.q ?_))))))
 exact ⟨by rw [gH (by simpa using hv)], hS.Cr⟩
theorem Us (bc : Array Go.Value) (b : Base) (t c r : Int) (x : Fact) (time : Int) (w : World) (hC : BaseC w bc b) (hlM : b.Measures.length ≤ 100000) (hlT : b.Targets.length ≤ 100000) : Ret prog 308 #[.agg (E9 bc t c r), .agg x.cells, vi time] w fun r0 w' => r0 = .tuple #[vi (Fb b.Measures b.Targets r x time).1, .bool (Fb b.Measures b.Targets r x time).2] ∧ Up w w' := by
 obtain ⟨w0, rfl, hS⟩ := W0 w
 refine cT 39 func308 rfl (Af (Al (.bA rfl) rfl ?_))
 rintro _ w1 ⟨B3, rfl, NB3⟩
 replace hS := hS.Bn NB3
 refine Al (.bA rfl) rfl ?_
 rintro _ w2 ⟨B4, rfl, NB4⟩
 replace hS := hS.Bn NB4
 refine Ay (Ay (Ao (Aa (I (.fB 0 rfl) (I (.Gs isAgg50 sizeOf50 (hC.size) (.t rfl) (Lp hS.b0)) (I (.fB 1 rfl) (I (.lb rfl (hS.b1.Ah rfl)) (A3 (eC (.u rfl rfl) (GM)) rfl (Zh bc b x.ID _ (hC.up hS.Cr) hlM) ?_))))))))
 rintro _ w3 ⟨rfl, uw3⟩
 replace hS := hS.up uw3
 generalize hm : oL b x.ID = m
 refine Ab rfl (I (.xt rfl rfl) (I (.xt rfl rfl) (Al (.Bm zeroValue28) rfl ?_)))
 rintro _ w4 ⟨B8, rfl, MB8⟩
 refine Be (.Bi sizeOf28 rfl (.t rfl) (.t rfl) eQ MB8.blk rfl) ?_
 intro w5 LB8
 have NB8 := MB8.set LB8
 replace hS := hS.Bn NB8
 refine LW.A rfl (Ao (Af (Ab rfl (I (.n1 rfl) (Ab rfl (LW.gr rfl (fun hc => PEv.fB 16 rfl) (LW.gr rfl (fun hc => PEv.load isAgg3 vQ (hS.b2.Ah rfl)) (Rm rfl rfl rfl rfl rfl rfl rfl rfl (fun hc => Ci (.cons vQ .nil) (xP)) (fun hc => Qj (m.getD Ee).Value _) ?_))))))))
 intro w6 uw6
 replace hS := hS.up uw6
 refine LW.gr rfl (fun hc => PEv.not vQ) (I (.po rfl (fun hp => (by exact .cond rfl (by (rw [hp]; rfl))))) (Ab rfl (LW.gr rfl (fun hc => PEv.fB 5 rfl) (LW.gr rfl (fun hc => PEv.load isAgg3 vQ (hS.b2.Ah rfl)) (Fk rfl rfl (LW.gr rfl (fun hc => PEv.gtr vQ vQ) (I (.po rfl (fun hp => (by exact .cond rfl (by (rw [hp]; rfl))))) (Ai (CW.b rfl (fun h31 => ?_) (fun h31 => ?_))))))))))
 ·have hv : Ex m time = true := by simpa [Ex] using h31
  refine Af (Ay (Ay (Ai (Ak (Ap (Fu rfl rfl rfl ⟨_, rfl, ?_⟩))))))
  exact ⟨by subst hm; rw [Rf hv], hS.Cr⟩
 have hv : Ex m time = false := by simpa [Ex] using h31
 refine Aj (Ac (Am ?_))
 have hvi := oU hv
 have hti := Xc b.Targets r x.Time
 refine Ht 7 [.eq (.pointer (some ⟨B8, 16, none⟩)), .eq (vi (m.getD Ee).Value), .eq (.agg (E9 bc t c r)), .eq (.pointer (some ⟨B4, 5, none⟩)), .eq (vi x.Time), .eq (vi (Fa b.Targets r x.Time)), .eq (vi ((m.getD Ee).Value - Fa b.Targets r x.Time))] [38] kQ rfl kQ kQ kQ kQ kQ kQ kQ uQ ?_ ?_
 ·intro W hU0
  have hU := (Up.drew w6).trans hU0
  have hSW := hS.up hU
  refine aC ⟨rfl, TU.p (.fB 16 rfl) rfl⟩ (aC ⟨rfl, TU.p (.lb rfl (hSW.b2.Ah rfl)) rfl⟩ (aC ⟨rfl, TU.p (.Gs isAgg237 sizeOf237 (H4 hC t c r) (.t rfl) hSW.b0.agg) rfl⟩ (aC ⟨rfl, TU.p (.fB 5 rfl) rfl⟩ (aC ⟨rfl, TU.p (.lb rfl (hSW.b1.Ah rfl)) rfl⟩ (aC ⟨rfl, TU.c (eC (.u rfl rfl) (xO)) (Qk bc b t c r x.Time W (hC.up (hS.Cr.trans hU)) hlT) sQ⟩ (aC ⟨rfl, TU.p (.vl (v' := vi ((m.getD Ee).Value - Fa b.Targets r x.Time)) (PEv.Xv (.t rfl) (.t rfl)) (congrArg (Go.Value.int .i64) (Ce oQ oQ))) rfl⟩ ?_))))))
  exact allL.nil
 intro w7 g hU0 hg
 have hU := (Up.drew w6).trans hU0
 replace hS := hS.up hU
 have e38 : g 38 = _ := hg 6 _ 38 cQ rfl rfl
 dsimp only [List.map]
 rw [e38]
 refine LW.A rfl (Ay (Ai (Ak (Fu rfl rfl rfl ⟨_, rfl, ?_⟩))))
 exact ⟨by subst hm; rw [Te hv]; rfl, hS.Cr⟩
theorem cK (x : Fact) (time : Int) (B : Nat) (w : World) (hB : Blk w B #[vi time] 3) : Ret prog 366 #[.agg x.cells, .pointer (some ⟨B, 0, none⟩)] w fun r w' => r = .bool (decide (x.Time ≤ time)) ∧ Up w w' := by
 have hW := Up.refl w
 refine cT 8 func366 rfl (Af (Al (.bA rfl) rfl ?_))
 rintro _ w1 ⟨B2, rfl, NB2⟩
 replace hB := hB.up NB2.up
 replace hW := hW.up NB2.up
 have hB2 := NB2.blk
 refine Ay (Ao (Aa (I (.fB 5 rfl) (I (.lb rfl (hB2.Ah rfl)) (I (.lb rfl (hB.Ah rfl)) (I (.leq (.t rfl) (.t rfl)) (LW.A rfl (Ai (Ak (KW.q ?_))))))))))
 exact ⟨rfl, hW⟩
theorem kM (bc : Array Go.Value) (b : Base) (t c r : Int) (x : Fact) (Bp : Nat) (w0 w : World) (hC : BaseC w0 bc b) (hBp : Blk w Bp (E9 bc t c r) 237) : Ret prog 303 #[.agg x.cells, .pointer (some ⟨Bp, 0, none⟩)] w fun r0 w' => r0 = .bool (decide (x.Recipe = r)) ∧ Up w w' := by
 have hW := Up.refl w
 refine cT 9 func303 rfl (Af (Al (.bA rfl) rfl ?_))
 rintro _ w1 ⟨B2, rfl, NB2⟩
 replace hBp := hBp.up NB2.up
 replace hW := hW.up NB2.up
 have hB2 := NB2.blk
 refine Ay (Ao (Aa (I (.fB 14 rfl) (I (.lb rfl (hB2.Ah rfl)) (I (.fB 13 rfl) (I (.lb rfl (Iz hBp hC 2 rfl)) (I (.eql (.t rfl) (.t rfl)) (LW.A rfl (Ai (Ak (KW.q ?_)))))))))))
 exact ⟨rfl, hW⟩
theorem pA (bc : Array Go.Value) (b : Base) (t c r : Int) (x : Fact) (Bp : Nat) (w0 w : World) (hC : BaseC w0 bc b) (hBp : Blk w Bp (E9 bc t c r) 237) : Ret prog 304 #[.agg x.cells, .pointer (some ⟨Bp, 0, none⟩)] w fun r0 w' => r0 = .bool (decide (x.Tool = t) && decide (x.Chamber = c)) ∧ Up w w' := by
 have hW := Up.refl w
 refine cT 16 func304 rfl (Af (Al (.bA rfl) rfl ?_))
 rintro _ w1 ⟨B2, rfl, NB2⟩
 replace hBp := hBp.up NB2.up
 replace hW := hW.up NB2.up
 have hB2 := NB2.blk
 refine Ay (Ao (Aa (I (.fB 11 rfl) (I (.lb rfl (hB2.Ah rfl)) (I (.fB 11 rfl) (I (.lb rfl (Iz hBp hC 0 rfl)) (I (.eql (.t rfl) (.t rfl)) (Ab rfl (LW.gr rfl (fun hc => PEv.fB 12 rfl) (LW.gr rfl (fun hc => PEv.load isAgg3 vQ (hB2.Ah rfl)) (LW.gr rfl (fun hc => PEv.fB 12 rfl) (LW.gr rfl (fun hc => PEv.load isAgg3 vQ (Iz hBp hC 1 rfl)) (LW.gr rfl (fun hc => PEv.eql vQ vQ) (I (.pa rfl (fun hp => (by exact .cond rfl (by (rw [hp]; rfl))))) (LW.A rfl (Ai (Ak (KW.q ?_))))))))))))))))))
 exact ⟨by simp, hW⟩
theorem kN (x y : Fact) (B : Nat) (w : World) (hB : Blk w B y.cells 28) : Ret prog 306 #[.agg x.cells, .pointer (some ⟨B, 0, none⟩)] w fun r w' => r = .bool (decide (y.Time ≤ x.Time)) ∧ Up w w' := by
 have hW := Up.refl w
 refine cT 9 func306 rfl (Af (Al (.bA rfl) rfl ?_))
 rintro _ w1 ⟨B2, rfl, NB2⟩
 replace hB := hB.up NB2.up
 replace hW := hW.up NB2.up
 have hB2 := NB2.blk
 refine Ay (Ao (Aa (I (.fB 5 rfl) (I (.lb rfl (hB2.Ah rfl)) (I (.fB 5 rfl) (I (.lb rfl (hB.Ah rfl)) (I (.geq (.t rfl) (.t rfl)) (LW.A rfl (Ai (Ak (KW.q ?_)))))))))))
 exact ⟨by rfl, hW⟩
theorem kO (time : Int) (w : World) : Ret prog 305 #[vi time] w fun r w' => CondOk Tryz.prog w' r (fun x => decide (x.Time ≤ time)) ∧ Up w w' := by
 obtain ⟨w0, rfl, hS⟩ := W0 w
 refine cT 4 func305 rfl (Af (Al (.Pc (.t rfl) rfl) rfl ?_))
 rintro _ w1 ⟨B1, rfl, NB1⟩
 replace hS := hS.Bn NB1
 refine Ay (Ao (Aa (I (.makeFunc (.cu rfl)) (LW.A rfl (Ai (Ak (KW.q ?_)))))))
 exact ⟨⟨366, #[.pointer (some ⟨B1, 0, none⟩)], rfl, GL, fun W u x => cK x time B1 W (hS.b0.up u)⟩, hS.Cr⟩
theorem uF (v : Go.Value) (p : Fact → Bool) (x : Fact) (B : Nat) (w : World) (hc : CondOk Tryz.prog w v p) (hB : Blk w B x.cells 28) : Ret prog 362 #[v, .pointer (some ⟨B, 0, none⟩)] w fun r w' => r = .bool (!p x) ∧ Up w w' := by
 have hW := Up.refl w
 obtain ⟨cf, lb, rfl, hen, hp⟩ := hc
 refine cT 8 func362 rfl (Af (Ay (Ao (Aa (Ab rfl (I (.lc rfl (hB.agg)) (A3 (Cs (.t rfl) (.cu rfl) (hen)) rfl (hp _ hW x) ?_)))))))
 rintro _ w1 ⟨rfl, uw1⟩
 replace hB := hB.up uw1
 replace hW := hW.up uw1
 refine I (.n1 rfl) (LW.A rfl (Ai (Ak (KW.q ?_))))
 exact ⟨rfl, hW⟩
theorem cL (cf : Nat) (lb : Array Go.Value) (g : Cnd → Bool) (hen : ∀ args w, (callFunc cf args).run Tryz.prog w = .ok (.enter cf args) w) (ad : Option Addr) (cp : Nat) (l : List Cnd) (w : World) (hE0 : Els w ad 1 Cnd.cells l) (hl : l.length ≤ 100000) (hp : ∀ W, Up w W → ∀ q ∈ l, Ret Tryz.prog cf (#[q.v] ++ lb) W fun r W' => r = .bool (g q) ∧ Up W W') : Ret prog 384 #[.slice ad l.length cp, .func (.func cf) #[] lb] w fun r w' => ∃ i, r = vi i ∧ decide (0 ≤ i) = l.any g ∧ Up w w' := by
 have hW := Up.refl w
 obtain ⟨w0, rfl, _⟩ := W0 w
 refine cT 19 func384 rfl (Af (Ay (Ao (Af (Ab rfl (I (.Di underlying429 (.t rfl)) (I (.move (.const _)) (Ai (An (A8 (σ := Nat) (fun s w => (s ≤ l.length) ∧ (∀ y ∈ l.take s, g y = false) ∧ (Up w0 w)) (fun s => [(8, .eq (vi (s : Int)))]) ([(0, .eq _), (1, .eq _), (7, .eq _)]) (fun s => l.length - s) 0 ?_ tQ ?_))))))))))
 ·exact ⟨Nat.zero_le _, by simp, hW⟩
 rintro k w1 ⟨hk, hn, hW⟩
 refine Af (I (.l2 rfl rfl) (Ao (CW.b rfl (fun h9 => ?_) (fun h9 => ?_))))
 ·replace h9 := dQ h9
  refine Aj (Ac (Am (An (Af (Ab rfl (LW.A rfl (Ao ?_)))))))
  have hE := Els.up hE0 hW
  refine Aa (Ab rfl (Ab rfl (Ab rfl ?_)))
  obtain ⟨x, hx⟩ := Au (xs := l) (i := k) oQ
  obtain ⟨Bx, ox, ax, hcx⟩ := hE _ x hx
  refine I (.Av underlying429 sizeOf143 (.t rfl) (.t rfl) oQ ax) (I (.lb rfl ((hcx 0 _ rfl))) (A3 (Cs (.t rfl) (.cu rfl) (hen)) rfl (hp _ hW x (List.mem_of_getElem? hx)) ?_))
  rintro _ w2 ⟨rfl, uw2⟩
  replace hW := hW.up uw2
  replace hcx := hcx.up uw2
  refine Ai (CW.b rfl (fun h16 => ?_) (fun h16 => ?_))
  ·replace h16 := dQ h16
   refine Af (Ab rfl (LW.A rfl (Ai (Ak (A9 (Ap (Ap (A9 (Ap (KW.q ?_))))))))))
   exact ⟨_, rfl, by rw [AL hx (by simpa using h16)]; exact decide_eq_true oQ, hW⟩
  replace h16 := dQ h16
  refine Aj (Ae (Ac (Aa (I (.ic rfl oQ) (Ab rfl (LW.nil (Ar ?_)))))))
  exact ⟨k + 1, ⟨by omega, kF hx hn (by simpa using h16), hW⟩, tQ, by omega⟩
 replace h9 := dQ h9
 refine Bl (Ad (Ad (Aq (Ac (Af (Ay (Ai (Ak (KW.q ?_)))))))))
 exact ⟨-1, rfl, by rw [any_none (by rw [show k = l.length by omega, List.take_length] at hn; exact hn)]; rfl, hW⟩
theorem Ut (cf : Nat) (lb : Array Go.Value) (g : Cnd → Bool) (hen : ∀ args w, (callFunc cf args).run Tryz.prog w = .ok (.enter cf args) w) (ad : Option Addr) (cp : Nat) (l : List Cnd) (w : World) (hE0 : Els w ad 1 Cnd.cells l) (hl : l.length ≤ 100000) (hp : ∀ W, Up w W → ∀ q ∈ l, Ret Tryz.prog cf (#[q.v] ++ lb) W fun r W' => r = .bool (g q) ∧ Up W W') : Ret prog 361 #[.slice ad l.length cp, .func (.func cf) #[] lb] w fun r w' => r = .bool (l.any g) ∧ Up w w' := by
 have hW := Up.refl w
 obtain ⟨w0, rfl, _⟩ := W0 w
 refine cT 9 func361 rfl (Af (Ay (Ao (Aa (Ab rfl (Ab rfl (A3 (eC (.u rfl rfl) (GU)) rfl (cL cf lb g hen ad cp l _ (Els.up hE0 hW) hl (fun W u q hq => hp W (hW.trans u) q hq)) ?_)))))))
 rintro _ w1 ⟨i, rfl, hi, uw1⟩
 replace hW := hW.up uw1
 refine I (.geq (.t rfl) (.const _)) (LW.A rfl (Ai (Ak (KW.q ?_))))
 exact ⟨by rw [hi], hW⟩
theorem pB (x : Fact) (B : Nat) (ad : Option Addr) (cp : Nat) (qs : List Cnd) (w : World) (hB : Blk w B #[.slice ad qs.length cp] 429) (hE0 : Els w ad 1 Cnd.cells qs) (hl : qs.length ≤ 100000) (hq : CndsOk Tryz.prog w qs) : Ret prog 360 #[.agg x.cells, .pointer (some ⟨B, 0, none⟩)] w fun r w' => r = .bool (!Tf qs x) ∧ Up w w' := by
 obtain ⟨w0, rfl, hS⟩ := W0 w
 refine cT 7 func360 rfl (Af (Al (.bA rfl) rfl ?_))
 rintro _ w1 ⟨B2, rfl, NB2⟩
 replace hS := hS.Bn NB2
 refine Ay (Ao (Aa (I (.lb rfl ((hB.up hS.Cr).Ah rfl)) (I (.makeFunc (.cu rfl)) (A3 (eC (.u rfl rfl) (GG)) rfl (Ut 362 #[.pointer (some ⟨B2, 0, none⟩)] (fun q => !q.p x) GH ad cp qs _ (Els.up hE0 hS.Cr) hl (fun W u q hm => uF q.v q.p x B2 W ((hq q hm).up (hS.Cr.trans u)) (hS.b0.up u))) ?_)))))
 rintro _ w2 ⟨rfl, uw2⟩
 replace hS := hS.up uw2
 refine LW.A rfl (Ai (Ak (KW.q ?_)))
 exact ⟨by rw [oV], hS.Cr⟩
theorem Xk (ad : Option Addr) (cp : Nat) (l : List Fact) (adf : Option Addr) (cpf : Nat) (qs : List Cnd) (w : World) (hE0 : Els w ad 19 Fact.cells l) (hl : l.length ≤ 100000) (hEf : Els w adf 1 Cnd.cells qs) (hlf : qs.length ≤ 100000) (hq : CndsOk Tryz.prog w qs) : Ret prog 301 #[.slice ad l.length cp, .slice adf qs.length cpf] w fun r w' => OwnS w' w.heap.size 28 19 Fact.cells r (l.filter fun x => Tf qs x) ∧ Up w w' := by
 obtain ⟨w0, rfl, hS⟩ := W0 w
 refine cT 11 func301 rfl (Af (Al (.Pc (.t rfl) rfl) rfl ?_))
 rintro _ w1 ⟨B3, rfl, NB3⟩
 replace hS := hS.Bn NB3
 refine Ay (Ao (Aa (I (.makeFunc (.cu rfl)) (LW.A rfl (Ao (Aa (Ab rfl (A3 (eC (.o rfl) (GJ)) rfl (cJ ad cp l _ (Els.up hE0 hS.Cr) hl) ?_))))))))
 rintro v8 w2 ⟨hO8, uw2⟩
 replace hS := hS.add uw2 (A' := J 28 19 Fact.cells v8 l) (hO8.mono (Nat.zero_le _)) (fun i h => (hO8.base i h))
 obtain ⟨ad8, cp8, rfl, _⟩ := (hS.own 1 rfl).sl (fun _ => rfl)
 have hB3k := hS.ne (i := 0) (j := 1) cQ rfl rfl
 have hBk := hS.blk 0 rfl
 have hftk := hS.foot 1 rfl
 have hfrk := hS.fr
 refine Ab rfl (A3 (eC (.u rfl rfl) (GI)) rfl (Zi 360 #[.pointer (some ⟨B3, 0, none⟩)] (fun x => !Tf qs x) GF ad8 cp8 l _ (hS.own 1 rfl) hl (fun W f x => pB x B3 adf cpf qs W ((f.block B3 hBk.lt (hB3k B3 rfl)).trans hBk) (Els.up hEf ((hfrk.next f hftk).aW (fun _ h => h))) hlf (hq.up ((hfrk.next f hftk).aW (fun _ h => h))))) ?_)
 rintro v10 w3 uw3
 replace hS := hS.Ez 1 rfl uw3
 refine LW.A rfl (Ai (Ak (KW.q ?_)))
 exact ⟨by rw [← Zd]; exact (hS.own 1 rfl).I9 (fun i h => (hS.foot 1 rfl i h).resolve_left (fun h => h)), hS.Cr⟩
theorem pC (bc : Array Go.Value) (b : Base) (t c r : Int) (w : World) (hC : BaseC w bc b) (hl : b.Processes.length ≤ 100000) : Ret prog 236 #[.agg (E9 bc t c r)] w fun r0 w' => OwnS w' w.heap.size 28 19 Fact.cells r0 (Ey b t c r) ∧ Up w w' := by
 obtain ⟨w0, rfl, hS⟩ := W0 w
 refine cT 13 func236 rfl (Af (Al (.bA rfl) rfl ?_))
 rintro _ w1 ⟨B1, rfl, NB1⟩
 have eB1 := NB1.at_
 have zB1 := NB1.size
 replace hS := hS.Bn NB1
 refine Ay (Ao (Aa (I (.fB 0 rfl) (I (.Gs isAgg50 sizeOf50 (hC.size) (.t rfl) (Lp hS.b0)) (I (.fB 11 rfl) (I (.lb rfl (Iz hS.b0 hC 0 rfl)) (I (.fB 12 rfl) (I (.lb rfl (Iz hS.b0 hC 1 rfl)) (A3 (eC (.ct rfl (.ct rfl (.cu rfl))) (FP)) rfl (oY bc b t c _ (hC.up hS.Cr) hl) ?_)))))))))
 rintro v9 w2 ⟨hO9, uw2⟩
 have zw2 := uw2.size
 replace hS := hS.up uw2
 obtain ⟨ad9, cp9, rfl, hE9_⟩ := hO9.sl (fun _ => rfl)
 have hE9 : Els w2 ad9 19 Fact.cells (S9 b t c) := hE9_
 have hrl := Vv b t c
 refine I (.makeFunc (.cu rfl)) (Al (.buildSlice (xs := [(⟨303, #[.pointer (some ⟨B1, 0, none⟩)], fun x => decide (x.Recipe = r)⟩ : Cnd)]) (enc := Cnd.cells) (mk := Cnd.v) underlying429 sizeOf143 zeroValue143 rfl cQ (fun _ => rfl) (fun _ => rfl) (.cu rfl) rfl) rfl ?_)
 rintro _ w3 ⟨B11, cB11, rfl, NB11, yB11, xB11⟩
 have eB11 := NB11.at_
 have zB11 := NB11.size
 replace hS := hS.up NB11.up
 replace hE9 := hE9.up NB11.up
 have hE11 := xB11
 refine A3 (eC (.u rfl rfl) (mO)) rfl (Xk ad9 cp9 (S9 b t c) _ _ _ _ hE9 oQ hE11 (by simp) (CndsOk.cons ⟨303, #[.pointer (some ⟨B1, 0, none⟩)], rfl, FQ, fun W u x => kM bc b t c r x B1 _ W hC (hS.b0.up u)⟩ CndsOk.nil)) ?_
 rintro v12 w4 ⟨hO12, uw4⟩
 replace hS := hS.up uw4
 replace hE9 := hE9.up uw4
 simp only [Tf, List.all_cons, List.all_nil, Bool.and_true] at hO12
 refine LW.A rfl (Ai (Ak (KW.q ?_)))
 exact ⟨hO12.mono oQ, hS.Cr⟩
theorem cM (bc : Array Go.Value) (b : Base) (t c r time : Int) (ada0 : Option Addr) (cpa0 : Nat) (ahead : List Fact) (w : World) (hC : BaseC w bc b) (hE0 : Els w ada0 19 Fact.cells ahead) (hlA : ahead.length ≤ 400) (hlR : b.Resets.length ≤ 100000) (hlM : b.Measures.length ≤ 100000) (hlT : b.Targets.length ≤ 100000) : Ret prog 237 #[.agg (E9 bc t c r), vi time, .slice ada0 ahead.length cpa0] w fun r0 w' => ∃ v, r0 = .agg ((F2 b t c r time ahead).v v).cells ∧ OwnS w' w.heap.size 3 1 Br v (F2 b t c r time ahead).uses ∧ Up w w' := by
 obtain ⟨w0, rfl, hS⟩ := W0 w
 obtain ⟨v8, h8, adR, cpR, rfl, hER⟩ := hC.at8
 refine cT 98 func237 rfl (Af (Al (.bA rfl) rfl ?_))
 rintro _ w1 ⟨B3, rfl, NB3⟩
 have eB3 := NB3.at_
 have zB3 := NB3.size
 replace hS := hS.Bn NB3
 refine Al (.Bm zeroValue44) rfl ?_
 rintro _ w2 ⟨B6, rfl, NB6⟩
 have eB6 := NB6.at_
 have zB6 := NB6.size
 replace hS := hS.Bn NB6
 refine Ao (Aa (I (.makeFunc (.cu rfl)) (LW.A rfl (Ao (Am (Ht 10 [.eq (.pointer (some ⟨B3, 0, none⟩)), .eq (.pointer (some ⟨B3, 8, none⟩)), .eq (.slice adR b.Resets.length cpR), .eq (.func (.func 304) #[] #[.pointer (some ⟨B3, 0, none⟩)]), .eq (vi time), .pred fun v W => CondOk Tryz.prog W v (fun x => decide (x.Time ≤ time)), .pred fun v W => CArg Tryz.prog W v (gI t c time), .pred fun v W => Sl W v 19 Fact.cells (Gh b t c time), .eq (vi ((Gh b t c time).length : Int)), .eq (vi 0)] [23, 24, 25] kQ rfl kQ kQ kQ kQ kQ kQ kQ ⟨PhU.eq _, PhU.eq _, PhU.eq _, PhU.eq _, PhU.eq _, PhU.pred fun _ _ _ h u => h.up u, PhU.pred fun _ _ _ h u => h.up u, PhU.pred fun _ _ _ h u => Sl.up h u, PhU.eq _, PhU.eq _, trivial⟩ ?_ ?_))))))
 ·intro W hU0
  have hU := (Up.drew w2).trans hU0
  have hSW := hS.up hU
  refine aC ⟨rfl, TU.p (.fB 0 rfl) rfl⟩ (aC ⟨rfl, TU.p (.fB 8 rfl) rfl⟩ (aC ⟨rfl, TU.p (.lb rfl (cG hSW.b0 h8)) rfl⟩ (aC ⟨rfl, TU.p (.mv rfl) rfl⟩ (aC ⟨rfl, TU.p (.mv rfl) rfl⟩ (aC ⟨rfl, TU.c (eC (.o rfl) (FU)) (kO time W) (by rintro _ W1 ⟨h, u⟩; exact ⟨u, h⟩)⟩ (aC ⟨rfl, TU.open (d := 21) rfl (by rintro _ ⟨cf, lb, rfl, he, hp⟩; exact TU.r (REv.buildSlice (xs := [(⟨304, #[.pointer (some ⟨B3, 0, none⟩)], fun x => decide (x.Tool = t) && decide (x.Chamber = c)⟩ : Cnd), (⟨cf, lb, fun x => decide (x.Time ≤ time)⟩ : Cnd)]) (enc := Cnd.cells) (mk := Cnd.v) underlying429 sizeOf143 zeroValue143 rfl cQ (fun _ => rfl) (fun _ => rfl) (.ct rfl (.cu rfl)) rfl) (by rintro _ W1 ⟨B, c_, rfl, N, y, x_⟩; exact ⟨N.up, _, _, _, rfl, x_, CndsOk.cons (⟨304, #[.pointer (some ⟨B3, 0, none⟩)], rfl, FT, fun W2 u x => pA bc b t c r x B3 _ W2 hC (hSW.b0.up (N.up.trans u))⟩ : CondOk Tryz.prog W1 (⟨304, #[.pointer (some ⟨B3, 0, none⟩)], fun x => decide (x.Tool = t) && decide (x.Chamber = c)⟩ : Cnd).v (⟨304, #[.pointer (some ⟨B3, 0, none⟩)], fun x => decide (x.Tool = t) && decide (x.Chamber = c)⟩ : Cnd).p) (CndsOk.cons (⟨cf, lb, rfl, he, fun W2 u x => hp W2 (N.up.trans u) x⟩ : CondOk Tryz.prog W1 (Cnd.v ⟨cf, lb, fun x => decide (x.Time ≤ time)⟩) (fun x => decide (x.Time ≤ time))) CndsOk.nil), by simp, fun x => by simp [Tf, gI]⟩))⟩ (aC ⟨rfl, TU.open (d := 22) rfl (by rintro _ ⟨ad, cp_, qs, rfl, hE, hq, hlq, hpq⟩; exact TU.c (eC (.u rfl rfl) (mO)) (Xk adR cpR b.Resets ad cp_ qs W (Els.up hER (hS.Cr.trans hU)) hlR hE hlq hq) (by rintro v W1 ⟨h, u⟩; rw [filter_eq hpq] at h; exact ⟨u, h.sl (fun _ => rfl)⟩))⟩ (aC ⟨rfl, TU.open (d := 23) rfl (by rintro _ ⟨ad, cp_, rfl, h⟩; exact TU.p (.Di underlying25 (.t rfl)) rfl)⟩ (aC ⟨rfl, TU.p (.move (.const _)) rfl⟩ ?_)))))))))
  exact allL.nil
 intro w3 g hU0 hg
 have hU := (Up.drew w2).trans hU0
 replace hS := hS.up hU
 obtain ⟨RS, eRS⟩ : ∃ R, R = Gh b t c time := ⟨_, rfl⟩
 rw [← eRS] at hg
 obtain ⟨ad23, cp23, e23, hR⟩ : Sl w3 (g 23) 19 Fact.cells RS := hg 7 _ 23 cQ rfl rfl
 have e24 : g 24 = vi (RS.length : Int) := hg 8 _ 24 cQ rfl rfl
 have e25 : g 25 = vi 0 := hg 9 _ 25 cQ rfl rfl
 replace hR : Els w3 ad23 19 Fact.cells RS := hR
 change LW _ _ _ _ _ _ _ _ ((23, .eq (g 23)) :: (24, .eq (g 24)) :: (25, .eq (g 25)) :: _) _
 rw [e23, e24, e25]
 have hA := Els.up hE0 hS.Cr
 have hRl : RS.length ≤ 100000 := by rw [eRS]; exact Nat.le_trans (List.length_filter_le _ _) hlR
 refine Ai (An (A8 (σ := Nat × List Fact × Option Addr × Nat) (fun s w => (s.1 ≤ RS.length) ∧ (s.2.1 = Dl (RS.take s.1) ahead) ∧ (s.2.1.length ≤ ahead.length) ∧ (IH B6 s.2.2.1 s.2.1) ∧ (Wx.Sep no w0 w [Cc B3 (E9 bc t c r) 237, Cc B6 (DecV.cells ⟨0, rz, rz, .slice none 0 0⟩) 44]) ∧ (Els w ad23 19 Fact.cells RS) ∧ (Els w s.2.2.1 19 Fact.cells s.2.1)) (fun s => [(25, .eq (vi (s.1 : Int))), (2, .eq (.slice s.2.2.1 s.2.1.length s.2.2.2))]) ([(1, .eq _), (3, .eq _), (6, .eq _), (23, .eq _), (24, .eq _)]) (fun s => RS.length - s.1) (0, ahead, ada0, cpa0) ?_ tQ ?_))
 ·exact ⟨Nat.zero_le _, rfl, Nat.le_refl _, uD hE0 oQ, hS, hR, hA⟩
 rintro ⟨k, a, ada, cpa⟩ w4 ⟨hk, ha, hla, hna, hS, hR, hA⟩
 dsimp only at hk ha hla hna hS hA
 change CW _ _ _ _ _ _ _ ([(25, .eq (vi (k : Int))), (2, .eq (.slice ada a.length cpa))] ++ _) _
 refine Af (I (.l2 rfl rfl) (Ao (CW.b rfl (fun h26 => ?_) (fun h26 => ?_))))
 ·replace h26 := dQ h26
  refine Aj (Ac (Am (An (Af ?_))))
  obtain ⟨y, hy⟩ := Au (xs := RS) (i := k) oQ
  obtain ⟨By, oy, ay, hcy⟩ := hR _ y hy
  refine I (.Av underlying25 sizeOf28 (.t rfl) (.t rfl) oQ ay) (I (.lc rfl (hcy)) (Al (.Bm zeroValue28) rfl ?_))
  rintro _ w5 ⟨B9, rfl, MB9⟩
  refine Be (.Bi sizeOf28 rfl (.t rfl) (.t rfl) (Fact.one _) MB9.blk rfl) ?_
  intro w6 LB9
  have NB9 := MB9.set LB9
  replace hR := hR.up NB9.up
  replace hA := hA.up NB9.up
  replace hcy := hcy.up NB9.up
  replace hS := hS.Bn NB9
  refine Ai ?_
  have hlt6 := hS.b1.lt
  refine Aa (Ab rfl (I (.makeFunc (.cu rfl)) (Al (.buildSlice (xs := [(⟨306, #[.pointer (some ⟨B9, 0, none⟩)], fun x => decide (y.Time ≤ x.Time)⟩ : Cnd)]) (enc := Cnd.cells) (mk := Cnd.v) underlying429 sizeOf143 zeroValue143 rfl cQ (fun _ => rfl) (fun _ => rfl) (.cu rfl) rfl) rfl ?_)))
  rintro _ w7 ⟨B31, cB31, rfl, NB31, yB31, xB31⟩
  have eB31 := NB31.at_
  have zB31 := NB31.size
  replace hS := hS.up NB31.up
  replace hR := hR.up NB31.up
  replace hA := hA.up NB31.up
  have hE31 := xB31
  refine A3 (eC (.u rfl rfl) (mO)) rfl (Xk ada cpa a _ _ _ _ hA oQ hE31 (by simp) (CndsOk.cons ⟨306, #[.pointer (some ⟨B9, 0, none⟩)], rfl, FV, fun W u x => kN x y B9 W (hS.b2.up u)⟩ CndsOk.nil)) ?_
  rintro v32 w8 ⟨hO32, uw8⟩
  replace hS := hS.up uw8
  replace hR := hR.up uw8
  replace hA := hA.up uw8
  simp only [Tf, List.all_cons, List.all_nil, Bool.and_true] at hO32
  obtain ⟨ad32, cp32, rfl, hE32_⟩ := hO32.sl (fun _ => rfl)
  have hA2 : Els w8 ad32 19 Fact.cells (a.filter fun x => decide (y.Time ≤ x.Time)) := hE32_
  have hna2 := uE (B := B6) hO32 oQ
  refine LW.A rfl (LW.nil (Ae (Ac (Aa (I (.ic rfl oQ) (Ab rfl (LW.nil (Ar ?_))))))))
  exact ⟨(k + 1, (a.filter fun x => decide (y.Time ≤ x.Time)), ad32, cp32), ⟨by show k + 1 ≤ _; omega, by rw [Ze hy, ← ha], Nat.le_trans (List.length_filter_le _ _) hla, hna2, hS.take 2, hR, hA2⟩, tQ, by show RS.length - (k + 1) < RS.length - k; omega⟩
 replace h26 := dQ h26
 refine Bl (Ad (Ad (Aq (Ac (Af (A3 (eC (.cons (.const _) .nil) (eS)) rfl (L9 (0) _ cQ) ?_))))))
 rintro _ w9 ⟨rfl, uw9⟩
 have zw9 := uw9.size
 replace hS := hS.up uw9
 replace hA := hA.up uw9
 refine I (.fB 3 rfl) (Be (.J4 sizeOf39 rfl (.t rfl) (.t rfl) (Rt.one _) hS.b1 bQ) ?_)
 intro w10 Nw10
 have zw10 := Nw10.size
 replace hS := hS.Cp 1 rfl (show Set_ _ w10 _ (DecV.cells ⟨0, rz, Bu (0) 4, .slice none 0 0⟩) _ from Nw10)
 replace hA := oX hA (Nw10.sto).fr hna
 refine Ao (Am ?_)
 have hk0 : k = RS.length := by omega
 rw [hk0, List.take_length] at ha
 have hUL := hS.Cr
 have hB3L := hS.blk 0 rfl
 have hne6 : B3 ≠ B6 := by omega
 have hUp : ∀ W, Fr (fun i => i = B6) w10 W → Up w0 W := fun W f => HS hUL f oQ
 have hAf : ∀ W, Fr (fun i => i = B6) w10 W → Els W ada 19 Fact.cells a := fun W f => oX hA f hna
 have hB3f : ∀ W, Fr (fun i => i = B6) w10 W → Blk W B3 (E9 bc t c r) 237 := fun W f => hB3L.fr f hne6
 obtain ⟨wL, ewL⟩ : ∃ W, W = w10 := ⟨_, rfl⟩
 rw [← ewL] at hUp hAf hB3f
 replace hS : Wx.Sep (fun i => i = B6) wL w10 [Cc B6 (DecV.cells ⟨0, rz, Bu (0) 4, .slice none 0 0⟩) 44] := by rw [ewL]; exact Sep.cons hS.b1 (fun _ h => h) (Sep.start _ _) (by simp)
 replace hS := hS.add (Up.refl _) (A' := J 3 1 Br (.slice none 0 0) ([] : List Int)) (OwnS.nil _ _ _ _ _) (by intro i h; cases h)
 refine Aa (Ab rfl (I (.Di underlying25 (.t rfl)) (I (.move (.const _)) (Ai (An (A8 (σ := Nat × Go.Value × Int × List Int) (fun s w => (s.1 ≤ a.length) ∧ (s.2.2 = Ji b.Measures b.Targets r time (a.take s.1)) ∧ (Wx.Sep (fun i => i = B6) wL w [Cc B6 (DecV.cells ⟨0, rz, Bu (s.2.2.1) 4, s.2.1⟩) 44, J 3 1 Br (s.2.1) s.2.2.2])) (fun s => [(38, .eq (vi (s.1 : Int)))]) ([(1, .eq _), (3, .eq _), (6, .eq _), (36, .eq _), (37, .eq _)]) (fun s => a.length - s.1) (0, .slice none 0 0, 0, []) ?_ tQ ?_))))))
 ·exact ⟨Nat.zero_le _, rfl, hS⟩
 rintro ⟨k, v, E, U⟩ w11 ⟨hk, hEU, hS⟩
 dsimp only at hk hEU hS
 change CW _ _ _ _ _ _ _ ([(38, .eq (vi (k : Int)))] ++ _) _
 refine Af (I (.l2 rfl rfl) (Ao (CW.b rfl (fun h39 => ?_) (fun h39 => ?_))))
 ·replace h39 := dQ h39
  refine Aj (Ac (Am (An (Am ?_))))
  have hA := hAf _ hS.fr
  refine Aa ?_
  obtain ⟨x, hx⟩ := Au (xs := a) (i := k) oQ
  obtain ⟨Bx, ox, ax, hcx⟩ := hA _ x hx
  refine I (.Av underlying25 sizeOf28 (.t rfl) (.t rfl) oQ ax) (I (.lc rfl (hcx)) (Al (.Bm zeroValue28) rfl ?_))
  rintro _ w12 ⟨B11, rfl, MB11⟩
  refine Be (.Bi sizeOf28 rfl (.t rfl) (.t rfl) (Fact.one _) MB11.blk rfl) ?_
  intro w13 LB11
  have NB11 := MB11.set LB11
  replace hcx := hcx.up NB11.up
  replace hS := hS.Bn NB11
  refine Ao (Aa (I (.Gs isAgg237 sizeOf237 ((H4 hC t c r)) (.t rfl) ((hB3f _ hS.fr).agg)) (I (.lc rfl (hS.b2.agg)) (Ab rfl (A3 (eC (.ct rfl (.ct rfl (.cu rfl))) (FW)) rfl (Us bc b t c r x time _ (hC.up (hUp _ hS.fr)) hlM hlT) ?_)))))
  rintro _ w14 ⟨rfl, uw14⟩
  replace hS := hS.up uw14
  refine Ab rfl (I (.xt rfl rfl) (I (.xt rfl rfl) (LW.A rfl (LW.A rfl (Ao (Aa (Ab rfl (Ab rfl (Fk rfl rfl (LW.gr rfl (fun hc => PEv.lss vQ (.const _)) (LW.gr rfl (fun hc => PEv.move vQ) (Rl rfl rfl rfl rfl rfl rfl rfl (fun hc => PEv.mv rfl) (Rl rfl rfl rfl rfl rfl rfl rfl (fun hc => PEv.gtr vQ (.const _)) (LW.gr rfl (fun hc => PEv.E1 vQ (fun hp => (by exact .cond rfl (by (rw [hc, hp]; rfl))))) (I (.pa rfl (fun hp => (by exact .cond rfl (by (rw [hp]; rfl))))) (Ai (CW.b rfl (fun h57 => ?_) (fun h57 => ?_))))))))))))))))))
  ·replace h57 := dQ h57
   have hcl : Hk (Fb b.Measures b.Targets r x time) = true := by simpa [Hk] using h57
   have hdi := Xd b.Measures b.Targets r x time
   have hbd := L8 b.Measures b.Targets r time (a.take k)
   rw [← hEU] at hbd
   dsimp only at hbd
   rw [List.length_take] at hbd
   refine Am (Ht 12 [.eq (.pointer (some ⟨B6, 3, none⟩)), .eq (.agg (Bu E 4).cells), .eq (vi (Fb b.Measures b.Targets r x time).1), .eq (.tuple #[.agg (Bu (Fb b.Measures b.Targets r x time).1 4).cells, vi 0]), .eq (.agg (Bu (Fb b.Measures b.Targets r x time).1 4).cells), .eq (vi 0), .eq (.agg (Bu (Fb b.Measures b.Targets r x time).1 4).cells), .eq (.tuple #[.agg (Bu (E + (Fb b.Measures b.Targets r x time).1) 4).cells, vi 0]), .eq (.agg (Bu (E + (Fb b.Measures b.Targets r x time).1) 4).cells), .eq (vi 0), .eq (.agg (Bu (E + (Fb b.Measures b.Targets r x time).1) 4).cells), .eq (.pointer (some ⟨B6, 3, none⟩))] [69, 68] kQ rfl kQ kQ kQ kQ kQ kQ kQ uQ ?_ ?_)
   ·intro W hU0
    have hU := (Up.drew w14).trans hU0
    have hSW := hS.up hU
    refine aC ⟨rfl, TU.p (.fB 3 rfl) rfl⟩ (aC ⟨rfl, TU.p (.lc rfl (Zf hSW.b0)) rfl⟩ (aC ⟨rfl, TU.p (.mv rfl) rfl⟩ (aC ⟨rfl, TU.c (eC (.ct rfl (.cons (.const _) .nil)) (eN)) (Ox (Fb b.Measures b.Targets r x time).1 4 W ⟨by omega, by omega⟩ cQ ⟨by decide, by decide⟩) (by rintro _ W1 ⟨rfl, u⟩; rw [Hy (Hd oQ cQ)]; exact ⟨u, rfl⟩)⟩ (aC ⟨rfl, TU.p (.xt rfl rfl) rfl⟩ (aC ⟨rfl, TU.p (.xt rfl rfl) rfl⟩ (aC ⟨rfl, TU.c (eC (.u rfl rfl) (X3)) (Lt (Bu (Fb b.Measures b.Targets r x time).1 4) W) sQ⟩ (aC ⟨rfl, TU.c (eC (.u rfl rfl) (CA)) (gK (Bu E 4) (Bu (Fb b.Measures b.Targets r x time).1 4) W (Ir oQ) (Ir oQ)) (by rintro _ W1 ⟨rfl, u⟩; rw [Xe (by omega)]; exact ⟨u, rfl⟩)⟩ (aC ⟨rfl, TU.p (.xt rfl rfl) rfl⟩ (aC ⟨rfl, TU.p (.xt rfl rfl) rfl⟩ (aC ⟨rfl, TU.c (eC (.u rfl rfl) (X3)) (Lt (Bu (E + (Fb b.Measures b.Targets r x time).1) 4) W) sQ⟩ (aC ⟨rfl, TU.p (.fB 3 rfl) rfl⟩ ?_)))))))))))
    exact allL.nil
   intro w15 g hU0 hg
   have hU := (Up.drew w14).trans hU0
   replace hS := hS.up hU
   have e69 : g 69 = .pointer (some ⟨B6, 3, none⟩) := hg 11 _ 69 cQ rfl rfl
   have e68 : g 68 = .agg (Bu (E + (Fb b.Measures b.Targets r x time).1) 4).cells := hg 10 _ 68 cQ rfl rfl
   change LW _ _ _ _ _ _ _ _ ((69, .eq (g 69)) :: (68, .eq (g 68)) :: _) _
   rw [e69, e68]
   refine Be (.J4 sizeOf39 rfl (.t rfl) (.t rfl) (Rt.one _) hS.b0 bQ) ?_
   intro w16 Nw16
   replace hS := hS.Cp 0 rfl (show Set_ _ w16 _ (DecV.cells ⟨0, rz, Bu (E + (Fb b.Measures b.Targets r x time).1) 4, v⟩) _ from Nw16)
   refine Ai (Aa (I (.fB 5 rfl) (I (.lb rfl (hS.b0.Ah rfl)) (I (.fB 1 rfl) (I (.lb rfl (hS.b2.Ah rfl)) (Al (.buildSlice (xs := [x.ID]) (enc := Br) (mk := vi) underlying34 sizeOf3 zeroValue3 rfl cQ (fun _ => rfl) (fun _ => rfl) (.cu rfl) rfl) rfl ?_))))))
   rintro _ w17 ⟨B74, cB74, rfl, NB74, yB74, xB74⟩
   replace hS := hS.up NB74.up
   have hE74 := xB74
   refine Al (.C2 (enc := Br) (bytes := 8) (i := Tryz.t3) underlying34 kQ rfl rfl rfl rfl cQ (fun _ => rfl) Hx (.t rfl) (.t rfl) (hS.own 1 rfl) (Aw hE74) (by simp [maxLen]; omega) (by simp; omega)) rfl ?_
   intro v75 w18 Gw18
   replace hS := hS.Ez 1 rfl Gw18
   refine I (.fB 5 rfl) (Be (.store sizeOf34 (.t rfl) (.t rfl) ((hS.own 1 rfl).uC (fun _ => rfl)) hS.b0 bQ) ?_)
   intro w19 Nw19
   replace hS := hS.Cp 0 rfl (show Set_ _ w19 _ (DecV.cells ⟨0, rz, Bu (E + (Fb b.Measures b.Targets r x time).1) 4, v75⟩) _ from Nw19)
   refine LW.nil (Ae (Ac (Aa (I (.ic rfl oQ) (Ab rfl (LW.nil (Ar ?_)))))))
   exact ⟨(k + 1, v75, E + (Fb b.Measures b.Targets r x time).1, U ++ [x.ID]), ⟨by show k + 1 ≤ _; omega, by rw [Vw hx, ← hEU, Is hcl], hS.take 2⟩, tQ, by show a.length - (k + 1) < a.length - k; omega⟩
  replace h57 := dQ h57
  have hcl : Hk (Fb b.Measures b.Targets r x time) = false := by simpa [Hk] using h57
  refine Aj (Ae (Ac (Aa (I (.ic rfl oQ) (Ab rfl (LW.nil (Ar ?_)))))))
  exact ⟨(k + 1, v, E, U), ⟨by show k + 1 ≤ _; omega, by rw [Vw hx, ← hEU, Lq hcl], hS.take 2⟩, tQ, by show a.length - (k + 1) < a.length - k; omega⟩
 replace h39 := dQ h39
 refine Bl (Ad (Ad (Aq (Ac (Am ?_)))))
 have hti := Xc b.Targets r time
 have hkl : k = a.length := by omega
 rw [hkl, List.take_length] at hEU
 have hbd := L8 b.Measures b.Targets r time a
 rw [← hEU] at hbd
 dsimp only at hbd
 refine Ht 11 [.eq (.agg (E9 bc t c r)), .eq (vi time), .eq (vi (Fa b.Targets r time)), .eq (.agg (Bu (Fa b.Targets r time) 1).cells), .eq (.pointer (some ⟨B6, 3, none⟩)), .eq (.agg (Bu E 4).cells), .eq (.tuple #[.agg (Bu (4 * Fa b.Targets r time - E) 4).cells, vi 0]), .eq (.agg (Bu (4 * Fa b.Targets r time - E) 4).cells), .eq (vi 0), .eq (.agg (Bu (4 * Fa b.Targets r time - E) 4).cells), .pred fun v W => ∃ B, v = .pointer (some ⟨B, 0, none⟩) ∧ w11.drew.heap.size ≤ B ∧ Blk W B rz.cells 39] [14, 87] kQ rfl kQ kQ kQ kQ kQ kQ kQ ⟨PhU.eq _, PhU.eq _, PhU.eq _, PhU.eq _, PhU.eq _, PhU.eq _, PhU.eq _, PhU.eq _, PhU.eq _, PhU.eq _, PhU.pred fun _ _ _ h u => let ⟨B, e, hz, hb⟩ := h; ⟨B, e, hz, hb.up u⟩, trivial⟩ ?_ ?_
 ·intro W hU0
  have hU := (Up.drew w11).trans hU0
  have hSW := hS.up hU
  have zU0 := hU0.size
  refine aC ⟨rfl, TU.p (.Gs isAgg237 sizeOf237 (H4 hC t c r) (.t rfl) ((hB3f W hSW.fr).agg)) rfl⟩ (aC ⟨rfl, TU.p (.mv rfl) rfl⟩ (aC ⟨rfl, TU.c (eC (.u rfl rfl) (xO)) (Qk bc b t c r time W (hC.up (hUp W hSW.fr)) hlT) sQ⟩ (aC ⟨rfl, TU.c (eC (.o rfl) (eS)) (L9 (Fa b.Targets r time) W oQ) sQ⟩ (aC ⟨rfl, TU.p (.fB 3 rfl) rfl⟩ (aC ⟨rfl, TU.p (.lc rfl (Zf hSW.b0)) rfl⟩ (aC ⟨rfl, TU.c (eC (.u rfl rfl) (yQ)) (Xj (Bu (Fa b.Targets r time) 1) (Bu E 4) W (Xf oQ) (Ir oQ)) (by rintro _ W1 ⟨rfl, u⟩; refine ⟨u, ?_⟩; have e := tY (T := Fa b.Targets r time) (e := E) (by omega); unfold AM at e; rw [e]; rfl)⟩ ?_))))))
  refine aC ⟨rfl, TU.p (.xt rfl rfl) rfl⟩ (aC ⟨rfl, TU.p (.xt rfl rfl) rfl⟩ (aC ⟨rfl, TU.c (eC (.u rfl rfl) (X3)) (Lt (Bu (4 * Fa b.Targets r time - E) 4) W) sQ⟩ (aC ⟨rfl, TU.r (REv.Bm zeroValue39) (fun v W' h => let ⟨B, e, N⟩ := h; ⟨N.up, B, e, by rw [N.at_]; exact zU0, N.blk⟩)⟩ ?_)))
  exact allL.nil
 intro w20 g hU0 hg
 have hU := (Up.drew w11).trans hU0
 have zw20 := hU.size
 obtain ⟨B14, e14, z14, hB14⟩ : ∃ B, g 14 = .pointer (some ⟨B, 0, none⟩) ∧ w11.drew.heap.size ≤ B ∧ Blk w20 B rz.cells 39 := hg 10 _ 14 cQ rfl rfl
 have e87 : g 87 = .agg (Bu (4 * Fa b.Targets r time - E) 4).cells := hg 9 _ 87 cQ rfl rfl
 change LW _ _ _ _ _ _ _ _ ((14, .eq (g 14)) :: (87, .eq (g 87)) :: _) _
 rw [e14, e87]
 replace hS := (hS.up (Up.drew _)).add hU0 (A' := Cc B14 rz.cells 39) hB14 (fun i (e : i = B14) => by omega)
 refine Be (.Bi sizeOf39 rfl (.t rfl) (.t rfl) (Rt.one _) hS.b2 rfl) ?_
 intro w21 Nw21
 have zw21 := Nw21.size
 replace hS := hS.Cp 2 rfl (show Set_ _ w21 _ ((Bu (4 * Fa b.Targets r time - E) 4).cells) _ from Nw21)
 refine Ao (Aa (I (.lc rfl (hS.b2.agg)) (A3 (eC (.ct rfl (.cons (.const _) .nil)) (FY)) rfl (kK (Bu (4 * Fa b.Targets r time - E) 4) 1000 _ (Ir oQ) cQ) ?_)))
 rintro _ w22 ⟨rfl, uw22⟩
 have zw22 := uw22.size
 replace hS := hS.up uw22
 rw [tZ (by omega)]
 refine I (.xt rfl rfl) (I (.xt rfl rfl) (A3 (eC (.u rfl rfl) (X3)) rfl (Lt (Bu (4 * Fa b.Targets r time - E) 4) _) ?_))
 rintro _ w23 ⟨rfl, uw23⟩
 have zw23 := uw23.size
 replace hS := hS.up uw23
 refine A3 (eC (.cons (.const _) .nil) (eS)) rfl (L9 (-10000) _ cQ) ?_
 rintro _ w24 ⟨rfl, uw24⟩
 have zw24 := uw24.size
 replace hS := hS.up uw24
 refine A3 (eC (.cons (.const _) .nil) (eS)) rfl (L9 (10000) _ cQ) ?_
 rintro _ w25 ⟨rfl, uw25⟩
 have zw25 := uw25.size
 replace hS := hS.up uw25
 refine A3 (eC (.ct rfl (.ct rfl (.cu rfl))) (FX)) rfl (kL (Bu (4 * Fa b.Targets r time - E) 4) _ _ _ (Ir oQ) (Xf cQ) (Xf cQ)) ?_
 rintro _ w26 ⟨rfl, uw26⟩
 have zw26 := uw26.size
 replace hS := hS.up uw26
 refine I (.fB 1 rfl) (Be (.J4 sizeOf39 rfl (.t rfl) (.t rfl) (Rt.one _) hS.b0 bQ) ?_)
 intro w27 Nw27
 have zw27 := Nw27.size
 replace hS := hS.Cp 0 rfl (show Set_ _ w27 _ (DecV.cells ⟨0, uA (Fa b.Targets r time) E, Bu E 4, v⟩) _ from Nw27)
 refine Ao (Aa (I (.lc rfl (hS.b0.agg)) (Be (.Bi sizeOf44 rfl (.t rfl) (.t rfl) (Zg _ ((hS.own 1 rfl).uC (fun _ => rfl))) hS.b0 rfl) ?_)))
 intro w28 Nw28
 have zw28 := Nw28.size
 replace hS := hS.Cp 0 rfl (show Set_ _ w28 _ (DecV.cells ⟨0, uA (Fa b.Targets r time) E, Bu E 4, v⟩) _ from Nw28)
 refine Ai (Ak (E0 rfl rfl isAgg44 sizeOf44 rfl (hS.b0.agg) ⟨_, rfl, ?_⟩))
 subst eRS
 rw [ha] at hEU
 have e1 : F2 b t c r time ahead = ⟨0, uA (Fa b.Targets r time) E, Bu E 4, U⟩ := by unfold F2; rw [← hEU]
 rw [e1]
 have huz := (hUp _ hS.fr)
 exact ⟨v, rfl, (hS.own 1 rfl).I9 (fun i h => (hS.foot 1 rfl i h).elim (fun e => by omega) (fun h => Nat.le_trans (by rw [ewL]; exact hUL.size) h)), huz⟩
end Go.Proofs.YtgjogglfnkgapaaGreatDoor
