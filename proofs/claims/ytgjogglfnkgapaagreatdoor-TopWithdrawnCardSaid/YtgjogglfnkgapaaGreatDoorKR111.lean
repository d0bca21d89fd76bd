import Derived.Test.YtgjogglfnkgapaaGreatDoorKR110
namespace Go.Wx
def JL (p : UInt8 × Bool) : Array Go.Value := #[bv p.1, .bool p.2]
theorem zI (z : Nat) : R6 z ≠ [] := by unfold R6 Pf; split <;> simp
theorem PEv.val {P : Program} {n : Nat} {ds : List Deferred} {l : Env} {w : World} {o : Oper} {v v' : Go.Value} (h : PEv P n ds l w o v) (e : v = v') : PEv P n ds l w o v' := e ▸ h
theorem nL {pre : List (UInt8 × Bool)} {z zz : Nat} {b : Bool} (hb : b = true ↔ zz < 128) (h : R6 z = pre ++ R6 zz) (hz : b = true) : pre ++ [(UInt8.ofNat (zz % 128), b)] = R6 z := by
 have hz1 := hb.1 hz
 rw [h, iU hz1, Nat.mod_eq_of_lt hz1, hz]
theorem nM {pre : List (UInt8 × Bool)} {z zz : Nat} {b : Bool} (hb : b = true ↔ zz < 128) (h : R6 z = pre ++ R6 zz) (hz : b = false) (h64 : zz < 18446744073709551616) : R6 z = (pre ++ [(UInt8.ofNat (zz % 128), b)]) ++ R6 (zz / 128) ∧ zz / 128 < zz := by
 have hz1 : ¬ zz < 128 := fun e => by rw [hb.2 e] at hz; cases hz
 rw [h, sH hz1 h64, hz]
 exact ⟨by simp, by omega⟩
theorem nN {zz : Nat} {b : Bool} (hb : b = decide ((zz : Int) < 128)) : b = true ↔ zz < 128 := ⟨fun h => by have := of_decide_eq_true (hb.symm.trans h); omega, fun h => hb.trans (decide_eq_true oQ)⟩
theorem nO {pre : List (UInt8 × Bool)} {z zz : Nat} (h : R6 z = pre ++ R6 zz) : pre.length < 10 := by
 have h1 := fC z
 have h2 := List.length_pos_iff.2 (zI zz)
 rw [h, List.length_append] at h1
 omega
theorem sZ {x : UInt8 × Bool} (h : (!x.2) = true) : X7 x = x.1 ||| 128 := if_neg (by simpa using h)
theorem nP {x : UInt8 × Bool} (h : (!x.2) = false) : X7 x = x.1 := if_pos (by simpa using h)
def zJ (n : Int) : Int := if M6 n then 0 else 10
theorem tA {n : Int} (h : M6 n) : encI n = (R6 (eZ n)).map X7 := by rw [encI, if_pos h]; rfl
theorem nQ {n : Int} (h : ¬ M6 n) : encI n = [] := by rw [encI, if_neg h]
theorem Yj (t : List UInt8) : (bB t).length ≤ 10 + t.length := by
 have := Oa (t.length : Int)
 unfold bB
 rw [List.length_append]
 omega
theorem Wy (t : ByteArray) : t.data.toList.length = t.size := Array.length_toList
theorem Sc (c : List UInt8) : (⟨c.toArray⟩ : ByteArray).size = c.length := by simp [ByteArray.size]
theorem tB (k : Int) : ∀ x ∈ Ep k, Fc x.off = true := by
 intro x hx
 have h : ∀ l ∈ Pn, ∀ y ∈ l, Fc y.off = true := by decide
 unfold Ep at hx
 rw [List.getD_eq_getElem?_getD] at hx
 cases hl : Pn[k.toNat]? with
 | none => rw [hl] at hx; simp at hx
 | some l => rw [hl] at hx; exact h l (List.mem_of_getElem? hl) x (by simpa using hx)
theorem Yk (k : Int) : (Ep k).length ≤ 16 := by
 have h : ∀ l ∈ Pn, l.length ≤ 16 := by decide
 unfold Ep
 rw [List.getD_eq_getElem?_getD]
 cases hl : Pn[k.toNat]? with
 | none => simp
 | some l => exact h l (List.mem_of_getElem? hl)
def Er (fs : List Fld) (f : Fact) : List Int := fs.map fun x => Gn f x.off
theorem Nb (fs : List Fld) (f : Fact) : (Er fs f).length = fs.length := by simp [Er]
theorem Qd {fs : List Fld} {f : Fact} {k : Nat} {x : Fld} (h : fs[k]? = some x) : (Er fs f).take (k + 1) = (Er fs f).take k ++ [Gn f x.off] := Dw (by simp [Er, h])
def J6 (b : Bool) : Int := if b then 1 else 0
def Oj (f : Fact) : List Int := f.Kind :: Er (Ep f.Kind) f
def A7 (f : Fact) : List UInt8 := if Bk f then Ct (Oj f) else []
def Pp (f : Fact) : List Int := [f.Kind, f.Version, f.Day, J6 f.Gone] ++ Er (fieldsOf f.Kind) f
def Ik (f : Fact) : List UInt8 := Ct (Pp f) ++ if Gm f.Kind then bB f.Text.data.toList else []
def Sd (f : Fact) : List UInt8 := if Bk f then Ik f else []
def Dp (a b : Fact) : Bool := Bk a && Bk b && (A7 a == A7 b) && (decide (b.Version < a.Version) || (decide (a.Version = b.Version) && decide (0 < Go.Lib.compareBytes (Ik a) (Ik b))))
theorem Es {f : Fact} (h : Bk f = true) : 1 ≤ f.Kind ∧ f.Kind ≤ 11 := by
 unfold Bk at h
 simp only [Bool.and_eq_true, decide_eq_true_eq] at h
 exact h.1
theorem L2 {f : Fact} (h : Bk f = true) : preB f = false := by
 unfold Bk at h
 simp only [Bool.and_eq_true] at h
 have := h.2.1
 simp only [Bool.not_eq_true', Bool.or_eq_false_iff] at this
 exact this.1
theorem Nc {f : Fact} (h : Bk f = true) : f.Text.size ≤ 8192 := by
 have := L2 h
 simp only [preB, Bool.or_eq_false_iff, decide_eq_false_iff_not] at this
 omega
theorem Q8 {f : Fact} (h : Bk f = true) : Ct (Oj f) ≠ [] := by
 have hk := Es h
 intro e
 unfold Oj Ct at e
 rw [List.flatMap_cons, List.append_eq_nil_iff] at e
 exact fE (by unfold M6; omega) e.1
theorem fV {f : Fact} (h : Bk f = true) : Ik f ≠ [] := by
 have hk := Es h
 intro e
 unfold Ik Pp Ct at e
 rw [List.append_eq_nil_iff, List.cons_append, List.flatMap_cons, List.append_eq_nil_iff] at e
 exact fE (by unfold M6; omega) e.1.1
theorem Vi (a b : List Int) : Ct (a ++ b) = Ct a ++ Ct b := by simp [Ct]
theorem tC (f : Fact) : ([] ++ Ct [f.Kind]).length + 10 * (Ep f.Kind).length ≤ 10000 := by
 have h1 := Yk f.Kind
 have h2 := Hc [f.Kind]
 rw [List.nil_append]
 simp only [List.length_cons, List.length_nil] at h2
 omega
theorem tD (f : Fact) : (Ct (Oj f)).length ≤ 1000000000 := by
 have h1 := Yk f.Kind
 have h2 := Hc (Oj f)
 have h3 : (Oj f).length = 1 + (Ep f.Kind).length := by simp [Oj, Er]; omega
 omega
theorem fW (b : ByteArray) : ∀ (k i : Nat) (r : List UInt8), b.size - i = k → ByteArray.toList.loop b i r = r.reverse ++ b.data.toList.drop i
 | 0, i, r, h => by
   unfold ByteArray.toList.loop
   rw [if_neg oQ, List.drop_eq_nil_of_le (by rw [Array.length_toList]; have : b.data.size = b.size := rfl; omega), List.append_nil]
 | k + 1, i, r, h => by
   unfold ByteArray.toList.loop
   have hi : i < b.size := by omega
   rw [if_pos hi, fW b k (i + 1) _ (by omega)]
   have hi' : i < b.data.toList.length := by rw [Array.length_toList]; exact hi
   rw [List.drop_eq_getElem_cons hi']
   have : b.get! i = b.data.toList[i] := by
     rw [Array.getElem_toList]
     show b.data[i]! = _
     exact getElem!_pos b.data i hi
   rw [this]; simp
theorem Iw (b : ByteArray) : b.toList = b.data.toList := by
 unfold ByteArray.toList
 rw [fW b b.size 0 [] rfl]; simp
structure ElT {α : Type} (w : World) (ad : Option Addr) (T : TypeId) (k : Nat) (enc : α → Array Value) (xs : List α) : Prop where
 els : Els w ad k enc xs
 ty : ∀ B o, ad = some ⟨B, o, none⟩ → ∃ cs x, w.heap[B]? = some (Obj.cells cs T x)
theorem ElT.up {α : Type} {w w' : World} {ad : Option Addr} {T : TypeId} {k : Nat} {enc : α → Array Value} {xs : List α} (h : ElT w ad T k enc xs) (u : Up w w') : ElT w' ad T k enc xs := ⟨Els.up h.els u, fun B o e => let ⟨cs, x, hc⟩ := h.ty B o e; ⟨cs, x, (u.block (lt_of_block hc)).trans hc⟩⟩
theorem ElT.fr {α : Type} {S : Nat → Prop} {w w' : World} {ad : Option Addr} {T : TypeId} {k : Nat} {enc : α → Array Value} {xs : List α} (h : ElT w ad T k enc xs) (f : Fr S w w') (hn : ∀ B cs x, w.heap[B]? = some (Obj.cells cs T x) → ¬ S B) : ElT w' ad T k enc xs :=
 ⟨h.els.fr f (fun B o e => let ⟨cs, x, hc⟩ := h.ty B o e; hn B cs x hc), fun B o e => let ⟨cs, x, hc⟩ := h.ty B o e; ⟨cs, x, (f.block _ (lt_of_block hc) (hn B cs x hc)).trans hc⟩⟩
theorem tE (f : Fact) : ([] ++ Ct [f.Kind, f.Version, f.Day, J6 f.Gone]).length + 10 * (fieldsOf f.Kind).length ≤ 10000 := by
 have h1 := Na f.Kind
 have h2 := Hc [f.Kind, f.Version, f.Day, J6 f.Gone]
 rw [List.nil_append]
 simp only [List.length_cons, List.length_nil] at h2
 omega
theorem nR (f : Fact) : (Ct (Pp f)).length ≤ 200 := by
 have h1 := Na f.Kind
 have h2 := Hc (Pp f)
 have h3 : (Pp f).length = 4 + (fieldsOf f.Kind).length := by simp [Pp, Er]; omega
 omega
theorem fX {f : Fact} (h : Bk f = true) : (Ik f).length ≤ 9000 := by
 have h1 := nR f
 have h2 := Nc h
 unfold Ik
 rw [List.length_append]
 split
 · have := Yj f.Text.data.toList
   rw [Wy] at this
   omega
 simp; omega
theorem jN {f : Fact} (h : Gm f.Kind = true) : Ct (Pp f) ++ bB f.Text.data.toList = Ik f := by rw [Ik, if_pos h]
theorem tF {f : Fact} (h : Gm f.Kind = false) : Ct (Pp f) = Ik f := by rw [Ik, if_neg (by rw [h]; exact Bool.false_ne_true), List.append_nil]
def Qe (f : Fact) : Int := if Bk f then 0 else 150
theorem Wz (a b : Fact) : ((⟨(A7 a).toArray⟩ : ByteArray).toList == (⟨(A7 b).toArray⟩ : ByteArray).toList) = (A7 a == A7 b) := by rw [Iw, Iw]
theorem Yl {a b : Fact} (h : (Bk a && Bk b) = false) : false = Dp a b := by simp [Dp, h]
theorem nS {a b : Fact} (h : (!((⟨(A7 a).toArray⟩ : ByteArray).toList == (⟨(A7 b).toArray⟩ : ByteArray).toList)) = true) : false = Dp a b := by
 rw [Wz] at h
 simp only [Bool.not_eq_true'] at h
 simp [Dp, h]
theorem nT {a b : Fact} (ha : Bk a = true) (hb : Bk b = true) (h : (!((⟨(A7 a).toArray⟩ : ByteArray).toList == (⟨(A7 b).toArray⟩ : ByteArray).toList)) = false) (hv : (!decide (a.Version = b.Version)) = true) : decide (b.Version < a.Version) = Dp a b := by
 rw [Wz] at h
 simp only [Bool.not_eq_false'] at h
 have hv : a.Version ≠ b.Version := by simpa using hv
 simp [Dp, ha, hb, h, hv]
theorem nU {a b : Fact} (ha : Bk a = true) (hb : Bk b = true) (h : (!((⟨(A7 a).toArray⟩ : ByteArray).toList == (⟨(A7 b).toArray⟩ : ByteArray).toList)) = false) (hv : (!decide (a.Version = b.Version)) = false) : decide (0 < Go.Lib.compareBytes (Sd a) (Sd b)) = Dp a b := by
 rw [Wz] at h
 simp only [Bool.not_eq_false'] at h
 have hv : a.Version = b.Version := by simpa using hv
 simp only [Dp, ha, hb, h, hv, Sd, if_true, Bool.true_and, decide_true, Bool.and_true, Int.lt_irrefl, decide_false, Bool.false_or]
section
variable {α : Type}
def swp (xs : List α) (i j : Nat) : List α := match xs[i]?, xs[j]? with
 | some x, some y => (xs.set i y).set j x
 | _, _ => xs
theorem Nd (xs : List α) (i j : Nat) : (swp xs i j).length = xs.length := by
 unfold swp
 split <;> simp
theorem W5 {xs : List α} {i j : Nat} {x y : α} (hi : xs[i]? = some x) (hj : xs[j]? = some y) : swp xs i j = (xs.set i y).set j x := by
 unfold swp; rw [hi, hj]
theorem swp_get {xs : List α} {i j : Nat} (hi : i < xs.length) (hj : j < xs.length) (q : Nat) : (swp xs i j)[q]? = if q = j then xs[i]? else if q = i then xs[j]? else xs[q]? := by
 rw [W5 (List.getElem?_eq_getElem hi) (List.getElem?_eq_getElem hj), List.getElem?_set]
 by_cases h1 : j = q
 · subst h1
   rw [if_pos rfl, if_pos (by simpa using hj), if_pos rfl, List.getElem?_eq_getElem hi]
 rw [if_neg h1, if_neg (Ne.symm h1), List.getElem?_set]
 by_cases h2 : i = q
 · subst h2
   rw [if_pos rfl, if_pos hi, if_pos rfl, List.getElem?_eq_getElem hj]
 rw [if_neg h2, if_neg (Ne.symm h2)]
def Ua (xs : List α) (a b : Nat) : Nat → List α
 | 0 => xs
 | n + 1 => swp (Ua xs a b n) (a + n) (b + n)
theorem F0 (xs : List α) (a b : Nat) : ∀ n, (Ua xs a b n).length = xs.length
 | 0 => rfl
 | n + 1 => by rw [Ua, Nd, F0 xs a b n]
theorem L3 {xs : List α} {a b : Nat} : ∀ {n : Nat}, a + n ≤ b → b + n ≤ xs.length → ∀ q, (Ua xs a b n)[q]? = if a ≤ q ∧ q < a + n then xs[q - a + b]? else if b ≤ q ∧ q < b + n then xs[q - b + a]? else xs[q]?
 | 0, _, _, q => by rw [Ua, if_neg oQ, if_neg (by omega)]
 | n + 1, h1, h2, q => by
   rw [Ua, swp_get (by rw [F0]; omega) (by rw [F0]; omega)]
   rw [L3 (n := n) oQ oQ (a + n), L3 (n := n) oQ oQ (b + n), L3 (n := n) oQ oQ q]
   by_cases c1 : q = b + n
   · rw [if_pos c1, if_neg oQ, if_neg oQ, if_neg oQ, if_pos (by omega)]
     congr 1; omega
   rw [if_neg c1]
   by_cases c2 : q = a + n
   · rw [if_pos c2, if_neg oQ, if_neg oQ, if_pos (by omega)]
     congr 1; omega
   rw [if_neg c2]
   by_cases c3 : a ≤ q ∧ q < a + n
   · rw [if_pos c3, if_pos (by omega)]
   have e1 : ¬ (a ≤ q ∧ q < a + (n + 1)) := by omega
   rw [if_neg c3, if_neg e1]
   by_cases c4 : b ≤ q ∧ q < b + n
   · rw [if_pos c4, if_pos (by omega)]
   have e2 : ¬ (b ≤ q ∧ q < b + (n + 1)) := by omega
   rw [if_neg c4, if_neg e2]
def J0 (xs : List α) (a m b : Nat) : List α := E7 xs a b (C3 xs m b ++ C3 xs a m)
theorem W6 {xs : List α} {a m b : Nat} (h1 : a ≤ m) (h2 : m ≤ b) (hb : b ≤ xs.length) : (C3 xs m b ++ C3 xs a m).length = b - a := by
 rw [List.length_append, Cj hb, Cj (by omega)]; omega
theorem Fq {xs : List α} {a m b : Nat} (h1 : a ≤ m) (h2 : m ≤ b) (hb : b ≤ xs.length) : (J0 xs a m b).length = xs.length := Dy oQ hb (W6 h1 h2 hb)
theorem Jn {xs : List α} {a m b : Nat} (h1 : a ≤ m) (h2 : m ≤ b) (hb : b ≤ xs.length) (q : Nat) : (J0 xs a m b)[q]? = if q < a then xs[q]? else if q < a + (b - m) then xs[q - a + m]? else if q < b then xs[q - (b - m)]? else xs[q]? := by
 unfold J0
 rw [Fp oQ hb (W6 h1 h2 hb)]
 by_cases c1 : q < a
 · rw [if_pos c1, if_pos c1]
 rw [if_neg c1, if_neg c1]
 by_cases c2 : q < a + (b - m)
 · rw [if_pos oQ, if_pos c2, List.getElem?_append_left (by rw [Cj hb]; omega), Gj (by omega)]
   congr 1; omega
 rw [if_neg c2]
 by_cases c3 : q < b
 · rw [if_pos c3, if_pos c3, List.getElem?_append_right (by rw [Cj hb]; omega), Cj hb, Gj (by omega)]
   congr 1; omega
 rw [if_neg c3, if_neg c3]
theorem tG {xs : List α} {m i j : Nat} (hi : i ≤ m) (hij : j < i) (hj : 0 < j) (hb : m + j ≤ xs.length) : J0 (Ua xs (m - i) m j) (m - (i - j)) m (m + j) = J0 xs (m - i) m (m + j) := by
 apply List.ext_getElem?
 intro q
 have hl := F0 xs (m - i) m j
 rw [Jn oQ oQ (by rw [hl]; exact hb), Jn oQ oQ hb]
 have g : ∀ q, (Ua xs (m - i) m j)[q]? = _ := fun q => L3 oQ hb q
 rw [g, g, g]
 by_cases c1 : q < m - i
 · rw [if_pos oQ, if_neg oQ, if_neg oQ, if_pos c1]
 by_cases c2 : q < m - i + j
 · rw [if_pos oQ, if_pos oQ, if_neg c1, if_pos (by omega)]
 by_cases c3 : q < m - (i - j) + j
 · rw [if_neg oQ, if_pos oQ, if_neg oQ, if_pos oQ, if_neg c1, if_neg oQ, if_pos (by omega)]
   congr 1; omega
 by_cases c4 : q < m + j
 · rw [if_neg oQ, if_neg oQ, if_pos c4, if_neg oQ, if_neg oQ, if_neg c1, if_neg oQ, if_pos c4]
 rw [if_neg oQ, if_neg oQ, if_neg c4, if_neg oQ, if_neg oQ, if_neg c1, if_neg oQ, if_neg c4]
theorem jO {xs : List α} {m i j : Nat} (hi : i ≤ m) (hij : i < j) (h0 : 0 < i) (hb : m + j ≤ xs.length) : J0 (Ua xs (m - i) (m + j - i) i) (m - i) m (m + (j - i)) = J0 xs (m - i) m (m + j) := by
 apply List.ext_getElem?
 intro q
 have hl := F0 xs (m - i) (m + j - i) i
 rw [Jn oQ oQ (by rw [hl]; omega), Jn oQ oQ hb]
 have g : ∀ q, (Ua xs (m - i) (m + j - i) i)[q]? = _ := fun q => L3 oQ oQ q
 rw [g, g, g]
 by_cases c1 : q < m - i
 · rw [if_pos c1, if_neg oQ, if_neg oQ, if_pos c1]
 by_cases c2 : q < m - i + (j - i)
 · rw [if_neg c1, if_pos oQ, if_neg oQ, if_neg oQ, if_neg c1, if_pos (by omega)]
 by_cases c3 : q < m + (j - i)
 · rw [if_neg c1, if_neg oQ, if_pos c3, if_pos oQ, if_neg c1, if_pos (by omega)]
   congr 1; omega
 by_cases c4 : q < m + j
 · rw [if_neg c1, if_neg oQ, if_neg c3, if_neg oQ, if_pos oQ, if_neg c1, if_neg oQ, if_pos c4]
   congr 1; omega
 rw [if_neg c1, if_neg oQ, if_neg c3, if_neg oQ, if_neg oQ, if_neg c1, if_neg oQ, if_neg c4]
theorem nV {xs : List α} {m i : Nat} (hi : i ≤ m) (hb : m + i ≤ xs.length) : Ua xs (m - i) m i = J0 xs (m - i) m (m + i) := by
 apply List.ext_getElem?
 intro q
 rw [Jn oQ oQ hb, L3 oQ hb]
 by_cases c1 : q < m - i
 · rw [if_neg oQ, if_neg oQ, if_pos c1]
 by_cases c2 : q < m
 · rw [if_pos oQ, if_neg c1, if_pos (by omega)]
 by_cases c3 : q < m + i
 · rw [if_neg oQ, if_pos oQ, if_neg c1, if_neg oQ, if_pos c3]
   congr 1; omega
 rw [if_neg oQ, if_neg oQ, if_neg c1, if_neg oQ, if_neg c3]
theorem nW {xs : List α} {m b : Nat} (h : m ≤ b) (hb : b ≤ xs.length) : J0 xs m m b = xs := by
 rw [J0, F9 (a := m) (b := m) (Nat.le_refl _), List.append_nil, G5 h hb]
theorem jP {xs : List α} {a m : Nat} (h : a ≤ m) (hb : m ≤ xs.length) : J0 xs a m m = xs := by
 rw [J0, F9 (a := m) (b := m) (Nat.le_refl _), List.nil_append, G5 h hb]
def C4 (A : List α) (x : α) (p : Nat) : List α := A.take p ++ x :: A.drop p
theorem Eh (A : List α) (x : α) (p : Nat) : (C4 A x p).length = A.length + 1 := by simp [C4]; omega
theorem Nf {A : List α} {x : α} {p : Nat} (h : p ≤ A.length) : (C4 A x p)[p]? = some x := by
 rw [C4, List.getElem?_append_right (by simp; omega)]
 have : p - (A.take p).length = 0 := by simp; omega
 rw [this]; rfl
theorem Il {A : List α} {x : α} {p q : Nat} (h : p ≤ A.length) (hq : q < p) : (C4 A x p)[q]? = A[q]? := by
 rw [C4, List.getElem?_append_left (by simp; omega), List.getElem?_take, if_pos hq]
theorem Im {A : List α} {x : α} {p q : Nat} (h : p ≤ A.length) (hq : p < q) : (C4 A x p)[q]? = A[q - 1]? := by
 rw [C4, List.getElem?_append_right (by simp; omega)]
 have e : q - (A.take p).length = (q - p - 1) + 1 := by simp; omega
 rw [e, List.getElem?_cons_succ, List.getElem?_drop]
 congr 1; omega
theorem Se {A : List α} {x : α} {p : Nat} (h : p < A.length) : swp (C4 A x p) p (p + 1) = C4 A x (p + 1) := by
 have hl := Eh A x p
 apply List.ext_getElem?
 intro q
 rw [swp_get oQ (by omega)]
 by_cases c1 : q = p + 1
 · rw [if_pos c1, c1, Nf oQ, Nf (by omega)]
 rw [if_neg c1]
 by_cases c2 : q = p
 · rw [if_pos c2, c2, Im oQ oQ, Il oQ (by omega)]; simp
 rw [if_neg c2]
 by_cases c3 : q < p
 · rw [Il oQ c3, Il oQ (by omega)]
 rw [Im oQ oQ, Im oQ (by omega)]
theorem nX {xs : List α} {i j : Nat} (hi : i < xs.length) (hj : j < xs.length) (hne : i ≠ j) : swp xs i j = swp xs j i := by
 apply List.ext_getElem?
 intro q
 rw [swp_get hi hj, swp_get hj hi]
 by_cases c1 : q = j
 · rw [if_pos c1, if_neg oQ, if_pos c1]
 rw [if_neg c1]
 by_cases c2 : q = i
 · rw [if_pos c2, if_pos c2]
 rw [if_neg c2, if_neg c2, if_neg c1]
theorem fY {xs ys : List α} {a b i j : Nat} (h1 : a ≤ b) (hb : b ≤ xs.length) (hy : ys.length = b - a) (hi : i < ys.length) (hj : j < ys.length) : swp (E7 xs a b ys) (a + i) (a + j) = E7 xs a b (swp ys i j) := by
 have hl := Dy h1 hb hy
 have hi' : a + i < (E7 xs a b ys).length := by omega
 have hj' : a + j < (E7 xs a b ys).length := by omega
 have e1 : (E7 xs a b ys)[a + i]? = ys[i]? := by rw [Fp h1 hb hy, if_neg oQ, if_pos (by omega)]; congr 1; omega
 have e2 : (E7 xs a b ys)[a + j]? = ys[j]? := by rw [Fp h1 hb hy, if_neg oQ, if_pos (by omega)]; congr 1; omega
 apply List.ext_getElem?
 intro q
 rw [swp_get hi' hj' q, e1, e2, Fp h1 hb hy q, Fp h1 hb (by rw [Nd]; exact hy) q, swp_get hi hj]
 by_cases c0 : q < a
 · rw [if_neg oQ, if_neg oQ, if_pos c0, if_pos c0]
 rw [if_neg c0, if_neg c0]
 by_cases c1 : q = a + j
 · have d1 : q - a = j := by omega
   rw [if_pos c1, if_pos (show q < b by omega), if_pos d1]
 have d1 : ¬ q - a = j := by omega
 rw [if_neg c1, if_neg d1]
 by_cases c2 : q = a + i
 · have d2 : q - a = i := by omega
   rw [if_pos c2, if_pos (show q < b by omega), if_pos d2]
 have d2 : ¬ q - a = i := by omega
 rw [if_neg c2, if_neg d2]
theorem Vj (A : List α) (x : α) : C4 A x A.length = A ++ [x] := by simp [C4]
theorem Ym (A : List α) (x : α) : C4 A x 0 = x :: A := by simp [C4]
theorem tH {xs : List α} {i j : Nat} (hi : i < xs.length) (hj : j < xs.length) : swp (swp xs i j) i j = xs := by
 have hl := Nd xs i j
 apply List.ext_getElem?
 intro q
 rw [swp_get (xs := swp xs i j) oQ oQ q, swp_get hi hj i, swp_get hi hj j, swp_get hi hj q]
 by_cases c1 : q = j
 · rw [if_pos c1, c1]
   by_cases c2 : i = j
   · rw [if_pos c2, c2]
   rw [if_neg c2, if_pos rfl]
 rw [if_neg c1, if_neg c1]
 by_cases c2 : q = i
 · rw [if_pos c2, if_pos rfl, c2]
 rw [if_neg c2, if_neg c2]
end
theorem Yn {α : Type} {xs zs : List α} {a i : Nat} {x : α} (h1 : a ≤ i) (hx : xs[i]? = some x) (hz : zs.length = i - a) : E7 xs a (i + 1) (zs ++ [x]) = E7 xs a i zs := by
 obtain ⟨hi, e⟩ := List.getElem?_eq_some_iff.1 hx
 have hl := Dy (ys := zs) h1 (by omega : i ≤ xs.length) hz
 rw [← fQ (m := i) h1 oQ oQ hz (by simp)]
 have e2 : [x] = C3 (E7 xs a i zs) i (i + 1) := by
   rw [E4 h1 oQ hz (.inr (Nat.le_refl _))]
   apply List.ext_getElem?
   intro q
   by_cases h : i + q < i + 1
   · have : q = 0 := by omega
     subst this
     rw [Gj h, Nat.add_zero, hx]; rfl
   rw [List.getElem?_eq_none (by simp; omega), List.getElem?_eq_none (by rw [Cj (by omega)]; omega)]
 rw [e2, G5 oQ (by omega)]
theorem Lk {α : Type} {xs : List α} {a i : Nat} {x : α} (h1 : a ≤ i) (hx : xs[i]? = some x) : C3 xs a (i + 1) = C3 xs a i ++ [x] := by
 obtain ⟨hi, e⟩ := List.getElem?_eq_some_iff.1 hx
 rw [F8 h1 oQ (by omega)]
 congr 1
 apply List.ext_getElem?
 intro q
 by_cases h : i + q < i + 1
 · have : q = 0 := by omega
   subst this
   rw [Gj h, Nat.add_zero, hx]; rfl
 rw [List.getElem?_eq_none (by rw [Cj (by omega)]; omega), List.getElem?_eq_none (by simp; omega)]
theorem Yo {α : Type} {xs zs : List α} {a b p : Nat} {x : α} (h1 : a ≤ b) (hb : b ≤ xs.length) (hz : zs.length + 1 = b - a) (hp : p ≤ zs.length) : (E7 xs a b (C4 zs x p))[a + p]? = some x := by
 rw [Fp h1 hb (by rw [Eh]; exact hz), if_neg oQ, if_pos (by omega)]
 have : a + p - a = p := by omega
 rw [this, Nf hp]
theorem Ng {α : Type} {xs zs : List α} {a b p q : Nat} {x : α} (h1 : a ≤ b) (hb : b ≤ xs.length) (hz : zs.length + 1 = b - a) (hp : p ≤ zs.length) (hq : q < p) : (E7 xs a b (C4 zs x p))[a + q]? = zs[q]? := by
 rw [Fp h1 hb (by rw [Eh]; exact hz), if_neg oQ, if_pos (by omega)]
 have : a + q - a = q := by omega
 rw [this, Il hp hq]
theorem Sf {α : Type} {xs zs : List α} {a b p q : Nat} {x : α} (h1 : a ≤ b) (hb : b ≤ xs.length) (hz : zs.length + 1 = b - a) (hq : p < q) (hqz : q ≤ zs.length) : (E7 xs a b (C4 zs x p))[a + q]? = zs[q - 1]? := by
 rw [Fp h1 hb (by rw [Eh]; exact hz), if_neg oQ, if_pos (by omega)]
 have : a + q - a = q := by omega
 rw [this, Im oQ hq]
theorem Yp {α : Type} {xs zs : List α} {a b p : Nat} {x y : α} (h1 : a ≤ b) (hb : b ≤ xs.length) (hz : zs.length + 1 = b - a) (hp : p < zs.length) (hy : zs[p]? = some y) : ((E7 xs a b (C4 zs x (p + 1))).set (a + (p + 1)) y).set (a + p) x = E7 xs a b (C4 zs x p) := by
 have hl := Eh zs x (p + 1)
 rw [← W5 (Yo (p := p + 1) h1 hb hz oQ) ((Ng (p := p + 1) h1 hb hz oQ (show p < p + 1 by omega)).trans hy), fY h1 hb (by rw [hl]; exact hz) oQ oQ, nX oQ oQ oQ, ← Se hp, tH (by rw [Eh]; omega) (by rw [Eh]; omega)]
theorem zL {α : Type} {xs zs : List α} {a b p : Nat} {x y : α} (h1 : a ≤ b) (hb : b ≤ xs.length) (hz : zs.length + 1 = b - a) (hp : p < zs.length) (hy : zs[p]? = some y) : ((E7 xs a b (C4 zs x p)).set (a + p) y).set (a + (p + 1)) x = E7 xs a b (C4 zs x (p + 1)) := by
 have hl := Eh zs x p
 rw [← W5 (Yo h1 hb hz oQ) ((Sf (q := p + 1) h1 hb hz (show p < p + 1 by omega) oQ).trans hy), fY h1 hb (by rw [hl]; exact hz) oQ oQ, Se hp]
theorem StS.snoc {α : Type} {key : α → K2} {L zs : List α} {x : α} {p : Nat} (h : StS key L zs) (hp : p ≤ zs.length) (hgt : ∀ y ∈ zs.drop p, Hu (key x) (key y) = true) (hle : p = 0 ∨ ∃ y, zs[p - 1]? = some y ∧ Hu (key x) (key y) = false) : StS key (L ++ [x]) (C4 zs x p) := by
 have h1 : StS key (zs ++ [x]) (C4 zs x p) := StS.put h.ord hgt (fun y hy => by
   rcases hle with rfl | ⟨z, hz, hzl⟩
   · simp at hy
   obtain ⟨q, hq, rfl⟩ := List.mem_iff_getElem.1 hy
   rw [List.getElem_take]
   have hq' : q < p := by simp at hq; omega
   obtain ⟨hz1, rfl⟩ := List.getElem?_eq_some_iff.1 hz
   rcases Nat.lt_or_ge q (p - 1) with h3 | h3
   · exact J5 (List.pairwise_iff_getElem.1 h.ord q (p - 1) oQ hz1 h3) hzl
   have : q = p - 1 := by omega
   subst this
   exact hzl)
 exact ⟨h1.ord, (h.same.jC (sameF.refl [x])).trans h1.same⟩
theorem tI {α : Type} {key : α → K2} {l : List α} (h : l.length ≤ 1) : Iv key l := by
 match l, h with
 | [], _ => exact List.Pairwise.nil
 | [x], _ => exact List.pairwise_singleton _ _
 | _ :: _ :: _, h => simp at h
theorem jQ {α : Type} {zs : List α} {p : Nat} {y : α} {P : α → Prop} (hp : 1 ≤ p) (hy : zs[p - 1]? = some y) (h : ∀ z ∈ zs.drop p, P z) (hP : P y) : ∀ z ∈ zs.drop (p - 1), P z := by
 obtain ⟨h1, rfl⟩ := List.getElem?_eq_some_iff.1 hy
 rw [List.drop_eq_getElem_cons h1, show p - 1 + 1 = p by omega]
 intro z hz
 rcases List.mem_cons.1 hz with rfl | hz
 · exact hP
 exact h z hz
section
variable {α : Type} {key : α → K2}
theorem Jo {xs : List α} {a b c d : Nat} (h : Iv key (C3 xs a b)) (h1 : a ≤ c) (h2 : d ≤ b) : Iv key (C3 xs c d) := by
 have e : (xs.take d).drop c = ((xs.take d).drop a).drop (c - a) := by rw [List.drop_drop]; congr 1; omega
 have p : xs.take d = (xs.take b).take d := by rw [List.take_take, Nat.min_eq_left h2]
 have q : ((xs.take d).drop a).Sublist ((xs.take b).drop a) := by
   rw [p, List.drop_take]
   exact List.take_sublist _ _
 have r : (C3 xs c d).Sublist (C3 xs a b) := by
   unfold C3
   rw [e]
   exact (List.drop_sublist _ _).trans q
 exact List.Pairwise.sublist r h
theorem Jp {xs : List α} {a b p q : Nat} {u v : α} (h : Iv key (C3 xs a b)) (h1 : a ≤ p) (h2 : p ≤ q) (h3 : q < b) (hu : xs[p]? = some u) (hv : xs[q]? = some v) : Hu (key v) (key u) = false := by
 rcases Nat.lt_or_ge p q with hl | hl
 · have e1 : (C3 xs a b)[p - a]? = some u := by rw [Gj (by omega)]; rw [show a + (p - a) = p by omega]; exact hu
   have e2 : (C3 xs a b)[q - a]? = some v := by rw [Gj (by omega)]; rw [show a + (q - a) = q by omega]; exact hv
   obtain ⟨i1, rfl⟩ := List.getElem?_eq_some_iff.1 e1
   obtain ⟨i2, rfl⟩ := List.getElem?_eq_some_iff.1 e2
   exact List.pairwise_iff_getElem.1 h _ _ i1 i2 oQ
 have : p = q := by omega
 subst this
 rw [hu] at hv; cases hv
 exact Kv _
theorem Jq {xs : List α} {a b : Nat} {x : α} (hb : b ≤ xs.length) (h : x ∈ C3 xs a b) : ∃ q, a ≤ q ∧ q < b ∧ xs[q]? = some x := by
 obtain ⟨i, e⟩ := List.mem_iff_getElem?.1 h
 have hi := (List.getElem?_eq_some_iff.1 e).1
 rw [Cj hb] at hi
 rw [Gj (by omega)] at e
 exact ⟨a + i, by omega, by omega, e⟩
theorem nY {xs : List α} {a mm b s e : Nat} (hA : Iv key (C3 xs a mm)) (hB : Iv key (C3 xs mm b)) (h2 : s ≤ mm) (h3 : mm ≤ e) (hb : b ≤ xs.length)
   (h : s ≤ a ∨ b ≤ e ∨ ∃ u v, xs[e]? = some u ∧ xs[s - 1]? = some v ∧ Hu (key u) (key v) = false) : ∀ x ∈ C3 xs a s, ∀ y ∈ C3 xs e b, Hu (key y) (key x) = false := by
 intro x hx y hy
 rcases h with h | h | ⟨u, v, hu, hv, hl⟩
 · rw [F9 h] at hx; simp at hx
 · rw [F9 h] at hy; simp at hy
 obtain ⟨p, p1, p2, hp⟩ := Jq (by have := (List.getElem?_eq_some_iff.1 hv).1; omega) hx
 obtain ⟨q, q1, q2, hq⟩ := Jq hb hy
 have a1 := Jp hA p1 (show p ≤ s - 1 by omega) oQ hp hv
 have a2 := Jp hB (show mm ≤ e by omega) q1 q2 hu hq
 exact J5 (J5 a1 hl) a2
theorem nZ {xs : List α} {a mm b s e : Nat} (hA : Iv key (C3 xs a mm)) (hB : Iv key (C3 xs mm b)) (h1 : a ≤ s) (h4 : e ≤ b) (hb : b ≤ xs.length) (hmb : mm ≤ b)
   (h : mm ≤ s ∨ e ≤ mm ∨ ∃ u v, xs[e - 1]? = some u ∧ xs[s]? = some v ∧ Hu (key u) (key v) = true) : ∀ v ∈ C3 xs mm e, ∀ u ∈ C3 xs s mm, Hu (key v) (key u) = true := by
 intro x hx y hy
 rcases h with h | h | ⟨u, v, hu, hv, hl⟩
 · rw [F9 h] at hy; simp at hy
 · rw [F9 h] at hx; simp at hx
 obtain ⟨p, p1, p2, hp⟩ := Jq oQ hx
 obtain ⟨q, q1, q2, hq⟩ := Jq oQ hy
 have a1 := Jp hB p1 (show p ≤ e - 1 by omega) oQ hp hu
 have a2 := Jp hA h1 q1 q2 hv hq
 exact Wt (fN a1 hl) a2
theorem Yq {xs : List α} {s mm e : Nat} (h1 : s ≤ mm) (h2 : mm ≤ e) (hb : e ≤ xs.length) : C3 (J0 xs s mm e) s (s + (e - mm)) = C3 xs mm e := by
 have hl := Fq h1 h2 hb
 apply List.ext_getElem?
 intro i
 by_cases h : i < e - mm
 · rw [Gj oQ, Gj oQ, Jn h1 h2 hb, if_neg oQ, if_pos (by omega)]
   congr 1; omega
 rw [List.getElem?_eq_none (by rw [Cj (by omega)]; omega), List.getElem?_eq_none (by rw [Cj hb]; omega)]
theorem Yr {xs : List α} {s mm e : Nat} (h1 : s ≤ mm) (h2 : mm ≤ e) (hb : e ≤ xs.length) : C3 (J0 xs s mm e) (s + (e - mm)) e = C3 xs s mm := by
 have hl := Fq h1 h2 hb
 apply List.ext_getElem?
 intro i
 by_cases h : i < mm - s
 · rw [Gj oQ, Gj oQ, Jn h1 h2 hb, if_neg oQ, if_neg oQ, if_pos (by omega)]
   congr 1; omega
 rw [List.getElem?_eq_none (by rw [Cj (by omega)]; omega), List.getElem?_eq_none (by rw [Cj (by omega)]; omega)]
theorem Q9 {xs : List α} {s mm e c d : Nat} (h1 : s ≤ mm) (h2 : mm ≤ e) (hb : e ≤ xs.length) (h : d ≤ s ∨ e ≤ c) : C3 (J0 xs s mm e) c d = C3 xs c d := E4 oQ hb (W6 h1 h2 hb) h
theorem tJ {xs zs : List α} {a b s mm e : Nat} (h0 : a ≤ s) (h1 : s ≤ mm) (h2 : mm ≤ e) (h3 : e ≤ b) (hb : b ≤ xs.length) (hz : zs.length = b - a) : E7 (J0 xs s mm e) a b zs = E7 xs a b zs := by
 have hl := Fq h1 h2 (by omega : e ≤ xs.length)
 apply List.ext_getElem?
 intro q
 rw [Fp oQ oQ hz, Fp oQ hb hz, Jn h1 h2 (by omega)]
 by_cases c1 : q < a
 · rw [if_pos c1, if_pos c1, if_pos (by omega)]
 rw [if_neg c1, if_neg c1]
 by_cases c2 : q < b
 · rw [if_pos c2, if_pos c2]
 rw [if_neg c2, if_neg c2, if_neg oQ, if_neg oQ, if_neg (by omega)]
theorem Ys {xs : List α} {a s mm e mid : Nat} (h0 : a ≤ s) (h1 : s ≤ mm) (h2 : mm ≤ e) (hb : e ≤ xs.length) (hm : mid = s + (e - mm)) : C3 (J0 xs s mm e) a mid = C3 xs a s ++ C3 xs mm e := by
 subst hm
 rw [F8 (m := s) h0 oQ (by rw [Fq h1 h2 hb]; omega), Q9 h1 h2 hb (.inl (Nat.le_refl _)), Yq h1 h2 hb]
theorem Vk {xs : List α} {s mm e b mid : Nat} (h1 : s ≤ mm) (h2 : mm ≤ e) (h3 : e ≤ b) (hb : b ≤ xs.length) (hm : mid = s + (e - mm)) : C3 (J0 xs s mm e) mid b = C3 xs s mm ++ C3 xs e b := by
 subst hm
 rw [F8 (m := e) oQ h3 (by rw [Fq h1 h2 (by omega)]; omega), Q9 h1 h2 oQ (.inr (Nat.le_refl _)), Yr h1 h2 (by omega)]
theorem Yt {xs X Y : List α} {a mm b s e mid : Nat} (h0 : a ≤ s) (h1 : s ≤ mm) (h2 : mm ≤ e) (h3 : e ≤ b) (hb : b ≤ xs.length) (hm : mid = s + (e - mm)) (hA : Iv key (C3 xs a mm)) (hB : Iv key (C3 xs mm b))
   (k1 : ∀ x ∈ C3 xs a s, ∀ y ∈ C3 xs e b, Hu (key y) (key x) = false) (k2 : ∀ v ∈ C3 xs mm e, ∀ u ∈ C3 xs s mm, Hu (key v) (key u) = true)
   (hX : StS key (C3 (J0 xs s mm e) a mid) X) (hY : StS key (C3 (E7 (J0 xs s mm e) a mid X) mid b) Y) : StS key (C3 xs a b) (X ++ Y) ∧ E7 (E7 (J0 xs s mm e) a mid X) mid b Y = E7 xs a b (X ++ Y) := by
 have hl := Fq h1 h2 (by omega : e ≤ xs.length)
 have hXl : X.length = mid - a := by rw [hX.same.length, Cj (by omega)]
 rw [E4 oQ oQ hXl (.inr (Nat.le_refl _))] at hY
 have hYl : Y.length = b - mid := by rw [hY.same.length, Cj (by omega)]
 rw [Ys h0 h1 h2 oQ hm] at hX
 rw [Vk h1 h2 h3 hb hm] at hY
 have eA : C3 xs a s ++ C3 xs s mm = C3 xs a mm := (F8 h0 h1 oQ).symm
 have eB : C3 xs mm e ++ C3 xs e b = C3 xs mm b := (F8 h2 h3 hb).symm
 refine ⟨?_, ?_⟩
 · have := bI (by rw [eA]; exact hA) (by rw [eB]; exact hB) k1 k2 hX hY
   rw [eA, eB, ← F8 oQ oQ hb] at this
   exact this
 rw [fQ oQ oQ oQ hXl hYl, tJ h0 h1 h2 h3 hb (by rw [List.length_append]; omega)]
theorem tK {xs : List α} {a b i : Nat} {x : α} (hb : b ≤ xs.length) (hx : xs[a]? = some x) (hab : a + 1 ≤ i) (hib : i ≤ b) (hB : Iv key (C3 xs (a + 1) b)) (hL : ∀ q y, a + 1 ≤ q → q < i → xs[q]? = some y → Hu (key y) (key x) = true) (hR : ∀ q y, i ≤ q → q < b → xs[q]? = some y → Hu (key y) (key x) = false) :
   StS key (C3 xs a b) (C4 (C3 xs (a + 1) b) x (i - (a + 1))) := by
 have e : C3 xs a b = x :: C3 xs (a + 1) b := by
   rw [F8 (m := a + 1) oQ oQ hb, Lk (Nat.le_refl a) hx, F9 (Nat.le_refl a)]; rfl
 have t : (C3 xs (a + 1) b).take (i - (a + 1)) = C3 xs (a + 1) i := by
   unfold C3
   rw [List.take_drop, List.take_take, show a + 1 + (i - (a + 1)) = i by omega, Nat.min_eq_left hib]
 have d : (C3 xs (a + 1) b).drop (i - (a + 1)) = C3 xs i b := by
   unfold C3
   rw [List.drop_drop, show a + 1 + (i - (a + 1)) = i by omega]
 rw [e]
 refine nD hB (fun y hy => ?_) (fun y hy => ?_)
 · rw [t] at hy
   obtain ⟨q, q1, q2, hq⟩ := Jq oQ hy
   exact hL q y q1 q2 hq
 rw [d] at hy
 obtain ⟨q, q1, q2, hq⟩ := Jq hb hy
 exact hR q y q1 q2 hq
theorem oA {xs : List α} {a m i : Nat} {x : α} (hx : xs[m]? = some x) (h1 : a ≤ i) (h2 : i ≤ m) (hA : Iv key (C3 xs a m)) (hL : ∀ q y, a ≤ q → q < i → xs[q]? = some y → Hu (key x) (key y) = false) (hR : ∀ q y, i ≤ q → q < m → xs[q]? = some y → Hu (key x) (key y) = true) :
   StS key (C3 xs a (m + 1)) (C4 (C3 xs a m) x (i - a)) := by
 have hm := (List.getElem?_eq_some_iff.1 hx).1
 have t : (C3 xs a m).take (i - a) = C3 xs a i := by
   unfold C3
   rw [List.take_drop, List.take_take, show a + (i - a) = i by omega, Nat.min_eq_left h2]
 have d : (C3 xs a m).drop (i - a) = C3 xs i m := by
   unfold C3
   rw [List.drop_drop, show a + (i - a) = i by omega]
 rw [Lk oQ hx]
 refine StS.put hA (fun y hy => ?_) (fun y hy => ?_)
 · rw [d] at hy
   obtain ⟨q, q1, q2, hq⟩ := Jq oQ hy
   exact hR q y q1 q2 hq
 rw [t] at hy
 obtain ⟨q, q1, q2, hq⟩ := Jq oQ hy
 exact hL q y q1 q2 hq
theorem oB {xs : List α} {s mm e : Nat} (h : ¬ (s < mm ∧ mm < e)) (h1 : s ≤ mm) (h2 : mm ≤ e) (hb : e ≤ xs.length) : J0 xs s mm e = xs := by
 rcases Nat.lt_or_ge s mm with h3 | h3
 · have : e = mm := by omega
   subst this
   exact jP h1 hb
 have : s = mm := by omega
 subst this
 exact nW h2 hb
theorem jR {xs : List α} {a mm b s e mid : Nat} (hA : Iv key (C3 xs a mm)) (hB : Iv key (C3 xs mm b)) (h0 : a ≤ s) (h1 : s ≤ mm) (h2 : mm ≤ e) (h3 : e ≤ b) (hb : b ≤ xs.length) (hm : mid = s + (e - mm)) (h : ¬ (a < s ∧ s < mid)) : Iv key (C3 (J0 xs s mm e) a mid) := by
 rw [Ys h0 h1 h2 oQ hm]
 rcases Nat.lt_or_ge a s with h4 | h4
 · rw [F9 (show e ≤ mm by omega), List.append_nil]
   exact Jo hA (Nat.le_refl _) h1
 rw [F9 h4, List.nil_append]
 exact Jo hB (Nat.le_refl _) h3
theorem jS {xs X : List α} {a mm b s e mid : Nat} (hA : Iv key (C3 xs a mm)) (hB : Iv key (C3 xs mm b)) (h0 : a ≤ s) (h1 : s ≤ mm) (h2 : mm ≤ e) (h3 : e ≤ b) (hb : b ≤ xs.length) (hm : mid = s + (e - mm)) (hX : X.length = mid - a) (h : ¬ (mid < e ∧ e < b)) : Iv key (C3 (E7 (J0 xs s mm e) a mid X) mid b) := by
 have hl := Fq h1 h2 (by omega : e ≤ xs.length)
 rw [E4 oQ oQ hX (.inr (Nat.le_refl _)), Vk h1 h2 h3 hb hm]
 rcases Nat.lt_or_ge mid e with h4 | h4
 · rw [F9 (show b ≤ e by omega), List.append_nil]
   exact Jo hA h0 (Nat.le_refl _)
 rw [F9 (show mm ≤ s by omega), List.nil_append]
 exact Jo hB h2 (Nat.le_refl _)
theorem fZ {xs : List α} {a mm b s e mid : Nat} (hA : Iv key (C3 xs a mm)) (hB : Iv key (C3 xs mm b)) (h1 : s ≤ mm) (h2 : mm ≤ e) (h3 : e ≤ b) (hb : b ≤ xs.length) (hm : mid = s + (e - mm)) : Iv key (C3 (J0 xs s mm e) a s) ∧ Iv key (C3 (J0 xs s mm e) s mid) := by
 subst hm
 rw [Q9 h1 h2 oQ (.inl (Nat.le_refl _)), Yq h1 h2 (by omega)]
 exact ⟨Jo hA (Nat.le_refl _) h1, Jo hB (Nat.le_refl _) h3⟩
theorem gA {xs X : List α} {a mm b s e mid : Nat} (hA : Iv key (C3 xs a mm)) (hB : Iv key (C3 xs mm b)) (h0 : a ≤ s) (h1 : s ≤ mm) (h2 : mm ≤ e) (h3 : e ≤ b) (hb : b ≤ xs.length) (hm : mid = s + (e - mm)) (hX : X.length = mid - a) : Iv key (C3 (E7 (J0 xs s mm e) a mid X) mid e) ∧ Iv key (C3 (E7 (J0 xs s mm e) a mid X) e b) := by
 have hl := Fq h1 h2 (by omega : e ≤ xs.length)
 rw [E4 oQ oQ hX (.inr (Nat.le_refl _)), E4 oQ oQ hX (.inr oQ), Q9 h1 h2 oQ (.inr (Nat.le_refl _))]
 subst hm
 rw [Yr h1 h2 (by omega)]
 exact ⟨Jo hA h0 (Nat.le_refl _), Jo hB h2 (Nat.le_refl _)⟩
def Bks (key : α → K2) (ys : List α) (B : Nat) : Prop := ∀ i, Iv key (C3 ys (B * i) (min (B * i + B) ys.length))
def Ins (key : α → K2) (ys : List α) (B a : Nat) : Prop := (∃ q, a = B * q) ∧ ∀ i, B * (i + 1) ≤ a → Iv key (C3 ys (B * i) (B * i + B))
def Mrg (key : α → K2) (ys : List α) (B a : Nat) : Prop := Ins key ys (2 * B) a ∧ ∀ i, a ≤ B * i → Iv key (C3 ys (B * i) (min (B * i + B) ys.length))
theorem Ins.zero (ys : List α) (B : Nat) (hB : 0 < B) : Ins key ys B 0 := ⟨⟨0, rfl⟩, fun i h => by
 rw [Nat.mul_add, Nat.mul_one] at h
 omega⟩
theorem Ins.step {ys zs : List α} {B a : Nat} (hB : 0 < B) (h : Ins key ys B a) (hb : a + B ≤ ys.length) (hz : StS key (C3 ys a (a + B)) zs) : Ins key (E7 ys a (a + B) zs) B (a + B) := by
 obtain ⟨⟨q, rfl⟩, hs⟩ := h
 have hzl : zs.length = B * q + B - B * q := by rw [hz.same.length, Cj hb]
 refine ⟨⟨q + 1, by rw [Nat.mul_add, Nat.mul_one]⟩, fun i hi => ?_⟩
 have hle : i ≤ q := by
   have : B * (i + 1) ≤ B * (q + 1) := by rw [Nat.mul_add B q 1, Nat.mul_one]; exact hi
   have := Nat.le_of_mul_le_mul_left this hB
   omega
 rcases Nat.lt_or_ge i q with h | h
 · have h1 : B * (i + 1) ≤ B * q := Nat.mul_le_mul_left B h
   rw [E4 oQ hb hzl (.inl (by rw [Nat.mul_add, Nat.mul_one] at h1; exact h1))]
   exact hs i h1
 have : i = q := by omega
 subst this
 rw [fP oQ hb hzl]
 exact hz.ord
theorem Ins.last {ys zs : List α} {B a : Nat} (h : Ins key ys B a) (ha : a ≤ ys.length) (hb : ys.length < a + B) (hz : StS key (C3 ys a ys.length) zs) : Bks key (E7 ys a ys.length zs) B := by
 obtain ⟨⟨q, rfl⟩, hs⟩ := h
 have hzl : zs.length = ys.length - B * q := by rw [hz.same.length, Cj (Nat.le_refl _)]
 have hl := Dy ha (Nat.le_refl _) hzl
 intro i
 rw [hl]
 rcases Nat.lt_trichotomy i q with h | h | h
 · have h1 : B * (i + 1) ≤ B * q := Nat.mul_le_mul_left B h
   have h2 : B * i + B ≤ B * q := by rw [Nat.mul_add, Nat.mul_one] at h1; exact h1
   rw [Nat.min_eq_left oQ, E4 ha (Nat.le_refl _) hzl (.inl h2)]
   exact hs i h1
 · subst h
   rw [Nat.min_eq_right oQ, fP ha (Nat.le_refl _) hzl]
   exact hz.ord
 have h1 : B * (q + 1) ≤ B * i := Nat.mul_le_mul_left B h
 rw [Nat.mul_add, Nat.mul_one] at h1
 rw [F9 (by omega)]
 exact List.Pairwise.nil
theorem Mrg.start {ys : List α} {B : Nat} (hB : 0 < B) (h : Bks key ys B) : Mrg key ys B 0 := ⟨Ins.zero ys (2 * B) oQ, fun i _ => h i⟩
theorem Mrg.pre {ys : List α} {B a : Nat} (h : Mrg key ys B a) (hb : 2 * B + a ≤ ys.length) : Iv key (C3 ys a (a + B)) ∧ Iv key (C3 ys (a + B) (2 * B + a)) := by
 obtain ⟨⟨⟨q, hq⟩, _⟩, hs⟩ := h
 have e1 : a = B * (2 * q) := by rw [hq, Nat.mul_comm 2 B, Nat.mul_assoc]
 have e2 : a + B = B * (2 * q + 1) := by rw [Nat.mul_add, Nat.mul_one, ← e1]
 have h1 := hs (2 * q) oQ
 have h2 := hs (2 * q + 1) oQ
 rw [← e1, Nat.min_eq_left (by omega)] at h1
 rw [← e2, Nat.min_eq_left oQ, show a + B + B = 2 * B + a by omega] at h2
 exact ⟨h1, h2⟩
theorem Mrg.step {ys zs : List α} {B a : Nat} (hB : 0 < B) (h : Mrg key ys B a) (hb : 2 * B + a ≤ ys.length) (hz : StS key (C3 ys a (2 * B + a)) zs) : Mrg key (E7 ys a (2 * B + a) zs) B (2 * B + a) := by
 have e : 2 * B + a = a + 2 * B := by omega
 rw [e] at hb hz ⊢
 have hzl : zs.length = a + 2 * B - a := by rw [hz.same.length, Cj hb]
 refine ⟨h.1.step oQ hb hz, fun i hi => ?_⟩
 rw [Dy oQ hb hzl, E4 oQ hb hzl (.inr hi)]
 exact h.2 i oQ
theorem Mrg.HI {ys : List α} {B a : Nat} (h : Mrg key ys B a) (h1 : a + B < ys.length) (hb : ys.length < 2 * B + a) : Iv key (C3 ys a (a + B)) ∧ Iv key (C3 ys (a + B) ys.length) := by
 obtain ⟨⟨⟨q, hq⟩, _⟩, hs⟩ := h
 have e1 : a = B * (2 * q) := by rw [hq, Nat.mul_comm 2 B, Nat.mul_assoc]
 have e2 : a + B = B * (2 * q + 1) := by rw [Nat.mul_add, Nat.mul_one, ← e1]
 have k1 := hs (2 * q) oQ
 have k2 := hs (2 * q + 1) oQ
 rw [← e1, Nat.min_eq_left (by omega)] at k1
 rw [← e2, Nat.min_eq_right (by omega)] at k2
 exact ⟨k1, k2⟩
theorem Mrg.last {ys zs : List α} {B a : Nat} (h : Mrg key ys B a) (ha : a ≤ ys.length) (hb : ys.length < 2 * B + a) (hz : StS key (C3 ys a ys.length) zs) : Bks key (E7 ys a ys.length zs) (2 * B) := h.1.last ha oQ hz
theorem Mrg.done {ys : List α} {B a : Nat} (h : Mrg key ys B a) (ha : a ≤ ys.length) (hb : ys.length < 2 * B + a) (h1 : ¬ a + B < ys.length) : Bks key ys (2 * B) := by
 have hs : Iv key (C3 ys a ys.length) := by
   obtain ⟨⟨⟨q, hq⟩, _⟩, hs⟩ := h
   have e1 : a = B * (2 * q) := by rw [hq, Nat.mul_comm 2 B, Nat.mul_assoc]
   have k1 := hs (2 * q) oQ
   rw [← e1, Nat.min_eq_right (by omega)] at k1
   exact k1
 have := h.last ha hb (StS.refl hs)
 rwa [G5 ha (Nat.le_refl _)] at this
theorem Bks.all {xs ys : List α} {B : Nat} (h : Bks key ys B) (hB : ys.length ≤ B) (hs : sameF key xs ys) : StS key xs ys := by
 have := h 0
 rw [Nat.mul_zero, Nat.zero_add, Nat.min_eq_right hB, sU] at this
 exact ⟨this, hs⟩
theorem sameF.step {xs ys zs : List α} {a b : Nat} (h : sameF key xs ys) (h1 : a ≤ b) (hb : b ≤ ys.length) (hz : StS key (C3 ys a b) zs) : sameF key xs (Wx.E7 ys a b zs) := h.trans (sameF.E7 h1 hb hz.same)
def jT (key : α → K2) (x : α) : List α → List α
 | [] => [x]
 | y :: l => if Hu (key x) (key y) = true then x :: y :: l else y :: jT key x l
def Jb (key : α → K2) (l : List α) : List α := l.foldl (fun acc x => jT key x acc) []
theorem Yu (x : α) : ∀ (l : List α), Iv key l → ∃ p, jT key x l = C4 l x p ∧ p ≤ l.length ∧ (∀ y ∈ l.drop p, Hu (key x) (key y) = true) ∧ (p = 0 ∨ ∃ y, l[p - 1]? = some y ∧ Hu (key x) (key y) = false)
 | [], _ => ⟨0, rfl, Nat.le_refl _, by simp, .inl rfl⟩
 | y :: l, h => by
   unfold jT
   split
   · rename_i hlt
     refine ⟨0, by simp [C4], Nat.zero_le _, fun z hz => ?_, .inl rfl⟩
     rcases List.mem_cons.1 (by simpa using hz : z ∈ y :: l) with rfl | hz
     · exact hlt
     exact Wt hlt ((List.pairwise_cons.1 h).1 z hz)
   rename_i hlt
   obtain ⟨p, e, hp, h1, h2⟩ := Yu x l (List.pairwise_cons.1 h).2
   refine ⟨p + 1, by rw [e]; rfl, by simpa using hp, by simpa using h1, .inr ?_⟩
   rcases h2 with rfl | ⟨z, hz, hl⟩
   · exact ⟨y, rfl, by simpa using hlt⟩
   refine ⟨z, ?_, hl⟩
   have : 0 < p := by
     rcases Nat.eq_zero_or_pos p with rfl | h
     · rw [Nat.zero_sub] at hz
       cases l with
       | nil => simp at hz
       | cons w l =>
         exfalso
         simp at hz; subst hz
         have := h1 w (by simp)
         rw [hl] at this; cases this
     exact h
   rw [show p + 1 - 1 = (p - 1) + 1 by omega, List.getElem?_cons_succ]
   exact hz
theorem Em (l : List α) : StS key l (Jb key l) := by
 suffices h : ∀ (r done acc : List α), StS key done acc → StS key (done ++ r) (r.foldl (fun acc x => jT key x acc) acc) by
   have := h l [] [] ⟨List.Pairwise.nil, fun _ => rfl⟩
   simpa [Jb] using this
 intro r
 induction r with
 | nil => intro done acc h; simpa using h
 | cons x r ih =>
   intro done acc h
   obtain ⟨p, e, hp, h1, h2⟩ := Yu (key := key) x acc h.ord
   have := ih (done ++ [x]) (jT key x acc) (by rw [e]; exact h.snoc hp h1 h2)
   simpa using this
theorem StS.eq {l s : List α} (h : StS key l s) : s = Jb key l := h.unique (Em l)
end
end Go.Wx
namespace Go.Proofs.YtgjogglfnkgapaaGreatDoor
open Go.Proofs.Tryz
open Go.Wx Go.RowKit
theorem bO (z : Nat) (w : World) : Ret prog 297 #[vu z] w fun r w' => (∃ B, r = .func (.func 358) #[] #[.pointer (some ⟨B, 0, none⟩)] ∧ Blk w' B #[vu z] 277 ∧ w.heap.size ≤ B) ∧ Up w w' := by
 have hW := Up.refl w
 refine cT 4 func297 rfl (Af (Al (.Pc (.t rfl) rfl) rfl ?_))
 rintro _ w1 ⟨B1, rfl, NB1⟩
 have eB1 := NB1.at_
 replace hW := hW.up NB1.up
 have hB1 := NB1.blk
 refine Ay (Ao (Aa (I (.makeFunc (.cu rfl)) (LW.A rfl (Ai (Ak (KW.q ?_)))))))
 exact ⟨⟨_, rfl, hB1, by omega⟩, hW⟩
theorem Yv (B1 z : Nat) (w : World) (hz : z < 18446744073709551616) (hB : Blk w B1 #[vu z] 277) : xX Tryz.prog 358 #[.pointer (some ⟨B1, 0, none⟩)] JL (fun b => b = B1) (fun ys => ys = R6 z) 10 w := by
 intro lp J w0 hUw hJZ hY hJ
 have hB1 := hB.up hUw
 refine cT 18 func358 rfl (An (CW.loop (σ := List (UInt8 × Bool) × Nat) (fun s w => R6 z = s.1 ++ R6 s.2 ∧ s.2 < 18446744073709551616 ∧ J s.1 w ∧ Blk w B1 #[vu s.2] 277) (fun s => [(0, .eq (.func (.yield lp) #[] #[])), (1, .eq (.pointer (some ⟨B1, 0, none⟩)))]) (fun s => s.2) ([], z) ?_ ?_ ?_))
 ·exact ⟨rfl, hz, hJ, hB1⟩
 ·exact tQ
 rintro ⟨pre, zz⟩ w1 ⟨hg, h64, hJ, hB1⟩
 obtain ⟨lb, hlb⟩ : ∃ b, b = decide ((zz : Int) < 128) := ⟨_, rfl⟩
 refine An (Af (I (.lb rfl ((hB1).Ah rfl)) (I (.val (v' := .bool lb) (PEv.lss (.t rfl) (.const _)) (congrArg Go.Value.bool hlb.symm)) (LW.A rfl (Ao (Af (Ab rfl (I (.lb rfl ((hB1).Ah rfl)) (I (.val (v' := vu (zz % 128)) (iS (.t rfl) (.const _)) (congrArg (Go.Value.int .u64) (yT h64))) (I (.val (v' := bv (UInt8.ofNat (zz % 128))) (PEv.conv (k' := .u8) (by rw [underlying277]; rfl) underlying5 (.t rfl)) (sJ (z := zz % 128))) (Ab rfl ?_)))))))))))
 have hY2 := hY pre (UInt8.ofNat (zz % 128), lb) _ hJ (nO hg)
 refine LW.y (vs := [bv (UInt8.ofNat (zz % 128)), .bool lb]) (.t rfl) (.ct rfl (.cu rfl)) rfl rfl hY2 ?_
 rintro _ w2 ⟨rfl, hJ2, hkp⟩
 replace hB1 : Blk w2 B1 _ _ := (hkp B1 rfl).trans hB1
 refine I (.n1 rfl) (Ab rfl (Fk rfl rfl (I (.po rfl (fun hp => (by exact .cond rfl (by simp_all)))) (Ai (CW.b rfl (fun h15 => ?_) (fun h15 => ?_))))))
 ·refine Ak (Ap (A9 (Ap (A9 (Ih rfl ⟨_, rfl, ?_⟩)))))
  exact ⟨_, nL (nN hlb) hg (by simpa using h15), hJ2⟩
 refine Aj (Ac (Aa (I (.lb rfl ((hB1).Ah rfl)) (I (.val (v' := vu (zz / 128)) (PEv.U9 (j := 7) (.t rfl) (.const _)) (congrArg (Go.Value.int .u64) (JH (z := zz)))) (Be (.store sizeOf277 (.t rfl) (.t rfl) rfl hB1 bQ) ?_)))))
 intro w3 Nw3
 replace hB1 := Nw3.blk
 replace hB1 : Blk w3 B1 #[vu (zz / 128)] _ := hB1
 refine LW.nil (Ae (Ar ?_))
 have hnx := nM (nN hlb) hg (by simpa using h15) h64
 exact ⟨(_, zz / 128), ⟨hnx.1, by dsimp only; omega, hJZ _ _ _ hJ2 Nw3.sto.fr, hB1⟩, tQ, hnx.2⟩
theorem Sh (n : Int) (w : World) : Ret prog 207 #[vi n] w fun r w' => r = .tuple #[.string ⟨(encI n).toArray⟩, vi (zJ n)] ∧ Up w w' := by
 have hW := Up.refl w
 obtain ⟨w0, rfl, _⟩ := W0 w
 refine Gz (n := 33) func207 rfl rfl rfl (Af (Ay (Ay (Ao (Am ?_)))))
 cases hq1 : decide (M6 n) with
 | true =>
  have hin := of_decide_eq_true hq1
  obtain ⟨hin1, hin2⟩ := hin
  have hin : M6 n := ⟨hin1, hin2⟩
  refine Aa (Ab rfl (I (.fa (PEv.lss (.t rfl) (.const _)) (decide_eq_false oQ)) (Ab rfl (Cb (Ab rfl (Cb (I (.fa (PEv.gtr (.t rfl) (.const _)) (decide_eq_false oQ)) (I (.po rfl (fun hp => (by exact .tmp rfl))) (Ai (CW.f rfl (Aj (Ac (Af (Al (.H6 zeroValue213 rfl) rfl ?_))))))))))))))
  rintro _ w1 ⟨B4, rfl, NB4⟩
  have eB4 := NB4.at_
  have zB4 := NB4.size
  replace hW := hW.up NB4.up
  have hB4 := NB4.blk
  refine Ao (Af (Ab rfl (I (.conv (k' := .u64) (by rw [underlying3]; rfl) underlying277 (.t rfl)) (I (.GX (j := 1) (.t rfl) (.const _)) (Ab rfl (I (.U9 (j := 63) (.t rfl) (.const _)) (I (.conv (k' := .u64) (by rw [underlying3]; rfl) underlying277 (.t rfl)) (I (.val (v' := vu (eZ n)) (iT (.t rfl) (.t rfl)) (congrArg (Go.Value.int .u64) (mW hin))) (A3 (eC (.o rfl) (FL)) rfl (bO _ _) ?_)))))))))
  rintro _ w2 ⟨⟨B1, rfl, hBz, zz1⟩, uw2⟩
  have zw2 := uw2.size
  replace hW := hW.up uw2
  replace hB4 := hB4.up uw2
  refine Ai (An ?_)
  obtain ⟨bq, hbq⟩ : ∃ bq, bq = w2.heap.size := ⟨_, rfl⟩
  have zBz := hBz.lt
  refine Um (fun b => b = B1) (fun pre W => Sz bq W ∧ ∃ v, Blk W B4 #[v] 213 ∧ OwnS W bq 5 1 Q2 v (pre.map X7) ∧ Up w0 W) (fun x => [(5, .eq (bv x.1)), (6, .eq (.bool x.2)), (4, .eq (.pointer (some ⟨B4, 0, none⟩)))]) (.t rfl) (fun args w => GD args w) (fun W hu => Yv B1 (eZ n) W (aX hin.1 hin.2) (hBz.up hu)) (fun _ => rfl) rfl ?_ ?_ ?_ ?_ ?_ (fun _ => rfl) ?_ ?_
  ·rintro b rfl
   omega
  ·rw [← hbq]
   intro pre W W' row hs hg hr
   obtain ⟨hZ, v, hB4, hO, hW⟩ := hs
   exact ⟨hZ.ko (Ko.grown hg hr), v, hB4.ko (Ko.grown hg hr), hO.ko (Ko.grown hg hr), hW.ko (Ko.grown hg hr) oQ⟩
  ·intro pre W W' hs hf
   obtain ⟨hZ, v, hB4, hO, hW⟩ := hs
   exact ⟨hZ.T9 hf, v, hB4.T9 hf oQ, hO.T9 hf (fun b e => by subst e; omega), hW.T9 hf (fun b e => by subst e; omega)⟩
  ·exact ⟨Nat.le_of_eq hbq, _, hB4, OwnS.nil _ _ _ _ _, hW⟩
  ·intro lp x w3
   refine bN rfl rfl (Af (LW.A rfl (Ai (Aa (LW.A rfl (LW.nil ?_))))))
   exact fun a ha => ⟨rfl, ha.sub tQ⟩
  ·rw [← hbq]
   intro lp pre x w4 hs hlt
   obtain ⟨hZ, v, hB4, hO, hW⟩ := hs
   have zq := hZ.le
   have hK := Kf.refl bq w4
   have hI1 := Zk.refl (B := B1) (w := w4) oQ
   refine An (Am (Af (Ab rfl (I (.n1 rfl) (Ai (CW.b rfl (fun h24 => ?_) (fun h24 => ?_)))))))
   ·refine Aa (Ab rfl (I (.val (v' := bv (x.1 ||| 128)) (mE (.t rfl) (.const _)) (congrArg (Go.Value.int .u8) GY)) (LW.A rfl (Ai (Aa (I (.lb rfl (hB4.Ah rfl)) (Ab rfl (Al (.buildSlice (xs := [_]) (enc := Q2) (mk := bv) underlying213 sizeOf5 zeroValue5 rfl cQ (fun _ => rfl) (fun _ => rfl) (.cu rfl) rfl) rfl ?_))))))))
    rintro _ w5 ⟨B29, cB29, rfl, NB29, yB29, xB29⟩
    have eB29 := NB29.at_
    have zB29 := NB29.size
    replace hZ := hZ.up NB29.up
    replace hB4 := hB4.up NB29.up
    replace hO := hO.up NB29.up
    replace hW := hW.up NB29.up
    replace hK := hK.up NB29.up
    replace hI1 := hI1.up NB29.up
    have hB29 := NB29.blk
    have hE29 := xB29
    refine Al (.append (enc := Q2) (base := bq) (bytes := 1) (i := Tryz.t5) underlying213 kQ rfl rfl rfl rfl cQ (fun _ => rfl) fF (.t rfl) (.t rfl) hO (Aw hE29) (by simp) (by simp [maxLen]; omega) (by simp; omega) oQ) rfl ?_
    rintro v30 w6 ⟨Ow6, Gw6⟩
    replace hZ := hZ.gr Gw6 rfl
    replace hB4 := hB4.gr Gw6 oQ
    replace hW := hW.gr Gw6 oQ
    replace hK := hK.gr Gw6
    replace hI1 := hI1.gr Gw6 oQ
    replace hO := Ow6
    refine Be (.store sizeOf213 (.t rfl) (.t rfl) hO.one hB4 bQ) ?_
    intro w7 Nw7
    replace hZ := hZ.sto Nw7.sto oQ
    replace hO := hO.sto Nw7.sto oQ
    replace hW := hW.sto Nw7.sto oQ
    replace hK := hK.sto Nw7.sto (.inr (.inr ⟨_, _, hB4⟩))
    replace hI1 := hI1.sto Nw7.sto oQ
    replace hB4 := Nw7.blk
    replace hB4 : Blk w7 B4 #[v30] _ := hB4
    refine LW.nil (Ae ?_)
    exact fun a ha => ⟨hK, fun b e => by subst e; exact hI1.same, hZ, _, hB4, by rw [List.map_append, List.map_cons, List.map_nil]; (rw [sZ h24]; exact hO), hW⟩
   refine Aj (Ac (Aa (I (.lb rfl (hB4.Ah rfl)) (Ab rfl (Al (.buildSlice (xs := [_]) (enc := Q2) (mk := bv) underlying213 sizeOf5 zeroValue5 rfl cQ (fun _ => rfl) (fun _ => rfl) (.cu rfl) rfl) rfl ?_)))))
   rintro _ w8 ⟨B29, cB29, rfl, NB29, yB29, xB29⟩
   have eB29 := NB29.at_
   have zB29 := NB29.size
   replace hZ := hZ.up NB29.up
   replace hB4 := hB4.up NB29.up
   replace hO := hO.up NB29.up
   replace hW := hW.up NB29.up
   replace hK := hK.up NB29.up
   replace hI1 := hI1.up NB29.up
   have hE29 := xB29
   refine Al (.append (enc := Q2) (base := bq) (bytes := 1) (i := Tryz.t5) underlying213 kQ rfl rfl rfl rfl cQ (fun _ => rfl) fF (.t rfl) (.t rfl) hO (Aw hE29) (by simp) (by simp [maxLen]; omega) (by simp; omega) oQ) rfl ?_
   rintro v30 w9 ⟨Ow9, Gw9⟩
   replace hZ := hZ.gr Gw9 rfl
   replace hB4 := hB4.gr Gw9 oQ
   replace hW := hW.gr Gw9 oQ
   replace hK := hK.gr Gw9
   replace hI1 := hI1.gr Gw9 oQ
   replace hO := Ow9
   refine Be (.store sizeOf213 (.t rfl) (.t rfl) hO.one hB4 bQ) ?_
   intro w10 Nw10
   replace hZ := hZ.sto Nw10.sto oQ
   replace hO := hO.sto Nw10.sto oQ
   replace hW := hW.sto Nw10.sto oQ
   replace hK := hK.sto Nw10.sto (.inr (.inr ⟨_, _, hB4⟩))
   replace hI1 := hI1.sto Nw10.sto oQ
   replace hB4 := Nw10.blk
   replace hB4 : Blk w10 B4 #[v30] _ := hB4
   refine LW.nil (Ae ?_)
   exact fun a ha => ⟨hK, fun b e => by subst e; exact hI1.same, hZ, _, hB4, by rw [List.map_append, List.map_cons, List.map_nil]; (rw [nP h24]; exact hO), hW⟩
  intro D ys w11 hDb hSy hs hD
  rw [← hbq] at hDb
  obtain ⟨hZ, v, hB4, hO, hW⟩ := hs
  replace hD : Ob w11 D (.deferred (some [])) := hD
  refine Ae (Ac (Af (I (.lb rfl (hB4.Ah rfl)) (I (.yU underlying213 underlying5 underlying9 (.t rfl) hO) (LW.A rfl (Ay (Ai (Ak (U5 hD rfl ?_)))))))))
  replace hZ := hZ.ko (Ko.putObj (.deferred none) hD rfl hDb)
  replace hB4 := hB4.ko (Ko.putObj (.deferred none) hD rfl hDb)
  replace hO := hO.ko (Ko.putObj (.deferred none) hD rfl hDb)
  replace hW := hW.putObj (D := D) (.deferred none) oQ
  refine Fu rfl rfl rfl ⟨_, rfl, ?_⟩
  (rw [tA hin, zJ, if_pos hin]; subst hSy; exact ⟨rfl, hW⟩)
 | false =>
  have hin := of_decide_eq_false hq1
  refine Aa (Ab rfl (I (.lss (.t rfl) (.const _)) (Ab rfl (Fk rfl rfl (LW.gr rfl (fun hc => PEv.gtr vQ (.const _)) (I (.po rfl (fun hp => (by exact .cond rfl (by simp_all)))) (Ai (CW.b rfl (fun h12 => ?_) (fun h12 => ?_)))))))))
  ·refine Af (Ay (Ay (Ai (Ak (Ap (Rr (Fu rfl rfl rfl ⟨_, rfl, ?_⟩)))))))
   (rw [nQ hin, zJ, if_neg hin]; exact ⟨rfl, hW⟩)
  exfalso
  apply hin
  unfold M6
  simp at h12
  omega
theorem Un (t : ByteArray) (w : World) (ht : t.size ≤ 65536) : Ret prog 257 #[.string t] w fun r w' => r = .tuple #[.string ⟨(bB t.data.toList).toArray⟩, vi 0] ∧ Up w w' := by
 have hW := Up.refl w
 refine cT 18 func257 rfl (Af (Ay (Ay (Ao (Af (Ab rfl (I (.Ro underlying9 (.t rfl)) (I (.fa (PEv.gtr (.t rfl) (.const _)) (decide_eq_false oQ)) (Ai (CW.f rfl (Aj (Ac (Af (Ab rfl (I (.Ro underlying9 (.t rfl)) (A3 (eC (.o rfl) (xE)) rfl (Sh _ _) ?_))))))))))))))))
 rintro _ w1 ⟨rfl, uw1⟩
 replace hW := hW.up uw1
 refine Ab rfl (I (.xt rfl rfl) (I (.xt rfl rfl) (LW.A rfl (LW.A rfl (Ao (Aa (Ab rfl (Ab rfl (I (.yV (.t rfl) (.t rfl) (by rw [Sc]; have := Oa (t.size : Int); omega)) (LW.A rfl (Ay (Ai (Ak (Fu rfl rfl rfl ⟨_, rfl, ?_⟩))))))))))))))
 refine ⟨?_, hW⟩
 rw [iW, bB, Wy]
theorem Uo (D : Wri) (bs : List UInt8) (w : World) (hD : (D8 217 5 D (bs)).holds w) : Ret prog 298 #[.pointer (some ⟨D.bd, 0, none⟩)] w fun r w' => r = .tuple #[] ∧ Stp (D8 217 5 D (bs)) (D8 217 5 ⟨D.bd, true, D.bf⟩ (bs)) w w' := by
 have hS := Pj hD
 obtain ⟨B, us, bf⟩ := D
 refine cT 20 func298 rfl (Am ?_)
 cases hq0 : us with
 | false =>
  subst hq0
  replace hS : Sep _ w w [Cc B #[.pointer none, bf] 217, J 5 1 Q2 bf bs] := hS
  refine Aa (Ab rfl (I (.nc rfl) (I (.fB 0 rfl) (I (.lb rfl (hS.b0.Ah rfl)) (I (.tr (Fx underlying212 (.t rfl)) (rfl)) (Ai (CW.v rfl (Aa (Ab rfl (Ab rfl (I (.GZ (k := 1) underlying212 underlying427 kQ (.t rfl) hS.b0 (by simp)) (I (.ext (.cu rfl) (Wr func359 rfl rfl kQ kQ _)) (I (.sK (k := 2) underlying427 underlying212 kQ (.t rfl) hS.b0 kQ) (I (.nc rfl) (I (.fB 0 rfl) (Be (.store sizeOf212 (.t rfl) (.t rfl) rfl hS.b0 bQ) ?_))))))))))))))))
  intro w1 Nw1
  replace hS := hS.Cp 0 rfl (show Set_ _ w1 _ (#[.pointer (some ⟨B, 0, none⟩), bf]) _ from Nw1)
  refine LW.nil (C7 rfl ⟨_, rfl, ?_⟩)
  exact ⟨rfl, Kn (rest := []) hS⟩
 | true =>
  subst hq0
  replace hS : Sep _ w w [Cc B #[.pointer (some ⟨B, 0, none⟩), bf] 217, J 5 1 Q2 bf bs] := hS
  refine Aa (Ab rfl (I (.nc rfl) (I (.fB 0 rfl) (I (.lb rfl (hS.b0.Ah rfl)) (I (.fa (Fx underlying212 (.t rfl)) (rfl)) (Ai (CW.f rfl (Af (Ab rfl (I (.nc rfl) (I (.fB 0 rfl) (I (.lb rfl (hS.b0.Ah rfl)) (Ab rfl (I (.fa (X8 (k := 2) underlying212 kQ (.t rfl) (.t rfl)) (rfl)) (Ai (CW.f rfl (Aj (C7 rfl ⟨_, rfl, ?_⟩))))))))))))))))))
  exact ⟨rfl, Kn (rest := []) hS⟩
theorem Qu (t : ByteArray) (D : Wri) (bs : List UInt8) (w : World) (hD : (D8 217 5 D (bs)).holds w) (hlen : bs.length + t.size ≤ 140737488355328) : Ret prog 208 #[.pointer (some ⟨D.bd, 0, none⟩), .string t] w fun r w' => r = .tuple #[vi (t.size : Int), .nilIface] ∧ ∃ bf, Stp (D8 217 5 D (bs)) (D8 217 5 ⟨D.bd, true, bf⟩ (bs ++ t.data.toList)) w w' := by
 have hS := Sep.cons hD (fun _ h => h) (Sep.start _ _) (by simp)
 refine cT 19 func208 rfl (Af (Ay (Ay (Ao (Aa (Ab rfl (A3 (eC (.o rfl) (FM)) rfl (Uo D bs _ (hS.get 0 rfl)) ?_)))))))
 rintro _ w1 ⟨rfl, uw1⟩
 replace hS := hS.Ez 0 rfl uw1
 refine Ao ?_
 replace hS := Sep.unfold (Bs := []) (rest := []) hS
 replace hS : Sep _ _ _ [Cc D.bd #[.pointer (some ⟨D.bd, 0, none⟩), D.bf] 217, J 5 1 Q2 D.bf bs] := hS
 refine Aa (Ab rfl (Ab rfl (I (.nc rfl) (I (.fB 1 rfl) (I (.lb rfl (hS.b0.Ah rfl)) (Ab rfl (Al (.iX (i := Tryz.t5) underlying213 underlying9 kQ rfl rfl rfl (.t rfl) (.t rfl) (hS.own 1 rfl) oQ) rfl ?_)))))))
 intro v14 w2 Gw2
 replace hS := hS.Ez 1 rfl Gw2
 refine I (.nc rfl) (I (.fB 1 rfl) (Be (.store sizeOf213 (.t rfl) (.t rfl) (hS.own 1 rfl).one hS.b0 bQ) ?_))
 intro w3 Nw3
 replace hS := hS.Cp 0 rfl (show Set_ _ w3 _ (#[.pointer (some ⟨D.bd, 0, none⟩), v14]) _ from Nw3)
 refine Ao (Aa (Ab rfl (I (.Ro underlying9 (.t rfl)) (LW.A rfl (Ay (Ai (Ak (Fu rfl rfl rfl ⟨_, rfl, ?_⟩))))))))
 exact ⟨rfl, v14, Kn (rest := []) hS⟩
theorem bP (D : Wri) (bs : List UInt8) (w : World) (hD : (D8 217 5 D (bs)).holds w) (hne : bs ≠ []) (hlen : bs.length ≤ 1000000000) : Ret prog 108 #[.pointer (some ⟨D.bd, 0, none⟩)] w fun r w' => r = .string ⟨bs.toArray⟩ ∧ Fr (D8 217 5 D (bs)).foot w w' := by
 have hS := Pj hD
 obtain ⟨B, us, bf⟩ := D
 obtain ⟨g, cp, rfl, hcp⟩ : ∃ g cp, bf = .slice (some ⟨g, 0, none⟩) bs.length cp ∧ cp ≠ 0 := by
   have h0 : 0 < bs.length := List.length_pos_iff.2 hne
   obtain ⟨_, ⟨rfl, hn⟩ | ⟨g, cap, cur, rfl, _, _, hc, _⟩⟩ := R8 hD
   · omega
   exact ⟨g, cap, rfl, by omega⟩
 replace hS : Sep _ w w [Cc B #[(⟨B, us, .slice (some ⟨g, 0, none⟩) bs.length cp⟩ : Wri).ad, .slice (some ⟨g, 0, none⟩) bs.length cp] 217, J 5 1 Q2 (.slice (some ⟨g, 0, none⟩) bs.length cp) bs] := hS
 refine cT 14 func108 rfl (Af (Ay (Ao (Ew 10 kQ kQ kQ kQ kQ rfl rfl (U (.mv rfl) (U (.nc rfl) (U (.fB 1 rfl) (U (.lb rfl (hS.b0.Ah rfl)) (U (.iY hcp (.t rfl)) (U (.mv rfl) (U (.nc rfl) (U (.fB 1 rfl) (U (.lb rfl (hS.b0.Ah rfl)) (U (.Di underlying213 (.t rfl)) (HW.nil ?_)))))))))))))))
 intro w1 uw1
 replace hS := hS.up uw1
 refine Al (.iZ underlying322 kQ (.t rfl) (.t rfl) (hS.own 1 rfl) hne oQ) rfl ?_
 rintro _ w2 ⟨rfl, hF⟩
 refine LW.A rfl (Ai (Ak (KW.q ?_)))
 exact ⟨rfl, hS.fr.next hF (fun i hi => .inl (bC (.inr hi)))⟩
theorem Mt (b : Nat) (t : ByteArray) (D : Wri) (bs : List UInt8) (w : World) (hD : (D8 217 5 D (bs)).holds w) (hb : D.bd = b) (hlen : bs.length + t.size ≤ 140737488355328) : Ret prog 208 #[.pointer (some ⟨b, 0, none⟩), .string t] w fun r w' => r = .tuple #[vi (t.size : Int), .nilIface] ∧ ∃ bf, Stp (D8 217 5 D (bs)) (D8 217 5 ⟨b, true, bf⟩ (bs ++ t.data.toList)) w w' := by subst hb; exact Qu t D bs w hD hlen
theorem tL (ad : Option Addr) (cp : Nat) (l : List Int) (D : Wri) (bs : List UInt8) (w : World) (hD : (D8 217 5 D (bs)).holds w) (hE0 : Els w ad 1 Br l) (hne : ∀ B o, ad = some ⟨B, o, none⟩ → ¬ (D8 217 5 D (bs)).foot B) (hlen : bs.length + 10 * l.length ≤ 1000000000) : Ret prog 104 #[.pointer (some ⟨D.bd, 0, none⟩), .slice ad l.length cp] w fun r w' => r = .tuple #[] ∧ ∃ D', D'.bd = D.bd ∧ Stp (D8 217 5 D (bs)) (D8 217 5 D' (bs ++ Ct l)) w w' := by
 obtain ⟨w0, rfl, _⟩ := W0 w
 have hS := Sep.cons hD (fun _ h => h) (Sep.start _ _) (by simp)
 refine cT 25 func104 rfl (Af (Ab rfl (I (.Di underlying34 (.t rfl)) (I (.move (.const _)) (Ai (An (A8 (σ := Nat × Wri) (fun s w => (s.1 ≤ l.length) ∧ (s.2.bd = D.bd) ∧ (Sep (D8 217 5 D (bs)).foot w0 w [D8 217 5 s.2 (bs ++ Ct (l.take s.1))])) (fun s => [(10, .eq (vi (s.1 : Int)))]) ([(0, .eq _), (8, .eq _), (9, .eq _)]) (fun s => l.length - s.1) (0, D) ?_ tQ ?_)))))))
 ·exact ⟨Nat.zero_le _, rfl, by simpa [Ct] using hS⟩
 rintro ⟨k, D1⟩ w1 ⟨hkk, hbd, hS⟩
 dsimp only at hkk hbd hS
 refine Af (I (.l2 rfl rfl) (Ao (CW.b rfl (fun h11 => ?_) (fun h11 => ?_))))
 ·refine Aj (Ac (Am (An (Am ?_))))
  have hE := hE0.fr hS.fr hne
  have hkl : k < l.length := by simp at h11; omega
  refine Aa ?_
  obtain ⟨x, hx⟩ := Au (xs := l) (i := k) oQ
  obtain ⟨Bx, ox, ax, hcx⟩ := hE _ x hx
  refine I (.Av underlying34 sizeOf3 (.t rfl) (.t rfl) oQ ax) (I (.lb rfl (hcx.nth (j := 0) rfl)) (LW.A rfl (Ao (Aa (Ab rfl (A3 (eC (.o rfl) (xE)) rfl (Sh x _) ?_))))))
  rintro _ w2 ⟨rfl, uw2⟩
  replace hS := hS.up uw2
  refine Ab rfl (I (.xt rfl rfl) (I (.xt rfl rfl) (LW.A rfl (LW.A rfl (Ai (Aa (Ab rfl (I (.nc rfl) (I (.fB 0 rfl) (Ab rfl (A3 (eC (.u rfl rfl) (xF)) rfl (Mt D.bd _ D1 _ _ (hS.get 0 rfl) hbd (by rw [Sc, List.length_append]; have := Oa x; have := Hc (l.take k); have := List.length_take_le k l; omega)) ?_)))))))))))
  rintro _ w3 ⟨rfl, bf, uw3⟩
  replace hS := hS.Ez 0 rfl uw3
  refine LW.nil (Ae (Ac (Aa (I (.ic rfl oQ) (Ab rfl (LW.nil (Ar ?_)))))))
  exact ⟨(k + 1, ⟨D.bd, true, bf⟩), ⟨by omega, rfl, by rw [aY hx, ← List.append_assoc]; exact hS⟩, tQ, by omega⟩
 refine Bl (Ad (Ad (Aq (C7 rfl ⟨_, rfl, ?_⟩))))
 have hk2 : l.take k = l := List.take_of_length_le (by simp at h11; omega)
 rw [hk2] at hS
 exact ⟨rfl, D1, hbd, ⟨hS.fr, hS.get 0 rfl, hS.foot 0 rfl⟩⟩
theorem oC (b : Nat) (ad : Option Addr) (cp : Nat) (l : List Int) (D : Wri) (bs : List UInt8) (w : World) (hD : (D8 217 5 D (bs)).holds w) (hb : D.bd = b) (hE0 : Els w ad 1 Br l) (hne : ∀ B o, ad = some ⟨B, o, none⟩ → ¬ (D8 217 5 D (bs)).foot B) (hlen : bs.length + 10 * l.length ≤ 1000000000) : Ret prog 104 #[.pointer (some ⟨b, 0, none⟩), .slice ad l.length cp] w fun r w' => r = .tuple #[] ∧ ∃ D', D'.bd = b ∧ Stp (D8 217 5 D (bs)) (D8 217 5 D' (bs ++ Ct l)) w w' := by subst hb; exact tL ad cp l D bs w hD hE0 hne hlen
theorem Si (b : Nat) (D : Wri) (bs : List UInt8) (w : World) (hD : (D8 217 5 D (bs)).holds w) (hb : D.bd = b) (hne : bs ≠ []) (hlen : bs.length ≤ 1000000000) : Ret prog 108 #[.pointer (some ⟨b, 0, none⟩)] w fun r w' => r = .string ⟨bs.toArray⟩ ∧ Fr (D8 217 5 D (bs)).foot w w' := by subst hb; exact bP D bs w hD hne hlen
theorem oD (b : Bool) (w : World) : Ret prog 256 #[.bool b] w fun r w' => r = vi (J6 b) ∧ Up w w' := by
 have hW := Up.refl w
 refine cT 4 func256 rfl (Af (Ay (Ao (Af (Ab rfl (Ai (CW.b rfl (fun h3 => ?_) (fun h3 => ?_))))))))
 ·refine Af (Ay (Ai (Ak (Ap (KW.q ?_)))))
  refine ⟨?_, hW⟩
  simp [J6, h3]
 refine Aj (Ac (Af (Ay (Ai (Ak (KW.q ?_))))))
 refine ⟨?_, hW⟩
 simp [J6, h3]
theorem Qf (f : Fact) (ad : Option Addr) (k cp : Nat) (w : World) : Ret prog 106 #[.agg f.cells, .slice ad k cp] w fun r w' => (∃ Ba Bb, r = .func (.func 209) #[] #[.pointer (some ⟨Ba, 0, none⟩), .pointer (some ⟨Bb, 0, none⟩)] ∧ Blk w' Ba #[.slice ad k cp] 221 ∧ Blk w' Bb f.cells 28) ∧ Up w w' := by
 have hW := Up.refl w
 refine cT 6 func106 rfl (Af (Al (.bA rfl) rfl ?_))
 rintro _ w1 ⟨B2, rfl, NB2⟩
 replace hW := hW.up NB2.up
 have hB2 := NB2.blk
 refine Al (.Pc (.t rfl) rfl) rfl ?_
 rintro _ w2 ⟨B3, rfl, NB3⟩
 replace hW := hW.up NB3.up
 replace hB2 := hB2.up NB3.up
 have hB3 := NB3.blk
 refine Ay (Ao (Aa (I (.makeFunc (.ct rfl (.cu rfl))) (LW.A rfl (Ai (Ak (KW.q ?_)))))))
 exact ⟨⟨_, _, rfl, hB3, hB2⟩, hW⟩
theorem W7 (X Y : Nat → Prop) (B3 B2 : Nat) (ad : Option Addr) (cp : Nat) (l : List Fld) (f : Fact) (w : World) (hEX : ∀ B o, ad = some ⟨B, o, none⟩ → ¬ X B) (hQX : ¬ X B3) (hFX : ¬ X B2) (hQ0 : Blk w B3 #[.slice ad l.length cp] 221) (hF0 : Blk w B2 f.cells 28) (hE0 : Els w ad 3 Fld.cells l) (hlen : l.length ≤ 1000) (hok : ∀ x ∈ l, Fc x.off = true) :
   IterS Tryz.prog 209 #[.pointer (some ⟨B3, 0, none⟩), .pointer (some ⟨B2, 0, none⟩)] Br X Y (fun ys => ys = Er l f) (fun pre => pre <+: Er l f) (Er l f).length w := by
 refine IterS.of ?_
 intro lp J Jx w0 hUw _ hY hJ
 obtain ⟨Bd, hBd⟩ : ∃ Bd, Bd = w0.heap.size := ⟨_, rfl⟩
 rw [← hBd] at hJ hY
 have hQ := hQ0.up hUw
 have hF := hF0.up hUw
 have hE := Els.up hE0 hUw
 refine cT 21 func209 rfl (Af (I (.lb rfl (hQ.Ah rfl)) (I (.Di underlying221 (.t rfl)) (I (.move (.const _)) (Ai (An (CW.loop (σ := Nat) (fun s w => s ≤ l.length ∧ Jw Bd J ((Er l f).take s) w ∧ Els w ad 3 Fld.cells l ∧ Blk w B3 #[.slice ad l.length cp] 221 ∧ Blk w B2 f.cells 28) (fun s => [(0, .eq (.func (.yield lp) #[] #[])), (1, .eq (.pointer (some ⟨B3, 0, none⟩))), (2, .eq (.pointer (some ⟨B2, 0, none⟩))), (6, .eq (.slice ad l.length cp)), (7, .eq (vi (l.length : Int))), (8, .eq (vi (s : Int)))]) (fun s => l.length - s) 0 ?_ ?_ ?_)))))))
 ·exact ⟨Nat.zero_le _, hJ, hE, hQ, hF⟩
 ·exact tQ
 rintro k w1 ⟨hk, hJ, hE, hQ, hF⟩
 refine Af (I (.l2 rfl rfl) (Ao (CW.b rfl (fun h9 => ?_) (fun h9 => ?_))))
 ·refine Aj (Ac (Am (An (Am ?_))))
  have hkl : k < l.length := by simp at h9; omega
  refine Aa ?_
  obtain ⟨x, hx⟩ := Au (xs := l) (i := k) oQ
  obtain ⟨Bx, ox, ax, hcx⟩ := hE _ x hx
  refine I (.Av underlying221 sizeOf310 (.t rfl) (.t rfl) oQ ax) (I (.lc rfl (hcx)) (Al (.Bm zeroValue310) rfl ?_))
  rintro _ w2 ⟨B5, rfl, MB5⟩
  refine Be (.Bi sizeOf310 rfl (.t rfl) (.t rfl) (Fld.one _) MB5.blk rfl) ?_
  intro w3 LB5
  have NB5 := MB5.set LB5
  replace hJ := hJ.up NB5.up
  replace hE := hE.up NB5.up
  replace hQ := hQ.up NB5.up
  replace hF := hF.up NB5.up
  replace hcx := hcx.up NB5.up
  have hB5 := NB5.blk
  refine Ao ?_
  have hox := hok x (List.mem_of_getElem? hx)
  refine Aa (Ab rfl (I (.fB 0 rfl) (I (.lb rfl (hB5.Ah rfl)) (A3 (Fy (.t rfl) (.cu rfl) (nJ x.off hox)) rfl (fU x.off _ _ hox) ?_))))
  rintro _ w4 ⟨rfl, uw4⟩
  replace hJ := hJ.up uw4
  replace hE := hE.up uw4
  replace hQ := hQ.up uw4
  replace hF := hF.up uw4
  replace hcx := hcx.up uw4
  replace hB5 := hB5.up uw4
  refine I (.nc rfl) (I (.lb rfl (hF.Ah (Po hox))) (LW.y (.t rfl) (.cu rfl) rfl rfl (hY _ (Gn f x.off) _ hJ (by rw [List.length_take, Nb]; omega)) ?_))
  rintro _ w5 ⟨y, rfl, hcase⟩
  refine I (.n1 rfl) (Ai (CW.b rfl (fun h19 => ?_) (fun h19 => ?_)))
  ·have hy : y = false := by simpa using h19
   subst hy
   obtain ⟨_, hJx⟩ := hcase.resolve_left (by simp)
   refine Ak (A9 (Ap (Ap (A9 (Ih rfl ⟨_, rfl, ?_⟩)))))
   exact .inr ⟨_, by rw [← Qd hx]; exact List.take_prefix _ _, hJx⟩
  have hy : y = true := by simpa using h19
  subst hy
  obtain ⟨_, hJ2, hN⟩ := hcase.resolve_right (by simp)
  replace hE := hE.kx hN hEX
  replace hQ := hQ.kx hN hQX
  replace hF := hF.kx hN hFX
  rw [← Qd hx] at hJ2
  refine Aj (Ae (Ac (Aa (I (.ic rfl oQ) (Ab rfl (LW.nil (Ar ?_)))))))
  exact ⟨k + 1, ⟨by omega, hJ2, hE, hQ, hF⟩, tQ, by omega⟩
 have hkk : k = l.length := by simp at h9; omega
 refine Bl (Ad (Ad (Aq (C7 rfl ⟨_, rfl, ?_⟩))))
 exact .inl ⟨_, rfl, by rw [hkk, ← Nb l f, List.take_length] at hJ; exact hJ.j⟩
theorem bR (gf : Nat) (lb : Array Go.Value) (H8 : List Int) (Sp : List Int → Prop) (D : Wri) (bs : List UInt8) (w : World) (hD : (D8 217 5 D (bs)).holds w) (en : ∀ args w, (callFunc gf args).run Tryz.prog w = .ok (.enter gf args) w) (hit : ∀ W (X : Nat → Prop), Up w W → (∀ i, X i → (D8 217 5 D (bs)).foot i ∨ w.heap.size ≤ i) → IterS Tryz.prog gf lb Br X (fun _ => False) (fun ys => ys = H8) Sp H8.length W) (hlen : bs.length + 10 * H8.length ≤ 1000000) : Ret prog 105 #[.pointer (some ⟨D.bd, 0, none⟩), .func (.func gf) #[] lb] w fun r w' => r = .tuple #[] ∧ ∃ D', D'.bd = D.bd ∧ Stp (D8 217 5 D (bs)) (D8 217 5 D' (bs ++ Ct H8)) w w' := by
 have hW := Up.refl w
 obtain ⟨w0, rfl, _⟩ := W0 w
 have hU0 : Stp (D8 217 5 D (bs)) (D8 217 5 D (bs)) w0 w0 := Stp.refl hD
 refine Gz (n := 11) func105 rfl rfl rfl (Af (Al (.Pc (.t rfl) rfl) rfl ?_))
 rintro _ w1 ⟨B2, rfl, NB2⟩
 have eB2 := NB2.at_
 have zB2 := NB2.size
 replace hW := hW.up NB2.up
 replace hU0 := hU0.up NB2.up
 have hB2 := NB2.blk
 refine Ao (Aa (Ab rfl (Ai (An ?_))))
 obtain ⟨bq, hbq⟩ : ∃ bq, bq = w1.heap.size := ⟨_, rfl⟩
 refine CW.rangeFunc (fun i => (D8 217 5 D (bs)).foot i ∨ bq ≤ i) (fun _ => False) (fun pre W => Sz bq W ∧ ∃ D1 : Wri, D1.bd = D.bd ∧ Blk W B2 #[.pointer (some ⟨D.bd, 0, none⟩)] 211 ∧ Stp (D8 217 5 D (bs)) (D8 217 5 D1 (bs ++ Ct pre)) w1 W) (fun c pre W => Sz bq W ∧ False) (fun x a' W => Ag 11 [] ([(4, .eq (vi x)), (2, .eq (.pointer (some ⟨B2, 0, none⟩)))]) a' W) (.t rfl) en (hit _ _ hW (fun i hi => hi.imp id (fun h => by omega))) (fun _ => rfl) rfl ?_ ?_ ?_ ?_ ?_ ?_ ?_ ?_
 ·rw [← hbq]
  intro pre W W' row hs hg hr
  obtain ⟨hZ, D1, hbd, hB2, hUp⟩ := hs
  exact ⟨hZ.ko (Ko.grown hg hr), D1, hbd, hB2.ko (Ko.grown hg hr), hUp.ko (Ko.grown hg hr) oQ⟩
 ·rw [← hbq]
  intro c pre W W' row hs hg hr
  obtain ⟨hZ, hF⟩ := hs
  exact ⟨hZ.ko (Ko.grown hg hr), hF⟩
 ·intro x a' u W W' row hs hg hr
  exact hs.world rfl _
 ·exact ⟨Nat.le_of_eq hbq, _, rfl, hB2, by simpa [Ct] using Stp.refl hU0.holds⟩
 ·rw [← hbq]
  intro lp pre x w2 K hs hk a ha
  obtain ⟨hZ, D1, hbd, hB2, hUp⟩ := hs
  have zq := hZ.le
  have hK := Kf.refl bq w2
  have hN := Kx.refl bq (fun i => (D8 217 5 D (bs)).foot i ∨ bq ≤ i) (fun _ => False) w2
  revert a
  refine M4 (p := 6) rfl (Aa (LW.A rfl (LW.nil ?_)))
  exact fun a ha => hk a _ hK hN ⟨hZ, D1, hbd, hB2, hUp⟩ (ha.sub tQ)
 ·rw [← hbq]
  intro lp pre x a' w3 hs hx hlt
  obtain ⟨hZ, D1, hbd, hB2, hUp⟩ := hs
  have ha := hx
  have zq := hZ.le
  have hK := Kf.refl bq w3
  have hN := Kx.refl bq (fun i => (D8 217 5 D (bs)).foot i ∨ bq ≤ i) (fun _ => False) w3
  refine (show CW (some lp) 8 _ 11 [] _ (ownPostG bq (Kx bq (fun i => (D8 217 5 D (bs)).foot i ∨ bq ≤ i) (fun _ => False)) _ _ (pre ++ [x]) w3) ([(4, .eq (vi x)), (2, .eq (.pointer (some ⟨B2, 0, none⟩)))]) w3 from ?_) a' ha
  refine An (Aa (I (.lb rfl (hB2.Ah rfl)) (Ab rfl (Al (.buildSlice (xs := [x]) (enc := Br) (mk := vi) underlying34 sizeOf3 zeroValue3 rfl cQ (fun _ => rfl) (fun _ => rfl) (.cu rfl) rfl) rfl ?_))))
  rintro _ w4 ⟨B9, cB9, rfl, NB9, yB9, xB9⟩
  replace hZ := hZ.up NB9.up
  replace hB2 := hB2.up NB9.up
  replace hUp := hUp.up NB9.up
  replace hK := hK.up NB9.up
  replace hN := hN.up NB9.up
  have hB9 := NB9.blk
  have hE9 := xB9
  refine A3 (eC (.u rfl rfl) (mJ)) rfl (oC D.bd _ _ [x] D1 _ _ hUp.holds hbd hE9 (fun B o e => by cases e; exact Jk hUp.holds hB9 rfl rfl) (by rw [List.length_append]; have := Hc pre; simp; omega)) ?_
  rintro _ w5 ⟨rfl, D2, hb2, hP2⟩
  have hWc := bD hUp.holds
  have hXs : ∀ i, (D8 217 5 D1 (bs ++ Ct pre)).foot i → ((D8 217 5 D (bs)).foot i ∨ bq ≤ i) := fun i hi => (hUp.sub i hi).imp id (fun h => by omega)
  replace hN := hN.trans (Kx.fr (bq := bq) (Y := fun _ => False) hP2.fr hXs hWc)
  replace hK := hK.trans (Kf.fr (bq := bq) hP2.fr hWc)
  replace hB2 := hB2.fr hP2.fr (Jk hUp.holds hB2 rfl rfl)
  replace hUp := hUp.trans hP2
  rw [List.append_assoc, iV, ← aZ] at hUp
  have hZ2 : Sz bq w5 := Nat.le_trans hZ.le hP2.fr.size
  refine LW.nil (Ae ?_)
  exact fun a ha => ⟨hK, hN, hZ2, D2, hb2, hB2, hUp⟩
 ·intro D ys w6 hDb hS hs hD
  rw [← hbq] at hDb
  obtain ⟨hZ, D1, hbd, hB2, hUp⟩ := hs
  replace hD : Ob w6 D (.deferred (some [])) := hD
  refine Ae (U5 hD rfl ?_)
  replace hZ := hZ.ko (Ko.putObj (.deferred none) hD rfl hDb)
  replace hB2 := hB2.ko (Ko.putObj (.deferred none) hD rfl hDb)
  replace hUp := hUp.ko (Ko.putObj (.deferred none) hD rfl hDb) oQ
  refine Ih rfl ⟨_, rfl, ?_⟩
  subst hS
  exact ⟨rfl, D1, hbd, hU0.trans hUp⟩
 intro D c pre w7 hDb hpre hs hD
 rw [← hbq] at hDb
 obtain ⟨hZ, hF⟩ := hs
 replace hD : Ob w7 D (.deferred (some [])) := hD
 exact hF.elim
theorem Vl (b : Nat) (Ba Bb : Nat) (ad : Option Addr) (cp : Nat) (l : List Fld) (f : Fact) (D : Wri) (bs : List UInt8) (w : World) (hD : (D8 217 5 D (bs)).holds w) (hb : D.bd = b) (hQ : Blk w Ba #[.slice ad l.length cp] 221) (hF : Blk w Bb f.cells 28) (hE : Els w ad 3 Fld.cells l) (hT : ∀ B o, ad = some ⟨B, o, none⟩ → B < w.heap.size ∧ ¬ (D8 217 5 D (bs)).foot B) (hlen : bs.length + 10 * l.length ≤ 10000) (hok : ∀ x ∈ l, Fc x.off = true) :
   Ret Tryz.prog 105 #[.pointer (some ⟨b, 0, none⟩), .func (.func 209) #[] #[.pointer (some ⟨Ba, 0, none⟩), .pointer (some ⟨Bb, 0, none⟩)]] w fun r w' => r = .tuple #[] ∧ ∃ D', D'.bd = b ∧ Stp (D8 217 5 D (bs)) (D8 217 5 D' (bs ++ Ct (Er l f))) w w' := by
 subst hb
 refine bR 209 _ (Er l f) (fun pre => pre <+: Er l f) D bs w hD ED ?_ (by rw [Nb]; omega)
 intro W X hU hX
 refine W7 X (fun _ => False) Ba Bb ad cp l f W (fun B o e hx => ?_) (fun hx => ?_) (fun hx => ?_) (hQ.up hU) (hF.up hU) (Els.up hE hU) oQ hok
 · obtain ⟨h1, h2⟩ := hT B o e
   exact (hX B hx).elim h2 (fun h => by omega)
 · have := hQ.lt
   exact (hX Ba hx).elim (Jk hD hQ rfl rfl) (fun h => by omega)
 have := hF.lt
 exact (hX Bb hx).elim (Jk hD hF rfl rfl) (fun h => by omega)
theorem Ol (f : Fact) (w : World) : Ret prog 47 #[.agg f.cells] w fun r w' => r = .string ⟨(A7 f).toArray⟩ ∧ Up w w' := by
 obtain ⟨w0, rfl, hS⟩ := W0 w
 refine cT 27 func47 rfl (Af (Al (.bA rfl) rfl ?_))
 rintro _ w1 ⟨B1, rfl, NB1⟩
 replace hS := hS.Bn NB1
 refine Ay (Ao (Am ?_))
 cases hq1 : Bk f with
 | true =>
  have hkn := Es hq1
  refine Aa (I (.lc rfl (hS.b0.agg)) (A3 (eC (.o rfl) (eJ)) rfl (L0 f _) ?_))
  rintro _ w2 ⟨rfl, uw2⟩
  replace hS := hS.up uw2
  refine I (.fa (PEv.n1 rfl) (by rw [hq1]; rfl)) (Ai (CW.f rfl (Aj (Ac (Af (I (.build (cs := #[.pointer none, .slice none 0 0]) underlying217 zeroValue217 Le .nil rfl) (Al (.bA rfl) rfl ?_)))))))
  rintro _ w3 ⟨B8, rfl, NB8⟩
  replace hS := hS.Bn NB8
  refine LW.A rfl (Ao ?_)
  replace hS := fG (Bs := [_]) (e := 5) hS
  have hA0 := hS.get 1 rfl
  refine Aa (Ab rfl (I (.fB 0 rfl) (I (.lb rfl (hS.b0.Ah rfl)) (Al (.buildSlice (xs := [f.Kind]) (enc := Br) (mk := vi) underlying34 sizeOf3 zeroValue3 rfl cQ (fun _ => rfl) (fun _ => rfl) (.cu rfl) rfl) rfl ?_))))
  rintro _ w4 ⟨B12, cB12, rfl, NB12, yB12, xB12⟩
  have eB12 := NB12.at_
  replace hS := hS.up NB12.up
  have hE12 := xB12
  refine A3 (eC (.u rfl rfl) (mJ)) rfl (oC B8 _ _ [f.Kind] ⟨B8, false, .slice none 0 0⟩ _ _ (hS.get 1 rfl) rfl hE12 (fun B o e => by cases e; intro hf; have := Asr.lt _ _ hA0 _ hf; omega) (by simp)) ?_
  rintro _ w5 ⟨rfl, D1, hb1, uw5⟩
  replace hS := hS.Ez 1 rfl uw5
  refine Ao (Ht 8 [.eq (.pointer (some ⟨B8, 0, none⟩)), .eq (.agg f.cells), .pred ShM, .eq (.pointer (some ⟨B1, 0, none⟩)), .eq (vi f.Kind), .pred (shOf f), .pred (fun v w => SlT 310 w v 3 Fld.cells (Ep f.Kind)), .pred (fun v w => ∃ Ba Bb ad cp, v = .func (.func 209) #[] #[.pointer (some ⟨Ba, 0, none⟩), .pointer (some ⟨Bb, 0, none⟩)] ∧ Blk w Ba #[.slice ad (Ep f.Kind).length cp] 221 ∧ Blk w Bb f.cells 28 ∧ SlT 310 w (.slice ad (Ep f.Kind).length cp) 3 Fld.cells (Ep f.Kind))] [14, 21] kQ rfl kQ kQ kQ kQ kQ kQ kQ ⟨PhU.eq _, PhU.eq _, PhU.pred fun _ _ _ h u => ShM.Df h u.Df, PhU.eq _, PhU.eq _, PhU.pred fun _ _ _ h u => ShV.Df h u.Df, PhU.pred fun _ _ _ h u => SlT.G3 h u.G3, PhU.pred fun _ _ _ h u => let ⟨Ba, Bb, ad, cp, e, h1, h2, h3⟩ := h; ⟨Ba, Bb, ad, cp, e, h1.up u, h2.up u, SlT.G3 h3 u.G3⟩, trivial⟩ ?_ ?_)
  ·intro W hU0
   have hU := (Up.drew w5).trans hU0
   refine aC ⟨rfl, TU.p (.mv rfl) rfl⟩ (aC ⟨rfl, TU.p (.lc rfl ((hS.b0.up hU).agg)) rfl⟩ (aC ⟨rfl, TU.c (eC .nil (eK)) (K0 _) (fun v W1 h => let ⟨b, e, m, u⟩ := h; ⟨u, b, e, m⟩)⟩ (aC ⟨rfl, TU.p (.fB 0 rfl) rfl⟩ (aC ⟨rfl, TU.p (.lb rfl ((hS.b0.up hU).Ah rfl)) rfl⟩ (aC ⟨rfl, TU.open (d := 16) rfl (by rintro _ ⟨b, rfl, kv, hI, hV, hK⟩; obtain ⟨⟨k0, sv⟩, hkv, e0⟩ := List.mem_map.1 ((hK f.Kind).2 hkn); cases e0; exact TU.p (.D0 (ok := false) underlying224 underlying3 (.t rfl) (.t rfl) hI hkv) (hV _ _ hkv))⟩ (aC ⟨rfl, TU.open (d := 19) rfl (by rintro _ ⟨v1, v2, rfl, h1, h2⟩; exact TU.p (.nC (off := 1) underlying223 rfl rfl isAgg221 (.t rfl) rfl) h2)⟩ (aC ⟨rfl, TU.open (d := 20) rfl (by rintro _ ⟨⟨ad, cp, rfl, hE⟩, hT⟩; exact TU.c (eC (.u rfl rfl) (wV)) (Qf f ad _ cp _) (fun v W1 h => let ⟨⟨Ba, Bb, e, h1, h2⟩, u⟩ := h; ⟨u, Ba, Bb, ad, cp, e, h1, h2, SlT.G3 ⟨⟨ad, cp, rfl, hE⟩, hT⟩ u.G3⟩))⟩ ?_)))))))
   exact allL.nil
  intro w6 g hU0 hg
  have hU := (Up.drew w5).trans hU0
  replace hS := hS.up hU
  have e14 : g 14 = .pointer (some ⟨B8, 0, none⟩) := hg 0 _ 14 cQ rfl rfl
  obtain ⟨Ba, Bb, ad, cp2, e21, hBa, hBb, ⟨ad1, cp1, e1, hE⟩, hT⟩ := hg 7 _ 21 cQ rfl rfl
  cases e1
  change LW _ _ _ _ _ _ _ _ ((14, .eq (g 14)) :: (21, .eq (g 21)) :: _) _
  rw [e14, e21]
  refine A3 (eC (.u rfl rfl) (wU)) rfl (Vl B8 Ba Bb ad cp2 _ f D1 _ _ (hS.get 1 rfl) hb1 hBa hBb hE (fun B o e => by obtain ⟨cs, x, hc⟩ := hT B o _ _ (by rw [e]); exact ⟨lt_of_block hc, Jk (hS.get 1 rfl) hc rfl rfl⟩) (tC f) (tB f.Kind)) ?_
  rintro _ w7 ⟨rfl, D2, hb2, uw7⟩
  replace hS := hS.Ez 1 rfl uw7
  rw [List.nil_append, ← Vi] at hS
  have hKL : [f.Kind] ++ Er (Ep f.Kind) f = Oj f := rfl
  rw [hKL] at hS
  refine Ao (Aa (Ab rfl (I (.nc rfl) (I (.fB 0 rfl) (A3 (eC (.o rfl) (mK)) rfl (Si B8 D2 _ _ (hS.get 1 rfl) hb2 (Q8 hq1) (tD f)) ?_)))))
  rintro _ w8 ⟨rfl, hF⟩
  refine LW.A rfl (Ai (Ak (KW.q ?_)))
  rw [A7, if_pos hq1]
  exact ⟨rfl, (hS.fr.next hF (hS.foot 1 rfl)).aW (fun _ h => h)⟩
 | false =>
  refine Aa (I (.lc rfl (hS.b0.agg)) (A3 (eC (.o rfl) (eJ)) rfl (L0 f _) ?_))
  rintro _ w9 ⟨rfl, uw9⟩
  replace hS := hS.up uw9
  refine I (.tr (PEv.n1 rfl) (by rw [hq1]; rfl)) (Ai (CW.v rfl (Af (Ay (Ai (Ak (Ap (KW.q ?_))))))))
  rw [A7, if_neg (by rw [hq1]; exact Bool.false_ne_true)]
  exact ⟨rfl, hS.Cr⟩
theorem Sj (f : Fact) (w : World) : Ret prog 128 #[.agg f.cells] w fun r w' => r = .tuple #[.string ⟨(Sd f).toArray⟩, vi (Qe f)] ∧ Up w w' := by
 obtain ⟨w0, rfl, hS⟩ := W0 w
 refine cT 52 func128 rfl (Af (Al (.bA rfl) rfl ?_))
 rintro _ w1 ⟨B1, rfl, NB1⟩
 have eB1 := NB1.at_
 have zB1 := NB1.size
 replace hS := hS.Bn NB1
 refine Ay (Ay (Ao (Am ?_)))
 cases hq1 : Bk f with
 | true =>
  have hkn := Es hq1
  refine Aa (I (.lc rfl (hS.b0.agg)) (A3 (eC (.o rfl) (eJ)) rfl (L0 f _) ?_))
  rintro _ w2 ⟨rfl, uw2⟩
  have zw2 := uw2.size
  replace hS := hS.up uw2
  refine I (.fa (PEv.n1 rfl) (by rw [hq1]; rfl)) (Ai (CW.f rfl (Aj (Ac (Am ?_)))))
  have hB1T := hS.blk 0 rfl
  have hU0 := hS.Cr
  refine CW.box 6 4 5 3 4 14 #[.slice none 0 0, .slice none 0 0, .nilFunc, .bool false] [.pred ShM, .eq (.pointer (some ⟨B1, 0, none⟩)), .eq (vi f.Kind), .pred (shOf f), .pred fun v _ => ∃ B, v = .pointer (some ⟨B, 0, none⟩), .eq undef] [] zeroValue223 sizeOf223 kQ rfl kQ kQ kQ kQ kQ kQ kQ rfl rfl ⟨_, _, _, rfl⟩ _ rfl ⟨_, _, _, rfl⟩ ⟨PhT.pred fun _ _ _ h u => ShM.Df h u, PhT.eq _ _, PhT.eq _ _, PhT.pred fun _ _ _ h u => ShV.Df h u, PhT.pred fun _ _ _ h _ => h, PhT.eq _ _, trivial⟩ rfl (fun v W h => shOf.agg h) (fun B W => ⟨B, rfl⟩) ?_ ?_
  ·intro W hK0
   have hK := (Up.drew w2).Df.trans hK0
   have hB1W := Blk.Df hB1T (T := 223) rfl hK
   refine aC (.inr ⟨rfl, TU.c (eC .nil (eK)) (K0 _) (fun v W1 h => let ⟨b, e, m, u⟩ := h; ⟨u, b, e, m⟩)⟩) (aC (.inr ⟨rfl, TU.p (.fB 0 rfl) rfl⟩) (aC (.inr ⟨rfl, TU.p (.lb rfl (hB1W.Ah rfl)) rfl⟩) (aC (.inr ⟨rfl, TU.open (d := 11) rfl (by rintro _ ⟨b, rfl, kv, hI, hV, hK⟩; obtain ⟨⟨k0, sv⟩, hkv, e0⟩ := List.mem_map.1 ((hK f.Kind).2 hkn); cases e0; exact TU.p (.D0 (ok := false) underlying224 underlying3 (.t rfl) (.t rfl) hI hkv) (hV _ _ hkv))⟩) (aC (.inl (.inl rfl)) (aC (.inl (.inr rfl)) ?_)))))
   exact allL.nil
  intro wT B4 g hU hBn hB4 hg
  have hUT := (Up.drew _).trans hU
  obtain ⟨v1, v2, e14, hs1, hs2⟩ := hg 3 _ 14 cQ rfl rfl
  rw [e14] at hB4
  obtain ⟨⟨ad, cp, rfl, hE1⟩, hT0⟩ := hs1
  obtain ⟨⟨ad2, cp2, rfl, hE2⟩, _⟩ := hs2
  replace hB4 : Blk wT B4 #[.slice ad (fieldsOf f.Kind).length cp, .slice ad2 (Ep f.Kind).length cp2, .func (.func (E8 (Gl f.Kind))) #[] #[], .bool (Gm f.Kind)] 223 := hB4
  have hB1X := hB1T.up hUT
  replace hU0 := hU0.trans hUT
  have hB14 : B1 ≠ B4 := fun e => by have := hB1T.lt; have := (Up.drew w2).size; omega
  have zB4 : w0.heap.size ≤ B4 := by have := hS.size; have := (Up.drew w2).size; omega
  have hE0 : ElT wT ad 310 3 Fld.cells (fieldsOf f.Kind) := ⟨hE1, fun B o e => hT0 B o _ _ (by rw [e])⟩
  replace hS : Wx.Sep no w0 wT [Cc B1 f.cells 28, Cc B4 #[.slice ad (fieldsOf f.Kind).length cp, .slice ad2 (Ep f.Kind).length cp2, .func (.func (E8 (Gl f.Kind))) #[] #[], .bool (Gm f.Kind)] 223] := ⟨hU0.fr _, fun A hA => by simp only [List.mem_cons, List.mem_nil_iff, or_false] at hA; rcases hA with rfl | rfl; exact ⟨hB1X, hS.foot 0 rfl⟩; exact ⟨hB4, fun i (e : i = B4) => .inr oQ⟩, List.Pairwise.cons (fun A hA i (e1 : i = B1) => by simp only [List.mem_singleton] at hA; subst hA; exact fun (e2 : i = B4) => hB14 (e1.symm.trans e2)) (List.pairwise_singleton _ _)⟩
  refine Ao (Aa (I (.build (cs := #[.pointer none, .slice none 0 0]) underlying217 zeroValue217 Le .nil rfl) (Al (.bA rfl) rfl ?_)))
  rintro _ w3 ⟨B16, rfl, NB16⟩
  replace hE0 := hE0.up NB16.up
  replace hS := hS.Bn NB16
  refine LW.A rfl (Ao ?_)
  replace hS := fG (Bs := [_, _]) (e := 5) hS
  refine Ht 11 [.eq (.pointer (some ⟨B16, 0, none⟩)), .eq (.pointer (some ⟨B1, 0, none⟩)), .eq (vi f.Kind), .eq (.pointer (some ⟨B1, 2, none⟩)), .eq (vi f.Version), .eq (.pointer (some ⟨B1, 3, none⟩)), .eq (vi f.Day), .eq (.pointer (some ⟨B1, 4, none⟩)), .eq (.bool f.Gone), .eq (vi (J6 f.Gone)), .pred (fun v w => SlT 3 w v 1 Br [f.Kind, f.Version, f.Day, J6 f.Gone])] [17, 27] kQ rfl kQ kQ kQ kQ kQ kQ kQ ⟨PhU.eq _, PhU.eq _, PhU.eq _, PhU.eq _, PhU.eq _, PhU.eq _, PhU.eq _, PhU.eq _, PhU.eq _, PhU.eq _, PhU.pred fun _ _ _ h u => SlT.G3 h u.G3, trivial⟩ ?_ ?_
  ·intro W hU0
   have hU := (Up.drew w3).trans hU0
   refine aC ⟨rfl, TU.p (.mv rfl) rfl⟩ (aC ⟨rfl, TU.p (.fB 0 rfl) rfl⟩ (aC ⟨rfl, TU.p (.lb rfl ((hS.b0.up hU).Ah rfl)) rfl⟩ (aC ⟨rfl, TU.p (.fB 2 rfl) rfl⟩ (aC ⟨rfl, TU.p (.lb rfl ((hS.b0.up hU).Ah rfl)) rfl⟩ (aC ⟨rfl, TU.p (.fB 3 rfl) rfl⟩ (aC ⟨rfl, TU.p (.lb rfl ((hS.b0.up hU).Ah rfl)) rfl⟩ (aC ⟨rfl, TU.p (.fB 4 rfl) rfl⟩ (aC ⟨rfl, TU.p (.lb rfl ((hS.b0.up hU).Ah rfl)) rfl⟩ (aC ⟨rfl, TU.c (eC (.o rfl) (FC)) (oD f.Gone _) sQ⟩ (aC ⟨rfl, TU.r (REv.buildSlice (xs := [f.Kind, f.Version, f.Day, J6 f.Gone]) (enc := Br) (mk := vi) underlying34 sizeOf3 zeroValue3 rfl cQ (fun _ => rfl) (fun _ => rfl) (.ct rfl (.ct rfl (.ct rfl (.cu rfl)))) rfl) (by rintro _ W1 ⟨B, c, rfl, N, y, x⟩; exact ⟨N.up, SlT.lit ⟨B, c, rfl, N, y, x⟩⟩)⟩ ?_))))))))))
   exact allL.nil
  intro w4 g hU0 hg
  have hU := (Up.drew w3).trans hU0
  replace hS := hS.up hU
  replace hE0 := hE0.up hU
  have e17 : g 17 = .pointer (some ⟨B16, 0, none⟩) := hg 0 _ 17 cQ rfl rfl
  obtain ⟨⟨ad3, cp3, e27, hE27⟩, hT27⟩ := hg 10 _ 27 cQ rfl rfl
  change LW _ _ _ _ _ _ _ _ ((17, .eq (g 17)) :: (27, .eq (g 27)) :: _) _
  rw [e17, e27]
  have hA0 := hS.get 2 rfl
  refine A3 (eC (.u rfl rfl) (mJ)) rfl (oC B16 ad3 cp3 [f.Kind, f.Version, f.Day, J6 f.Gone] ⟨B16, false, .slice none 0 0⟩ _ _ (hS.get 2 rfl) rfl hE27 (fun B o e => by obtain ⟨cs, x, hc⟩ := hT27 B o _ _ (by rw [e27, e]); exact Jk hA0 hc rfl rfl) (by simp)) ?_
  rintro _ w5 ⟨rfl, D1, hb1, uw5⟩
  replace hS := hS.Ez 2 rfl uw5
  replace hE0 := hE0.fr uw5.fr (fun B cs x hc => Jk hA0 hc rfl rfl)
  refine Ao (Aa (Ab rfl (I (.lc rfl (hS.b0.agg)) (I (.fB 0 rfl) (I (.lb rfl (hS.b1.Ah rfl)) (A3 (eC (.u rfl rfl) (wV)) rfl (Qf f ad _ cp _) ?_))))))
  rintro _ w6 ⟨⟨Ba, Bb, rfl, hBa, hBb⟩, uw6⟩
  replace hS := hS.up uw6
  replace hE0 := hE0.up uw6
  refine A3 (eC (.u rfl rfl) (wU)) rfl (Vl B16 Ba Bb ad cp _ f D1 _ _ (hS.get 2 rfl) hb1 hBa hBb hE0.els (fun B o e => by obtain ⟨cs, x, hc⟩ := hE0.ty B o e; exact ⟨lt_of_block hc, Jk (hS.get 2 rfl) hc rfl rfl⟩) (tE f) (Vh f.Kind)) ?_
  rintro _ w7 ⟨rfl, D2, hb2, uw7⟩
  replace hS := hS.Ez 2 rfl uw7
  rw [List.nil_append, ← Vi] at hS
  have hKL : [f.Kind, f.Version, f.Day, J6 f.Gone] ++ Er (fieldsOf f.Kind) f = Pp f := rfl
  rw [hKL] at hS
  refine Ao (Af (I (.fB 3 rfl) (I (.lb rfl (hS.b1.Ah rfl)) (Ai (CW.b rfl (fun h36 => ?_) (fun h36 => ?_))))))
  ·replace h36 := dQ h36
   refine Af (I (.fB 18 rfl) (I (.lb rfl (hS.b0.Ah rfl)) (A3 (eC (.o rfl) (FD)) rfl (Un f.Text _ (by have := Nc hq1; omega)) ?_)))
   rintro _ w8 ⟨rfl, uw8⟩
   replace hS := hS.up uw8
   refine Ab rfl (I (.xt rfl rfl) (I (.xt rfl rfl) (LW.A rfl (LW.A rfl (Ai (Aa (Ab rfl (I (.nc rfl) (I (.fB 0 rfl) (Ab rfl (A3 (eC (.u rfl rfl) (xF)) rfl (Mt B16 _ D2 _ _ (hS.get 2 rfl) hb2 (by rw [Sc]; have := Yj f.Text.data.toList; rw [Wy] at this; have := Nc hq1; have := nR f; omega)) ?_)))))))))))
   rintro _ w9 ⟨rfl, bf, uw9⟩
   replace hS := hS.Ez 2 rfl uw9
   refine Ao ?_
   obtain ⟨D3, hb3, hS3⟩ : ∃ D3 : Wri, D3.bd = B16 ∧ Wx.Sep no w0 w9 [Cc B1 f.cells 28, Cc B4 #[.slice ad (fieldsOf f.Kind).length cp, .slice ad2 (Ep f.Kind).length cp2, .func (.func (E8 (Gl f.Kind))) #[] #[], .bool (Gm f.Kind)] 223, D8 217 5 D3 (Ik f)] := by exact ⟨⟨B16, true, bf⟩, rfl, by rw [← jN (decide_eq_true h36)]; exact hS⟩
   replace hS := hS3
   refine Aa (Ab rfl (I (.nc rfl) (I (.fB 0 rfl) (A3 (eC (.o rfl) (mK)) rfl (Si B16 D3 _ _ (hS.get 2 rfl) hb3 (fV hq1) (by have := fX hq1; omega)) ?_))))
   rintro _ w10 ⟨rfl, hF⟩
   refine LW.A rfl (Ay (Ai (Ak (Fu rfl rfl rfl ⟨_, rfl, ?_⟩))))
   rw [Sd, Qe, if_pos hq1, if_pos hq1]
   exact ⟨rfl, (hS.fr.next hF (hS.foot 2 rfl)).aW (fun _ h => h)⟩
  replace h36 := dQ h36
  refine Aj (Ac (Am ?_))
  obtain ⟨D3, hb3, hS3⟩ : ∃ D3 : Wri, D3.bd = B16 ∧ Wx.Sep no w0 w7 [Cc B1 f.cells 28, Cc B4 #[.slice ad (fieldsOf f.Kind).length cp, .slice ad2 (Ep f.Kind).length cp2, .func (.func (E8 (Gl f.Kind))) #[] #[], .bool (Gm f.Kind)] 223, D8 217 5 D3 (Ik f)] := by exact ⟨D2, hb2, by rw [← tF (decide_eq_false h36)]; exact hS⟩
  replace hS := hS3
  refine Aa (Ab rfl (I (.nc rfl) (I (.fB 0 rfl) (A3 (eC (.o rfl) (mK)) rfl (Si B16 D3 _ _ (hS.get 2 rfl) hb3 (fV hq1) (by have := fX hq1; omega)) ?_))))
  rintro _ w11 ⟨rfl, hF⟩
  refine LW.A rfl (Ay (Ai (Ak (Fu rfl rfl rfl ⟨_, rfl, ?_⟩))))
  rw [Sd, Qe, if_pos hq1, if_pos hq1]
  exact ⟨rfl, (hS.fr.next hF (hS.foot 2 rfl)).aW (fun _ h => h)⟩
 | false =>
  refine Aa (I (.lc rfl (hS.b0.agg)) (A3 (eC (.o rfl) (eJ)) rfl (L0 f _) ?_))
  rintro _ w12 ⟨rfl, uw12⟩
  replace hS := hS.up uw12
  refine I (.tr (PEv.n1 rfl) (by rw [hq1]; rfl)) (Ai (CW.v rfl (Af (Ay (Ay (Ai (Ak (Ap (Fu rfl rfl rfl ⟨_, rfl, ?_⟩)))))))))
  rw [Sd, Qe, if_neg (by rw [hq1]; exact Bool.false_ne_true), if_neg (by rw [hq1]; exact Bool.false_ne_true)]
  exact ⟨rfl, hS.Cr⟩
theorem Om (a b : ByteArray) (w : World) : Ret prog 258 #[.string a, .string b] w fun r w' => r = vi (Go.Lib.compareBytes a.data.toList b.data.toList) ∧ Up w w' := by
 have hW := Up.refl w
 refine cT 8 func258 rfl (Af (Ay (Ao (Aa (Ab rfl (Ab rfl (I (.ext (.ct rfl (.cu rfl)) (Uj func320 rfl rfl kQ kQ _ _)) (LW.A rfl (Ai (Ak (KW.q ?_)))))))))))
 exact ⟨rfl, hW⟩
theorem Yw (a b : ByteArray) (w : World) : Ret prog 129 #[.string a, .string b] w fun r w' => r = vi (Go.Lib.compareBytes a.data.toList b.data.toList) ∧ Up w w' := by
 have hW := Up.refl w
 refine cT 8 func129 rfl (Af (Ay (Ao (Aa (Ab rfl (Ab rfl (A3 (eC (.u rfl rfl) (FE)) rfl (Om a b _) ?_)))))))
 rintro _ w1 ⟨rfl, uw1⟩
 replace hW := hW.up uw1
 refine LW.A rfl (Ai (Ak (KW.q ?_)))
 exact ⟨rfl, hW⟩
theorem On (a b : Fact) (w : World) : Ret prog 57 #[.agg a.cells, .agg b.cells] w fun r w' => r = .bool (Dp a b) ∧ Up w w' := by
 have hW := Up.refl w
 refine cT 44 func57 rfl (Af (Al (.bA rfl) rfl ?_))
 rintro _ w1 ⟨B2, rfl, NB2⟩
 replace hW := hW.up NB2.up
 have hB2 := NB2.blk
 refine Al (.bA rfl) rfl ?_
 rintro _ w2 ⟨B3, rfl, NB3⟩
 replace hW := hW.up NB3.up
 replace hB2 := hB2.up NB3.up
 have hB3 := NB3.blk
 refine Ay (Ao (Aa (I (.lc rfl (hB2.agg)) (A3 (eC (.o rfl) (wZ)) rfl (Sj a _) ?_))))
 rintro _ w3 ⟨rfl, uw3⟩
 replace hW := hW.up uw3
 replace hB2 := hB2.up uw3
 replace hB3 := hB3.up uw3
 refine Ab rfl (I (.xt rfl rfl) (I (.xt rfl rfl) (LW.A rfl (LW.A rfl (Ao (Aa (I (.lc rfl (hB3.agg)) (A3 (eC (.o rfl) (wZ)) rfl (Sj b _) ?_))))))))
 rintro _ w4 ⟨rfl, uw4⟩
 replace hW := hW.up uw4
 replace hB2 := hB2.up uw4
 replace hB3 := hB3.up uw4
 refine Ab rfl (I (.xt rfl rfl) (I (.xt rfl rfl) (LW.A rfl (LW.A rfl (Ao (An (Am (Am ?_))))))))
 cases hq3 : Bk a with
 | false =>
  refine Aa (Ab rfl (I (.tr (PEv.neq (.t rfl) (.const _)) (by rw [Qe, if_neg (by rw [hq3]; exact Bool.false_ne_true)]; rfl)) (LW.A rfl (Ai (CW.v rfl (Aj (Ac (CW.v rfl (Af (Ay (Ai (Ak (A9 (Ap (KW.q ?_)))))))))))))))
  refine ⟨congrArg Go.Value.bool ?_, hW⟩
  exact Yl (by rw [hq3]; rfl)
 | true =>
  refine Aa (Ab rfl (I (.fa (PEv.neq (.t rfl) (.const _)) (by rw [Qe, if_pos hq3]; rfl)) (LW.A rfl (Ai (CW.f rfl (Am ?_))))))
  cases hq4 : Bk b with
  | false =>
   refine Aa (Ab rfl (I (.tr (PEv.neq (.t rfl) (.const _)) (by rw [Qe, if_neg (by rw [hq4]; exact Bool.false_ne_true)]; rfl)) (LW.A rfl (Ai (CW.v rfl (Aj (Ac (CW.v rfl (Af (Ay (Ai (Ak (A9 (Ap (KW.q ?_)))))))))))))))
   refine ⟨congrArg Go.Value.bool ?_, hW⟩
   exact Yl (by rw [hq3, hq4]; rfl)
  | true =>
   refine Aa (Ab rfl (I (.fa (PEv.neq (.t rfl) (.const _)) (by rw [Qe, if_pos hq4]; rfl)) (LW.A rfl (Ai (CW.f rfl (C5 kQ kQ rfl rfl (U (.lc rfl (hB2.agg)) (HW.c (fun a w _ ha => Ci (.cu rfl) (mI) a ha) rfl rfl (fun w hu => Ol a w) (U (.lc rfl (hB3.agg)) (HW.c (fun a w _ ha => Ci (.cu rfl) (mI) a ha) rfl rfl (fun w hu => Ol b w) (U (.yS (.t rfl) (.t rfl)) (U (.assign (.t rfl)) (HW.nil ?_)))))))))))))
   intro w5 uw5
   replace hW := hW.up uw5
   replace hB2 := hB2.up uw5
   replace hB3 := hB3.up uw5
   refine Ac (CW.b rfl (fun h19 => ?_) (fun h19 => ?_))
   ·refine Af (Ay (Ai (Ak (A9 (Ap (KW.q ?_))))))
    refine ⟨congrArg Go.Value.bool ?_, hW⟩
    exact nS h19
   refine Af (I (.fB 2 rfl) (I (.lb rfl (hB2.Ah rfl)) (I (.fB 2 rfl) (I (.lb rfl (hB3.Ah rfl)) (I (.neq (.t rfl) (.t rfl)) (LW.A rfl (Ai (CW.b rfl (fun h29 => ?_) (fun h29 => ?_)))))))))
   ·refine Af (I (.fB 2 rfl) (I (.lb rfl (hB2.Ah rfl)) (I (.fB 2 rfl) (I (.lb rfl (hB3.Ah rfl)) (I (.gtr (.t rfl) (.t rfl)) (LW.A rfl (Ai (Ak (A9 (Ap (KW.q ?_)))))))))))
    refine ⟨congrArg Go.Value.bool ?_, hW⟩
    exact nT hq3 hq4 h19 h29
   refine Aj (Ae (Ac (Af (Ab rfl (Ab rfl (A3 (eC (.u rfl rfl) (CP)) rfl (Yw _ _ _) ?_))))))
   rintro _ w6 ⟨rfl, uw6⟩
   replace hW := hW.up uw6
   replace hB2 := hB2.up uw6
   replace hB3 := hB3.up uw6
   refine I (.gtr (.t rfl) (.const _)) (LW.A rfl (Ai (Ak (KW.q ?_))))
   refine ⟨congrArg Go.Value.bool ?_, hW⟩
   exact nU hq3 hq4 h19 h29
end Go.Proofs.YtgjogglfnkgapaaGreatDoor
namespace Go.Wx
open Go.RowKit
theorem W8 {d d' : Nat} {p q : Op} {t t' : TypeId} {s s' : String} {a a' : Array Edge} {g g' : Option (Nat × Bool)} (h : some (⟨some d, p, t, s, a, g⟩ : Oper) = some ⟨some d', q, t', s', a', g'⟩) : d = d' := by
 injection h with h
 injection h with h
 injection h
theorem HJ {d d' : Option Nat} {x x' : Operand} {y y' : Nat} {T T' t t' : TypeId} {s s' : String} {a a' : Array Edge} {g g' : Option (Nat × Bool)} (h : some (⟨d, .store T x (.tmp y), t, s, a, g⟩ : Oper) = some ⟨d', .store T' x' (.tmp y'), t', s', a', g'⟩) : y = y' := by
 injection h with h
 injection h with _ h
 injection h with _ _ h
 injection h
structure Bv where
 ia : Nat
 is : Nat
 isv : Nat
 sa : Nat
 sv : Nat
def Ib (v : Value) (B : Nat) : Prop := v = .pointer (some ⟨B, 0, none⟩)
section
variable {R : Option Nat} {m : Nat} {P : Program} {n : Nat} {ds : List Deferred} {Q : Exit → Go.Act → World → Prop} {l : Env} {w : World} {ops : Array Oper}
def HK (bs : List Bv) (T : TypeId) (z : Array Value) (w0 : World) (L : Nat → Bool) (f : Nat → Value) (W : World) : Prop :=
 Up w0 W ∧ (∀ b ∈ bs, (L b.is = true → L b.ia = true) ∧ (L b.ia = true → ∃ B, Ib (f b.sa) B ∧ w0.heap.size ≤ B ∧ Blk W B (if L b.is = true then (f b.sv).cells else z) T)) ∧
   bs.Pairwise fun b c => L b.ia = true → L c.ia = true → ∀ B, Ib (f b.sa) B → ¬ Ib (f c.sa) B
def bS (bs : List Bv) : Bool := bs.all fun b => bs.all fun c => (!Nat.beq b.ia c.is) && ((Nat.beq b.ia c.ia && Nat.beq b.is c.is) || (!Nat.beq b.ia c.ia && !Nat.beq b.is c.is && !Nat.beq b.sa c.sa))
theorem J7 {bs : List Bv} (h : bS bs = true) {b c : Bv} (hb : b ∈ bs) (hc : c ∈ bs) : b.ia ≠ c.is ∧ ((b.ia = c.ia ∧ b.is = c.is) ∨ (b.ia ≠ c.ia ∧ b.is ≠ c.is ∧ b.sa ≠ c.sa)) := by
 have h1 := List.all_eq_true.1 (List.all_eq_true.1 h b hb) c hc
 simp only [Bool.and_eq_true, Bool.or_eq_true, Bool.not_eq_true'] at h1
 refine ⟨fun e => ?_, ?_⟩
 · have := h1.1; rw [e] at this; simp at this
 rcases h1.2 with ⟨a, b⟩ | ⟨⟨a, b⟩, c⟩
 · exact .inl ⟨Nat.eq_of_beq_eq_true a, Nat.eq_of_beq_eq_true b⟩
 exact .inr ⟨fun e => by rw [e] at a; simp at a, fun e => by rw [e] at b; simp at b, fun e => by rw [e] at c; simp at c⟩
theorem AWF.vars {k : Nat} {bs : List Bv} {T : TypeId} {z : Array Value} {base : Env} (ph : Nat → Ph) {f0 : Nat → Value} (hz : ∀ w, (zeroValue T).run P w = .ok (.agg z) w) (hs : ∀ w, (sizeOf T).run P w = .ok z.size w)
   (hph : ∀ i v w w', (ph i).holds v w → KeepT T w w' → (ph i).holds v w') (hA : D7 ops = true) (hC : (Nat.beq k ops.size || Fh ops k) = true) (hF : Jl ops k = true) (hks : Nat.ble k ops.size = true)
   (hD : G2 n ops 0 k = true) (hbp : Cf base = true) (hbd : ∀ i ph, lk base i = some ph → ∀ (j : Nat) (o : Oper), 0 ≤ j → j < k → ops[j]? = some o → o.dst ≠ some i) (hv : bS bs = true) (hnd : bs.Pairwise fun b c => b.ia ≠ c.ia)
   (hlit : ∀ b ∈ bs, Og ops b.ia [(b.is, 0, b.sv)] = true) (hk : ∀ b ∈ bs, b.is < k ∧ b.ia < k)
   (hia : ∀ b ∈ bs, ∃ ty ps af, ops[b.ia]? = some ⟨some b.sa, .alloc T, ty, ps, af, none⟩) (his : ∀ b ∈ bs, ∃ ty ps af, ops[b.is]? = some ⟨none, .store T (.tmp b.sa) (.tmp b.sv), ty, ps, af, none⟩)
   (hlk : ∀ b ∈ bs, ∀ o, ops[b.is]? = some o → lk (Ml ops ph 0 o ++ base) b.sv = some (ph b.isv)) (hsv : ∀ b ∈ bs, ∀ v W, (ph b.isv).holds v W → ∃ cs, v = .agg cs ∧ cs.size = z.size ∧ cs.all (·.oneCell') = true)
   (hpa : ∀ b ∈ bs, ∀ B W, (ph b.ia).holds (.pointer (some ⟨B, 0, none⟩)) W)
   (hop : ∀ i o, i < k → (∀ b ∈ bs, i ≠ b.ia ∧ i ≠ b.is) → ops[i]? = some o → o.guard = none ∧ ∀ W, KeepT T w W → ∀ a, Ag n ds (Ml ops ph 0 o ++ base) a W → aO P o a W (fun v W' => Up W W' ∧ (ph i).holds v W'))
   (hend : ∀ f W, Up w W → (∀ b ∈ bs, ∃ B, Ib (f b.sa) B ∧ w.heap.size ≤ B ∧ Blk W B (f b.sv).cells T) → (bs.Pairwise fun b c => ∀ B, Ib (f b.sa) B → ¬ Ib (f c.sa) B) → AWF R m P n ds ops Q k (He ops ph 0 k ++ base) f W) : AWF R m P n ds ops Q 0 base f0 w := by
 have ptr1 : ∀ {v : Value} {B B' : Nat}, Ib v B → Ib v B' → B = B' := fun h1 h2 => by unfold Ib at h1 h2; rw [h1] at h2; cases h2; rfl
 refine Jm ph (KeepT T) (HK bs T z w) (KeepT.refl T) (fun _ _ _ => KeepT.trans) hph hA hC hF hks (by simp) hD hbp hbd ?_ ⟨Up.refl w, fun b hb => ⟨fun h => by simp at h, fun h => by simp at h⟩, List.pairwise_iff_forall_sublist.2 fun _ h => by simp at h⟩ ?_
 · intro i o _ hi hio L f W hRel hDn hLi hed hInv
   obtain ⟨hUp, hB, hP⟩ := hInv
   -- slots of addresses are written by their allocs alone
   have saOf : ∀ c ∈ bs, c.ia ≠ i → o.dst ≠ some c.sa := fun c hc hne ed => by
     obtain ⟨ty, ps, af, h⟩ := hia c hc
     exact (Dk hD (Nat.zero_le _) hi hio ed).2 c.ia _ (Nat.zero_le _) (hk c hc).2 hne h rfl
   have svOf : ∀ c ∈ bs, L c.is = true → o.dst ≠ some c.sv := fun c hc hLs ed => by
     obtain ⟨os, hos, hods, ⟨e, he, hbe, hon⟩, ⟨e', he', hbe', pv, hpv, hpvd⟩⟩ := G4 (hlit c hc) List.mem_cons_self
     have h2 := hDn _ _ hos hLs e' he' hbe'
     have h3 := Dx hA hos e' he' hbe'
     have h4 := (hk c hc).1
     by_cases ee : e'.on = i
     · rw [ee, hLi] at h2; cases h2
     exact (Dk hD (Nat.zero_le _) hi hio ed).2 e'.on pv (Nat.zero_le _) (by have h3' : e'.on < c.is := h3; omega) ee hpv hpvd
   by_cases e0 : ∃ b ∈ bs, i = b.ia
   · obtain ⟨b, hb, rfl⟩ := e0
     obtain ⟨ty, ps, af, hia0⟩ := hia b hb
     rw [hio] at hia0; cases hia0
     intro a ha hsl
     rw [if_pos (by simp [Region.wanted])]
     obtain ⟨v, W', hr, B, rfl, N⟩ := REv.Bm (P := P) (n := n) (ds := ds) (l := Ml ops ph 0 _ ++ base) (w := W) (d := some b.sa) (ty := ty) (ps := ps) (af := af) (g := none) hz a ha
     have hLs : L b.is = false := by
       cases h : L b.is with
       | false => rfl
       | true => rw [(hB b hb).1 h] at hLi; cases hLi
     have ne : ∀ c ∈ bs, c.is ≠ b.ia := fun c hc => Ne.symm (J7 hv hb hc).1
     have old : ∀ c ∈ bs, c.ia ≠ b.ia → C9 L b.ia c.ia = L c.ia ∧ Fe f (some b.sa) (.pointer (some ⟨B, 0, none⟩)) c.sa = f c.sa := fun c hc hne => by
       have h1 : b.sa ≠ c.sa := by
         rcases (J7 hv hb hc).2 with ⟨h, _⟩ | ⟨_, _, h⟩
         · exact absurd h.symm hne
         exact h
       exact ⟨by simp [C9, hne], by simp [Fe, h1]⟩
     refine .inl (.inl ⟨_, W', hr, N.up.Df, fun _ _ => hpa b hb B W', hUp.trans N.up, fun c hc => ?_, ?_⟩)
     · have ns : C9 L b.ia c.is = L c.is := by simp [C9, ne c hc]
       by_cases hcb : c.ia = b.ia
       · have hsa : c.sa = b.sa := by
           obtain ⟨_, _, _, h⟩ := hia c hc
           rw [hcb, hio] at h; exact (W8 h).symm
         have his' : c.is = b.is := by
           rcases (J7 hv hc hb).2 with ⟨_, h⟩ | ⟨h, _⟩
           · exact h
           exact absurd hcb h
         refine ⟨fun _ => by rw [hcb]; simp [C9], fun _ => ⟨B, by rw [hsa]; simp [Ib, Fe], by rw [N.at_]; exact hUp.size, ?_⟩⟩
         rw [ns, his', hLs]
         exact N.blk
       obtain ⟨o1, o2⟩ := old c hc hcb
       refine ⟨fun h => by rw [o1]; rw [ns] at h; exact (hB c hc).1 h, fun h => ?_⟩
       rw [o1] at h
       obtain ⟨B', h1, h2, h3⟩ := (hB c hc).2 h
       refine ⟨B', by rw [o2]; exact h1, h2, ?_⟩
       rw [ns]
       cases hLc : L c.is with
       | false => rw [hLc] at h3; exact h3.up N.up
       | true =>
         rw [hLc] at h3
         have h4 : Fe f (some b.sa) (.pointer (some ⟨B, 0, none⟩)) c.sv = f c.sv := by
           have h5 := svOf c hc hLc
           have h6 : b.sa ≠ c.sv := fun e => h5 (by rw [e])
           simp [Fe, h6]
         rw [h4]
         exact h3.up N.up
     refine List.Pairwise.imp_of_mem ?_ (hnd.and hP)
     rintro c c' hc hc' ⟨hne, hp⟩ h1 h2 X hx hx'
     by_cases ec : c.ia = b.ia
     · have ec' : c'.ia ≠ b.ia := fun e => hne (ec.trans e.symm)
       obtain ⟨q1, q2⟩ := old c' hc' ec'
       rw [q1] at h2; rw [q2] at hx'
       obtain ⟨B', h3, _, h5⟩ := (hB c' hc').2 h2
       have hsa : c.sa = b.sa := by
         obtain ⟨_, _, _, h⟩ := hia c hc
         rw [ec, hio] at h; exact (W8 h).symm
       have hxB : X = B := ptr1 hx (by rw [hsa]; simp [Ib, Fe])
       have := ptr1 hx' h3
       have h6 := h5.lt
       rw [N.at_] at hxB
       omega
     obtain ⟨q1, q2⟩ := old c hc ec
     rw [q1] at h1; rw [q2] at hx
     by_cases ec' : c'.ia = b.ia
     · obtain ⟨B', h3, _, h5⟩ := (hB c hc).2 h1
       have hsa : c'.sa = b.sa := by
         obtain ⟨_, _, _, h⟩ := hia c' hc'
         rw [ec', hio] at h; exact (W8 h).symm
       have hxB : X = B := ptr1 hx' (by rw [hsa]; simp [Ib, Fe])
       have := ptr1 hx h3
       have h6 := h5.lt
       rw [N.at_] at hxB
       omega
     obtain ⟨q1', q2'⟩ := old c' hc' ec'
     rw [q1'] at h2; rw [q2'] at hx'
     exact hp h1 h2 X hx hx'
   have e0' : ∀ b ∈ bs, b.ia ≠ i := fun b hb e => e0 ⟨b, hb, e.symm⟩
   by_cases e1 : ∃ b ∈ bs, i = b.is
   · obtain ⟨b, hb, rfl⟩ := e1
     obtain ⟨os, hos, hods, ⟨e, he, hbe, hon⟩, _⟩ := G4 (hlit b hb) List.mem_cons_self
     have hLa : L b.ia = true := by rw [hos] at hio; cases hio; rw [← hon]; exact hed e he hbe
     obtain ⟨ty, ps, af, his0⟩ := his b hb
     rw [hio] at his0; cases his0
     intro a ha hsl
     rw [if_pos (by simp [Region.wanted])]
     obtain ⟨B, h1, hBs, hblk⟩ := (hB b hb).2 hLa
     rw [hLi] at hblk
     obtain ⟨cs, hcs, hcz, hc1⟩ := hsv b hb _ W (ha.val b.sv _ (hlk b hb _ hio))
     have hfs : f b.sv = .agg cs := by rw [← hsl]; exact hcs
     have hsn : b.sa ≠ b.sv := fun e' => by unfold Ib at h1; rw [e', hfs] at h1; cases h1
     have hag : Ag n ds [(b.sv, .eq (.agg cs)), (b.sa, .eq (.pointer (some ⟨B, 0, none⟩)))] a W := by
       refine ⟨ha.defers, ha.size, fun t q ht => ?_⟩
       by_cases e1 : t = b.sv
       · subst e1; rw [Bh] at ht; cases ht; exact hcs
       rw [Bj e1] at ht
       by_cases e2 : t = b.sa
       · subst e2; rw [Bh] at ht; cases ht; exact (hsl _).trans h1
       rw [Bj e2] at ht; cases ht
     obtain ⟨W', hr, hset⟩ := SEv.Bi (P := P) (n := n) (ds := ds) (w := W) (l := [(b.sv, .eq (.agg cs)), (b.sa, .eq (.pointer (some ⟨B, 0, none⟩)))]) (x := .tmp b.sa) (y := .tmp b.sv) (ty := ty) (ps := ps) (af := af) (g := none) hs hcz (.tmp (by rw [Bj hsn, Bh])) (.tmp Bh) hc1 hblk (by simp) a hag
     have na : ∀ c ∈ bs, C9 L b.is c.ia = L c.ia := fun c hc => by
       have := (J7 hv hc hb).1
       simp [C9, this]
     refine .inr ⟨W', hr, hset.sto.Df (by rw [hset.size]; exact Nat.le_refl _) hblk, (fun d hd => by cases hd), hUp.sto hset.sto hBs, fun c hc => ?_, ?_⟩
     · by_cases hcb : c.is = b.is
       · have hca : c.ia = b.ia ∧ c.sa = b.sa := by
           rcases (J7 hv hc hb).2 with ⟨h, _⟩ | ⟨_, h, _⟩
           · refine ⟨h, ?_⟩
             obtain ⟨_, _, _, h1⟩ := hia c hc
             obtain ⟨_, _, _, h2⟩ := hia b hb
             rw [h, h2] at h1; exact (W8 h1).symm
           exact absurd hcb h
         have hcv : c.sv = b.sv := by
           obtain ⟨_, _, _, h1⟩ := his c hc
           rw [hcb, hio] at h1; exact (HJ h1).symm
         refine ⟨fun _ => by rw [na c hc, hca.1]; exact hLa, fun _ => ⟨B, by rw [hca.2]; exact h1, hBs, ?_⟩⟩
         have h2 : C9 L b.is c.is = true := by simp [C9, hcb]
         rw [h2, if_pos rfl, hcv]
         show Blk W' B (f b.sv).cells T
         rw [hfs]
         exact hset.blk
       have ns : C9 L b.is c.is = L c.is := by simp [C9, hcb]
       refine ⟨fun h => by rw [na c hc]; rw [ns] at h; exact (hB c hc).1 h, fun h => ?_⟩
       rw [na c hc] at h
       obtain ⟨B', h3, h4, h5⟩ := (hB c hc).2 h
       have hne : B' ≠ B := by
         have hcne : c ≠ b := fun e => hcb (by rw [e])
         intro e
         subst e
         rcases List.mem_iff_getElem.1 hc with ⟨ic, hic, ec⟩
         rcases List.mem_iff_getElem.1 hb with ⟨ib, hib, eb⟩
         rcases Nat.lt_trichotomy ic ib with q | q | q
         · have := List.pairwise_iff_getElem.1 hP ic ib hic hib q
           rw [ec, eb] at this
           exact this h hLa B' h3 h1
         · subst q; exact hcne (ec.symm.trans eb)
         have := List.pairwise_iff_getElem.1 hP ib ic hib hic q
         rw [ec, eb] at this
         exact this hLa h B' h1 h3
       refine ⟨B', h3, h4, ?_⟩
       rw [ns]
       exact h5.sto hset.sto hne
     refine List.Pairwise.imp_of_mem ?_ hP
     intro c c' hc hc' hp h1 h2 X hx hx'
     rw [na c hc] at h1
     rw [na c' hc'] at h2
     exact hp h1 h2 X hx hx'
   have e1' : ∀ b ∈ bs, b.is ≠ i := fun b hb e => e1 ⟨b, hb, e.symm⟩
   obtain ⟨hg, hop⟩ := hop i o hi (fun b hb => ⟨Ne.symm (e0' b hb), Ne.symm (e1' b hb)⟩) hio
   intro a ha hsl
   rw [if_pos (by simp [Region.wanted, hg])]
   have done : ∀ v W', Up W W' ∧ (ph i).holds v W' → KeepT T W W' ∧ (∀ d, o.dst = some d → (ph i).holds v W') ∧ HK bs T z w (C9 L i) (Fe f o.dst v) W' := by
     rintro v W' ⟨hu, hv'⟩
     have ela : ∀ c ∈ bs, C9 L i c.ia = L c.ia := fun c hc => by simp [C9, e0' c hc]
     have els : ∀ c ∈ bs, C9 L i c.is = L c.is := fun c hc => by simp [C9, e1' c hc]
     have esa : ∀ c ∈ bs, Fe f o.dst v c.sa = f c.sa := fun c hc => by simp [Fe, saOf c hc (e0' c hc)]
     refine ⟨hu.Df, fun _ _ => hv', hUp.trans hu, fun c hc => ⟨fun h => by rw [ela c hc]; rw [els c hc] at h; exact (hB c hc).1 h, fun h => ?_⟩, ?_⟩
     · rw [ela c hc] at h
       obtain ⟨B, h1, h2, h3⟩ := (hB c hc).2 h
       refine ⟨B, by rw [esa c hc]; exact h1, h2, ?_⟩
       rw [els c hc]
       cases hLc : L c.is with
       | false => rw [hLc] at h3; exact h3.up hu
       | true =>
         rw [hLc] at h3
         have h4 : Fe f o.dst v c.sv = f c.sv := by simp [Fe, svOf c hc hLc]
         rw [h4]
         exact h3.up hu
     refine List.Pairwise.imp_of_mem ?_ hP
     intro c c' hc hc' hp h1 h2 X hx hx'
     rw [ela c hc] at h1; rw [ela c' hc'] at h2
     rw [esa c hc] at hx; rw [esa c' hc'] at hx'
     exact hp h1 h2 X hx hx'
   rcases hop W hRel a ha with ⟨v, W', hr, hp⟩ | ⟨fn, args, w1, hr, hc⟩
   · exact .inl (.inl ⟨v, W', hr, done v W' hp⟩)
   exact .inl (.inr ⟨fn, args, w1, hr, hc.mono done⟩)
 intro f W hRel hInv
 obtain ⟨hUp, hB, hP⟩ := hInv
 refine hend f W hUp (fun b hb => ?_) ?_
 · obtain ⟨B, h1, h2, h3⟩ := (hB b hb).2 (by simpa using (hk b hb).2)
   rw [if_pos (by simpa using (hk b hb).1)] at h3
   exact ⟨B, h1, h2, h3⟩
 refine List.Pairwise.imp_of_mem ?_ hP
 intro c c' hc hc' hp X hx hx'
 exact hp (by simpa using (hk c hc).2) (by simpa using (hk c' hc').2) X hx hx'
theorem CW.vars {id : Nat} {opsL : List Oper} (k : Nat) (bs : List Bv) (z : Array Value) (phs : List Ph) (keep : List Nat) {T : TypeId} (hz : ∀ w, (zeroValue T).run P w = .ok (.agg z) w) (hs : ∀ w, (sizeOf T).run P w = .ok z.size w) (hm : P.follows .mixedOrders = true) (hl : Cf l = true)
   (hA : D7 opsL.toArray = true) (hC : (Nat.beq k opsL.toArray.size || Fh opsL.toArray k) = true) (hF : Jl opsL.toArray k = true) (hks : Nat.ble k opsL.toArray.size = true) (hD : G2 n opsL.toArray 0 k = true) (hTl : G0 opsL.toArray k = true)
   (hfree : Kr l (opsL.take k) = true) (hv : bS bs = true) (hnd : (bs.map (·.ia)).Nodup) (hlit : (bs.all fun b => Og opsL.toArray b.ia [(b.is, 0, b.sv)]) = true) (hk : (bs.all fun b => Nat.ble (b.is + 1) k && Nat.ble (b.ia + 1) k) = true)
   (hia : ∀ b ∈ bs, ∃ ty ps af, opsL[b.ia]? = some ⟨some b.sa, .alloc T, ty, ps, af, none⟩) (his : ∀ b ∈ bs, ∃ ty ps af, opsL[b.is]? = some ⟨none, .store T (.tmp b.sa) (.tmp b.sv), ty, ps, af, none⟩) (hph : allT T phs)
   (hlk : ∀ b ∈ bs, ∀ o, opsL[b.is]? = some o → lk (Ml opsL.toArray (fun i => phs.getD i (.eq undef)) 0 o ++ l) b.sv = some (phs.getD b.isv (.eq undef))) (hsv : ∀ b ∈ bs, ∀ v W, (phs.getD b.isv (.eq undef)).holds v W → ∃ cs, v = .agg cs ∧ cs.size = z.size ∧ cs.all (·.oneCell') = true)
   (hpa : ∀ b ∈ bs, ∀ B W, (phs.getD b.ia (.eq undef)).holds (.pointer (some ⟨B, 0, none⟩)) W)
   (hop : ∀ W, KeepT T w.drew W → allL (fun i o => (∃ b ∈ bs, i = b.ia ∨ i = b.is) ∨ (o.guard = none ∧ TU P n ds (Ml opsL.toArray (fun i => phs.getD i (.eq undef)) 0 o ++ l) W o (phs.getD i (.eq undef)))) 0 (opsL.take k))
   (hend : ∀ W (g : Nat → Value), Up w.drew W → (∀ b ∈ bs, ∃ B, Ib (g b.sa) B ∧ w.drew.heap.size ≤ B ∧ Blk W B (g b.sv).cells T) → (bs.Pairwise fun b c => ∀ B, Ib (g b.sa) B → ¬ Ib (g c.sa) B) → (∀ i o d, i < k → opsL[i]? = some o → o.dst = some d → (phs.getD i (.eq undef)).holds (g d) W) → LW R m P n ds opsL.toArray Q (opsL.drop k) (keep.map (fun d => (d, .eq (g d))) ++ l) W) :
   CW R m P n ds (.region id opsL.toArray true) Q l w := by
 have hks' : k ≤ opsL.length := by have := Nat.le_of_ble_eq_true hks; simp at this; omega
 have sub : ∀ j o, j < k → opsL.toArray[j]? = some o → (opsL.take k)[j]? = some o := fun j o hjk ho => by
   rw [List.getElem?_take_of_lt hjk]; simpa using ho
 have hbd : ∀ i ph, lk l i = some ph → ∀ (j : Nat) (o : Oper), 0 ≤ j → j < k → opsL.toArray[j]? = some o → o.dst ≠ some i := fun i ph hi j o _ hjk ho => Gu hfree hi (List.mem_of_getElem? (sub j o hjk ho))
 have toL : ∀ (i : Nat) (o : Oper), opsL.toArray[i]? = some o → opsL[i]? = some o := fun i o h => by simpa using h
 refine Fl hm hl fun fuel listed a hf hu ha => (AWF.vars (k := k) (bs := bs) (T := T) (z := z) (fun i => phs.getD i (.eq undef)) (f0 := fun t => a.tmps.getD t undef) hz hs (fun i v w w' h u => (hph.at i) v w w' h u) hA hC hF hks hD hl hbd hv (List.pairwise_map.1 hnd) (fun b hb => List.all_eq_true.1 hlit b hb) ?_ ?_ ?_ (fun b hb o ho => hlk b hb o (toL _ _ ho)) hsv hpa ?_ ?_ fuel listed a hf hu ha (fun _ => rfl))
 · intro b hb
   have := List.all_eq_true.1 hk b hb
   simp only [Bool.and_eq_true] at this
   exact ⟨Nat.le_of_ble_eq_true this.1, Nat.le_of_ble_eq_true this.2⟩
 · intro b hb
   obtain ⟨ty, ps, af, h⟩ := hia b hb
   exact ⟨ty, ps, af, by simpa using h⟩
 · intro b hb
   obtain ⟨ty, ps, af, h⟩ := his b hb
   exact ⟨ty, ps, af, by simpa using h⟩
 · intro i o hi hn ho
   have h0 := (hop w.drew (KeepT.refl T _)).at (sub i o hi ho)
   rw [Nat.zero_add] at h0
   rcases h0 with ⟨b, hb, e | e⟩ | ⟨hg, _⟩
   · exact absurd e (hn b hb).1
   · exact absurd e (hn b hb).2
   refine ⟨hg, fun W hW a ha => ?_⟩
   have h3 := (hop W hW).at (sub i o hi ho)
   rw [Nat.zero_add] at h3
   rcases h3 with ⟨b, hb, e | e⟩ | ⟨_, h⟩
   · exact absurd e (hn b hb).1
   · exact absurd e (hn b hb).2
   exact h a ha
 intro f W hUp hblk hpw fuel' listed' a' hf' hu' ha' hsl'
 have key : ∀ i o d, i < k → opsL[i]? = some o → o.dst = some d → (phs.getD i (.eq undef)).holds (f d) W := by
   intro i o d hik ho hd
   have ho' : opsL.toArray[i]? = some o := by simpa using ho
   have hmem : (d, phs.getD i (.eq undef)) ∈ He opsL.toArray (fun i => phs.getD i (.eq undef)) 0 k := by
     unfold He
     rw [List.mem_filterMap]
     exact ⟨i, List.mem_range.2 hik, by rw [if_pos (by simp), ho']; simp [hd]⟩
   obtain ⟨q', hq⟩ := Hf hmem
   obtain ⟨j, p, _, hjk, hp, hpd, e⟩ := Fo hq
   have : j = i := by
     by_cases ee : j = i
     · exact ee
     exact absurd hpd ((Dk hD (Nat.zero_le _) hik ho' hd).2 j p (Nat.zero_le _) hjk ee hp)
   subst this
   have := ha'.val d q' (Ks hq)
   rw [hsl', e] at this
   exact this
 refine Fm hTl hA (opsL.toArray.size - k) k fuel' listed' a' W rfl (by simp; omega) (Nat.le_refl _) hf' hu' (hend W f hUp hblk hpw key a' ⟨ha'.defers, ha'.size, fun t q ht => ?_⟩)
 rcases Cy ht with h | h
 · obtain ⟨d, _, he⟩ := List.mem_map.1 (Kq h)
   cases he
   exact hsl' _
 refine ha'.val t q ?_
 rw [Ge]
 · exact h
 cases hq : lk (He opsL.toArray (fun i => phs.getD i (.eq undef)) 0 k) t with
 | none => rfl
 | some q' =>
   obtain ⟨j, p, _, hjk, hp, hpd, _⟩ := Fo hq
   exact absurd hpd (hbd t q h j p (Nat.zero_le _) hjk hp)
end
end Go.Wx
