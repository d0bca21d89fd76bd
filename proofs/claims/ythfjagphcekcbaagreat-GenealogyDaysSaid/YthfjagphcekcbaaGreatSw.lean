/-
  Elements of an owned slice, read and written in place; a region that draws its order and holds two stores (x, y = y, x). Nothing of any program stands here.
-/
import Derived.Test.YthfjagphcekcbaaGreatFe
import Derived.Test.YthfjagphcekcbaaGreatBu
import Derived.Test.YthfjagphcekcbaaGreatSo
namespace Go.Wx
open Go.RowKit

theorem OwnS.at {α : Type} {enc : α → Array Value} {b k : Nat} {e : TypeId} {w : World} {g m cp : Nat} {xs : List α} (h : OwnS w b e k enc (.slice (some ⟨g, 0, none⟩) m cp) xs) (hk : ∀ x, (enc x).size = k) {i : Nat} {x : α} (hx : xs[i]? = some x) : AggAt w g (0 + i * k) (enc x) := by
  obtain ⟨ad, c, e', hE⟩ := h.sl hk
  obtain ⟨B, o, h1, h2⟩ := hE i x hx
  cases e'
  cases h1
  exact h2
theorem OwnS.len {α : Type} {enc : α → Array Value} {b k : Nat} {e : TypeId} {w : World} {ad : Option Addr} {m cp : Nat} {xs : List α} (h : OwnS w b e k enc (.slice ad m cp) xs) : xs.length = m := by
  obtain ⟨_, ⟨e', h1⟩ | ⟨g, cap, cur, e', _⟩⟩ := h
  · cases e'; exact h1
  · cases e'; rfl
theorem flat_set {α : Type} (f : α → List Value) (k : Nat) (hf : ∀ x, (f x).length = k) : ∀ (xs : List α) (i : Nat) (y : α), i < xs.length → (xs.set i y).flatMap f = (xs.flatMap f).take (i * k) ++ f y ++ (xs.flatMap f).drop (i * k + k)
  | [], _, _, h => by simp at h
  | x :: xs, 0, y, _ => by
    rw [List.set_cons_zero, List.flatMap_cons, List.flatMap_cons, Nat.zero_mul, List.take_zero, List.nil_append, Nat.zero_add, List.drop_left' (hf x)]
  | x :: xs, i + 1, y, h => by
    rw [List.set_cons_succ, List.flatMap_cons, List.flatMap_cons, flat_set f k hf xs i y (by simpa using h)]
    have e1 : (i + 1) * k = (f x).length + i * k := by rw [hf, Nat.add_mul, Nat.one_mul, Nat.add_comm]
    have e2 : (i + 1) * k + k = (f x).length + (i * k + k) := by rw [e1, Nat.add_assoc]
    rw [e1, Nat.add_assoc, List.take_length_add_append, List.drop_length_add_append]
    simp [List.append_assoc]
section
variable {P : Program} {n : Nat} {ds : List Deferred} {l : Env} {w : World} {ty : TypeId} {ps : String} {af : Array Edge} {g : Option (Nat × Bool)}
/-- s[i] = y, in a slice that is owned -/
theorem SEv.storeOwn {α : Type} {enc : α → Array Value} {k b : Nat} {e T : TypeId} {x y : Operand} {B m cp i : Nat} {xs : List α} {z : α} (hs : ∀ w, (sizeOf T).run P w = .ok k w) (hk : ∀ x, (enc x).size = k) (h1 : ∀ x, (enc x).all (·.oneCell') = true) (hx : Val l x (.pointer (some ⟨B, 0 + i * k, none⟩))) (hy : Val l y (.agg (enc z))) (ho : OwnS w b e k enc (.slice (some ⟨B, 0, none⟩) m cp) xs) (hi : i < m) :
    SEv P n ds l w ⟨none, .store T x y, ty, ps, af, g⟩ (fun w' => OwnS w' b e k enc (.slice (some ⟨B, 0, none⟩) m cp) (xs.set i z) ∧ Fr (· = B) w w' ∧ w'.heap.size = w.heap.size) := fun a ha => by
  have hkl : ∀ x, (enc x).toList.length = k := fun x => by rw [Array.length_toList, hk]
  have hfl := flat_length (fun x => (enc x).toList) k hkl xs
  obtain ⟨hl, ⟨e', _⟩ | ⟨g', cap, cur, e', hb, hg, hcap, hcm, hcs, htk⟩⟩ := ho
  · cases e'
  · cases e'
    have hik : i * k + k ≤ xs.length * k := by
      have : (i + 1) * k ≤ xs.length * k := Nat.mul_le_mul_right k hi
      rw [Nat.add_mul, Nat.one_mul] at this
      exact this
    have hmk : xs.length * k ≤ cp * k := Nat.mul_le_mul_right k (by omega)
    obtain ⟨w', hr, hset⟩ := SEv.storePart (P := P) (n := n) (ds := ds) (l := l) (w := w) (ty := ty) (ps := ps) (af := af) (g := g) hs (hk z) hx hy (h1 z) (show Blk w B cur e from hg) (by rw [hk, hcs]; omega) a ha
    refine ⟨w', hr, ⟨by rw [List.length_set, flat_length _ k hkl, List.length_set], .inr ⟨B, cp, _, by rw [List.length_set], hb, hset.blk, by rw [List.length_set]; omega, hcm, ?_, ?_⟩⟩, hset.sto.fr, hset.size⟩
    · have hz := hkl z
      simp only [setFrom, List.size_toArray, List.length_append, List.length_take, List.length_drop, Array.length_toList]
      rw [Array.length_toList] at hz
      omega
    · have hz := hkl z
      rw [List.length_set, flat_set _ k hkl xs i z (by omega)]
      simp only [setFrom]
      rw [hz, Nat.zero_add, List.take_append, List.take_append]
      have hcl : cur.toList.length = cp * k := by rw [Array.length_toList]; exact hcs
      have t1 : (cur.toList.take (i * k)).take (xs.length * k) = cur.toList.take (i * k) := by rw [List.take_take, Nat.min_eq_right (by omega)]
      have t2 : (cur.toList.take (i * k)).length = i * k := by rw [List.length_take]; omega
      have t3 : ((enc z).toList).take (xs.length * k - i * k) = (enc z).toList := List.take_of_length_le (by omega)
      have t4 : (cur.toList.take (i * k) ++ (enc z).toList).length = i * k + k := by rw [List.length_append, t2, hz]
      rw [t1, t2, t3, t4]
      have s1 : (xs.flatMap fun x => (enc x).toList).take (i * k) = cur.toList.take (i * k) := by rw [← htk, List.take_take, Nat.min_eq_left (by omega)]
      have s2 : (xs.flatMap fun x => (enc x).toList).drop (i * k + k) = (cur.toList.drop (i * k + k)).take (xs.length * k - (i * k + k)) := by rw [← htk, List.drop_take]
      rw [s1, s2]
theorem SEv.storeOwnA {α : Type} {enc : α → Array Value} {k : Nat} {e T : TypeId} {x y : Operand} {B m cp i : Nat} {xs : List α} {z : α} (hs : ∀ w, (sizeOf T).run P w = .ok k w) (hk : ∀ x, (enc x).size = k) (h1 : ∀ x, (enc x).all (·.oneCell') = true) (hx : Val l x (.pointer (some ⟨B, 0 + i * k, none⟩))) (hy : Val l y (.agg (enc z))) (ho : OwnS w 0 e k enc (.slice (some ⟨B, 0, none⟩) m cp) xs) (hi : i < m) :
    SEv P n ds l w ⟨none, .store T x y, ty, ps, af, g⟩ (fun w' => Stp (aOwn e k enc (.slice (some ⟨B, 0, none⟩) m cp) xs) (aOwn e k enc (.slice (some ⟨B, 0, none⟩) m cp) (xs.set i z)) w w') := fun a ha =>
  let ⟨w', hr, h2, h3, _⟩ := SEv.storeOwn (ty := ty) (ps := ps) (af := af) (g := g) hs hk h1 hx hy ho hi a ha
  ⟨w', hr, ⟨h3.mono (fun i (e : i = B) => by rw [e]; rfl), h2, fun _ h => .inl h⟩⟩
end

section
variable {P : Program} {n : Nat} {ds : List Deferred} {l : Env} {w : World} {d : Option Tmp} {ty : TypeId} {ps : String} {af : Array Edge} {g : Option (Nat × Bool)}
theorem PEv.subN {T T' : TypeId} {x y : Operand} {i j : Nat} (hx : Val l x (.int .i64 (i : Int))) (hy : Val l y (.int .i64 (j : Int))) (h : j ≤ i) (h2 : i < 9223372036854775807) : PEv P n ds l w ⟨d, .binOp .sub T x y T', ty, ps, af, g⟩ (.int .i64 ((i - j : Nat) : Int)) := by
  have := PEv.sub (P := P) (n := n) (ds := ds) (l := l) (w := w) (d := d) (ty := ty) (ps := ps) (af := af) (g := g) (T := T) (T' := T') hx hy (by omega) (by omega)
  rw [Int.ofNat_sub h]; exact this
/-- a[j], a an array in memory -/
theorem PEv.indexArr {T e k : Nat} {x ix : Operand} {B o size : Nat} {j : Nat} (hT : P.underlying T = some (.array k e)) (hs : ∀ w, (sizeOf e).run P w = .ok size w) (hx : Val l x (.pointer (some ⟨B, o, none⟩))) (hi : Val l ix (.int .i64 (j : Int))) (hj : j < k) :
    PEv P n ds l w ⟨d, .indexAddr T x ix, ty, ps, af, g⟩ (.pointer (some ⟨B, o + j * size, none⟩)) := fun a w' ha _ => by
  refine run_v ?_
  rw [ha.ev hx, ha.ev hi]
  have h0 : (0 : Int) ≤ (j : Int) ∧ (j : Int) < (k : Int) := ⟨by omega, by omega⟩
  simp [Instr.indexAt, asIntOf, run_underlying hT, Sem.run_bind, Instr.sureAddr, hs, add_none, hj]
theorem PEv.dec {T T' : TypeId} {x : Operand} {i : Nat} (hx : Val l x (.int .i64 (i : Int))) (h : 1 ≤ i) (h2 : i < 9223372036854775807) : PEv P n ds l w ⟨d, .binOp .sub T x (.const (.int .i64 1)) T', ty, ps, af, g⟩ (.int .i64 ((i - 1 : Nat) : Int)) := by
  have := PEv.sub (P := P) (n := n) (ds := ds) (l := l) (w := w) (d := d) (ty := ty) (ps := ps) (af := af) (g := g) (T := T) (T' := T') hx (.const (.int .i64 1)) (by omega) (by omega)
  rw [Int.ofNat_sub h]; exact this
end

theorem SEv.mono {P : Program} {n : Nat} {ds : List Deferred} {l : Env} {w : World} {o : Oper} {Post Post' : World → Prop} (h : SEv P n ds l w o Post) (k : ∀ w', Post w' → Post' w') : SEv P n ds l w o Post' := fun a ha => let ⟨w', h1, h2⟩ := h a ha; ⟨w', h1, k w' h2⟩
/-! ### two stores, the rest in any order -/
def earlyOK (ops : Array Oper) (i s : Nat) : Bool := match ops[s]? with
  | none => false
  | some o => o.after.any fun e => Region.binds .any e && Nat.beq e.on i
theorem earlyOK_at {ops : Array Oper} {i s : Nat} (h : earlyOK ops i s = true) : ∃ o, ops[s]? = some o ∧ ∃ e ∈ o.after, Region.binds .any e = true ∧ e.on = i := by
  unfold earlyOK at h
  cases ho : ops[s]? with
  | none => rw [ho] at h; cases h
  | some o =>
    rw [ho] at h
    obtain ⟨q, hq, h2⟩ := Array.any_eq_true.1 h
    simp only [Bool.and_eq_true] at h2
    exact ⟨o, rfl, _, Array.getElem_mem hq, h2.1, Nat.eq_of_beq_eq_true h2.2⟩
section
variable {R : Option Nat} {m : Nat} {P : Program} {n : Nat} {ds : List Deferred} {Q : Exit → Go.Act → World → Prop} {l : Env} {w : World} {ops : Array Oper}
theorem CW.stores2 {id : Nat} {opsL : List Oper} (s1 s2 : Nat) (vs : List Value) (A0 A1 A2 : World → Prop) (hm : P.follows .mixedOrders = true) (hl : noPred l = true)
    (hA : aheadOK opsL.toArray = true) (hF : farOK opsL.toArray opsL.toArray.size = true) (hD : dstOK' n opsL.toArray 0 opsL.toArray.size = true) (hs : earlyOK opsL.toArray s1 s2 = true) (hns : Nat.beq s1 s2 = false)
    (hfree : freeOK l opsL = true) (h0 : A0 w.drew)
    (hop : allL (fun i o => (i = s1 ∨ i = s2) ∨ (o.guard = none ∧ ((earlyOK opsL.toArray i s1 = true ∧ ∀ W, A0 W → PEv P n ds (knp opsL.toArray (fun i => .eq (vs.getD i undef)) 0 o ++ l) W o (vs.getD i undef)) ∨ ∀ W, PEv P n ds (knp opsL.toArray (fun i => .eq (vs.getD i undef)) 0 o ++ l) W o (vs.getD i undef)))) 0 opsL)
    (o1 o2 : Oper) (ho1 : opsL[s1]? = some o1) (ho2 : opsL[s2]? = some o2) (hg1 : o1.guard = none ∧ o1.dst = none) (hg2 : o2.guard = none ∧ o2.dst = none)
    (hs1 : ∀ W, A0 W → SEv P n ds (knp opsL.toArray (fun i => .eq (vs.getD i undef)) 0 o1 ++ l) W o1 A1) (hs2 : ∀ W, A1 W → SEv P n ds (knp opsL.toArray (fun i => .eq (vs.getD i undef)) 0 o2 ++ l) W o2 A2)
    (hend : ∀ W, A2 W → KW n ds (Q .normal) l W) : CW R m P n ds (.region id opsL.toArray true) Q l w := by
  have hsz : opsL.toArray.size = opsL.length := by simp
  have hbd : ∀ i ph, lk l i = some ph → ∀ (j : Nat) (o : Oper), 0 ≤ j → j < opsL.toArray.size → opsL.toArray[j]? = some o → o.dst ≠ some i := fun i ph hi j o _ hjk ho => freeOK_at hfree hi (List.mem_of_getElem? (by simpa using ho))
  obtain ⟨p2, hp2, e2, he2, hb2, hon2⟩ := earlyOK_at hs
  have ho1' : opsL.toArray[s1]? = some o1 := by simpa using ho1
  have ho2' : opsL.toArray[s2]? = some o2 := by simpa using ho2
  have : p2 = o2 := by rw [ho2'] at hp2; cases hp2; rfl
  subst this
  have hl1 : s1 < opsL.toArray.size := (Array.getElem?_eq_some_iff.1 ho1').1
  have hl2 : s2 < opsL.toArray.size := (Array.getElem?_eq_some_iff.1 ho2').1
  have hne : s1 ≠ s2 := fun e => by subst e; simp at hns
  refine CW.draws_up hm hl fun fuel listed a hf hu ha => ?_
  refine AWF.gen (s := 0) (k := opsL.toArray.size) (fun i => .eq (vs.getD i undef)) (fun _ _ => True) (fun L _ W => if L s2 = true then A2 W else if L s1 = true then A1 W else A0 W) (f0 := fun t => a.tmps.getD t undef) (fun _ => trivial) (fun _ _ _ _ _ => trivial) (fun _ _ _ _ h _ => h) hA (by simp) hF (by simp) (by simp) hD hl hbd ?_ ?_ ?_ fuel listed a hf hu ha (fun _ => rfl)
  · intro i o _ hi hio L f W _ hDn hLi hed hInv a ha hsl
    have hio' : opsL[i]? = some o := by simpa using hio
    by_cases e1 : i = s1
    · subst e1
      rw [ho1'] at hio; cases hio
      rw [if_pos (by simp [Region.wanted, hg1.1])]
      have n2 : L s2 = false := by
        cases h : L s2 with
        | false => rfl
        | true => have := hDn s2 _ ho2' h e2 he2 hb2; rw [hon2, hLi] at this; cases this
      rw [n2, hLi] at hInv
      obtain ⟨W', hr, hp⟩ := hs1 W hInv a ha
      refine .inr ⟨W', hr, trivial, (fun d hd => by rw [hg1.2] at hd; cases hd), ?_⟩
      have t1 : setL L i s2 = false := by simp [setL, Ne.symm hne, n2]
      have t2 : setL L i i = true := by simp [setL]
      rw [t1, t2]
      exact hp
    · by_cases e3 : i = s2
      · subst e3
        rw [ho2'] at hio; cases hio
        rw [if_pos (by simp [Region.wanted, hg2.1])]
        have y1 : L s1 = true := by have := hed e2 he2 hb2; rwa [hon2] at this
        rw [hLi, y1] at hInv
        obtain ⟨W', hr, hp⟩ := hs2 W hInv a ha
        refine .inr ⟨W', hr, trivial, (fun d hd => by rw [hg2.2] at hd; cases hd), ?_⟩
        have t2 : setL L i i = true := by simp [setL]
        rw [t2]
        exact hp
      · have h3 := hop.at hio'
        rw [Nat.zero_add] at h3
        rcases h3 with (h | h) | ⟨hg, h3⟩
        · exact absurd h e1
        · exact absurd h e3
        · rw [if_pos (by simp [Region.wanted, hg])]
          have q1 : setL L i s1 = L s1 := by simp [setL, Ne.symm e1]
          have q2 : setL L i s2 = L s2 := by simp [setL, Ne.symm e3]
          have hr : (execOp a.eval o).run P W = .ok (.value (vs.getD i undef)) W := by
            rcases h3 with ⟨hE, h3⟩ | h3
            · obtain ⟨p, hp, e, he, hb, hon⟩ := earlyOK_at hE
              have n1 : L s1 = false := by
                cases h : L s1 with
                | false => rfl
                | true => have := hDn s1 p hp h e he hb; rw [hon, hLi] at this; cases this
              have n2 : L s2 = false := by
                cases h : L s2 with
                | false => rfl
                | true => have := hDn s2 _ ho2' h e2 he2 hb2; rw [hon2, n1] at this; cases this
              rw [n1, n2] at hInv
              exact h3 W hInv a W ha (Up.refl W)
            · exact h3 W a W ha (Up.refl W)
          refine .inl (.inl ⟨_, W, hr, trivial, fun _ _ => rfl, ?_⟩)
          rw [q1, q2]
          exact hInv
  · simpa using h0
  · intro f W _ hInv fuel' listed' a' hf' hu' ha' hsl'
    have hInv : A2 W := by
      dsimp only at hInv
      rw [if_pos (decide_eq_true hl2)] at hInv
      exact hInv
    have hall : ∀ j, j < opsL.toArray.size → listed'.getD j false = true := fun j hj => by rw [hu'.2 j hj]; simpa using hj
    have hrd : Region.ready .any opsL.toArray listed' = [] := by
      rw [List.eq_nil_iff_forall_not_mem]
      intro i hi
      obtain ⟨o, hio, hbi, _⟩ := (ready_iff hu'.1).1 hi
      have := hall i (Array.getElem?_eq_some_iff.1 hio).1
      rw [hbi] at this; cases this
    have hq : Q .normal a' W := hend W hInv a' ⟨ha'.defers, ha'.size, fun t q ht => by
      refine ha'.val t q ?_
      rw [lk_right]
      · exact ht
      · cases hq : lk (allP opsL.toArray (fun i => .eq (vs.getD i undef)) 0 opsL.toArray.size) t with
        | none => rfl
        | some q' =>
          obtain ⟨j, p, _, hjk, hp, hpd, _⟩ := allP_at hq
          exact absurd hpd (hbd t q ht j p (Nat.zero_le _) hjk hp)⟩
    cases fuel' with
    | zero => exact ⟨hrd, hq⟩
    | succ fuel' => exact ⟨fun _ => hq, fun i hi => by rw [hrd] at hi; cases hi⟩
end
end Go.Wx
