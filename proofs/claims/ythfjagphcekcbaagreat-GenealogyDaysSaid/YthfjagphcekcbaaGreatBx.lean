/-
  A region that draws its order, with one variable that is laid and then written (x := v, x moved to the heap): the block may be laid ahead of all that v comes from. Nothing of any program stands here.
-/
import Derived.Test.YthfjagphcekcbaaGreatMl
namespace Go.Wx
open Go.RowKit

/-- all objects stay but blocks of cells of type T -/
structure KeepT (T : TypeId) (w w' : World) : Prop where
  size : w.heap.size ≤ w'.heap.size
  obj : ∀ (b : Nat) (o : Obj), w.heap[b]? = some o → (∀ cs x, o ≠ Obj.cells cs T x) → w'.heap[b]? = some o
theorem KeepT.refl (T : TypeId) (w : World) : KeepT T w w := ⟨Nat.le_refl _, fun _ _ h _ => h⟩
theorem KeepT.trans {T : TypeId} {w w1 w2 : World} (h : KeepT T w w1) (k : KeepT T w1 w2) : KeepT T w w2 := ⟨Nat.le_trans h.size k.size, fun b o hb hn => k.obj b o (h.obj b o hb hn) hn⟩
theorem Up.keepT {T : TypeId} {w w' : World} (u : Up w w') : KeepT T w w' := ⟨u.size, fun _ _ h _ => (u.block (lt_of_block h)).trans h⟩
theorem Sto.keepT {T : TypeId} {w w' : World} {B : Nat} {cs : Array Value} (u : Sto B w w') (hz : w.heap.size ≤ w'.heap.size) (hb : Blk w B cs T) : KeepT T w w' := ⟨hz, fun b o h hn => by
  by_cases e : b = B
  · subst e; unfold Blk at hb; rw [hb] at h; cases h; exact absurd rfl (hn _ _)
  · exact (u.block b (lt_of_block h) e).trans h⟩
theorem Blk.keepT {T e : TypeId} {w w' : World} {B : Nat} {cs : Array Value} (h : Blk w B cs e) (hne : Nat.beq e T = false) (u : KeepT T w w') : Blk w' B cs e := u.obj _ _ h (fun _ _ e' => by cases e'; simp at hne)
theorem IMap.keepT {T : TypeId} {w w' : World} {b : Nat} {kv : List (Int × Value)} (h : IMap w b kv) (u : KeepT T w w') : IMap w' b kv := by
  obtain ⟨es, clock, h1, h2⟩ := h
  exact ⟨es, clock, u.obj _ _ h1 (fun _ _ e => by cases e), h2⟩
theorem SlT.keepT {α : Type} {e T : TypeId} {w w' : World} {v : Value} {k : Nat} {enc : α → Array Value} {xs : List α} (h : SlT e w v k enc xs) (hne : Nat.beq e T = false) (u : KeepT T w w') : SlT e w' v k enc xs := by
  have hne : e ≠ T := fun e' => by rw [e'] at hne; simp at hne
  obtain ⟨⟨ad, c, rfl, hE⟩, ht⟩ := h
  have keep : ∀ B o, ad = some ⟨B, o, none⟩ → ∃ cs x, w.heap[B]? = some (Obj.cells cs e x) ∧ w'.heap[B]? = some (Obj.cells cs e x) := fun B o hB => by
    obtain ⟨cs, x, hb⟩ := ht B o _ _ (by rw [hB])
    exact ⟨cs, x, hb, u.obj _ _ hb (fun _ _ e' => by cases e'; exact hne rfl)⟩
  refine ⟨⟨ad, c, rfl, fun i x hx => ?_⟩, fun B o n c' hv => ?_⟩
  · obtain ⟨B, o, hB, hA⟩ := hE i x hx
    obtain ⟨cs, y, h1, h2⟩ := keep B o hB
    refine ⟨B, o, hB, fun j v hv => ?_⟩
    have := hA j v hv
    unfold World.cell? at this ⊢
    rw [h1] at this
    rw [h2]
    exact this
  · cases hv
    obtain ⟨cs, x, h1, h2⟩ := keep B o rfl
    exact ⟨cs, x, h2⟩

section
variable {R : Option Nat} {m : Nat} {P : Program} {n : Nat} {ds : List Deferred} {Q : Exit → Go.Act → World → Prop} {l : Env} {w : World} {ops : Array Oper}

def BInv (ia is sa sv : Nat) (T : TypeId) (z : Array Value) (w0 : World) (L : Nat → Bool) (f : Nat → Value) (W : World) : Prop :=
  Up w0 W ∧ (L is = true → L ia = true) ∧ (L ia = true → ∃ B, f sa = .pointer (some ⟨B, 0, none⟩) ∧ w0.heap.size ≤ B ∧ Blk W B (if L is = true then (f sv).cells else z) T)

theorem AWF.box {k ia is isv sa sv : Nat} {T : TypeId} {z : Array Value} {base : Env} (ph : Nat → Ph) {f0 : Nat → Value} (hz : ∀ w, (zeroValue T).run P w = .ok (.agg z) w) (hs : ∀ w, (sizeOf T).run P w = .ok z.size w)
    (hph : ∀ i v w w', (ph i).holds v w → KeepT T w w' → (ph i).holds v w') (hA : aheadOK ops = true) (hC : (Nat.beq k ops.size || closOK ops k) = true) (hF : farOK ops k = true) (hks : Nat.ble k ops.size = true)
    (hD : dstOK' n ops 0 k = true) (hbp : noPred base = true) (hbd : ∀ i ph, lk base i = some ph → ∀ (j : Nat) (o : Oper), 0 ≤ j → j < k → ops[j]? = some o → o.dst ≠ some i)
    (hlit : litOK ops ia [(is, 0, sv)] = true) (hik : is < k) (hiak : ia < k) (hne : ia ≠ is)
    (hia : ∃ ty ps af, ops[ia]? = some ⟨some sa, .alloc T, ty, ps, af, none⟩) (his : ∃ ty ps af, ops[is]? = some ⟨none, .store T (.tmp sa) (.tmp sv), ty, ps, af, none⟩)
    (hlk : ∀ o, ops[is]? = some o → lk (knp ops ph 0 o ++ base) sv = some (ph isv)) (hsv : ∀ v W, (ph isv).holds v W → ∃ cs, v = .agg cs ∧ cs.size = z.size ∧ cs.all (·.oneCell') = true)
    (hpa : ∀ B W, (ph ia).holds (.pointer (some ⟨B, 0, none⟩)) W)
    (hop : ∀ i o, i < k → i ≠ ia → i ≠ is → ops[i]? = some o → o.guard = none ∧ ∀ W, KeepT T w W → ∀ a, Ag n ds (knp ops ph 0 o ++ base) a W → OpY P o a W (fun v W' => Up W W' ∧ (ph i).holds v W'))
    (hend : ∀ f W B, Up w W → f sa = .pointer (some ⟨B, 0, none⟩) → w.heap.size ≤ B → Blk W B (f sv).cells T → AWF R m P n ds ops Q k (allP ops ph 0 k ++ base) f W) : AWF R m P n ds ops Q 0 base f0 w := by
  obtain ⟨os, hos, hods, ⟨e, he, hbe, hon⟩, ⟨e', he', hbe', pv, hpv, hpvd⟩⟩ := litOK_at hlit List.mem_cons_self
  refine AWF.gen ph (KeepT T) (BInv ia is sa sv T z w) (KeepT.refl T) (fun _ _ _ => KeepT.trans) hph hA hC hF hks (by simp) hD hbp hbd ?_ ⟨Up.refl w, fun h => by simp at h, fun h => by simp at h⟩ ?_
  · intro i o _ hi hio L f W hRel hDn hLi hed hInv
    obtain ⟨hUp, hsa, hInv⟩ := hInv
    by_cases e0 : i = ia
    · subst e0
      obtain ⟨ty, ps, af, hia⟩ := hia
      rw [hio] at hia; cases hia
      intro a ha hsl
      rw [if_pos (by simp [Region.wanted])]
      obtain ⟨v, W', hr, B, rfl, N⟩ := REv.allocA (P := P) (n := n) (ds := ds) (l := knp ops ph 0 _ ++ base) (w := W) (d := some sa) (ty := ty) (ps := ps) (af := af) (g := none) hz a ha
      have hLs : L is = false := by
        cases h : L is with
        | false => rfl
        | true => rw [hsa h] at hLi; cases hLi
      refine .inl (.inl ⟨_, W', hr, N.up.keepT, fun _ _ => hpa B W', hUp.trans N.up, fun _ => by simp [setL], fun _ => ⟨B, by simp [setS], by rw [N.at_]; exact hUp.size, ?_⟩⟩)
      have : setL L i is = false := by simp [setL, Ne.symm hne, hLs]
      rw [this]
      exact N.blk
    · by_cases e1 : i = is
      · subst e1
        have hLa : L ia = true := by rw [hos] at hio; cases hio; rw [← hon]; exact hed e he hbe
        obtain ⟨ty, ps, af, his⟩ := his
        rw [hio] at his; cases his
        intro a ha hsl
        rw [if_pos (by simp [Region.wanted])]
        obtain ⟨B, h1, hB, hblk⟩ := hInv hLa
        rw [hLi] at hblk
        obtain ⟨cs, hcs, hcz, hc1⟩ := hsv _ W (ha.val sv _ (hlk _ hio))
        have hfs : f sv = .agg cs := by rw [← hsl]; exact hcs
        have hag : Ag n ds [(sv, .eq (.agg cs)), (sa, .eq (.pointer (some ⟨B, 0, none⟩)))] a W := by
          refine ⟨ha.defers, ha.size, fun t q ht => ?_⟩
          by_cases e1 : t = sv
          · subst e1; rw [lk_cons_eq] at ht; cases ht; exact hcs
          · rw [lk_cons_ne e1] at ht
            by_cases e2 : t = sa
            · subst e2; rw [lk_cons_eq] at ht; cases ht; exact (hsl _).trans h1
            · rw [lk_cons_ne e2] at ht; cases ht
        have hsn : sa ≠ sv := fun e' => by rw [e', hfs] at h1; cases h1
        obtain ⟨W', hr, hset⟩ := SEv.storeA (P := P) (n := n) (ds := ds) (w := W) (l := [(sv, .eq (.agg cs)), (sa, .eq (.pointer (some ⟨B, 0, none⟩)))]) (x := .tmp sa) (y := .tmp sv) (ty := ty) (ps := ps) (af := af) (g := none) hs hcz (.tmp (by rw [lk_cons_ne hsn, lk_cons_eq])) (.tmp lk_cons_eq) hc1 hblk (by simp) a hag
        refine .inr ⟨W', hr, hset.sto.keepT (by rw [hset.size]; exact Nat.le_refl _) hblk, (fun d hd => by cases hd), hUp.sto hset.sto hB, fun _ => by simp [setL, hLa], fun _ => ⟨B, h1, hB, ?_⟩⟩
        have h2 : setL L i i = true := by simp [setL]
        rw [h2, if_pos rfl]
        show Blk W' B (f sv).cells T
        rw [hfs]
        exact hset.blk
      · obtain ⟨hg, hop⟩ := hop i o hi e0 e1 hio
        intro a ha hsl
        rw [if_pos (by simp [Region.wanted, hg])]
        have done : ∀ v W', Up W W' ∧ (ph i).holds v W' → KeepT T W W' ∧ (∀ d, o.dst = some d → (ph i).holds v W') ∧ BInv ia is sa sv T z w (setL L i) (setS f o.dst v) W' := by
          rintro v W' ⟨hu, hv⟩
          have ela : setL L i ia = L ia := by simp [setL, Ne.symm e0]
          have els : setL L i is = L is := by simp [setL, Ne.symm e1]
          refine ⟨hu.keepT, fun _ _ => hv, hUp.trans hu, fun h => by rw [ela]; rw [els] at h; exact hsa h, fun hm => ?_⟩
          rw [ela] at hm
          obtain ⟨B, h1, hB, hblk⟩ := hInv hm
          have hn1 : o.dst ≠ some sa := by
            obtain ⟨ty, ps, af, hia⟩ := hia
            intro ed
            exact (dstOK'_at hD (Nat.zero_le _) hi hio ed).2 ia _ (Nat.zero_le _) hiak (Ne.symm e0) hia rfl
          refine ⟨B, by simpa [setS, hn1] using h1, hB, ?_⟩
          rw [els]
          cases hLs : L is with
          | false => rw [hLs] at hblk; exact hblk.up hu
          | true =>
            rw [hLs] at hblk
            have hn2 : o.dst ≠ some sv := by
              intro ed
              have h2 := hDn _ _ hos hLs e' he' hbe'
              have h3 := aheadOK_at hA hos e' he' hbe'
              by_cases ee : e'.on = i
              · rw [ee, hLi] at h2; cases h2
              · exact (dstOK'_at hD (Nat.zero_le _) hi hio ed).2 e'.on pv (Nat.zero_le _) (by have : e'.on < is := h3; omega) ee hpv hpvd
            have h4 : setS f o.dst v sv = f sv := by simp [setS, hn2]
            rw [h4]
            exact hblk.up hu
        rcases hop W hRel a ha with ⟨v, W', hr, hp⟩ | ⟨fn, args, w1, hr, hc⟩
        · exact .inl (.inl ⟨v, W', hr, done v W' hp⟩)
        · exact .inl (.inr ⟨fn, args, w1, hr, hc.mono done⟩)
  · intro f W hRel hInv
    obtain ⟨hUp, _, hInv⟩ := hInv
    obtain ⟨B, h1, hB, h2⟩ := hInv (by simpa using hiak)
    rw [if_pos (by simpa using hik)] at h2
    exact hend f W B hUp h1 hB h2

/-! ### as a printer writes it -/
def PhT (T : TypeId) (q : Ph) : Prop := ∀ v w w', q.holds v w → KeepT T w w' → q.holds v w'
theorem PhT.eq (T : TypeId) (v : Value) : PhT T (.eq v) := fun _ _ _ h _ => h
theorem PhT.pred {T : TypeId} {p : Value → World → Prop} (h : ∀ v w w', p v w → KeepT T w w' → p v w') : PhT T (.pred p) := h
def allT (T : TypeId) : List Ph → Prop
  | [] => True
  | q :: r => PhT T q ∧ allT T r
theorem allT.at {T : TypeId} : ∀ {l : List Ph}, allT T l → ∀ i, PhT T (l.getD i (.eq undef))
  | [], _, _ => by simpa using PhT.eq T undef
  | _ :: _, h, 0 => by simpa using h.1
  | _ :: _, h, i + 1 => by simpa using allT.at h.2 i
theorem CW.box {id : Nat} {opsL : List Oper} (k ia is isv sa sv : Nat) (z : Array Value) (phs : List Ph) (keep : List Nat) {T : TypeId} (hz : ∀ w, (zeroValue T).run P w = .ok (.agg z) w) (hs : ∀ w, (sizeOf T).run P w = .ok z.size w) (hm : P.follows .mixedOrders = true) (hl : noPred l = true)
    (hA : aheadOK opsL.toArray = true) (hC : (Nat.beq k opsL.toArray.size || closOK opsL.toArray k) = true) (hF : farOK opsL.toArray k = true) (hks : Nat.ble k opsL.toArray.size = true) (hD : dstOK' n opsL.toArray 0 k = true) (hlit : litOK opsL.toArray ia [(is, 0, sv)] = true) (hTl : tailOK opsL.toArray k = true)
    (hfree : freeOK l (opsL.take k) = true) (hidx : (Nat.ble (is + 1) k && (Nat.ble (ia + 1) k && !Nat.beq ia is)) = true)
    (hia : ∃ ty ps af, opsL[ia]? = some ⟨some sa, .alloc T, ty, ps, af, none⟩) (os : Oper) (hos : opsL[is]? = some os) (his : ∃ ty ps af, os = ⟨none, .store T (.tmp sa) (.tmp sv), ty, ps, af, none⟩) (hph : allT T phs)
    (hlk : lk (knp opsL.toArray (fun i => phs.getD i (.eq undef)) 0 os ++ l) sv = some (phs.getD isv (.eq undef))) (hsv : ∀ v W, (phs.getD isv (.eq undef)).holds v W → ∃ cs, v = .agg cs ∧ cs.size = z.size ∧ cs.all (·.oneCell') = true)
    (hpa : ∀ B W, (phs.getD ia (.eq undef)).holds (.pointer (some ⟨B, 0, none⟩)) W)
    (hop : ∀ W, KeepT T w.drew W → allL (fun i o => (i = ia ∨ i = is) ∨ (o.guard = none ∧ TU P n ds (knp opsL.toArray (fun i => phs.getD i (.eq undef)) 0 o ++ l) W o (phs.getD i (.eq undef)))) 0 (opsL.take k))
    (hend : ∀ W B (g : Nat → Value), Up w.drew W → w.drew.heap.size ≤ B → Blk W B (g sv).cells T → (∀ i o d, i < k → opsL[i]? = some o → o.dst = some d → (phs.getD i (.eq undef)).holds (g d) W) → LW R m P n ds opsL.toArray Q (opsL.drop k) ((sa, .eq (.pointer (some ⟨B, 0, none⟩))) :: (keep.map (fun d => (d, .eq (g d))) ++ l)) W) :
    CW R m P n ds (.region id opsL.toArray true) Q l w := by
  simp only [Bool.and_eq_true] at hidx
  obtain ⟨hik, hiak, hne⟩ := hidx
  have hik : is < k := Nat.le_of_ble_eq_true hik
  have hiak : ia < k := Nat.le_of_ble_eq_true hiak
  have hne : ia ≠ is := fun e => by subst e; simp at hne
  have hks' : k ≤ opsL.length := by have := Nat.le_of_ble_eq_true hks; simp at this; omega
  have sub : ∀ j o, j < k → opsL.toArray[j]? = some o → (opsL.take k)[j]? = some o := fun j o hjk ho => by
    rw [List.getElem?_take_of_lt hjk]; simpa using ho
  have hbd : ∀ i ph, lk l i = some ph → ∀ (j : Nat) (o : Oper), 0 ≤ j → j < k → opsL.toArray[j]? = some o → o.dst ≠ some i := fun i ph hi j o _ hjk ho => freeOK_at hfree hi (List.mem_of_getElem? (sub j o hjk ho))
  refine CW.draws_up hm hl fun fuel listed a hf hu ha => ?_
  refine AWF.box (k := k) (ia := ia) (is := is) (isv := isv) (sa := sa) (sv := sv) (T := T) (z := z) (fun i => phs.getD i (.eq undef)) (f0 := fun t => a.tmps.getD t undef) hz hs (fun i v w w' h u => (hph.at i) v w w' h u) hA hC hF hks hD hl hbd hlit hik hiak hne (by simpa using hia) ?_ ?_ hsv hpa ?_ ?_ fuel listed a hf hu ha (fun _ => rfl)
  · obtain ⟨ty, ps, af, e⟩ := his
    exact ⟨ty, ps, af, by rw [← e]; simpa using hos⟩
  · intro o ho
    have : opsL[is]? = some o := by simpa using ho
    rw [hos] at this; cases this
    exact hlk
  · intro i o hi h1 h2 ho
    have h0 := (hop w.drew (KeepT.refl T _)).at (sub i o hi ho)
    rw [Nat.zero_add] at h0
    rcases h0 with (e | e) | ⟨hg, _⟩
    · exact absurd e h1
    · exact absurd e h2
    · refine ⟨hg, fun W hW a ha => ?_⟩
      have h3 := (hop W hW).at (sub i o hi ho)
      rw [Nat.zero_add] at h3
      rcases h3 with (e | e) | ⟨_, h⟩
      · exact absurd e h1
      · exact absurd e h2
      · exact h a ha
  · intro f W B hUp hfa hB hblk fuel' listed' a' hf' hu' ha' hsl'
    have key : ∀ i o d, i < k → opsL[i]? = some o → o.dst = some d → (phs.getD i (.eq undef)).holds (f d) W := by
      intro i o d hik ho hd
      have ho' : opsL.toArray[i]? = some o := by simpa using ho
      have hmem : (d, phs.getD i (.eq undef)) ∈ allP opsL.toArray (fun i => phs.getD i (.eq undef)) 0 k := by
        unfold allP
        rw [List.mem_filterMap]
        exact ⟨i, List.mem_range.2 hik, by rw [if_pos (by simp), ho']; simp [hd]⟩
      obtain ⟨q', hq⟩ := lk_of_mem hmem
      obtain ⟨j, p, _, hjk, hp, hpd, e⟩ := allP_at hq
      have : j = i := by
        by_cases ee : j = i
        · exact ee
        · exact absurd hpd ((dstOK'_at hD (Nat.zero_le _) hik ho' hd).2 j p (Nat.zero_le _) hjk ee hp)
      subst this
      have := ha'.val d q' (lk_left hq)
      rw [hsl', e] at this
      exact this
    refine tail_order hTl hA (opsL.toArray.size - k) k fuel' listed' a' W rfl (by simp; omega) (Nat.le_refl _) hf' hu' ?_
    refine hend W B f hUp hB hblk key a' ⟨ha'.defers, ha'.size, fun t q ht => ?_⟩
    by_cases e : t = sa
    · subst e; rw [lk_cons_eq] at ht; cases ht
      exact (hsl' _).trans hfa
    · rw [lk_cons_ne e] at ht
      rcases lk_append ht with h | h
      · obtain ⟨d, _, he⟩ := List.mem_map.1 (lk_mem h)
        cases he
        exact hsl' _
      · refine ha'.val t q ?_
        rw [lk_right]
        · exact h
        · cases hq : lk (allP opsL.toArray (fun i => phs.getD i (.eq undef)) 0 k) t with
          | none => rfl
          | some q' =>
            obtain ⟨j, p, _, hjk, hp, hpd, _⟩ := allP_at hq
            exact absurd hpd (hbd t q h j p (Nat.zero_le _) hjk hp)
end
end Go.Wx
