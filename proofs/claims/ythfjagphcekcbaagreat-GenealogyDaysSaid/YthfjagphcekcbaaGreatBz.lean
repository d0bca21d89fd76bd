/-
  A region that draws its order, with several variables of one type that are laid and then written. Nothing of any program stands here.
-/
import Derived.Test.YthfjagphcekcbaaGreatFe
namespace Go.Wx
open Go.RowKit

theorem dst_of {d d' : Nat} {p q : Op} {t t' : TypeId} {s s' : String} {a a' : Array Edge} {g g' : Option (Nat × Bool)} (h : some (⟨some d, p, t, s, a, g⟩ : Oper) = some ⟨some d', q, t', s', a', g'⟩) : d = d' := by
  injection h with h
  injection h with h
  injection h
theorem sv_of {d d' : Option Nat} {x x' : Operand} {y y' : Nat} {T T' t t' : TypeId} {s s' : String} {a a' : Array Edge} {g g' : Option (Nat × Bool)} (h : some (⟨d, .store T x (.tmp y), t, s, a, g⟩ : Oper) = some ⟨d', .store T' x' (.tmp y'), t', s', a', g'⟩) : y = y' := by
  injection h with h
  injection h with _ h
  injection h with _ _ h
  injection h
/-- a variable's alloc, its store, the operation that makes what is stored; the slots of the address and of what is stored -/
structure Bv where
  ia : Nat
  is : Nat
  isv : Nat
  sa : Nat
  sv : Nat
def ptrAt (v : Value) (B : Nat) : Prop := v = .pointer (some ⟨B, 0, none⟩)
section
variable {R : Option Nat} {m : Nat} {P : Program} {n : Nat} {ds : List Deferred} {Q : Exit → Go.Act → World → Prop} {l : Env} {w : World} {ops : Array Oper}
def VInv (bs : List Bv) (T : TypeId) (z : Array Value) (w0 : World) (L : Nat → Bool) (f : Nat → Value) (W : World) : Prop :=
  Up w0 W ∧ (∀ b ∈ bs, (L b.is = true → L b.ia = true) ∧ (L b.ia = true → ∃ B, ptrAt (f b.sa) B ∧ w0.heap.size ≤ B ∧ Blk W B (if L b.is = true then (f b.sv).cells else z) T)) ∧
    bs.Pairwise fun b c => L b.ia = true → L c.ia = true → ∀ B, ptrAt (f b.sa) B → ¬ ptrAt (f c.sa) B
/-- what each variable's operations are, and that they do not meet -/
def varsOK (bs : List Bv) : Bool := bs.all fun b => bs.all fun c => (!Nat.beq b.ia c.is) && ((Nat.beq b.ia c.ia && Nat.beq b.is c.is) || (!Nat.beq b.ia c.ia && !Nat.beq b.is c.is && !Nat.beq b.sa c.sa))
theorem varsOK_at {bs : List Bv} (h : varsOK bs = true) {b c : Bv} (hb : b ∈ bs) (hc : c ∈ bs) : b.ia ≠ c.is ∧ ((b.ia = c.ia ∧ b.is = c.is) ∨ (b.ia ≠ c.ia ∧ b.is ≠ c.is ∧ b.sa ≠ c.sa)) := by
  have h1 := List.all_eq_true.1 (List.all_eq_true.1 h b hb) c hc
  simp only [Bool.and_eq_true, Bool.or_eq_true, Bool.not_eq_true'] at h1
  refine ⟨fun e => ?_, ?_⟩
  · have := h1.1; rw [e] at this; simp at this
  · rcases h1.2 with ⟨a, b⟩ | ⟨⟨a, b⟩, c⟩
    · exact .inl ⟨Nat.eq_of_beq_eq_true a, Nat.eq_of_beq_eq_true b⟩
    · exact .inr ⟨fun e => by rw [e] at a; simp at a, fun e => by rw [e] at b; simp at b, fun e => by rw [e] at c; simp at c⟩

theorem AWF.vars {k : Nat} {bs : List Bv} {T : TypeId} {z : Array Value} {base : Env} (ph : Nat → Ph) {f0 : Nat → Value} (hz : ∀ w, (zeroValue T).run P w = .ok (.agg z) w) (hs : ∀ w, (sizeOf T).run P w = .ok z.size w)
    (hph : ∀ i v w w', (ph i).holds v w → KeepT T w w' → (ph i).holds v w') (hA : aheadOK ops = true) (hC : (Nat.beq k ops.size || closOK ops k) = true) (hF : farOK ops k = true) (hks : Nat.ble k ops.size = true)
    (hD : dstOK' n ops 0 k = true) (hbp : noPred base = true) (hbd : ∀ i ph, lk base i = some ph → ∀ (j : Nat) (o : Oper), 0 ≤ j → j < k → ops[j]? = some o → o.dst ≠ some i) (hv : varsOK bs = true) (hnd : bs.Pairwise fun b c => b.ia ≠ c.ia)
    (hlit : ∀ b ∈ bs, litOK ops b.ia [(b.is, 0, b.sv)] = true) (hk : ∀ b ∈ bs, b.is < k ∧ b.ia < k)
    (hia : ∀ b ∈ bs, ∃ ty ps af, ops[b.ia]? = some ⟨some b.sa, .alloc T, ty, ps, af, none⟩) (his : ∀ b ∈ bs, ∃ ty ps af, ops[b.is]? = some ⟨none, .store T (.tmp b.sa) (.tmp b.sv), ty, ps, af, none⟩)
    (hlk : ∀ b ∈ bs, ∀ o, ops[b.is]? = some o → lk (knp ops ph 0 o ++ base) b.sv = some (ph b.isv)) (hsv : ∀ b ∈ bs, ∀ v W, (ph b.isv).holds v W → ∃ cs, v = .agg cs ∧ cs.size = z.size ∧ cs.all (·.oneCell') = true)
    (hpa : ∀ b ∈ bs, ∀ B W, (ph b.ia).holds (.pointer (some ⟨B, 0, none⟩)) W)
    (hop : ∀ i o, i < k → (∀ b ∈ bs, i ≠ b.ia ∧ i ≠ b.is) → ops[i]? = some o → o.guard = none ∧ ∀ W, KeepT T w W → ∀ a, Ag n ds (knp ops ph 0 o ++ base) a W → OpY P o a W (fun v W' => Up W W' ∧ (ph i).holds v W'))
    (hend : ∀ f W, Up w W → (∀ b ∈ bs, ∃ B, ptrAt (f b.sa) B ∧ w.heap.size ≤ B ∧ Blk W B (f b.sv).cells T) → (bs.Pairwise fun b c => ∀ B, ptrAt (f b.sa) B → ¬ ptrAt (f c.sa) B) → AWF R m P n ds ops Q k (allP ops ph 0 k ++ base) f W) : AWF R m P n ds ops Q 0 base f0 w := by
  have ptr1 : ∀ {v : Value} {B B' : Nat}, ptrAt v B → ptrAt v B' → B = B' := fun h1 h2 => by unfold ptrAt at h1 h2; rw [h1] at h2; cases h2; rfl
  refine AWF.gen ph (KeepT T) (VInv bs T z w) (KeepT.refl T) (fun _ _ _ => KeepT.trans) hph hA hC hF hks (by simp) hD hbp hbd ?_ ⟨Up.refl w, fun b hb => ⟨fun h => by simp at h, fun h => by simp at h⟩, List.pairwise_iff_forall_sublist.2 fun _ h => by simp at h⟩ ?_
  · intro i o _ hi hio L f W hRel hDn hLi hed hInv
    obtain ⟨hUp, hB, hP⟩ := hInv
    -- slots of addresses are written by their allocs alone
    have saOf : ∀ c ∈ bs, c.ia ≠ i → o.dst ≠ some c.sa := fun c hc hne ed => by
      obtain ⟨ty, ps, af, h⟩ := hia c hc
      exact (dstOK'_at hD (Nat.zero_le _) hi hio ed).2 c.ia _ (Nat.zero_le _) (hk c hc).2 hne h rfl
    have svOf : ∀ c ∈ bs, L c.is = true → o.dst ≠ some c.sv := fun c hc hLs ed => by
      obtain ⟨os, hos, hods, ⟨e, he, hbe, hon⟩, ⟨e', he', hbe', pv, hpv, hpvd⟩⟩ := litOK_at (hlit c hc) List.mem_cons_self
      have h2 := hDn _ _ hos hLs e' he' hbe'
      have h3 := aheadOK_at hA hos e' he' hbe'
      have h4 := (hk c hc).1
      by_cases ee : e'.on = i
      · rw [ee, hLi] at h2; cases h2
      · exact (dstOK'_at hD (Nat.zero_le _) hi hio ed).2 e'.on pv (Nat.zero_le _) (by have h3' : e'.on < c.is := h3; omega) ee hpv hpvd
    by_cases e0 : ∃ b ∈ bs, i = b.ia
    · obtain ⟨b, hb, rfl⟩ := e0
      obtain ⟨ty, ps, af, hia0⟩ := hia b hb
      rw [hio] at hia0; cases hia0
      intro a ha hsl
      rw [if_pos (by simp [Region.wanted])]
      obtain ⟨v, W', hr, B, rfl, N⟩ := REv.allocA (P := P) (n := n) (ds := ds) (l := knp ops ph 0 _ ++ base) (w := W) (d := some b.sa) (ty := ty) (ps := ps) (af := af) (g := none) hz a ha
      have hLs : L b.is = false := by
        cases h : L b.is with
        | false => rfl
        | true => rw [(hB b hb).1 h] at hLi; cases hLi
      have ne : ∀ c ∈ bs, c.is ≠ b.ia := fun c hc => Ne.symm (varsOK_at hv hb hc).1
      have old : ∀ c ∈ bs, c.ia ≠ b.ia → setL L b.ia c.ia = L c.ia ∧ setS f (some b.sa) (.pointer (some ⟨B, 0, none⟩)) c.sa = f c.sa := fun c hc hne => by
        have h1 : b.sa ≠ c.sa := by
          rcases (varsOK_at hv hb hc).2 with ⟨h, _⟩ | ⟨_, _, h⟩
          · exact absurd h.symm hne
          · exact h
        exact ⟨by simp [setL, hne], by simp [setS, h1]⟩
      refine .inl (.inl ⟨_, W', hr, N.up.keepT, fun _ _ => hpa b hb B W', hUp.trans N.up, fun c hc => ?_, ?_⟩)
      · have ns : setL L b.ia c.is = L c.is := by simp [setL, ne c hc]
        by_cases hcb : c.ia = b.ia
        · have hsa : c.sa = b.sa := by
            obtain ⟨_, _, _, h⟩ := hia c hc
            rw [hcb, hio] at h; exact (dst_of h).symm
          have his' : c.is = b.is := by
            rcases (varsOK_at hv hc hb).2 with ⟨_, h⟩ | ⟨h, _⟩
            · exact h
            · exact absurd hcb h
          refine ⟨fun _ => by rw [hcb]; simp [setL], fun _ => ⟨B, by rw [hsa]; simp [ptrAt, setS], by rw [N.at_]; exact hUp.size, ?_⟩⟩
          rw [ns, his', hLs]
          exact N.blk
        · obtain ⟨o1, o2⟩ := old c hc hcb
          refine ⟨fun h => by rw [o1]; rw [ns] at h; exact (hB c hc).1 h, fun h => ?_⟩
          rw [o1] at h
          obtain ⟨B', h1, h2, h3⟩ := (hB c hc).2 h
          refine ⟨B', by rw [o2]; exact h1, h2, ?_⟩
          rw [ns]
          cases hLc : L c.is with
          | false => rw [hLc] at h3; exact h3.up N.up
          | true =>
            rw [hLc] at h3
            have h4 : setS f (some b.sa) (.pointer (some ⟨B, 0, none⟩)) c.sv = f c.sv := by
              have h5 := svOf c hc hLc
              have h6 : b.sa ≠ c.sv := fun e => h5 (by rw [e])
              simp [setS, h6]
            rw [h4]
            exact h3.up N.up
      · refine List.Pairwise.imp_of_mem ?_ (hnd.and hP)
        rintro c c' hc hc' ⟨hne, hp⟩ h1 h2 X hx hx'
        by_cases ec : c.ia = b.ia
        · have ec' : c'.ia ≠ b.ia := fun e => hne (ec.trans e.symm)
          obtain ⟨q1, q2⟩ := old c' hc' ec'
          rw [q1] at h2; rw [q2] at hx'
          obtain ⟨B', h3, _, h5⟩ := (hB c' hc').2 h2
          have hsa : c.sa = b.sa := by
            obtain ⟨_, _, _, h⟩ := hia c hc
            rw [ec, hio] at h; exact (dst_of h).symm
          have hxB : X = B := ptr1 hx (by rw [hsa]; simp [ptrAt, setS])
          have := ptr1 hx' h3
          have h6 := h5.lt
          rw [N.at_] at hxB
          omega
        · obtain ⟨q1, q2⟩ := old c hc ec
          rw [q1] at h1; rw [q2] at hx
          by_cases ec' : c'.ia = b.ia
          · obtain ⟨B', h3, _, h5⟩ := (hB c hc).2 h1
            have hsa : c'.sa = b.sa := by
              obtain ⟨_, _, _, h⟩ := hia c' hc'
              rw [ec', hio] at h; exact (dst_of h).symm
            have hxB : X = B := ptr1 hx' (by rw [hsa]; simp [ptrAt, setS])
            have := ptr1 hx h3
            have h6 := h5.lt
            rw [N.at_] at hxB
            omega
          · obtain ⟨q1', q2'⟩ := old c' hc' ec'
            rw [q1'] at h2; rw [q2'] at hx'
            exact hp h1 h2 X hx hx'
    · have e0' : ∀ b ∈ bs, b.ia ≠ i := fun b hb e => e0 ⟨b, hb, e.symm⟩
      by_cases e1 : ∃ b ∈ bs, i = b.is
      · obtain ⟨b, hb, rfl⟩ := e1
        obtain ⟨os, hos, hods, ⟨e, he, hbe, hon⟩, _⟩ := litOK_at (hlit b hb) List.mem_cons_self
        have hLa : L b.ia = true := by rw [hos] at hio; cases hio; rw [← hon]; exact hed e he hbe
        obtain ⟨ty, ps, af, his0⟩ := his b hb
        rw [hio] at his0; cases his0
        intro a ha hsl
        rw [if_pos (by simp [Region.wanted])]
        obtain ⟨B, h1, hBs, hblk⟩ := (hB b hb).2 hLa
        rw [hLi] at hblk
        obtain ⟨cs, hcs, hcz, hc1⟩ := hsv b hb _ W (ha.val b.sv _ (hlk b hb _ hio))
        have hfs : f b.sv = .agg cs := by rw [← hsl]; exact hcs
        have hsn : b.sa ≠ b.sv := fun e' => by unfold ptrAt at h1; rw [e', hfs] at h1; cases h1
        have hag : Ag n ds [(b.sv, .eq (.agg cs)), (b.sa, .eq (.pointer (some ⟨B, 0, none⟩)))] a W := by
          refine ⟨ha.defers, ha.size, fun t q ht => ?_⟩
          by_cases e1 : t = b.sv
          · subst e1; rw [lk_cons_eq] at ht; cases ht; exact hcs
          · rw [lk_cons_ne e1] at ht
            by_cases e2 : t = b.sa
            · subst e2; rw [lk_cons_eq] at ht; cases ht; exact (hsl _).trans h1
            · rw [lk_cons_ne e2] at ht; cases ht
        obtain ⟨W', hr, hset⟩ := SEv.storeA (P := P) (n := n) (ds := ds) (w := W) (l := [(b.sv, .eq (.agg cs)), (b.sa, .eq (.pointer (some ⟨B, 0, none⟩)))]) (x := .tmp b.sa) (y := .tmp b.sv) (ty := ty) (ps := ps) (af := af) (g := none) hs hcz (.tmp (by rw [lk_cons_ne hsn, lk_cons_eq])) (.tmp lk_cons_eq) hc1 hblk (by simp) a hag
        have na : ∀ c ∈ bs, setL L b.is c.ia = L c.ia := fun c hc => by
          have := (varsOK_at hv hc hb).1
          simp [setL, this]
        refine .inr ⟨W', hr, hset.sto.keepT (by rw [hset.size]; exact Nat.le_refl _) hblk, (fun d hd => by cases hd), hUp.sto hset.sto hBs, fun c hc => ?_, ?_⟩
        · by_cases hcb : c.is = b.is
          · have hca : c.ia = b.ia ∧ c.sa = b.sa := by
              rcases (varsOK_at hv hc hb).2 with ⟨h, _⟩ | ⟨_, h, _⟩
              · refine ⟨h, ?_⟩
                obtain ⟨_, _, _, h1⟩ := hia c hc
                obtain ⟨_, _, _, h2⟩ := hia b hb
                rw [h, h2] at h1; exact (dst_of h1).symm
              · exact absurd hcb h
            have hcv : c.sv = b.sv := by
              obtain ⟨_, _, _, h1⟩ := his c hc
              rw [hcb, hio] at h1; exact (sv_of h1).symm
            refine ⟨fun _ => by rw [na c hc, hca.1]; exact hLa, fun _ => ⟨B, by rw [hca.2]; exact h1, hBs, ?_⟩⟩
            have h2 : setL L b.is c.is = true := by simp [setL, hcb]
            rw [h2, if_pos rfl, hcv]
            show Blk W' B (f b.sv).cells T
            rw [hfs]
            exact hset.blk
          · have ns : setL L b.is c.is = L c.is := by simp [setL, hcb]
            refine ⟨fun h => by rw [na c hc]; rw [ns] at h; exact (hB c hc).1 h, fun h => ?_⟩
            rw [na c hc] at h
            obtain ⟨B', h3, h4, h5⟩ := (hB c hc).2 h
            have hne : B' ≠ B := by
              have hcne : c ≠ b := fun e => hcb (by rw [e])
              intro e
              subst e
              rcases List.mem_iff_getElem.1 hc with ⟨ic, hic, ec⟩
              rcases List.mem_iff_getElem.1 hb with ⟨ib, hib, eb⟩
              rcases Nat.lt_trichotomy ic ib with q | q | q
              · have := List.pairwise_iff_getElem.1 hP ic ib hic hib q
                rw [ec, eb] at this
                exact this h hLa B' h3 h1
              · subst q; exact hcne (ec.symm.trans eb)
              · have := List.pairwise_iff_getElem.1 hP ib ic hib hic q
                rw [ec, eb] at this
                exact this hLa h B' h1 h3
            refine ⟨B', h3, h4, ?_⟩
            rw [ns]
            exact h5.sto hset.sto hne
        · refine List.Pairwise.imp_of_mem ?_ hP
          intro c c' hc hc' hp h1 h2 X hx hx'
          rw [na c hc] at h1
          rw [na c' hc'] at h2
          exact hp h1 h2 X hx hx'
      · have e1' : ∀ b ∈ bs, b.is ≠ i := fun b hb e => e1 ⟨b, hb, e.symm⟩
        obtain ⟨hg, hop⟩ := hop i o hi (fun b hb => ⟨Ne.symm (e0' b hb), Ne.symm (e1' b hb)⟩) hio
        intro a ha hsl
        rw [if_pos (by simp [Region.wanted, hg])]
        have done : ∀ v W', Up W W' ∧ (ph i).holds v W' → KeepT T W W' ∧ (∀ d, o.dst = some d → (ph i).holds v W') ∧ VInv bs T z w (setL L i) (setS f o.dst v) W' := by
          rintro v W' ⟨hu, hv'⟩
          have ela : ∀ c ∈ bs, setL L i c.ia = L c.ia := fun c hc => by simp [setL, e0' c hc]
          have els : ∀ c ∈ bs, setL L i c.is = L c.is := fun c hc => by simp [setL, e1' c hc]
          have esa : ∀ c ∈ bs, setS f o.dst v c.sa = f c.sa := fun c hc => by simp [setS, saOf c hc (e0' c hc)]
          refine ⟨hu.keepT, fun _ _ => hv', hUp.trans hu, fun c hc => ⟨fun h => by rw [ela c hc]; rw [els c hc] at h; exact (hB c hc).1 h, fun h => ?_⟩, ?_⟩
          · rw [ela c hc] at h
            obtain ⟨B, h1, h2, h3⟩ := (hB c hc).2 h
            refine ⟨B, by rw [esa c hc]; exact h1, h2, ?_⟩
            rw [els c hc]
            cases hLc : L c.is with
            | false => rw [hLc] at h3; exact h3.up hu
            | true =>
              rw [hLc] at h3
              have h4 : setS f o.dst v c.sv = f c.sv := by simp [setS, svOf c hc hLc]
              rw [h4]
              exact h3.up hu
          · refine List.Pairwise.imp_of_mem ?_ hP
            intro c c' hc hc' hp h1 h2 X hx hx'
            rw [ela c hc] at h1; rw [ela c' hc'] at h2
            rw [esa c hc] at hx; rw [esa c' hc'] at hx'
            exact hp h1 h2 X hx hx'
        rcases hop W hRel a ha with ⟨v, W', hr, hp⟩ | ⟨fn, args, w1, hr, hc⟩
        · exact .inl (.inl ⟨v, W', hr, done v W' hp⟩)
        · exact .inl (.inr ⟨fn, args, w1, hr, hc.mono done⟩)
  · intro f W hRel hInv
    obtain ⟨hUp, hB, hP⟩ := hInv
    refine hend f W hUp (fun b hb => ?_) ?_
    · obtain ⟨B, h1, h2, h3⟩ := (hB b hb).2 (by simpa using (hk b hb).2)
      rw [if_pos (by simpa using (hk b hb).1)] at h3
      exact ⟨B, h1, h2, h3⟩
    · refine List.Pairwise.imp_of_mem ?_ hP
      intro c c' hc hc' hp X hx hx'
      exact hp (by simpa using (hk c hc).2) (by simpa using (hk c' hc').2) X hx hx'
theorem CW.vars {id : Nat} {opsL : List Oper} (k : Nat) (bs : List Bv) (z : Array Value) (phs : List Ph) (keep : List Nat) {T : TypeId} (hz : ∀ w, (zeroValue T).run P w = .ok (.agg z) w) (hs : ∀ w, (sizeOf T).run P w = .ok z.size w) (hm : P.follows .mixedOrders = true) (hl : noPred l = true)
    (hA : aheadOK opsL.toArray = true) (hC : (Nat.beq k opsL.toArray.size || closOK opsL.toArray k) = true) (hF : farOK opsL.toArray k = true) (hks : Nat.ble k opsL.toArray.size = true) (hD : dstOK' n opsL.toArray 0 k = true) (hTl : tailOK opsL.toArray k = true)
    (hfree : freeOK l (opsL.take k) = true) (hv : varsOK bs = true) (hnd : (bs.map (·.ia)).Nodup) (hlit : (bs.all fun b => litOK opsL.toArray b.ia [(b.is, 0, b.sv)]) = true) (hk : (bs.all fun b => Nat.ble (b.is + 1) k && Nat.ble (b.ia + 1) k) = true)
    (hia : ∀ b ∈ bs, ∃ ty ps af, opsL[b.ia]? = some ⟨some b.sa, .alloc T, ty, ps, af, none⟩) (his : ∀ b ∈ bs, ∃ ty ps af, opsL[b.is]? = some ⟨none, .store T (.tmp b.sa) (.tmp b.sv), ty, ps, af, none⟩) (hph : allT T phs)
    (hlk : ∀ b ∈ bs, ∀ o, opsL[b.is]? = some o → lk (knp opsL.toArray (fun i => phs.getD i (.eq undef)) 0 o ++ l) b.sv = some (phs.getD b.isv (.eq undef))) (hsv : ∀ b ∈ bs, ∀ v W, (phs.getD b.isv (.eq undef)).holds v W → ∃ cs, v = .agg cs ∧ cs.size = z.size ∧ cs.all (·.oneCell') = true)
    (hpa : ∀ b ∈ bs, ∀ B W, (phs.getD b.ia (.eq undef)).holds (.pointer (some ⟨B, 0, none⟩)) W)
    (hop : ∀ W, KeepT T w.drew W → allL (fun i o => (∃ b ∈ bs, i = b.ia ∨ i = b.is) ∨ (o.guard = none ∧ TU P n ds (knp opsL.toArray (fun i => phs.getD i (.eq undef)) 0 o ++ l) W o (phs.getD i (.eq undef)))) 0 (opsL.take k))
    (hend : ∀ W (g : Nat → Value), Up w.drew W → (∀ b ∈ bs, ∃ B, ptrAt (g b.sa) B ∧ w.drew.heap.size ≤ B ∧ Blk W B (g b.sv).cells T) → (bs.Pairwise fun b c => ∀ B, ptrAt (g b.sa) B → ¬ ptrAt (g c.sa) B) → (∀ i o d, i < k → opsL[i]? = some o → o.dst = some d → (phs.getD i (.eq undef)).holds (g d) W) → LW R m P n ds opsL.toArray Q (opsL.drop k) (keep.map (fun d => (d, .eq (g d))) ++ l) W) :
    CW R m P n ds (.region id opsL.toArray true) Q l w := by
  have hks' : k ≤ opsL.length := by have := Nat.le_of_ble_eq_true hks; simp at this; omega
  have sub : ∀ j o, j < k → opsL.toArray[j]? = some o → (opsL.take k)[j]? = some o := fun j o hjk ho => by
    rw [List.getElem?_take_of_lt hjk]; simpa using ho
  have hbd : ∀ i ph, lk l i = some ph → ∀ (j : Nat) (o : Oper), 0 ≤ j → j < k → opsL.toArray[j]? = some o → o.dst ≠ some i := fun i ph hi j o _ hjk ho => freeOK_at hfree hi (List.mem_of_getElem? (sub j o hjk ho))
  have toL : ∀ (i : Nat) (o : Oper), opsL.toArray[i]? = some o → opsL[i]? = some o := fun i o h => by simpa using h
  refine CW.draws_up hm hl fun fuel listed a hf hu ha => ?_
  refine AWF.vars (k := k) (bs := bs) (T := T) (z := z) (fun i => phs.getD i (.eq undef)) (f0 := fun t => a.tmps.getD t undef) hz hs (fun i v w w' h u => (hph.at i) v w w' h u) hA hC hF hks hD hl hbd hv (List.pairwise_map.1 hnd) (fun b hb => List.all_eq_true.1 hlit b hb) ?_ ?_ ?_ (fun b hb o ho => hlk b hb o (toL _ _ ho)) hsv hpa ?_ ?_ fuel listed a hf hu ha (fun _ => rfl)
  · intro b hb
    have := List.all_eq_true.1 hk b hb
    simp only [Bool.and_eq_true] at this
    exact ⟨Nat.le_of_ble_eq_true this.1, Nat.le_of_ble_eq_true this.2⟩
  · intro b hb
    obtain ⟨ty, ps, af, h⟩ := hia b hb
    exact ⟨ty, ps, af, by simpa using h⟩
  · intro b hb
    obtain ⟨ty, ps, af, h⟩ := his b hb
    exact ⟨ty, ps, af, by simpa using h⟩
  · intro i o hi hn ho
    have h0 := (hop w.drew (KeepT.refl T _)).at (sub i o hi ho)
    rw [Nat.zero_add] at h0
    rcases h0 with ⟨b, hb, e | e⟩ | ⟨hg, _⟩
    · exact absurd e (hn b hb).1
    · exact absurd e (hn b hb).2
    · refine ⟨hg, fun W hW a ha => ?_⟩
      have h3 := (hop W hW).at (sub i o hi ho)
      rw [Nat.zero_add] at h3
      rcases h3 with ⟨b, hb, e | e⟩ | ⟨_, h⟩
      · exact absurd e (hn b hb).1
      · exact absurd e (hn b hb).2
      · exact h a ha
  · intro f W hUp hblk hpw fuel' listed' a' hf' hu' ha' hsl'
    have key : ∀ i o d, i < k → opsL[i]? = some o → o.dst = some d → (phs.getD i (.eq undef)).holds (f d) W := by
      intro i o d hik ho hd
      have ho' : opsL.toArray[i]? = some o := by simpa using ho
      have hmem : (d, phs.getD i (.eq undef)) ∈ allP opsL.toArray (fun i => phs.getD i (.eq undef)) 0 k := by
        unfold allP
        rw [List.mem_filterMap]
        exact ⟨i, List.mem_range.2 hik, by rw [if_pos (by simp), ho']; simp [hd]⟩
      obtain ⟨q', hq⟩ := lk_of_mem hmem
      obtain ⟨j, p, _, hjk, hp, hpd, e⟩ := allP_at hq
      have : j = i := by
        by_cases ee : j = i
        · exact ee
        · exact absurd hpd ((dstOK'_at hD (Nat.zero_le _) hik ho' hd).2 j p (Nat.zero_le _) hjk ee hp)
      subst this
      have := ha'.val d q' (lk_left hq)
      rw [hsl', e] at this
      exact this
    refine tail_order hTl hA (opsL.toArray.size - k) k fuel' listed' a' W rfl (by simp; omega) (Nat.le_refl _) hf' hu' ?_
    refine hend W f hUp hblk hpw key a' ⟨ha'.defers, ha'.size, fun t q ht => ?_⟩
    rcases lk_append ht with h | h
    · obtain ⟨d, _, he⟩ := List.mem_map.1 (lk_mem h)
      cases he
      exact hsl' _
    · refine ha'.val t q ?_
      rw [lk_right]
      · exact h
      · cases hq : lk (allP opsL.toArray (fun i => phs.getD i (.eq undef)) 0 k) t with
        | none => rfl
        | some q' =>
          obtain ⟨j, p, _, hjk, hp, hpd, _⟩ := allP_at hq
          exact absurd hpd (hbd t q h j p (Nat.zero_le _) hjk hp)
end
end Go.Wx
