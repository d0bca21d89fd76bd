import Derived.Test.YtdelcaegofkknaaGreatBa40
import Derived.Test.YtdelcaegofkknaaGreatSx
namespace Go.Wx

def lessL (a b : Fact) : List Int → Bool
  | [] => false
  | n :: l => if getN a n = getN b n then lessL a b l else decide (getN a n < getN b n)
theorem lessL_eq (k : Int) (a b : Fact) : lessL a b (kfL k) = ltK (ordK k a) (ordK k b) := by
  rw [Bool.eq_iff_iff, ltK_iff]
  by_cases h4 : k = 4
  · subst h4
    show (if a.Wafer = b.Wafer then (if a.Time = b.Time then false else decide (a.Time < b.Time)) else decide (a.Wafer < b.Wafer)) = true ↔ (a.Wafer < b.Wafer ∨ (a.Wafer = b.Wafer ∧ a.Time < b.Time))
    split
    · split <;> simp <;> omega
    · simp; omega
  · by_cases h5 : k = 5
    · subst h5
      show (if a.Product = b.Product then false else decide (a.Product < b.Product)) = true ↔ (a.Product < b.Product ∨ (a.Product = b.Product ∧ (0 : Int) < 0))
      split <;> simp <;> omega
    · by_cases h8 : k = 8
      · subst h8
        show (if a.Other = b.Other then (if a.Parties = b.Parties then false else decide (a.Parties < b.Parties)) else decide (a.Other < b.Other)) = true ↔ (a.Other < b.Other ∨ (a.Other = b.Other ∧ a.Parties < b.Parties))
        split
        · split <;> simp <;> omega
        · simp; omega
      · by_cases h10 : k = 10
        · subst h10
          show (if a.Recipe = b.Recipe then (if a.Time = b.Time then false else decide (a.Time < b.Time)) else decide (a.Recipe < b.Recipe)) = true ↔ (a.Recipe < b.Recipe ∨ (a.Recipe = b.Recipe ∧ a.Time < b.Time))
          split
          · split <;> simp <;> omega
          · simp; omega
        · have hk : kfL k = [0] := by unfold kfL; rw [if_neg h4, if_neg h5, if_neg h8, if_neg h10]
          have ho : ∀ g : Fact, ordK k g = (g.ID, 0) := fun g => by unfold ordK; split <;> first | omega | rfl
          rw [ho, ho, hk]
          show (if a.ID = b.ID then false else decide (a.ID < b.ID)) = true ↔ (a.ID < b.ID ∨ (a.ID = b.ID ∧ (0 : Int) < 0))
          split <;> simp <;> omega
theorem lessL_at {a b : Fact} {l : List Int} {i : Nat} {n : Int} (h : l[i]? = some n) : lessL a b (l.drop i) = if getN a n = getN b n then lessL a b (l.drop (i + 1)) else decide (getN a n < getN b n) := by
  obtain ⟨hk, e⟩ := List.getElem?_eq_some_iff.1 h
  rw [List.drop_eq_getElem_cons hk, e]; rfl
/-- where the reference puts a fact -/
def isPut (l : List Fact) (f : Fact) (p : Nat) : Prop := p ≤ l.length ∧ (∀ y ∈ l.drop p, ltK (ordK f.Kind f) (ordK f.Kind y) = true) ∧ (p = 0 ∨ ∃ y, l[p - 1]? = some y ∧ ltK (ordK f.Kind f) (ordK f.Kind y) = false)
theorem put_ins {l : List Fact} {f : Fact} {p : Nat} (h : isPut l f p) (hs : srt (ordK f.Kind) l) : insAt l f p = insK (ordK f.Kind) f l := by
  obtain ⟨q, e, hq, h1, h2⟩ := insK_put (key := ordK f.Kind) f l hs
  rw [e]
  obtain ⟨hp, g1, g2⟩ := h
  have key : ∀ {p q : Nat}, q ≤ l.length → (∀ y ∈ l.drop p, ltK (ordK f.Kind f) (ordK f.Kind y) = true) → (q = 0 ∨ ∃ y, l[q - 1]? = some y ∧ ltK (ordK f.Kind f) (ordK f.Kind y) = false) → q ≤ p := fun {p q} hq g1 g2 => by
    rcases g2 with rfl | ⟨y, hy, hl⟩
    · omega
    · rcases Nat.lt_or_ge p q with h | h
      · have := g1 y (List.mem_iff_getElem?.2 ⟨q - 1 - p, by rw [List.getElem?_drop, show p + (q - 1 - p) = q - 1 by omega]; exact hy⟩)
        rw [hl] at this; cases this
      · exact h
  rw [Nat.le_antisymm (key hp h1 g2) (key hq g1 h2)]
def refL (Q : List Fact) (j : Nat) : List Fact := sortK (ordK ((j + 1 : Nat) : Int)) (Q.filter fun f => decide (f.Kind = ((j + 1 : Nat) : Int)))
theorem refL_srt (Q : List Fact) (j : Nat) : srt (ordK ((j + 1 : Nat) : Int)) (refL Q j) := (sortK_sts _).ord
theorem refL_len (Q : List Fact) (j : Nat) : (refL Q j).length ≤ Q.length := by
  unfold refL
  have h := (sortK_sts (key := ordK ((j + 1 : Nat) : Int)) (Q.filter fun f => decide (f.Kind = ((j + 1 : Nat) : Int)))).same.length
  rw [h]
  exact List.length_filter_le _ _
theorem refL_put {Q : List Fact} {f : Fact} {j : Nat} (h : f.Kind = ((j + 1 : Nat) : Int)) : refL (Q ++ [f]) j = insK (ordK f.Kind) f (refL Q j) := by
  unfold refL
  rw [List.filter_append, h]
  simp only [List.filter_cons, decide_true, if_true, List.filter_nil, h]
  unfold sortK
  rw [List.foldl_append]; rfl
theorem refL_other {Q : List Fact} {f : Fact} {j : Nat} (h : f.Kind ≠ ((j + 1 : Nat) : Int)) : refL (Q ++ [f]) j = refL Q j := by
  unfold refL
  rw [List.filter_append]
  have e : decide (f.Kind = ((j + 1 : Nat) : Int)) = false := decide_eq_false h
  simp only [List.filter_cons, e, List.filter_nil, List.append_nil, Bool.false_eq_true, if_false]
/-- the reference's base while it is being made -/
def LsO (w : World) (tF : TypeId) (bc : Array Go.Value) (Q : List Fact) : Prop := bc.size = 11 ∧ ∀ j, j < 11 → ∃ v, bc[j]? = some v ∧ OwnS w 0 tF 19 Fact.cells v (refL Q j)
theorem LsO.up {w w' : World} {tF : TypeId} {bc : Array Go.Value} {Q : List Fact} (h : LsO w tF bc Q) (u : Up w w') : LsO w' tF bc Q := ⟨h.1, fun j hj => let ⟨v, e, ho⟩ := h.2 j hj; ⟨v, e, ho.up u⟩⟩
theorem LsO.sto {w w' : World} {tF T : TypeId} {bc cs : Array Go.Value} {Q : List Fact} {B : Nat} (h : LsO w tF bc Q) (hb : Blk w B cs T) (hT : T ≠ tF) (u : Sto B w w') : LsO w' tF bc Q := ⟨h.1, fun j hj => let ⟨v, e, ho⟩ := h.2 j hj; ⟨v, e, ho.stoT hb hT u⟩⟩
theorem LsO.put {w : World} {tF : TypeId} {bc : Array Go.Value} {Q : List Fact} {f : Fact} {j : Nat} {v : Go.Value} {p : Nat} (h : LsO w tF bc Q) (hk : f.Kind = ((j + 1 : Nat) : Int)) (hj : j < 11) (hp : isPut (refL Q j) f p) (ho : OwnS w 0 tF 19 Fact.cells v (insAt (refL Q j) f p)) : LsO w tF (bc.setIfInBounds j v) (Q ++ [f]) := by
  refine ⟨by rw [Array.size_setIfInBounds]; exact h.1, fun i hi => ?_⟩
  by_cases e : i = j
  · subst e
    refine ⟨v, by rw [Array.getElem?_setIfInBounds_self_of_lt (by rw [h.1]; exact hj)], ?_⟩
    rw [refL_put hk, ← put_ins hp (by rw [hk]; exact refL_srt Q i)]
    exact ho
  · obtain ⟨u, e1, h1⟩ := h.2 i hi
    refine ⟨u, by rw [Array.getElem?_setIfInBounds_ne (Ne.symm e)]; exact e1, ?_⟩
    rw [refL_other (by rw [hk]; intro h2; exact e (by omega))]
    exact h1
theorem LsO.one {w : World} {tF : TypeId} {bc : Array Go.Value} {Q : List Fact} (h : LsO w tF bc Q) : bc.all (·.oneCell') = true := by
  rw [Array.all_eq_true]
  intro i hi
  obtain ⟨v, e, ho⟩ := h.2 i (by rw [← h.1]; exact hi)
  have : bc[i] = v := (Array.getElem?_eq_some_iff.1 e).2
  rw [this]
  exact ho.one
theorem LsO.baseC {w : World} {tF : TypeId} {bc : Array Go.Value} {Q : List Fact} {b : Base} (h : LsO w tF bc Q) (hb : ∀ j, j < 11 → refL Q j = lstOf b j) : BaseC w bc b := by
  have g : ∀ j, j < 11 → ∃ v, bc[j]? = some v ∧ Sl w v 19 Fact.cells (lstOf b j) := fun j hj => let ⟨v, e, ho⟩ := h.2 j hj; ⟨v, e, by rw [← hb j hj]; exact ho.sl (fun _ => rfl)⟩
  obtain ⟨v0, e0, h0⟩ := g 0 (by decide)
  obtain ⟨v1, e1, h1⟩ := g 1 (by decide)
  obtain ⟨v2, e2, h2⟩ := g 2 (by decide)
  obtain ⟨v3, e3, h3⟩ := g 3 (by decide)
  obtain ⟨v4, e4, h4⟩ := g 4 (by decide)
  obtain ⟨v5, e5, h5⟩ := g 5 (by decide)
  obtain ⟨v6, e6, h6⟩ := g 6 (by decide)
  obtain ⟨v7, e7, h7⟩ := g 7 (by decide)
  obtain ⟨v8, e8, h8⟩ := g 8 (by decide)
  obtain ⟨v9, e9, h9⟩ := g 9 (by decide)
  obtain ⟨v10, e10, h10⟩ := g 10 (by decide)
  refine ⟨v0, v1, v2, v3, v4, v5, v6, v7, v8, v9, v10, ?_, h0, h1, h2, h3, h4, h5, h6, h7, h8, h9, h10⟩
  apply Array.ext_getElem?
  intro i
  match i with
  | 0 => exact e0
  | 1 => exact e1
  | 2 => exact e2
  | 3 => exact e3
  | 4 => exact e4
  | 5 => exact e5
  | 6 => exact e6
  | 7 => exact e7
  | 8 => exact e8
  | 9 => exact e9
  | 10 => exact e10
  | k + 11 => rw [Array.getElem?_eq_none (by have := h.1; omega), Array.getElem?_eq_none (by simp)]
theorem LsO.nil (w : World) (tF : TypeId) : LsO w tF #[.slice none 0 0, .slice none 0 0, .slice none 0 0, .slice none 0 0, .slice none 0 0, .slice none 0 0, .slice none 0 0, .slice none 0 0, .slice none 0 0, .slice none 0 0, .slice none 0 0] [] := ⟨rfl, fun j hj => by
  refine ⟨.slice none 0 0, ?_, OwnS.nil _ _ _ _ _⟩
  match j, hj with
  | 0, _ | 1, _ | 2, _ | 3, _ | 4, _ | 5, _ | 6, _ | 7, _ | 8, _ | 9, _ | 10, _ => rfl⟩
theorem q_skip {L : List Fact} {d : Int} {i : Nat} {f : Fact} (hf : L[i]? = some f) (h : kSkip d f = true ∨ bst L d i f L.length = false) : qL L d (i + 1) = qL L d i := by
  rw [qL, hf]
  have : kOk L d i = false := by
    unfold kOk; rw [hf]
    rcases h with h | h <;> simp [h]
  simp [this]
theorem q_put {L : List Fact} {d : Int} {i : Nat} {f : Fact} (hf : L[i]? = some f) (h : kSkip d f = false) (hb : bst L d i f L.length = true) : qL L d (i + 1) = qL L d i ++ [f] := by
  rw [qL, hf]
  have : kOk L d i = true := by unfold kOk; rw [hf]; simp [h, hb]
  simp [this]
theorem q_len (L : List Fact) (d : Int) : ∀ n, (qL L d n).length ≤ n
  | 0 => Nat.le_refl _
  | n + 1 => by
    rw [qL, List.length_append]
    refine Nat.add_le_add (q_len L d n) ?_
    split
    · split <;> simp
    · simp
theorem key_emp (f : Fact) : ((⟨(keyB f).toArray⟩ : ByteArray).toList == (⟨#[]⟩ : ByteArray).toList) = decide (keyB f = []) := by rw [ba_toList, ba_toList, Bool.eq_iff_iff]; simp
theorem key_beq2 (g f : Fact) : ((⟨(keyB g).toArray⟩ : ByteArray).toList == (⟨(keyB f).toArray⟩ : ByteArray).toList) = decide (keyB g = keyB f) := by rw [ba_toList, ba_toList, Bool.eq_iff_iff]; simp
theorem own_cap {α : Type} {enc : α → Array Go.Value} {b k n cp : Nat} {e : TypeId} {w : World} {ad : Option Addr} {xs : List α} (h : OwnS w b e k enc (.slice ad n cp) xs) : xs.length ≤ cp := by
  obtain ⟨_, ⟨e1, e2⟩ | ⟨g, cap, cur, e1, _, _, hc, _⟩⟩ := h
  · cases e1; omega
  · cases e1; exact hc
theorem bst_false {L : List Fact} {d : Int} {i k n : Nat} {f : Fact} (h : bst L d i f k = false) (hk : k ≤ n) : bst L d i f n = false := by
  rw [Bool.eq_false_iff] at h ⊢
  intro hn
  exact h (bst_iff.2 fun j hj => bst_iff.1 hn j (by omega))
/-- what the reference asks of another fact -/
theorem beats_eq {d : Int} {i k : Nat} {f g : Fact} (hd : f.Day ≤ d) : (!(decide (g.Day ≤ d) && decide (keyB g = keyB f)) || (!prevB g f && (decide ((i : Int) ≤ (k : Int)) || !Fact.eqb g f))) = !beats d i f k g := by
  unfold beats
  rw [Bool.eq_iff_iff]
  by_cases h1 : g.Day ≤ d ∧ keyB g = keyB f
  · simp [h1.1, h1.2]
  · have hp : ¬ (g.Day ≤ d ∧ prevB g f = true) := fun h => h1 ⟨h.1, (prev_iff.1 h.2).2.2.1⟩
    have he : Fact.eqb g f = false := by
      rw [Bool.eq_false_iff]; intro e
      have := eqb_iff.1 e
      subst this
      exact h1 ⟨hd, rfl⟩
    have h2 : (decide (g.Day ≤ d) && decide (keyB g = keyB f)) = false := by rw [Bool.eq_false_iff]; intro h; simp at h; exact h1 h
    have h3 : (decide (g.Day ≤ d) && prevB g f) = false := by rw [Bool.eq_false_iff]; intro h; simp at h; exact hp h
    rw [h2, h3, he]; simp

end Go.Wx
namespace Go.Proofs.YtdelcaegofkknaaGreat
open Go.Wx Go.RowKit
theorem rLess_any (a b : Fact) (w : World) : Ret Tryz.prog 75 #[.agg a.cells, .agg b.cells] w fun r w' => r = .bool (ltK (ordK a.Kind a) (ordK a.Kind b)) ∧ Up w w' := by
  have hW := Up.refl w
  obtain ⟨w0, rfl⟩ : ∃ w0, w0 = w := ⟨_, rfl⟩
  refine Calls_start (n := 36) (m := 9) Tryz.func75 rfl rfl rfl ?_
  refine CW.seq (CW.region ?_)
  refine LW.r (REv.boxA (.tmp rfl)) rfl rfl rfl rfl ?_
  rintro _ w1 ⟨B2, rfl, NB2⟩
  have eB2 := NB2.at_
  have zB2 := NB2.size
  replace hW := hW.up NB2.up
  have hB2 := NB2.blk
  refine LW.r (REv.boxA (.tmp rfl)) rfl rfl rfl rfl ?_
  rintro _ w2 ⟨B3, rfl, NB3⟩
  have eB3 := NB3.at_
  have zB3 := NB3.size
  replace hW := hW.up NB3.up
  replace hB2 := hB2.up NB3.up
  have hB3 := NB3.blk
  refine LW.p (PEv.assign (.const _)) rfl rfl rfl (LW.nil (KW.then (CW.seq (CW.region ?_))))
  refine LW.p (PEv.fieldAddr (off := 0) Tryz.underlying35 rfl rfl Tryz.sizeOf3 rfl (.tmp rfl)) rfl rfl rfl ?_
  refine LW.p (PEv.load Tryz.isAgg3 (.tmp rfl) (hB2.celln rfl)) rfl rfl rfl ?_
  refine LW.c (enter_call0 (.cons (.tmp rfl) .nil) (Tryz.en73)) rfl rfl rfl rfl (KeyFields_any a.Kind _) ?_
  rintro _ w3 ⟨adk, cpk, rfl, hEk, uw3⟩
  have zw3 := uw3.size
  replace hW := hW.up uw3
  replace hB2 := hB2.up uw3
  replace hB3 := hB3.up uw3
  have hkl := kf_len2 a.Kind
  refine LW.p (PEv.assign (.tmp rfl)) rfl rfl rfl (LW.nil (KW.then (CW.seq (CW.seq (CW.region (LW.p (PEv.assign (.const _)) rfl rfl rfl (LW.nil (KW.then (CW.block ?_)))))))))
  refine CW.loopB (σ := Nat) (fun s w => (s ≤ (kfL a.Kind).length) ∧ (lessL a b (kfL a.Kind) = lessL a b ((kfL a.Kind).drop s)) ∧ (Up w0 w) ∧ (Blk w B2 a.cells 35) ∧ (Blk w B3 b.cells 35) ∧ (Els w adk 1 eInt (kfL a.Kind))) (fun s => [(6, .eq (vi (s : Int)))]) ([(2, .eq _), (3, .eq _), (5, .eq _)]) (fun s => (kfL a.Kind).length - s) 0 ?_ ⟨rfl, rfl, rfl, rfl, trivial⟩ ?_
  ·exact ⟨Nat.zero_le _, rfl, hW, hB2, hB3, hEk⟩
  ·rintro i w4 ⟨hi, hq, hW, hB2, hB3, hEk⟩
   refine CW.seq (CW.seq (CW.region (LW.p (PEv.move (.tmp rfl)) rfl rfl rfl (LW.p (PEv.move (.tmp rfl)) rfl rfl rfl ?_))))
   refine LW.p (PEv.lenS Tryz.underlying92 (.tmp rfl)) rfl rfl rfl ?_
   refine LW.p (PEv.lss (.tmp rfl) (.tmp rfl)) rfl rfl rfl ?_
   refine LW.nil (KW.then ?_)
   refine CW.cond (.tmp rfl) (fun h15 => ?_) (fun h15 => ?_)
   ·first | replace h15 := of_decide_eq_true h15 | replace h15 := of_decide_eq_false h15 | skip
    refine CW.skip (KW.then (CW.seq (CW.block (CW.seq ?_))))
    obtain ⟨x, hx⟩ := getElem?_of_lt (xs := kfL a.Kind) (i := i) (by omega)
    obtain ⟨Bx, ox, ax, hcx⟩ := hEk i x hx
    obtain ⟨hx0, hx14⟩ := kf_lt (List.mem_of_getElem? hx)
    obtain ⟨n, rfl⟩ : ∃ n : Nat, x = (n : Int) := ⟨x.toNat, by omega⟩
    have hn14 : n < 14 := by omega
    refine CW.draws (by kernel_rfl) (by kernel_rfl) rfl rfl ?_
    refine HW.p (PEv.loadA Tryz.isAgg35 Tryz.sizeOf35 rfl (.tmp rfl) (hB2.agg)) rfl rfl ?_
    refine HW.p (PEv.move (.tmp rfl)) rfl rfl ?_
    refine HW.p (PEv.move (.tmp rfl)) rfl rfl ?_
    refine HW.p (PEv.indexAddr' Tryz.underlying92 Tryz.sizeOf3 (.tmp rfl) (.tmp rfl) (by omega) ax) rfl rfl ?_
    refine HW.p (PEv.load Tryz.isAgg3 (.tmp rfl) (hcx.nth (j := 0) rfl)) rfl rfl ?_
    refine HW.c (fun a w _ ha => enter_call0 (.cons (.tmp rfl) (.cons (.tmp rfl) .nil)) (Tryz.en77) a ha) rfl rfl (fun w hu => Get_any a n _ hn14) ?_
    refine HW.p (PEv.assign (.tmp rfl)) rfl rfl ?_
    refine HW.nil ?_
    intro w5 uw5
    have zw5 := uw5.size
    replace hW := hW.up uw5
    replace hB2 := hB2.up uw5
    replace hB3 := hB3.up uw5
    replace hEk := hEk.up uw5
    refine KW.then (CW.seq ?_)
    obtain ⟨Bx, ox, ax, hcx⟩ := hEk i _ hx
    refine CW.draws (by kernel_rfl) (by kernel_rfl) rfl rfl ?_
    refine HW.p (PEv.loadA Tryz.isAgg35 Tryz.sizeOf35 rfl (.tmp rfl) (hB3.agg)) rfl rfl ?_
    refine HW.p (PEv.move (.tmp rfl)) rfl rfl ?_
    refine HW.p (PEv.move (.tmp rfl)) rfl rfl ?_
    refine HW.p (PEv.indexAddr' Tryz.underlying92 Tryz.sizeOf3 (.tmp rfl) (.tmp rfl) (by omega) ax) rfl rfl ?_
    refine HW.p (PEv.load Tryz.isAgg3 (.tmp rfl) (hcx.nth (j := 0) rfl)) rfl rfl ?_
    refine HW.c (fun a w _ ha => enter_call0 (.cons (.tmp rfl) (.cons (.tmp rfl) .nil)) (Tryz.en77) a ha) rfl rfl (fun w hu => Get_any b n _ hn14) ?_
    refine HW.p (PEv.assign (.tmp rfl)) rfl rfl ?_
    refine HW.nil ?_
    intro w6 uw6
    have zw6 := uw6.size
    replace hW := hW.up uw6
    replace hB2 := hB2.up uw6
    replace hB3 := hB3.up uw6
    replace hEk := hEk.up uw6
    refine KW.then (CW.seq (CW.region (LW.p (PEv.move (.tmp rfl)) rfl rfl rfl (LW.p (PEv.move (.tmp rfl)) rfl rfl rfl ?_))))
    refine LW.p (PEv.neq (.tmp rfl) (.tmp rfl)) rfl rfl rfl ?_
    refine LW.nil (KW.then ?_)
    refine CW.cond (.tmp rfl) (fun h32 => ?_) (fun h32 => ?_)
    ·first | replace h32 := of_decide_eq_true h32 | replace h32 := of_decide_eq_false h32 | skip
     have hne : ¬ getN a (n : Int) = getN b (n : Int) := by simpa using h32
     refine CW.seq (CW.region (LW.p (PEv.move (.tmp rfl)) rfl rfl rfl (LW.p (PEv.move (.tmp rfl)) rfl rfl rfl ?_)))
     refine LW.p (PEv.lss (.tmp rfl) (.tmp rfl)) rfl rfl rfl ?_
     refine LW.p (PEv.assign (.tmp rfl)) rfl rfl rfl (LW.nil (KW.then (CW.ret (KW.block_ret (KW.then_ret (KW.then_ret (KW.block_ret (KW.then_ret ?_))))))))
     refine KW.ret1 rfl rfl ⟨_, rfl, ?_⟩
     refine ⟨?_, hW⟩
     rw [← lessL_eq, hq]
     first | rw [lessL_at hx, if_neg hne] | (rw [hie, List.drop_length]; rfl)
    ·first | replace h32 := of_decide_eq_true h32 | replace h32 := of_decide_eq_false h32 | skip
     have heq : getN a (n : Int) = getN b (n : Int) := by simpa using h32
     refine CW.skip (KW.inBlock (KW.then (CW.region (LW.p (PEv.move (.tmp rfl)) rfl rfl rfl ?_))))
     refine LW.p (PEv.inc (.tmp rfl) (by omega)) rfl rfl rfl ?_
     refine LW.p (PEv.assign (.tmp rfl)) rfl rfl rfl (LW.nil (KW.round ?_))
     exact ⟨i + 1, ⟨by omega, by rw [hq, lessL_at hx, if_pos heq], hW, hB2, hB3, hEk⟩, ⟨rfl, rfl, rfl, rfl, trivial⟩, by first | omega | (dsimp only; omega)⟩
   ·first | replace h15 := of_decide_eq_true h15 | replace h15 := of_decide_eq_false h15 | skip
    have hie : i = (kfL a.Kind).length := by omega
    refine CW.exit (KW.then_exit (KW.then_exit (KW.block_hit (KW.then (CW.seq (CW.region (LW.p (PEv.assign (.const _)) rfl rfl rfl (LW.nil (KW.then (CW.ret ?_))))))))))
    refine KW.ret1 rfl rfl ⟨_, rfl, ?_⟩
    refine ⟨?_, hW⟩
    rw [← lessL_eq, hq]
    first | rw [lessL_at hx, if_neg hne] | (rw [hie, List.drop_length]; rfl)

theorem rPut_any (ad : Option Addr) (cp : Nat) (l : List Fact) (f : Fact) (w : World) (hE : Els w ad 19 Fact.cells l) (hcp : l.length ≤ cp) (hl : l.length ≤ 100000) : Ret Tryz.prog 33 #[.slice ad l.length cp, .agg f.cells] w fun r w' => ∃ p, isPut l f p ∧ OwnS w' 0 35 19 Fact.cells r (insAt l f p) ∧ Up w w' := by
  have hW := Up.refl w
  obtain ⟨w0, rfl⟩ : ∃ w0, w0 = w := ⟨_, rfl⟩
  refine Calls_start (n := 32) (m := 9) Tryz.func33 rfl rfl rfl ?_
  refine CW.seq (CW.region ?_)
  refine LW.r (REv.boxA (.tmp rfl)) rfl rfl rfl rfl ?_
  rintro _ w1 ⟨B3, rfl, NB3⟩
  have eB3 := NB3.at_
  have zB3 := NB3.size
  replace hW := hW.up NB3.up
  have hB3 := NB3.blk
  refine LW.p (PEv.assign (.const _)) rfl rfl rfl (LW.nil (KW.then (CW.seq (CW.region (LW.p (PEv.move (.tmp rfl)) rfl rfl rfl ?_)))))
  refine LW.p (PEv.lenS Tryz.underlying22 (.tmp rfl)) rfl rfl rfl ?_
  refine LW.p (PEv.assign (.tmp rfl)) rfl rfl rfl (LW.nil (KW.then (CW.seq (CW.block ?_))))
  refine CW.loopB (σ := Nat) (fun s w => (s ≤ l.length) ∧ (∀ y ∈ l.drop s, ltK (ordK f.Kind f) (ordK f.Kind y) = true) ∧ (Up w0 w) ∧ (Blk w B3 f.cells 35)) (fun s => [(5, .eq (vi (s : Int)))]) ([(0, .eq _), (3, .eq _), (4, .eq _)]) (fun s => s) l.length ?_ ⟨rfl, rfl, rfl, rfl, trivial⟩ ?_
  ·exact ⟨Nat.le_refl _, (fun y hy => by rw [List.drop_length] at hy; cases hy), hW, hB3⟩
  ·rintro k w2 ⟨hk, hd, hW, hB3⟩
   refine CW.seq (CW.seq ?_)
   cases hq2 : decide (0 < k) with
   | true =>
    have hk0 := of_decide_eq_true hq2
    obtain ⟨y, hy⟩ := getElem?_of_lt (xs := l) (i := k - 1) (by omega)
    obtain ⟨By, oy, ay, hcy⟩ := (Els.up hE hW) (k - 1) y hy
    refine CW.draws (by kernel_rfl) (by kernel_rfl) rfl rfl ?_
    refine HW.p (PEv.move (.tmp rfl)) rfl rfl ?_
    refine HW.p (PEv.tr (PEv.gtr (.tmp rfl) (.const _)) (decide_eq_true (by omega))) rfl rfl ?_
    refine HW.p (PEv.move (.tmp rfl)) rfl rfl ?_
    refine HW.yp rfl rfl rfl rfl rfl (PEv.loadA Tryz.isAgg35 Tryz.sizeOf35 rfl (.tmp rfl) (hB3.agg)) rfl ?_
    refine HW.yp rfl rfl rfl rfl rfl (PEv.move (.tmp rfl)) rfl ?_
    refine HW.yp rfl rfl rfl rfl rfl (PEv.move (.tmp rfl)) rfl ?_
    refine HW.yp rfl rfl rfl rfl rfl (PEv.dec (.tmp rfl) (by omega) (by omega)) rfl ?_
    refine HW.yp rfl rfl rfl rfl rfl (PEv.indexAddr' Tryz.underlying22 Tryz.sizeOf35 (.tmp rfl) (.tmp rfl) (by omega) ay) rfl ?_
    refine HW.yp rfl rfl rfl rfl rfl (PEv.loadA Tryz.isAgg35 Tryz.sizeOf35 rfl (.tmp rfl) (hcy)) rfl ?_
    refine HW.yc rfl rfl rfl rfl rfl (fun a w _ ha => enter_call0 (.cons (.tmp rfl) (.cons (.tmp rfl) .nil)) (Tryz.en75) a ha) rfl (fun w hu => rLess_any f y _) ?_
    refine HW.p (PEv.pick_and (.tmp rfl) (fun hp => (by first | exact .const _ | exact .tmp rfl | exact .cond rfl (by first | assumption | simp_all)))) rfl rfl ?_
    refine HW.nil ?_
    intro w3 uw3
    have zw3 := uw3.size
    replace hW := hW.up uw3
    replace hB3 := hB3.up uw3
    refine KW.then ?_
    refine CW.cond (.tmp rfl) (fun h18 => ?_) (fun h18 => ?_)
    ·first | replace h18 := of_decide_eq_true h18 | replace h18 := of_decide_eq_false h18 | skip
     have hlt : ltK (ordK f.Kind f) (ordK f.Kind y) = true := by simpa using h18
     refine CW.skip (KW.then (CW.block (CW.region (LW.p (PEv.move (.tmp rfl)) rfl rfl rfl ?_))))
     refine LW.p (PEv.dec (.tmp rfl) (by omega) (by omega)) rfl rfl rfl ?_
     refine LW.p (PEv.assign (.tmp rfl)) rfl rfl rfl (LW.nil (KW.inBlock (KW.round ?_)))
     exact ⟨k - 1, ⟨by omega, (fun z hz => by rw [List.drop_eq_getElem_cons (by omega), show k - 1 + 1 = k by omega] at hz; exact (List.mem_cons.1 hz).elim (fun h => by rw [h, (List.getElem?_eq_some_iff.1 hy).2]; exact hlt) (fun h => hd z h)), hW, hB3⟩, ⟨rfl, rfl, rfl, rfl, trivial⟩, by first | omega | (dsimp only; omega)⟩
    ·first | replace h18 := of_decide_eq_true h18 | replace h18 := of_decide_eq_false h18 | skip
     have hnl : ltK (ordK f.Kind f) (ordK f.Kind y) = false := by simpa using h18
     refine CW.exit (KW.then_exit (KW.then_exit (KW.block_hit (KW.then (CW.seq ?_)))))
     refine CW.free 11 [.eq (.slice ad l.length cp), .eq (vi (k : Int)), .eq (vi (k : Int)), .eq (.slice ad (l.take k).length (l.take k).length), .eq (.agg f.cells), .pred fun v W => ∃ B, v = .slice (some ⟨B, 0, none⟩) [f].length [f].length ∧ Els W (some ⟨B, 0, none⟩) 19 Fact.cells [f], .eq (.slice ad l.length cp), .eq (vi (k : Int)), .eq (.slice (if cp = k then ad else ad.map (·.add (k * 19))) (l.length - k) (cp - k)), .pred fun v W => Sl W v 19 Fact.cells ([f] ++ (l.drop k)), .pred fun v W => OwnS W 0 35 19 Fact.cells v (insAt l f k)] [31] (by kernel_rfl) rfl (by kernel_rfl) (by kernel_rfl) (by kernel_rfl) (by kernel_rfl) (by kernel_rfl) (by kernel_rfl) (by kernel_rfl) ⟨PhU.eq _, PhU.eq _, PhU.eq _, PhU.eq _, PhU.eq _, PhU.pred fun _ _ _ h u => let ⟨B, e, hE⟩ := h; ⟨B, e, hE.up u⟩, PhU.eq _, PhU.eq _, PhU.eq _, PhU.pred fun _ _ _ h u => Sl.up h u, PhU.pred fun _ _ _ h u => OwnS.up h u, trivial⟩ ?_ ?_
     ·intro W hU0
      have hU := (Up.drew w3).trans hU0
      have hEW := Els.up hE (hW.trans hU)
      have hlk : (l.take k).length = k := by rw [List.length_take]; omega
      refine allL.cons ⟨rfl, TU.p (PEv.move (.tmp rfl)) rfl⟩ ?_
      refine allL.cons ⟨rfl, TU.p (PEv.move (.tmp rfl)) rfl⟩ ?_
      refine allL.cons ⟨rfl, TU.p (PEv.move (.tmp rfl)) rfl⟩ ?_
      refine allL.cons ⟨rfl, TU.p (PEv.val (v' := .slice ad (l.take k).length (l.take k).length) (PEv.slice3 Tryz.underlying22 Tryz.sizeOf35 (.tmp rfl) (.tmp rfl) (.tmp rfl) (by omega)) (by rw [hlk])) rfl⟩ ?_
      refine allL.cons ⟨rfl, TU.p (PEv.loadA Tryz.isAgg35 Tryz.sizeOf35 rfl (.tmp rfl) ((hB3.up hU).agg)) rfl⟩ ?_
      refine allL.cons ⟨rfl, TU.r (REv.buildSlice (xs := [f]) (enc := Fact.cells) (mk := fun f : Fact => .agg f.cells) Tryz.underlying22 Tryz.sizeOf35 Tryz.zeroValue35 rfl (Nat.le_of_ble_eq_true rfl) (fun _ => rfl) (fun _ => rfl) (.cons (.tmp rfl) .nil) rfl) (fun v W' h => let ⟨B, cs, e, N, _, hE1⟩ := h; ⟨N.up, B, e, hE1⟩)⟩ ?_
      refine allL.cons ⟨rfl, TU.p (PEv.move (.tmp rfl)) rfl⟩ ?_
      refine allL.cons ⟨rfl, TU.p (PEv.move (.tmp rfl)) rfl⟩ ?_
      refine allL.cons ⟨rfl, TU.p (PEv.sliceFrom Tryz.underlying22 Tryz.sizeOf35 (.tmp rfl) (.tmp rfl) (by omega)) rfl⟩ ?_
      refine allL.cons ⟨rfl, TU.open (d := 26) rfl fun v hv => by obtain ⟨B, rfl, hE5⟩ := hv; exact TU.r (REv.appendC (enc := Fact.cells) (k := 19) (bytes := 160) (i := Tryz.t35) (xs := [f]) (ys := (l.drop k)) Tryz.underlying22 (by kernel_rfl) rfl rfl rfl rfl (by decide) (fun _ => rfl) (.tmp rfl) (.tmp rfl) hE5 (Els.drop hEW hcp) (by simp [maxLen]; omega) (by simp; omega)) (fun _ _ h => ⟨h.1, h.2.1⟩)⟩ ?_
      refine allL.cons ⟨rfl, TU.open (d := 30) rfl fun v hv => TU.r (REv.appendC (enc := Fact.cells) (k := 19) (bytes := 160) (i := Tryz.t35) (xs := (l.take k)) (ys := ([f] ++ (l.drop k))) Tryz.underlying22 (by kernel_rfl) rfl rfl rfl rfl (by decide) (fun _ => rfl) (.tmp rfl) (.tmp rfl) (Els.take hEW) hv (by simp [maxLen]; omega) (by simp; omega)) (fun _ _ h => ⟨h.1, (h.2.2 (by simp)).mono (Nat.zero_le _)⟩)⟩ ?_
      exact allL.nil
     ·intro w4 g hU0 hg
      have hU := (Up.drew w3).trans hU0
      have zw4 := hU.size
      replace hW := hW.up hU
      replace hB3 := hB3.up hU
      have hO : OwnS w4 0 35 19 Fact.cells (g 31) (insAt l f k) := hg 10 _ 31 (by decide) rfl rfl
      refine LW.p (PEv.assign (.tmp rfl)) rfl rfl rfl (LW.nil (KW.then (CW.ret ?_)))
      refine KW.ret1 rfl rfl ⟨_, rfl, ?_⟩
      refine ⟨k, ⟨hk, hd, ?_⟩, hO, hW⟩
      first | exact .inl (by omega) | exact .inr ⟨y, hy, hnl⟩
   | false =>
    have hk0 := of_decide_eq_false hq2
    refine CW.draws (by kernel_rfl) (by kernel_rfl) rfl rfl ?_
    refine HW.p (PEv.move (.tmp rfl)) rfl rfl ?_
    refine HW.p (PEv.fa (PEv.gtr (.tmp rfl) (.const _)) (decide_eq_false (by omega))) rfl rfl ?_
    refine HW.p (PEv.move (.tmp rfl)) rfl rfl ?_
    refine HW.no rfl rfl rfl rfl rfl rfl rfl ?_
    refine HW.no rfl rfl rfl rfl rfl rfl rfl ?_
    refine HW.no rfl rfl rfl rfl rfl rfl rfl ?_
    refine HW.no rfl rfl rfl rfl rfl rfl rfl ?_
    refine HW.no rfl rfl rfl rfl rfl rfl rfl ?_
    refine HW.no rfl rfl rfl rfl rfl rfl rfl ?_
    refine HW.no rfl rfl rfl rfl rfl rfl rfl ?_
    refine HW.p (PEv.pick_and (b := false) (.tmp rfl) (fun hp => absurd (show false = true from hp) (by decide))) rfl rfl ?_
    refine HW.nil ?_
    intro w5 uw5
    have zw5 := uw5.size
    replace hW := hW.up uw5
    replace hB3 := hB3.up uw5
    refine KW.then ?_
    refine CW.cond_false (.tmp rfl) ?_
    refine CW.exit (KW.then_exit (KW.then_exit (KW.block_hit (KW.then (CW.seq ?_)))))
    refine CW.free 11 [.eq (.slice ad l.length cp), .eq (vi (k : Int)), .eq (vi (k : Int)), .eq (.slice ad (l.take k).length (l.take k).length), .eq (.agg f.cells), .pred fun v W => ∃ B, v = .slice (some ⟨B, 0, none⟩) [f].length [f].length ∧ Els W (some ⟨B, 0, none⟩) 19 Fact.cells [f], .eq (.slice ad l.length cp), .eq (vi (k : Int)), .eq (.slice (if cp = k then ad else ad.map (·.add (k * 19))) (l.length - k) (cp - k)), .pred fun v W => Sl W v 19 Fact.cells ([f] ++ (l.drop k)), .pred fun v W => OwnS W 0 35 19 Fact.cells v (insAt l f k)] [31] (by kernel_rfl) rfl (by kernel_rfl) (by kernel_rfl) (by kernel_rfl) (by kernel_rfl) (by kernel_rfl) (by kernel_rfl) (by kernel_rfl) ⟨PhU.eq _, PhU.eq _, PhU.eq _, PhU.eq _, PhU.eq _, PhU.pred fun _ _ _ h u => let ⟨B, e, hE⟩ := h; ⟨B, e, hE.up u⟩, PhU.eq _, PhU.eq _, PhU.eq _, PhU.pred fun _ _ _ h u => Sl.up h u, PhU.pred fun _ _ _ h u => OwnS.up h u, trivial⟩ ?_ ?_
    ·intro W hU0
     have hU := (Up.drew w5).trans hU0
     have hEW := Els.up hE (hW.trans hU)
     have hlk : (l.take k).length = k := by rw [List.length_take]; omega
     refine allL.cons ⟨rfl, TU.p (PEv.move (.tmp rfl)) rfl⟩ ?_
     refine allL.cons ⟨rfl, TU.p (PEv.move (.tmp rfl)) rfl⟩ ?_
     refine allL.cons ⟨rfl, TU.p (PEv.move (.tmp rfl)) rfl⟩ ?_
     refine allL.cons ⟨rfl, TU.p (PEv.val (v' := .slice ad (l.take k).length (l.take k).length) (PEv.slice3 Tryz.underlying22 Tryz.sizeOf35 (.tmp rfl) (.tmp rfl) (.tmp rfl) (by omega)) (by rw [hlk])) rfl⟩ ?_
     refine allL.cons ⟨rfl, TU.p (PEv.loadA Tryz.isAgg35 Tryz.sizeOf35 rfl (.tmp rfl) ((hB3.up hU).agg)) rfl⟩ ?_
     refine allL.cons ⟨rfl, TU.r (REv.buildSlice (xs := [f]) (enc := Fact.cells) (mk := fun f : Fact => .agg f.cells) Tryz.underlying22 Tryz.sizeOf35 Tryz.zeroValue35 rfl (Nat.le_of_ble_eq_true rfl) (fun _ => rfl) (fun _ => rfl) (.cons (.tmp rfl) .nil) rfl) (fun v W' h => let ⟨B, cs, e, N, _, hE1⟩ := h; ⟨N.up, B, e, hE1⟩)⟩ ?_
     refine allL.cons ⟨rfl, TU.p (PEv.move (.tmp rfl)) rfl⟩ ?_
     refine allL.cons ⟨rfl, TU.p (PEv.move (.tmp rfl)) rfl⟩ ?_
     refine allL.cons ⟨rfl, TU.p (PEv.sliceFrom Tryz.underlying22 Tryz.sizeOf35 (.tmp rfl) (.tmp rfl) (by omega)) rfl⟩ ?_
     refine allL.cons ⟨rfl, TU.open (d := 26) rfl fun v hv => by obtain ⟨B, rfl, hE5⟩ := hv; exact TU.r (REv.appendC (enc := Fact.cells) (k := 19) (bytes := 160) (i := Tryz.t35) (xs := [f]) (ys := (l.drop k)) Tryz.underlying22 (by kernel_rfl) rfl rfl rfl rfl (by decide) (fun _ => rfl) (.tmp rfl) (.tmp rfl) hE5 (Els.drop hEW hcp) (by simp [maxLen]; omega) (by simp; omega)) (fun _ _ h => ⟨h.1, h.2.1⟩)⟩ ?_
     refine allL.cons ⟨rfl, TU.open (d := 30) rfl fun v hv => TU.r (REv.appendC (enc := Fact.cells) (k := 19) (bytes := 160) (i := Tryz.t35) (xs := (l.take k)) (ys := ([f] ++ (l.drop k))) Tryz.underlying22 (by kernel_rfl) rfl rfl rfl rfl (by decide) (fun _ => rfl) (.tmp rfl) (.tmp rfl) (Els.take hEW) hv (by simp [maxLen]; omega) (by simp; omega)) (fun _ _ h => ⟨h.1, (h.2.2 (by simp)).mono (Nat.zero_le _)⟩)⟩ ?_
     exact allL.nil
    ·intro w6 g hU0 hg
     have hU := (Up.drew w5).trans hU0
     have zw6 := hU.size
     replace hW := hW.up hU
     replace hB3 := hB3.up hU
     have hO : OwnS w6 0 35 19 Fact.cells (g 31) (insAt l f k) := hg 10 _ 31 (by decide) rfl rfl
     refine LW.p (PEv.assign (.tmp rfl)) rfl rfl rfl (LW.nil (KW.then (CW.ret ?_)))
     refine KW.ret1 rfl rfl ⟨_, rfl, ?_⟩
     refine ⟨k, ⟨hk, hd, ?_⟩, hO, hW⟩
     first | exact .inl (by omega) | exact .inr ⟨y, hy, hnl⟩

set_option maxHeartbeats 8000000 in
theorem rOf_any (ad : Option Addr) (cp : Nat) (L : List Fact) (day : Int) (w : World) (hE : Els w ad 19 Fact.cells L) (hl : L.length ≤ 10000) : Ret Tryz.prog 10 #[.slice ad L.length cp, vi day] w fun r w' => ∃ bc, r = .agg bc ∧ BaseC w' bc (ofB L day) ∧ Up w w' := by
  have hW := Up.refl w
  obtain ⟨w0, rfl⟩ : ∃ w0, w0 = w := ⟨_, rfl⟩
  refine Calls_start (n := 166) (m := 9) Tryz.func10 rfl rfl rfl ?_
  refine CW.seq (CW.region ?_)
  refine LW.r (REv.allocA Tryz.zeroValue26) rfl rfl rfl rfl ?_
  rintro _ w1 ⟨B4, rfl, NB4⟩
  have eB4 := NB4.at_
  have zB4 := NB4.size
  replace hW := hW.up NB4.up
  have hB4 := NB4.blk
  refine LW.nil (KW.then (CW.seq (CW.region ?_)))
  refine LW.p (PEv.build (cs := #[.slice none 0 0, .slice none 0 0, .slice none 0 0, .slice none 0 0, .slice none 0 0, .slice none 0 0, .slice none 0 0, .slice none 0 0, .slice none 0 0, .slice none 0 0, .slice none 0 0]) Tryz.underlying26 Tryz.zeroValue26 Tryz.places26 .nil rfl) rfl rfl rfl ?_
  refine LW.r (REv.allocA Tryz.zeroValue26) rfl rfl rfl rfl ?_
  rintro _ w2 ⟨B5, rfl, MB5⟩
  refine LW.s (SEv.storeA Tryz.sizeOf26 rfl (.tmp rfl) (.tmp rfl) (by first | rfl | exact Fact.one _ | exact GAct.one _ | exact holdCells_one _ _ | exact hold0_one | (simp [Value.oneCell'])) MB5.blk rfl) rfl rfl rfl ?_
  intro w3 LB5
  have NB5 := MB5.set LB5
  clear LB5 MB5
  have eB5 := NB5.at_
  have zB5 := NB5.size
  replace hW := hW.up NB5.up
  replace hB4 := hB4.up NB5.up
  have hB5 := NB5.blk
  refine LW.nil (KW.then (CW.seq (CW.seq (CW.region (LW.p (PEv.assign (.const _)) rfl rfl rfl (LW.nil (KW.then (CW.block ?_))))))))
  refine CW.loopB (σ := Nat × Array Go.Value) (fun s w => (s.1 ≤ L.length) ∧ (Up w0 w) ∧ (Blk w B4 #[.slice none 0 0, .slice none 0 0, .slice none 0 0, .slice none 0 0, .slice none 0 0, .slice none 0 0, .slice none 0 0, .slice none 0 0, .slice none 0 0, .slice none 0 0, .slice none 0 0] 26) ∧ (Blk w B5 s.2 26) ∧ (LsO w 35 s.2 (qL L day s.1))) (fun s => [(6, .eq (vi (s.1 : Int)))]) ([(0, .eq _), (1, .eq _), (4, .eq _), (5, .eq _)]) (fun s => L.length - s.1) (0, #[.slice none 0 0, .slice none 0 0, .slice none 0 0, .slice none 0 0, .slice none 0 0, .slice none 0 0, .slice none 0 0, .slice none 0 0, .slice none 0 0, .slice none 0 0, .slice none 0 0]) ?_ ⟨rfl, rfl, rfl, rfl, rfl, trivial⟩ ?_
  ·exact ⟨Nat.zero_le _, hW, hB4, hB5, LsO.nil _ _⟩
  ·rintro ⟨i, bc⟩ w4 ⟨hi, hW, hB4, hB5, hL⟩
   dsimp only at hi hB5 hL
   change CW _ _ _ _ _ _ _ ([(6, .eq (vi (i : Int)))] ++ _) _
   refine CW.seq (CW.seq (CW.region (LW.p (PEv.move (.tmp rfl)) rfl rfl rfl (LW.p (PEv.move (.tmp rfl)) rfl rfl rfl ?_))))
   refine LW.p (PEv.lenS Tryz.underlying22 (.tmp rfl)) rfl rfl rfl ?_
   refine LW.p (PEv.lss (.tmp rfl) (.tmp rfl)) rfl rfl rfl ?_
   refine LW.nil (KW.then ?_)
   refine CW.cond (.tmp rfl) (fun h16 => ?_) (fun h16 => ?_)
   ·first | replace h16 := of_decide_eq_true h16 | replace h16 := of_decide_eq_false h16 | skip
    refine CW.skip (KW.then (CW.seq (CW.block (CW.seq ?_))))
    have zB5l := hB5.lt
    obtain ⟨f, hf⟩ := getElem?_of_lt (xs := L) (i := i) (by omega)
    obtain ⟨Bf, of_, af, hcf⟩ := (Els.up hE hW) i f hf
    refine CW.region (LW.p (PEv.move (.tmp rfl)) rfl rfl rfl (LW.p (PEv.move (.tmp rfl)) rfl rfl rfl ?_))
    refine LW.p (PEv.indexAddr' Tryz.underlying22 Tryz.sizeOf35 (.tmp rfl) (.tmp rfl) (by omega) af) rfl rfl rfl ?_
    refine LW.p (PEv.loadA Tryz.isAgg35 Tryz.sizeOf35 rfl (.tmp rfl) (hcf)) rfl rfl rfl ?_
    refine LW.r (REv.allocA Tryz.zeroValue35) rfl rfl rfl rfl ?_
    rintro _ w5 ⟨B7, rfl, MB7⟩
    refine LW.s (SEv.storeA Tryz.sizeOf35 rfl (.tmp rfl) (.tmp rfl) (by first | rfl | exact Fact.one _ | exact GAct.one _ | exact holdCells_one _ _ | exact hold0_one | (simp [Value.oneCell'])) MB7.blk rfl) rfl rfl rfl ?_
    intro w6 LB7
    have NB7 := MB7.set LB7
    clear LB7 MB7
    have eB7 := NB7.at_
    have zB7 := NB7.size
    replace hW := hW.up NB7.up
    replace hB4 := hB4.up NB7.up
    replace hB5 := hB5.up NB7.up
    replace hL := hL.up NB7.up
    have hB7 := NB7.blk
    refine LW.nil (KW.then (CW.seq (CW.region ?_)))
    refine LW.p (PEv.loadA Tryz.isAgg35 Tryz.sizeOf35 rfl (.tmp rfl) (hB7.agg)) rfl rfl rfl ?_
    refine LW.c (enter_call0 (.cons (.tmp rfl) .nil) (Tryz.en31)) rfl rfl rfl rfl (rKey_any f _) ?_
    rintro _ w7 ⟨rfl, uw7⟩
    have zw7 := uw7.size
    replace hW := hW.up uw7
    replace hB4 := hB4.up uw7
    replace hB5 := hB5.up uw7
    replace hL := hL.up uw7
    replace hB7 := hB7.up uw7
    refine LW.p (PEv.assign (.tmp rfl)) rfl rfl rfl (LW.nil (KW.then (CW.seq (CW.seq (CW.region (LW.p (PEv.move (.tmp rfl)) rfl rfl rfl ?_))))))
    refine LW.p (PEv.val (v' := .bool (decide (keyB f = []))) (PEv.eqlStr (.tmp rfl) (.const _)) (by rw [key_emp])) rfl rfl rfl ?_
    refine LW.p (PEv.move (.tmp rfl)) rfl rfl rfl ?_
    refine LW.g rfl rfl rfl rfl rfl rfl rfl (fun hc => PEv.fieldAddr (off := 3) Tryz.underlying35 rfl rfl Tryz.sizeOf3 rfl (.tmp rfl)) ?_
    refine LW.g rfl rfl rfl rfl rfl rfl rfl (fun hc => PEv.load Tryz.isAgg3 (by first | exact .tmp rfl | exact .cond rfl (by first | assumption | simp_all)) (hB7.celln rfl)) ?_
    refine LW.g rfl rfl rfl rfl rfl rfl rfl (fun hc => PEv.move (.tmp rfl)) ?_
    refine LW.g rfl rfl rfl rfl rfl rfl rfl (fun hc => PEv.gtr (by first | exact .tmp rfl | exact .cond rfl (by first | assumption | simp_all)) (by first | exact .tmp rfl | exact .cond rfl (by first | assumption | simp_all))) ?_
    refine LW.p (PEv.pick_or (.tmp rfl) (fun hp => (by first | exact .const _ | exact .tmp rfl | exact .cond rfl (by first | assumption | (rw [hp]; rfl) | simp_all)))) rfl rfl rfl ?_
    refine LW.p (PEv.move (.tmp rfl)) rfl rfl rfl ?_
    refine LW.g rfl rfl rfl rfl rfl rfl rfl (fun hc => PEv.fieldAddr (off := 4) Tryz.underlying35 rfl rfl Tryz.sizeOf4 rfl (.tmp rfl)) ?_
    refine LW.g rfl rfl rfl rfl rfl rfl rfl (fun hc => PEv.load Tryz.isAgg4 (by first | exact .tmp rfl | exact .cond rfl (by first | assumption | simp_all)) (hB7.celln rfl)) ?_
    refine LW.p (PEv.pick_or (.tmp rfl) (fun hp => (by first | exact .const _ | exact .tmp rfl | exact .cond rfl (by first | assumption | (rw [hp]; rfl) | simp_all)))) rfl rfl rfl ?_
    refine LW.nil (KW.then ?_)
    refine CW.cond (.tmp rfl) (fun h36 => ?_) (fun h36 => ?_)
    ·first | replace h36 := of_decide_eq_true h36 | replace h36 := of_decide_eq_false h36 | skip
     have hsk : kSkip day f = true := by unfold kSkip; simpa using h36
     refine CW.exit (KW.then_exit (KW.block_hit (KW.then (CW.region (LW.p (PEv.move (.tmp rfl)) rfl rfl rfl ?_)))))
     refine LW.p (PEv.inc (.tmp rfl) (by omega)) rfl rfl rfl ?_
     refine LW.p (PEv.assign (.tmp rfl)) rfl rfl rfl (LW.nil (KW.round ?_))
     exact ⟨(i + 1, bc), ⟨by show i + 1 ≤ _; omega, hW, hB4, hB5, by rw [q_skip hf (by first | exact .inl hsk | exact .inr (bst_false hbf hkl))]; exact hL⟩, ⟨rfl, rfl, rfl, rfl, rfl, trivial⟩, by show L.length - (i + 1) < L.length - i; omega⟩
    ·first | replace h36 := of_decide_eq_true h36 | replace h36 := of_decide_eq_false h36 | skip
     have hsk : kSkip day f = false := by unfold kSkip; rw [← Bool.not_eq_true]; simpa using h36
     have hk0 : keyB f ≠ [] := fun e => by simp [kSkip, e] at hsk
     have hfd : f.Day ≤ day := by simp [kSkip] at hsk; omega
     refine CW.skip (KW.then (CW.seq (CW.region (LW.p (PEv.assign (.const _)) rfl rfl rfl (LW.nil (KW.then (CW.seq (CW.seq (CW.region (LW.p (PEv.assign (.const _)) rfl rfl rfl (LW.nil (KW.then (CW.block ?_)))))))))))))
     refine CW.loopB (σ := Nat × Bool) (fun s w => (s.1 ≤ L.length) ∧ (s.2 = bst L day i f s.1) ∧ (Up w0 w) ∧ (Blk w B4 #[.slice none 0 0, .slice none 0 0, .slice none 0 0, .slice none 0 0, .slice none 0 0, .slice none 0 0, .slice none 0 0, .slice none 0 0, .slice none 0 0, .slice none 0 0, .slice none 0 0] 26) ∧ (Blk w B5 bc 26) ∧ (LsO w 35 bc (qL L day i)) ∧ (Blk w B7 f.cells 35)) (fun s => [(10, .eq (vi (s.1 : Int))), (9, .eq (.bool s.2))]) ([(0, .eq _), (1, .eq _), (4, .eq _), (5, .eq _), (6, .eq _), (7, .eq _), (8, .eq _)]) (fun s => L.length - s.1) (0, true) ?_ ⟨rfl, rfl, rfl, rfl, rfl, rfl, rfl, rfl, rfl, trivial⟩ ?_
     ·exact ⟨Nat.zero_le _, rfl, hW, hB4, hB5, hL, hB7⟩
     ·rintro ⟨k, c⟩ w8 ⟨hk, hc, hW, hB4, hB5, hL, hB7⟩
      dsimp only at hk hc
      change CW _ _ _ _ _ _ _ ([(10, .eq (vi (k : Int))), (9, .eq (.bool c))] ++ _) _
      refine CW.seq (CW.seq (CW.region (LW.p (PEv.move (.tmp rfl)) rfl rfl rfl (LW.p (PEv.move (.tmp rfl)) rfl rfl rfl ?_))))
      refine LW.p (PEv.lenS Tryz.underlying22 (.tmp rfl)) rfl rfl rfl ?_
      refine LW.p (PEv.lss (.tmp rfl) (.tmp rfl)) rfl rfl rfl ?_
      refine LW.p (PEv.move (.tmp rfl)) rfl rfl rfl ?_
      refine LW.g rfl rfl rfl rfl rfl rfl rfl (fun hc => PEv.move (.tmp rfl)) ?_
      refine LW.p (PEv.pick_and (.tmp rfl) (fun hp => (by first | exact .const _ | exact .tmp rfl | exact .cond rfl (by first | assumption | (rw [hp]; rfl) | simp_all)))) rfl rfl rfl ?_
      refine LW.nil (KW.then ?_)
      refine CW.cond (.tmp rfl) (fun h43 => ?_) (fun h43 => ?_)
      ·first | replace h43 := of_decide_eq_true h43 | replace h43 := of_decide_eq_false h43 | skip
       have hkc : k < L.length ∧ c = true := by simpa using h43
       obtain ⟨hkl, hct⟩ := hkc
       refine CW.skip (KW.then (CW.seq (CW.block (CW.seq ?_))))
       obtain ⟨g, hg⟩ := getElem?_of_lt (xs := L) (i := k) (by omega)
       obtain ⟨Bg, og, ag, hcg⟩ := (Els.up hE hW) k g hg
       refine CW.region (LW.p (PEv.move (.tmp rfl)) rfl rfl rfl (LW.p (PEv.move (.tmp rfl)) rfl rfl rfl ?_))
       refine LW.p (PEv.indexAddr' Tryz.underlying22 Tryz.sizeOf35 (.tmp rfl) (.tmp rfl) (by omega) ag) rfl rfl rfl ?_
       refine LW.p (PEv.fieldAddr (off := 3) Tryz.underlying35 rfl rfl Tryz.sizeOf3 rfl (.tmp rfl)) rfl rfl rfl ?_
       refine LW.p (PEv.load Tryz.isAgg3 (.tmp rfl) (hcg.nth (j := 3) rfl)) rfl rfl rfl ?_
       refine LW.p (PEv.move (.tmp rfl)) rfl rfl rfl ?_
       refine LW.p (PEv.leq (.tmp rfl) (.tmp rfl)) rfl rfl rfl ?_
       refine LW.p (PEv.move (.tmp rfl)) rfl rfl rfl ?_
       refine LW.g rfl rfl rfl rfl rfl rfl rfl (fun hc => PEv.move (.tmp rfl)) ?_
       refine LW.g rfl rfl rfl rfl rfl rfl rfl (fun hc => PEv.move (.tmp rfl)) ?_
       refine LW.g rfl rfl rfl rfl rfl rfl rfl (fun hc => PEv.indexAddr' Tryz.underlying22 Tryz.sizeOf35 (by first | exact .tmp rfl | exact .cond rfl (by first | assumption | simp_all)) (by first | exact .tmp rfl | exact .cond rfl (by first | assumption | simp_all)) (by omega) ag) ?_
       refine LW.g rfl rfl rfl rfl rfl rfl rfl (fun hc => PEv.loadA Tryz.isAgg35 Tryz.sizeOf35 rfl (by first | exact .tmp rfl | exact .cond rfl (by first | assumption | simp_all)) (hcg)) ?_
       refine LW.gc rfl rfl rfl rfl rfl rfl rfl rfl (fun hc => enter_call0 (.cons (by first | exact .tmp rfl | exact .cond rfl (by first | assumption | simp_all)) .nil) (Tryz.en31)) (fun hc => rKey_any g _) ?_
       intro w9 uw9
       have zw9 := uw9.size
       replace hW := hW.up uw9
       replace hB4 := hB4.up uw9
       replace hB5 := hB5.up uw9
       replace hL := hL.up uw9
       replace hB7 := hB7.up uw9
       refine LW.g rfl rfl rfl rfl rfl rfl rfl (fun hc => PEv.move (.tmp rfl)) ?_
       refine LW.g rfl rfl rfl rfl rfl rfl rfl (fun hc => PEv.eqlStr (by first | exact .tmp rfl | exact .cond rfl (by first | assumption | simp_all)) (by first | exact .tmp rfl | exact .cond rfl (by first | assumption | simp_all))) ?_
       refine LW.p (PEv.val (v' := .bool (decide (g.Day ≤ day) && decide (keyB g = keyB f))) (PEv.pick_and (.tmp rfl) (fun hp => (by first | exact .const _ | exact .tmp rfl | exact .cond rfl (by first | assumption | (rw [hp]; rfl) | simp_all)))) (by rw [key_beq2])) rfl rfl rfl ?_
       refine LW.p (PEv.assign (.tmp rfl)) rfl rfl rfl (LW.nil (KW.then ?_))
       obtain ⟨Bg, og, ag, hcg⟩ := (Els.up hE hW) k g hg
       refine CW.draws (by kernel_rfl) (by kernel_rfl) rfl rfl ?_
       refine HW.p (PEv.move (.tmp rfl)) rfl rfl ?_
       refine HW.p (PEv.not (.tmp rfl)) rfl rfl ?_
       refine HW.p (PEv.move (.tmp rfl)) rfl rfl ?_
       refine HW.g rfl rfl rfl rfl rfl rfl (fun hc => PEv.move (.tmp rfl)) ?_
       refine HW.g rfl rfl rfl rfl rfl rfl (fun hc => PEv.move (.tmp rfl)) ?_
       refine HW.g rfl rfl rfl rfl rfl rfl (fun hc => PEv.indexAddr' Tryz.underlying22 Tryz.sizeOf35 (by first | exact .tmp rfl | exact .cond rfl (by first | assumption | simp_all)) (by first | exact .tmp rfl | exact .cond rfl (by first | assumption | simp_all)) (by omega) ag) ?_
       refine HW.g rfl rfl rfl rfl rfl rfl (fun hc => PEv.loadA Tryz.isAgg35 Tryz.sizeOf35 rfl (by first | exact .tmp rfl | exact .cond rfl (by first | assumption | simp_all)) (hcg)) ?_
       refine HW.g rfl rfl rfl rfl rfl rfl (fun hc => PEv.loadA Tryz.isAgg35 Tryz.sizeOf35 rfl (.tmp rfl) (hB7.agg)) ?_
       refine HW.gc rfl rfl rfl rfl rfl rfl (fun hc a w _ ha => enter_call0 (.cons (by first | exact .tmp rfl | exact .cond rfl (by first | assumption | simp_all)) (.cons (by first | exact .tmp rfl | exact .cond rfl (by first | assumption | simp_all)) .nil)) (Tryz.en32) a ha) (fun hc w hu => rPrevails_any g f _) ?_
       refine HW.g rfl rfl rfl rfl rfl rfl (fun hc => PEv.not (by first | exact .tmp rfl | exact .cond rfl (by first | assumption | simp_all))) ?_
       refine HW.g rfl rfl rfl rfl rfl rfl (fun hc => PEv.move (by first | exact .tmp rfl | exact .cond rfl (by first | assumption | simp_all))) ?_
       refine HW.gg rfl rfl rfl rfl rfl rfl (fun hc => PEv.move (.tmp rfl)) ?_
       refine HW.gg rfl rfl rfl rfl rfl rfl (fun hc => PEv.move (.tmp rfl)) ?_
       refine HW.gg rfl rfl rfl rfl rfl rfl (fun hc => PEv.geq (by first | exact .tmp rfl | exact .cond rfl (by first | assumption | simp_all)) (by first | exact .tmp rfl | exact .cond rfl (by first | assumption | simp_all))) ?_
       refine HW.gg rfl rfl rfl rfl rfl rfl (fun hc => PEv.move (by first | exact .tmp rfl | exact .cond rfl (by first | assumption | simp_all))) ?_
       refine HW.gg rfl rfl rfl rfl rfl rfl (fun hc => PEv.move (.tmp rfl)) ?_
       refine HW.gg rfl rfl rfl rfl rfl rfl (fun hc => PEv.move (.tmp rfl)) ?_
       refine HW.gg rfl rfl rfl rfl rfl rfl (fun hc => PEv.indexAddr' Tryz.underlying22 Tryz.sizeOf35 (by first | exact .tmp rfl | exact .cond rfl (by first | assumption | simp_all)) (by first | exact .tmp rfl | exact .cond rfl (by first | assumption | simp_all)) (by omega) ag) ?_
       refine HW.gg rfl rfl rfl rfl rfl rfl (fun hc => PEv.loadA Tryz.isAgg35 Tryz.sizeOf35 rfl (by first | exact .tmp rfl | exact .cond rfl (by first | assumption | simp_all)) (hcg)) ?_
       refine HW.gg rfl rfl rfl rfl rfl rfl (fun hc => PEv.loadA Tryz.isAgg35 Tryz.sizeOf35 rfl (.tmp rfl) (hB7.agg)) ?_
       refine HW.gg rfl rfl rfl rfl rfl rfl (fun hc => PEv.neqA Tryz.eqGuardType35 (Tryz.eqFact _ _) (by first | exact .tmp rfl | exact .cond rfl (by first | assumption | simp_all)) (by first | exact .tmp rfl | exact .cond rfl (by first | assumption | simp_all))) ?_
       refine HW.gg rfl rfl rfl rfl rfl rfl (fun hc => PEv.pick_or (by first | exact .tmp rfl | exact .cond rfl (by first | assumption | simp_all)) (fun hp => (by first | exact .const _ | exact .tmp rfl | exact .cond rfl (by first | assumption | (rw [hp]; rfl) | simp_all)))) ?_
       refine HW.g rfl rfl rfl rfl rfl rfl (fun hc => PEv.pick_and (by first | exact .tmp rfl | exact .cond rfl (by first | assumption | simp_all)) (fun hp => (by first | exact .const _ | exact .tmp rfl | exact .cond rfl (by first | assumption | (rw [hp]; rfl) | simp_all)))) ?_
       refine HW.p (PEv.val (v' := .bool (!beats day i f k g)) (PEv.pick_or (.tmp rfl) (fun hp => (by first | exact .const _ | exact .tmp rfl | exact .cond rfl (by first | assumption | (rw [hp]; rfl) | simp_all)))) (by rw [← beats_eq hfd])) rfl rfl ?_
       refine HW.p (PEv.assign (.tmp rfl)) rfl rfl ?_
       refine HW.nil ?_
       intro w10 uw10
       have zw10 := uw10.size
       replace hW := hW.up uw10
       replace hB4 := hB4.up uw10
       replace hB5 := hB5.up uw10
       replace hL := hL.up uw10
       replace hB7 := hB7.up uw10
       refine KW.inBlock (KW.then (CW.region (LW.p (PEv.move (.tmp rfl)) rfl rfl rfl ?_)))
       refine LW.p (PEv.inc (.tmp rfl) (by omega)) rfl rfl rfl ?_
       refine LW.p (PEv.assign (.tmp rfl)) rfl rfl rfl (LW.nil (KW.round ?_))
       exact ⟨(k + 1, !beats day i f k g), ⟨by show k + 1 ≤ _; omega, by show (!beats day i f k g) = _; cases hbb : beats day i f k g with | true => exact (bst_yes hg hbb).symm | false => rw [bst_no hg hbb, ← hc, hct]; rfl, hW, hB4, hB5, hL, hB7⟩, ⟨rfl, rfl, rfl, rfl, rfl, rfl, rfl, rfl, rfl, trivial⟩, by show L.length - (k + 1) < L.length - k; omega⟩
      ·first | replace h43 := of_decide_eq_true h43 | replace h43 := of_decide_eq_false h43 | skip
       have hend : bst L day i f L.length = c := by
        cases c with
        | false => exact bst_false hc.symm hk
        | true => rw [show L.length = k by simp at h43; omega]; exact hc.symm
       refine CW.exit (KW.then_exit (KW.then_exit (KW.block_hit (KW.then (CW.seq (CW.seq (CW.region (LW.p (PEv.move (.tmp rfl)) rfl rfl rfl ?_))))))))
       refine LW.p (PEv.not (.tmp rfl)) rfl rfl rfl ?_
       refine LW.nil (KW.then ?_)
       refine CW.cond (.tmp rfl) (fun h87 => ?_) (fun h87 => ?_)
       ·first | replace h87 := of_decide_eq_true h87 | replace h87 := of_decide_eq_false h87 | skip
        have hbf : bst L day i f L.length = false := by rw [hend]; simpa using h87
        have hkl := Nat.le_refl L.length
        refine CW.exit (KW.then_exit (KW.block_hit (KW.then (CW.region (LW.p (PEv.move (.tmp rfl)) rfl rfl rfl ?_)))))
        refine LW.p (PEv.inc (.tmp rfl) (by omega)) rfl rfl rfl ?_
        refine LW.p (PEv.assign (.tmp rfl)) rfl rfl rfl (LW.nil (KW.round ?_))
        exact ⟨(i + 1, bc), ⟨by show i + 1 ≤ _; omega, hW, hB4, hB5, by rw [q_skip hf (by first | exact .inl hsk | exact .inr (bst_false hbf hkl))]; exact hL⟩, ⟨rfl, rfl, rfl, rfl, rfl, trivial⟩, by show L.length - (i + 1) < L.length - i; omega⟩
       ·first | replace h87 := of_decide_eq_true h87 | replace h87 := of_decide_eq_false h87 | skip
        have hbt : bst L day i f L.length = true := by rw [hend]; simpa using h87
        refine CW.skip (KW.then (CW.seq (CW.region ?_)))
        refine LW.p (PEv.fieldAddr (off := 0) Tryz.underlying35 rfl rfl Tryz.sizeOf3 rfl (.tmp rfl)) rfl rfl rfl ?_
        refine LW.p (PEv.load Tryz.isAgg3 (.tmp rfl) (hB7.celln rfl)) rfl rfl rfl ?_
        refine LW.nil (KW.then (CW.block (CW.seq (CW.region ?_))))
        refine LW.p (PEv.eql (.tmp rfl) (.const _)) rfl rfl rfl ?_
        refine LW.p (PEv.assign (.tmp rfl)) rfl rfl rfl (LW.nil (KW.then ?_))
        refine CW.cond (.tmp rfl) (fun h95 => ?_) (fun h95 => ?_)
        ·first | replace h95 := of_decide_eq_true h95 | replace h95 := of_decide_eq_false h95 | skip
         have hkd : f.Kind = (((0 : Nat) + 1 : Nat) : Int) := h95
         obtain ⟨v, hv, hO⟩ := hL.2 0 (by decide)
         obtain ⟨adv, cpv, rfl, hEv⟩ := hO.sl (fun _ => rfl)
         have hrl := Nat.le_trans (refL_len (qL L day i) 0) (q_len L day i)
         have hcv := own_cap hO
         refine CW.region ?_
         refine LW.p (PEv.fieldAddr (off := 0) Tryz.underlying26 rfl rfl Tryz.sizeOf22 rfl (.tmp rfl)) rfl rfl rfl ?_
         refine LW.p (PEv.load Tryz.isAgg22 (.tmp rfl) (hB5.cell hv)) rfl rfl rfl ?_
         refine LW.p (PEv.loadA Tryz.isAgg35 Tryz.sizeOf35 rfl (.tmp rfl) (hB7.agg)) rfl rfl rfl ?_
         refine LW.c (enter_call0 (.cons (.tmp rfl) (.cons (.tmp rfl) .nil)) (Tryz.en33)) rfl rfl rfl rfl (rPut_any adv cpv _ f _ hEv hcv (by omega)) ?_
         rintro v100 w11 ⟨p, hp, hO2, uw11⟩
         have zw11 := uw11.size
         replace hW := hW.up uw11
         replace hB4 := hB4.up uw11
         replace hB5 := hB5.up uw11
         replace hL := hL.up uw11
         replace hB7 := hB7.up uw11
         refine LW.p (PEv.fieldAddr (off := 0) Tryz.underlying26 rfl rfl Tryz.sizeOf22 rfl (.tmp rfl)) rfl rfl rfl ?_
         refine LW.s (SEv.store Tryz.sizeOf22 (.tmp rfl) (.tmp rfl) hO2.one hB5 (by rw [hL.1]; exact Nat.le_of_ble_eq_true rfl)) rfl rfl rfl ?_
         intro w12 Nw12
         have zw12 := Nw12.size
         replace hW := hW.sto Nw12.sto (by omega)
         replace hB4 := hB4.sto Nw12.sto (by omega)
         replace hL := hL.sto hB5 (by decide) Nw12.sto
         replace hB7 := hB7.sto Nw12.sto (by omega)
         replace hO2 := hO2.stoT hB5 (by decide) Nw12.sto
         replace hB5 := Nw12.blk
         refine LW.nil (KW.inBlock (KW.inBlock (KW.then (CW.region (LW.p (PEv.move (.tmp rfl)) rfl rfl rfl ?_)))))
         refine LW.p (PEv.inc (.tmp rfl) (by omega)) rfl rfl rfl ?_
         refine LW.p (PEv.assign (.tmp rfl)) rfl rfl rfl (LW.nil (KW.round ?_))
         exact ⟨(i + 1, bc.setIfInBounds 0 v100), ⟨by show i + 1 ≤ _; omega, hW, hB4, hB5, by rw [q_put hf hsk hbt]; exact LsO.put hL hkd (by decide) hp hO2⟩, ⟨rfl, rfl, rfl, rfl, rfl, trivial⟩, by show L.length - (i + 1) < L.length - i; omega⟩
        ·first | replace h95 := of_decide_eq_true h95 | replace h95 := of_decide_eq_false h95 | skip
         refine CW.seq (CW.region ?_)
         refine LW.p (PEv.eql (.tmp rfl) (.const _)) rfl rfl rfl ?_
         refine LW.p (PEv.assign (.tmp rfl)) rfl rfl rfl (LW.nil (KW.then ?_))
         refine CW.cond (.tmp rfl) (fun h102 => ?_) (fun h102 => ?_)
         ·first | replace h102 := of_decide_eq_true h102 | replace h102 := of_decide_eq_false h102 | skip
          have hkd : f.Kind = (((1 : Nat) + 1 : Nat) : Int) := h102
          obtain ⟨v, hv, hO⟩ := hL.2 1 (by decide)
          obtain ⟨adv, cpv, rfl, hEv⟩ := hO.sl (fun _ => rfl)
          have hrl := Nat.le_trans (refL_len (qL L day i) 1) (q_len L day i)
          have hcv := own_cap hO
          refine CW.region ?_
          refine LW.p (PEv.fieldAddr (off := 1) Tryz.underlying26 rfl rfl Tryz.sizeOf22 rfl (.tmp rfl)) rfl rfl rfl ?_
          refine LW.p (PEv.load Tryz.isAgg22 (.tmp rfl) (hB5.cell hv)) rfl rfl rfl ?_
          refine LW.p (PEv.loadA Tryz.isAgg35 Tryz.sizeOf35 rfl (.tmp rfl) (hB7.agg)) rfl rfl rfl ?_
          refine LW.c (enter_call0 (.cons (.tmp rfl) (.cons (.tmp rfl) .nil)) (Tryz.en33)) rfl rfl rfl rfl (rPut_any adv cpv _ f _ hEv hcv (by omega)) ?_
          rintro v107 w13 ⟨p, hp, hO2, uw13⟩
          have zw13 := uw13.size
          replace hW := hW.up uw13
          replace hB4 := hB4.up uw13
          replace hB5 := hB5.up uw13
          replace hL := hL.up uw13
          replace hB7 := hB7.up uw13
          refine LW.p (PEv.fieldAddr (off := 1) Tryz.underlying26 rfl rfl Tryz.sizeOf22 rfl (.tmp rfl)) rfl rfl rfl ?_
          refine LW.s (SEv.store Tryz.sizeOf22 (.tmp rfl) (.tmp rfl) hO2.one hB5 (by rw [hL.1]; exact Nat.le_of_ble_eq_true rfl)) rfl rfl rfl ?_
          intro w14 Nw14
          have zw14 := Nw14.size
          replace hW := hW.sto Nw14.sto (by omega)
          replace hB4 := hB4.sto Nw14.sto (by omega)
          replace hL := hL.sto hB5 (by decide) Nw14.sto
          replace hB7 := hB7.sto Nw14.sto (by omega)
          replace hO2 := hO2.stoT hB5 (by decide) Nw14.sto
          replace hB5 := Nw14.blk
          refine LW.nil (KW.inBlock (KW.inBlock (KW.then (CW.region (LW.p (PEv.move (.tmp rfl)) rfl rfl rfl ?_)))))
          refine LW.p (PEv.inc (.tmp rfl) (by omega)) rfl rfl rfl ?_
          refine LW.p (PEv.assign (.tmp rfl)) rfl rfl rfl (LW.nil (KW.round ?_))
          exact ⟨(i + 1, bc.setIfInBounds 1 v107), ⟨by show i + 1 ≤ _; omega, hW, hB4, hB5, by rw [q_put hf hsk hbt]; exact LsO.put hL hkd (by decide) hp hO2⟩, ⟨rfl, rfl, rfl, rfl, rfl, trivial⟩, by show L.length - (i + 1) < L.length - i; omega⟩
         ·first | replace h102 := of_decide_eq_true h102 | replace h102 := of_decide_eq_false h102 | skip
          refine CW.seq (CW.region ?_)
          refine LW.p (PEv.eql (.tmp rfl) (.const _)) rfl rfl rfl ?_
          refine LW.p (PEv.assign (.tmp rfl)) rfl rfl rfl (LW.nil (KW.then ?_))
          refine CW.cond (.tmp rfl) (fun h109 => ?_) (fun h109 => ?_)
          ·first | replace h109 := of_decide_eq_true h109 | replace h109 := of_decide_eq_false h109 | skip
           have hkd : f.Kind = (((2 : Nat) + 1 : Nat) : Int) := h109
           obtain ⟨v, hv, hO⟩ := hL.2 2 (by decide)
           obtain ⟨adv, cpv, rfl, hEv⟩ := hO.sl (fun _ => rfl)
           have hrl := Nat.le_trans (refL_len (qL L day i) 2) (q_len L day i)
           have hcv := own_cap hO
           refine CW.region ?_
           refine LW.p (PEv.fieldAddr (off := 2) Tryz.underlying26 rfl rfl Tryz.sizeOf22 rfl (.tmp rfl)) rfl rfl rfl ?_
           refine LW.p (PEv.load Tryz.isAgg22 (.tmp rfl) (hB5.cell hv)) rfl rfl rfl ?_
           refine LW.p (PEv.loadA Tryz.isAgg35 Tryz.sizeOf35 rfl (.tmp rfl) (hB7.agg)) rfl rfl rfl ?_
           refine LW.c (enter_call0 (.cons (.tmp rfl) (.cons (.tmp rfl) .nil)) (Tryz.en33)) rfl rfl rfl rfl (rPut_any adv cpv _ f _ hEv hcv (by omega)) ?_
           rintro v114 w15 ⟨p, hp, hO2, uw15⟩
           have zw15 := uw15.size
           replace hW := hW.up uw15
           replace hB4 := hB4.up uw15
           replace hB5 := hB5.up uw15
           replace hL := hL.up uw15
           replace hB7 := hB7.up uw15
           refine LW.p (PEv.fieldAddr (off := 2) Tryz.underlying26 rfl rfl Tryz.sizeOf22 rfl (.tmp rfl)) rfl rfl rfl ?_
           refine LW.s (SEv.store Tryz.sizeOf22 (.tmp rfl) (.tmp rfl) hO2.one hB5 (by rw [hL.1]; exact Nat.le_of_ble_eq_true rfl)) rfl rfl rfl ?_
           intro w16 Nw16
           have zw16 := Nw16.size
           replace hW := hW.sto Nw16.sto (by omega)
           replace hB4 := hB4.sto Nw16.sto (by omega)
           replace hL := hL.sto hB5 (by decide) Nw16.sto
           replace hB7 := hB7.sto Nw16.sto (by omega)
           replace hO2 := hO2.stoT hB5 (by decide) Nw16.sto
           replace hB5 := Nw16.blk
           refine LW.nil (KW.inBlock (KW.inBlock (KW.then (CW.region (LW.p (PEv.move (.tmp rfl)) rfl rfl rfl ?_)))))
           refine LW.p (PEv.inc (.tmp rfl) (by omega)) rfl rfl rfl ?_
           refine LW.p (PEv.assign (.tmp rfl)) rfl rfl rfl (LW.nil (KW.round ?_))
           exact ⟨(i + 1, bc.setIfInBounds 2 v114), ⟨by show i + 1 ≤ _; omega, hW, hB4, hB5, by rw [q_put hf hsk hbt]; exact LsO.put hL hkd (by decide) hp hO2⟩, ⟨rfl, rfl, rfl, rfl, rfl, trivial⟩, by show L.length - (i + 1) < L.length - i; omega⟩
          ·first | replace h109 := of_decide_eq_true h109 | replace h109 := of_decide_eq_false h109 | skip
           refine CW.seq (CW.region ?_)
           refine LW.p (PEv.eql (.tmp rfl) (.const _)) rfl rfl rfl ?_
           refine LW.p (PEv.assign (.tmp rfl)) rfl rfl rfl (LW.nil (KW.then ?_))
           refine CW.cond (.tmp rfl) (fun h116 => ?_) (fun h116 => ?_)
           ·first | replace h116 := of_decide_eq_true h116 | replace h116 := of_decide_eq_false h116 | skip
            have hkd : f.Kind = (((3 : Nat) + 1 : Nat) : Int) := h116
            obtain ⟨v, hv, hO⟩ := hL.2 3 (by decide)
            obtain ⟨adv, cpv, rfl, hEv⟩ := hO.sl (fun _ => rfl)
            have hrl := Nat.le_trans (refL_len (qL L day i) 3) (q_len L day i)
            have hcv := own_cap hO
            refine CW.region ?_
            refine LW.p (PEv.fieldAddr (off := 3) Tryz.underlying26 rfl rfl Tryz.sizeOf22 rfl (.tmp rfl)) rfl rfl rfl ?_
            refine LW.p (PEv.load Tryz.isAgg22 (.tmp rfl) (hB5.cell hv)) rfl rfl rfl ?_
            refine LW.p (PEv.loadA Tryz.isAgg35 Tryz.sizeOf35 rfl (.tmp rfl) (hB7.agg)) rfl rfl rfl ?_
            refine LW.c (enter_call0 (.cons (.tmp rfl) (.cons (.tmp rfl) .nil)) (Tryz.en33)) rfl rfl rfl rfl (rPut_any adv cpv _ f _ hEv hcv (by omega)) ?_
            rintro v121 w17 ⟨p, hp, hO2, uw17⟩
            have zw17 := uw17.size
            replace hW := hW.up uw17
            replace hB4 := hB4.up uw17
            replace hB5 := hB5.up uw17
            replace hL := hL.up uw17
            replace hB7 := hB7.up uw17
            refine LW.p (PEv.fieldAddr (off := 3) Tryz.underlying26 rfl rfl Tryz.sizeOf22 rfl (.tmp rfl)) rfl rfl rfl ?_
            refine LW.s (SEv.store Tryz.sizeOf22 (.tmp rfl) (.tmp rfl) hO2.one hB5 (by rw [hL.1]; exact Nat.le_of_ble_eq_true rfl)) rfl rfl rfl ?_
            intro w18 Nw18
            have zw18 := Nw18.size
            replace hW := hW.sto Nw18.sto (by omega)
            replace hB4 := hB4.sto Nw18.sto (by omega)
            replace hL := hL.sto hB5 (by decide) Nw18.sto
            replace hB7 := hB7.sto Nw18.sto (by omega)
            replace hO2 := hO2.stoT hB5 (by decide) Nw18.sto
            replace hB5 := Nw18.blk
            refine LW.nil (KW.inBlock (KW.inBlock (KW.then (CW.region (LW.p (PEv.move (.tmp rfl)) rfl rfl rfl ?_)))))
            refine LW.p (PEv.inc (.tmp rfl) (by omega)) rfl rfl rfl ?_
            refine LW.p (PEv.assign (.tmp rfl)) rfl rfl rfl (LW.nil (KW.round ?_))
            exact ⟨(i + 1, bc.setIfInBounds 3 v121), ⟨by show i + 1 ≤ _; omega, hW, hB4, hB5, by rw [q_put hf hsk hbt]; exact LsO.put hL hkd (by decide) hp hO2⟩, ⟨rfl, rfl, rfl, rfl, rfl, trivial⟩, by show L.length - (i + 1) < L.length - i; omega⟩
           ·first | replace h116 := of_decide_eq_true h116 | replace h116 := of_decide_eq_false h116 | skip
            refine CW.seq (CW.region ?_)
            refine LW.p (PEv.eql (.tmp rfl) (.const _)) rfl rfl rfl ?_
            refine LW.p (PEv.assign (.tmp rfl)) rfl rfl rfl (LW.nil (KW.then ?_))
            refine CW.cond (.tmp rfl) (fun h123 => ?_) (fun h123 => ?_)
            ·first | replace h123 := of_decide_eq_true h123 | replace h123 := of_decide_eq_false h123 | skip
             have hkd : f.Kind = (((4 : Nat) + 1 : Nat) : Int) := h123
             obtain ⟨v, hv, hO⟩ := hL.2 4 (by decide)
             obtain ⟨adv, cpv, rfl, hEv⟩ := hO.sl (fun _ => rfl)
             have hrl := Nat.le_trans (refL_len (qL L day i) 4) (q_len L day i)
             have hcv := own_cap hO
             refine CW.region ?_
             refine LW.p (PEv.fieldAddr (off := 4) Tryz.underlying26 rfl rfl Tryz.sizeOf22 rfl (.tmp rfl)) rfl rfl rfl ?_
             refine LW.p (PEv.load Tryz.isAgg22 (.tmp rfl) (hB5.cell hv)) rfl rfl rfl ?_
             refine LW.p (PEv.loadA Tryz.isAgg35 Tryz.sizeOf35 rfl (.tmp rfl) (hB7.agg)) rfl rfl rfl ?_
             refine LW.c (enter_call0 (.cons (.tmp rfl) (.cons (.tmp rfl) .nil)) (Tryz.en33)) rfl rfl rfl rfl (rPut_any adv cpv _ f _ hEv hcv (by omega)) ?_
             rintro v128 w19 ⟨p, hp, hO2, uw19⟩
             have zw19 := uw19.size
             replace hW := hW.up uw19
             replace hB4 := hB4.up uw19
             replace hB5 := hB5.up uw19
             replace hL := hL.up uw19
             replace hB7 := hB7.up uw19
             refine LW.p (PEv.fieldAddr (off := 4) Tryz.underlying26 rfl rfl Tryz.sizeOf22 rfl (.tmp rfl)) rfl rfl rfl ?_
             refine LW.s (SEv.store Tryz.sizeOf22 (.tmp rfl) (.tmp rfl) hO2.one hB5 (by rw [hL.1]; exact Nat.le_of_ble_eq_true rfl)) rfl rfl rfl ?_
             intro w20 Nw20
             have zw20 := Nw20.size
             replace hW := hW.sto Nw20.sto (by omega)
             replace hB4 := hB4.sto Nw20.sto (by omega)
             replace hL := hL.sto hB5 (by decide) Nw20.sto
             replace hB7 := hB7.sto Nw20.sto (by omega)
             replace hO2 := hO2.stoT hB5 (by decide) Nw20.sto
             replace hB5 := Nw20.blk
             refine LW.nil (KW.inBlock (KW.inBlock (KW.then (CW.region (LW.p (PEv.move (.tmp rfl)) rfl rfl rfl ?_)))))
             refine LW.p (PEv.inc (.tmp rfl) (by omega)) rfl rfl rfl ?_
             refine LW.p (PEv.assign (.tmp rfl)) rfl rfl rfl (LW.nil (KW.round ?_))
             exact ⟨(i + 1, bc.setIfInBounds 4 v128), ⟨by show i + 1 ≤ _; omega, hW, hB4, hB5, by rw [q_put hf hsk hbt]; exact LsO.put hL hkd (by decide) hp hO2⟩, ⟨rfl, rfl, rfl, rfl, rfl, trivial⟩, by show L.length - (i + 1) < L.length - i; omega⟩
            ·first | replace h123 := of_decide_eq_true h123 | replace h123 := of_decide_eq_false h123 | skip
             refine CW.seq (CW.region ?_)
             refine LW.p (PEv.eql (.tmp rfl) (.const _)) rfl rfl rfl ?_
             refine LW.p (PEv.assign (.tmp rfl)) rfl rfl rfl (LW.nil (KW.then ?_))
             refine CW.cond (.tmp rfl) (fun h130 => ?_) (fun h130 => ?_)
             ·first | replace h130 := of_decide_eq_true h130 | replace h130 := of_decide_eq_false h130 | skip
              have hkd : f.Kind = (((5 : Nat) + 1 : Nat) : Int) := h130
              obtain ⟨v, hv, hO⟩ := hL.2 5 (by decide)
              obtain ⟨adv, cpv, rfl, hEv⟩ := hO.sl (fun _ => rfl)
              have hrl := Nat.le_trans (refL_len (qL L day i) 5) (q_len L day i)
              have hcv := own_cap hO
              refine CW.region ?_
              refine LW.p (PEv.fieldAddr (off := 5) Tryz.underlying26 rfl rfl Tryz.sizeOf22 rfl (.tmp rfl)) rfl rfl rfl ?_
              refine LW.p (PEv.load Tryz.isAgg22 (.tmp rfl) (hB5.cell hv)) rfl rfl rfl ?_
              refine LW.p (PEv.loadA Tryz.isAgg35 Tryz.sizeOf35 rfl (.tmp rfl) (hB7.agg)) rfl rfl rfl ?_
              refine LW.c (enter_call0 (.cons (.tmp rfl) (.cons (.tmp rfl) .nil)) (Tryz.en33)) rfl rfl rfl rfl (rPut_any adv cpv _ f _ hEv hcv (by omega)) ?_
              rintro v135 w21 ⟨p, hp, hO2, uw21⟩
              have zw21 := uw21.size
              replace hW := hW.up uw21
              replace hB4 := hB4.up uw21
              replace hB5 := hB5.up uw21
              replace hL := hL.up uw21
              replace hB7 := hB7.up uw21
              refine LW.p (PEv.fieldAddr (off := 5) Tryz.underlying26 rfl rfl Tryz.sizeOf22 rfl (.tmp rfl)) rfl rfl rfl ?_
              refine LW.s (SEv.store Tryz.sizeOf22 (.tmp rfl) (.tmp rfl) hO2.one hB5 (by rw [hL.1]; exact Nat.le_of_ble_eq_true rfl)) rfl rfl rfl ?_
              intro w22 Nw22
              have zw22 := Nw22.size
              replace hW := hW.sto Nw22.sto (by omega)
              replace hB4 := hB4.sto Nw22.sto (by omega)
              replace hL := hL.sto hB5 (by decide) Nw22.sto
              replace hB7 := hB7.sto Nw22.sto (by omega)
              replace hO2 := hO2.stoT hB5 (by decide) Nw22.sto
              replace hB5 := Nw22.blk
              refine LW.nil (KW.inBlock (KW.inBlock (KW.then (CW.region (LW.p (PEv.move (.tmp rfl)) rfl rfl rfl ?_)))))
              refine LW.p (PEv.inc (.tmp rfl) (by omega)) rfl rfl rfl ?_
              refine LW.p (PEv.assign (.tmp rfl)) rfl rfl rfl (LW.nil (KW.round ?_))
              exact ⟨(i + 1, bc.setIfInBounds 5 v135), ⟨by show i + 1 ≤ _; omega, hW, hB4, hB5, by rw [q_put hf hsk hbt]; exact LsO.put hL hkd (by decide) hp hO2⟩, ⟨rfl, rfl, rfl, rfl, rfl, trivial⟩, by show L.length - (i + 1) < L.length - i; omega⟩
             ·first | replace h130 := of_decide_eq_true h130 | replace h130 := of_decide_eq_false h130 | skip
              refine CW.seq (CW.region ?_)
              refine LW.p (PEv.eql (.tmp rfl) (.const _)) rfl rfl rfl ?_
              refine LW.p (PEv.assign (.tmp rfl)) rfl rfl rfl (LW.nil (KW.then ?_))
              refine CW.cond (.tmp rfl) (fun h137 => ?_) (fun h137 => ?_)
              ·first | replace h137 := of_decide_eq_true h137 | replace h137 := of_decide_eq_false h137 | skip
               have hkd : f.Kind = (((6 : Nat) + 1 : Nat) : Int) := h137
               obtain ⟨v, hv, hO⟩ := hL.2 6 (by decide)
               obtain ⟨adv, cpv, rfl, hEv⟩ := hO.sl (fun _ => rfl)
               have hrl := Nat.le_trans (refL_len (qL L day i) 6) (q_len L day i)
               have hcv := own_cap hO
               refine CW.region ?_
               refine LW.p (PEv.fieldAddr (off := 6) Tryz.underlying26 rfl rfl Tryz.sizeOf22 rfl (.tmp rfl)) rfl rfl rfl ?_
               refine LW.p (PEv.load Tryz.isAgg22 (.tmp rfl) (hB5.cell hv)) rfl rfl rfl ?_
               refine LW.p (PEv.loadA Tryz.isAgg35 Tryz.sizeOf35 rfl (.tmp rfl) (hB7.agg)) rfl rfl rfl ?_
               refine LW.c (enter_call0 (.cons (.tmp rfl) (.cons (.tmp rfl) .nil)) (Tryz.en33)) rfl rfl rfl rfl (rPut_any adv cpv _ f _ hEv hcv (by omega)) ?_
               rintro v142 w23 ⟨p, hp, hO2, uw23⟩
               have zw23 := uw23.size
               replace hW := hW.up uw23
               replace hB4 := hB4.up uw23
               replace hB5 := hB5.up uw23
               replace hL := hL.up uw23
               replace hB7 := hB7.up uw23
               refine LW.p (PEv.fieldAddr (off := 6) Tryz.underlying26 rfl rfl Tryz.sizeOf22 rfl (.tmp rfl)) rfl rfl rfl ?_
               refine LW.s (SEv.store Tryz.sizeOf22 (.tmp rfl) (.tmp rfl) hO2.one hB5 (by rw [hL.1]; exact Nat.le_of_ble_eq_true rfl)) rfl rfl rfl ?_
               intro w24 Nw24
               have zw24 := Nw24.size
               replace hW := hW.sto Nw24.sto (by omega)
               replace hB4 := hB4.sto Nw24.sto (by omega)
               replace hL := hL.sto hB5 (by decide) Nw24.sto
               replace hB7 := hB7.sto Nw24.sto (by omega)
               replace hO2 := hO2.stoT hB5 (by decide) Nw24.sto
               replace hB5 := Nw24.blk
               refine LW.nil (KW.inBlock (KW.inBlock (KW.then (CW.region (LW.p (PEv.move (.tmp rfl)) rfl rfl rfl ?_)))))
               refine LW.p (PEv.inc (.tmp rfl) (by omega)) rfl rfl rfl ?_
               refine LW.p (PEv.assign (.tmp rfl)) rfl rfl rfl (LW.nil (KW.round ?_))
               exact ⟨(i + 1, bc.setIfInBounds 6 v142), ⟨by show i + 1 ≤ _; omega, hW, hB4, hB5, by rw [q_put hf hsk hbt]; exact LsO.put hL hkd (by decide) hp hO2⟩, ⟨rfl, rfl, rfl, rfl, rfl, trivial⟩, by show L.length - (i + 1) < L.length - i; omega⟩
              ·first | replace h137 := of_decide_eq_true h137 | replace h137 := of_decide_eq_false h137 | skip
               refine CW.seq (CW.region ?_)
               refine LW.p (PEv.eql (.tmp rfl) (.const _)) rfl rfl rfl ?_
               refine LW.p (PEv.assign (.tmp rfl)) rfl rfl rfl (LW.nil (KW.then ?_))
               refine CW.cond (.tmp rfl) (fun h144 => ?_) (fun h144 => ?_)
               ·first | replace h144 := of_decide_eq_true h144 | replace h144 := of_decide_eq_false h144 | skip
                have hkd : f.Kind = (((7 : Nat) + 1 : Nat) : Int) := h144
                obtain ⟨v, hv, hO⟩ := hL.2 7 (by decide)
                obtain ⟨adv, cpv, rfl, hEv⟩ := hO.sl (fun _ => rfl)
                have hrl := Nat.le_trans (refL_len (qL L day i) 7) (q_len L day i)
                have hcv := own_cap hO
                refine CW.region ?_
                refine LW.p (PEv.fieldAddr (off := 7) Tryz.underlying26 rfl rfl Tryz.sizeOf22 rfl (.tmp rfl)) rfl rfl rfl ?_
                refine LW.p (PEv.load Tryz.isAgg22 (.tmp rfl) (hB5.cell hv)) rfl rfl rfl ?_
                refine LW.p (PEv.loadA Tryz.isAgg35 Tryz.sizeOf35 rfl (.tmp rfl) (hB7.agg)) rfl rfl rfl ?_
                refine LW.c (enter_call0 (.cons (.tmp rfl) (.cons (.tmp rfl) .nil)) (Tryz.en33)) rfl rfl rfl rfl (rPut_any adv cpv _ f _ hEv hcv (by omega)) ?_
                rintro v149 w25 ⟨p, hp, hO2, uw25⟩
                have zw25 := uw25.size
                replace hW := hW.up uw25
                replace hB4 := hB4.up uw25
                replace hB5 := hB5.up uw25
                replace hL := hL.up uw25
                replace hB7 := hB7.up uw25
                refine LW.p (PEv.fieldAddr (off := 7) Tryz.underlying26 rfl rfl Tryz.sizeOf22 rfl (.tmp rfl)) rfl rfl rfl ?_
                refine LW.s (SEv.store Tryz.sizeOf22 (.tmp rfl) (.tmp rfl) hO2.one hB5 (by rw [hL.1]; exact Nat.le_of_ble_eq_true rfl)) rfl rfl rfl ?_
                intro w26 Nw26
                have zw26 := Nw26.size
                replace hW := hW.sto Nw26.sto (by omega)
                replace hB4 := hB4.sto Nw26.sto (by omega)
                replace hL := hL.sto hB5 (by decide) Nw26.sto
                replace hB7 := hB7.sto Nw26.sto (by omega)
                replace hO2 := hO2.stoT hB5 (by decide) Nw26.sto
                replace hB5 := Nw26.blk
                refine LW.nil (KW.inBlock (KW.inBlock (KW.then (CW.region (LW.p (PEv.move (.tmp rfl)) rfl rfl rfl ?_)))))
                refine LW.p (PEv.inc (.tmp rfl) (by omega)) rfl rfl rfl ?_
                refine LW.p (PEv.assign (.tmp rfl)) rfl rfl rfl (LW.nil (KW.round ?_))
                exact ⟨(i + 1, bc.setIfInBounds 7 v149), ⟨by show i + 1 ≤ _; omega, hW, hB4, hB5, by rw [q_put hf hsk hbt]; exact LsO.put hL hkd (by decide) hp hO2⟩, ⟨rfl, rfl, rfl, rfl, rfl, trivial⟩, by show L.length - (i + 1) < L.length - i; omega⟩
               ·first | replace h144 := of_decide_eq_true h144 | replace h144 := of_decide_eq_false h144 | skip
                refine CW.seq (CW.region ?_)
                refine LW.p (PEv.eql (.tmp rfl) (.const _)) rfl rfl rfl ?_
                refine LW.p (PEv.assign (.tmp rfl)) rfl rfl rfl (LW.nil (KW.then ?_))
                refine CW.cond (.tmp rfl) (fun h151 => ?_) (fun h151 => ?_)
                ·first | replace h151 := of_decide_eq_true h151 | replace h151 := of_decide_eq_false h151 | skip
                 have hkd : f.Kind = (((8 : Nat) + 1 : Nat) : Int) := h151
                 obtain ⟨v, hv, hO⟩ := hL.2 8 (by decide)
                 obtain ⟨adv, cpv, rfl, hEv⟩ := hO.sl (fun _ => rfl)
                 have hrl := Nat.le_trans (refL_len (qL L day i) 8) (q_len L day i)
                 have hcv := own_cap hO
                 refine CW.region ?_
                 refine LW.p (PEv.fieldAddr (off := 8) Tryz.underlying26 rfl rfl Tryz.sizeOf22 rfl (.tmp rfl)) rfl rfl rfl ?_
                 refine LW.p (PEv.load Tryz.isAgg22 (.tmp rfl) (hB5.cell hv)) rfl rfl rfl ?_
                 refine LW.p (PEv.loadA Tryz.isAgg35 Tryz.sizeOf35 rfl (.tmp rfl) (hB7.agg)) rfl rfl rfl ?_
                 refine LW.c (enter_call0 (.cons (.tmp rfl) (.cons (.tmp rfl) .nil)) (Tryz.en33)) rfl rfl rfl rfl (rPut_any adv cpv _ f _ hEv hcv (by omega)) ?_
                 rintro v156 w27 ⟨p, hp, hO2, uw27⟩
                 have zw27 := uw27.size
                 replace hW := hW.up uw27
                 replace hB4 := hB4.up uw27
                 replace hB5 := hB5.up uw27
                 replace hL := hL.up uw27
                 replace hB7 := hB7.up uw27
                 refine LW.p (PEv.fieldAddr (off := 8) Tryz.underlying26 rfl rfl Tryz.sizeOf22 rfl (.tmp rfl)) rfl rfl rfl ?_
                 refine LW.s (SEv.store Tryz.sizeOf22 (.tmp rfl) (.tmp rfl) hO2.one hB5 (by rw [hL.1]; exact Nat.le_of_ble_eq_true rfl)) rfl rfl rfl ?_
                 intro w28 Nw28
                 have zw28 := Nw28.size
                 replace hW := hW.sto Nw28.sto (by omega)
                 replace hB4 := hB4.sto Nw28.sto (by omega)
                 replace hL := hL.sto hB5 (by decide) Nw28.sto
                 replace hB7 := hB7.sto Nw28.sto (by omega)
                 replace hO2 := hO2.stoT hB5 (by decide) Nw28.sto
                 replace hB5 := Nw28.blk
                 refine LW.nil (KW.inBlock (KW.inBlock (KW.then (CW.region (LW.p (PEv.move (.tmp rfl)) rfl rfl rfl ?_)))))
                 refine LW.p (PEv.inc (.tmp rfl) (by omega)) rfl rfl rfl ?_
                 refine LW.p (PEv.assign (.tmp rfl)) rfl rfl rfl (LW.nil (KW.round ?_))
                 exact ⟨(i + 1, bc.setIfInBounds 8 v156), ⟨by show i + 1 ≤ _; omega, hW, hB4, hB5, by rw [q_put hf hsk hbt]; exact LsO.put hL hkd (by decide) hp hO2⟩, ⟨rfl, rfl, rfl, rfl, rfl, trivial⟩, by show L.length - (i + 1) < L.length - i; omega⟩
                ·first | replace h151 := of_decide_eq_true h151 | replace h151 := of_decide_eq_false h151 | skip
                 refine CW.seq (CW.region ?_)
                 refine LW.p (PEv.eql (.tmp rfl) (.const _)) rfl rfl rfl ?_
                 refine LW.p (PEv.assign (.tmp rfl)) rfl rfl rfl (LW.nil (KW.then ?_))
                 refine CW.cond (.tmp rfl) (fun h158 => ?_) (fun h158 => ?_)
                 ·first | replace h158 := of_decide_eq_true h158 | replace h158 := of_decide_eq_false h158 | skip
                  have hkd : f.Kind = (((9 : Nat) + 1 : Nat) : Int) := h158
                  obtain ⟨v, hv, hO⟩ := hL.2 9 (by decide)
                  obtain ⟨adv, cpv, rfl, hEv⟩ := hO.sl (fun _ => rfl)
                  have hrl := Nat.le_trans (refL_len (qL L day i) 9) (q_len L day i)
                  have hcv := own_cap hO
                  refine CW.region ?_
                  refine LW.p (PEv.fieldAddr (off := 9) Tryz.underlying26 rfl rfl Tryz.sizeOf22 rfl (.tmp rfl)) rfl rfl rfl ?_
                  refine LW.p (PEv.load Tryz.isAgg22 (.tmp rfl) (hB5.cell hv)) rfl rfl rfl ?_
                  refine LW.p (PEv.loadA Tryz.isAgg35 Tryz.sizeOf35 rfl (.tmp rfl) (hB7.agg)) rfl rfl rfl ?_
                  refine LW.c (enter_call0 (.cons (.tmp rfl) (.cons (.tmp rfl) .nil)) (Tryz.en33)) rfl rfl rfl rfl (rPut_any adv cpv _ f _ hEv hcv (by omega)) ?_
                  rintro v163 w29 ⟨p, hp, hO2, uw29⟩
                  have zw29 := uw29.size
                  replace hW := hW.up uw29
                  replace hB4 := hB4.up uw29
                  replace hB5 := hB5.up uw29
                  replace hL := hL.up uw29
                  replace hB7 := hB7.up uw29
                  refine LW.p (PEv.fieldAddr (off := 9) Tryz.underlying26 rfl rfl Tryz.sizeOf22 rfl (.tmp rfl)) rfl rfl rfl ?_
                  refine LW.s (SEv.store Tryz.sizeOf22 (.tmp rfl) (.tmp rfl) hO2.one hB5 (by rw [hL.1]; exact Nat.le_of_ble_eq_true rfl)) rfl rfl rfl ?_
                  intro w30 Nw30
                  have zw30 := Nw30.size
                  replace hW := hW.sto Nw30.sto (by omega)
                  replace hB4 := hB4.sto Nw30.sto (by omega)
                  replace hL := hL.sto hB5 (by decide) Nw30.sto
                  replace hB7 := hB7.sto Nw30.sto (by omega)
                  replace hO2 := hO2.stoT hB5 (by decide) Nw30.sto
                  replace hB5 := Nw30.blk
                  refine LW.nil (KW.inBlock (KW.inBlock (KW.then (CW.region (LW.p (PEv.move (.tmp rfl)) rfl rfl rfl ?_)))))
                  refine LW.p (PEv.inc (.tmp rfl) (by omega)) rfl rfl rfl ?_
                  refine LW.p (PEv.assign (.tmp rfl)) rfl rfl rfl (LW.nil (KW.round ?_))
                  exact ⟨(i + 1, bc.setIfInBounds 9 v163), ⟨by show i + 1 ≤ _; omega, hW, hB4, hB5, by rw [q_put hf hsk hbt]; exact LsO.put hL hkd (by decide) hp hO2⟩, ⟨rfl, rfl, rfl, rfl, rfl, trivial⟩, by show L.length - (i + 1) < L.length - i; omega⟩
                 ·first | replace h158 := of_decide_eq_true h158 | replace h158 := of_decide_eq_false h158 | skip
                  have hkd : f.Kind = (((10 : Nat) + 1 : Nat) : Int) := by have := valid_kind (keyB_valid hk0); omega
                  obtain ⟨v, hv, hO⟩ := hL.2 10 (by decide)
                  obtain ⟨adv, cpv, rfl, hEv⟩ := hO.sl (fun _ => rfl)
                  have hrl := Nat.le_trans (refL_len (qL L day i) 10) (q_len L day i)
                  have hcv := own_cap hO
                  refine CW.region ?_
                  refine LW.p (PEv.fieldAddr (off := 10) Tryz.underlying26 rfl rfl Tryz.sizeOf22 rfl (.tmp rfl)) rfl rfl rfl ?_
                  refine LW.p (PEv.load Tryz.isAgg22 (.tmp rfl) (hB5.cell hv)) rfl rfl rfl ?_
                  refine LW.p (PEv.loadA Tryz.isAgg35 Tryz.sizeOf35 rfl (.tmp rfl) (hB7.agg)) rfl rfl rfl ?_
                  refine LW.c (enter_call0 (.cons (.tmp rfl) (.cons (.tmp rfl) .nil)) (Tryz.en33)) rfl rfl rfl rfl (rPut_any adv cpv _ f _ hEv hcv (by omega)) ?_
                  rintro v93 w31 ⟨p, hp, hO2, uw31⟩
                  have zw31 := uw31.size
                  replace hW := hW.up uw31
                  replace hB4 := hB4.up uw31
                  replace hB5 := hB5.up uw31
                  replace hL := hL.up uw31
                  replace hB7 := hB7.up uw31
                  refine LW.p (PEv.fieldAddr (off := 10) Tryz.underlying26 rfl rfl Tryz.sizeOf22 rfl (.tmp rfl)) rfl rfl rfl ?_
                  refine LW.s (SEv.store Tryz.sizeOf22 (.tmp rfl) (.tmp rfl) hO2.one hB5 (by rw [hL.1]; exact Nat.le_of_ble_eq_true rfl)) rfl rfl rfl ?_
                  intro w32 Nw32
                  have zw32 := Nw32.size
                  replace hW := hW.sto Nw32.sto (by omega)
                  replace hB4 := hB4.sto Nw32.sto (by omega)
                  replace hL := hL.sto hB5 (by decide) Nw32.sto
                  replace hB7 := hB7.sto Nw32.sto (by omega)
                  replace hO2 := hO2.stoT hB5 (by decide) Nw32.sto
                  replace hB5 := Nw32.blk
                  refine LW.nil (KW.inBlock (KW.inBlock (KW.then (CW.region (LW.p (PEv.move (.tmp rfl)) rfl rfl rfl ?_)))))
                  refine LW.p (PEv.inc (.tmp rfl) (by omega)) rfl rfl rfl ?_
                  refine LW.p (PEv.assign (.tmp rfl)) rfl rfl rfl (LW.nil (KW.round ?_))
                  exact ⟨(i + 1, bc.setIfInBounds 10 v93), ⟨by show i + 1 ≤ _; omega, hW, hB4, hB5, by rw [q_put hf hsk hbt]; exact LsO.put hL hkd (by decide) hp hO2⟩, ⟨rfl, rfl, rfl, rfl, rfl, trivial⟩, by show L.length - (i + 1) < L.length - i; omega⟩
   ·first | replace h16 := of_decide_eq_true h16 | replace h16 := of_decide_eq_false h16 | skip
    refine CW.exit (KW.then_exit (KW.then_exit (KW.block_hit (KW.then (CW.seq (CW.region ?_))))))
    refine LW.p (PEv.loadA Tryz.isAgg26 Tryz.sizeOf26 (hL.1) (.tmp rfl) (hB5.agg)) rfl rfl rfl ?_
    refine LW.s (SEv.storeA Tryz.sizeOf26 (hL.1) (.tmp rfl) (.tmp rfl) (hL.one) hB4 rfl) rfl rfl rfl ?_
    intro w33 Nw33
    have zw33 := Nw33.size
    replace hW := hW.sto Nw33.sto (by omega)
    replace hB5 := hB5.sto Nw33.sto (by omega)
    replace hL := hL.sto hB4 (by decide) Nw33.sto
    replace hB4 := Nw33.blk
    refine LW.nil (KW.then (CW.ret ?_))
    refine KW.retA rfl rfl Tryz.isAgg26 Tryz.sizeOf26 (hL.1) (hB4.agg) ⟨_, rfl, ?_⟩
    exact ⟨_, rfl, LsO.baseC hL (fun j hj => by rw [show i = L.length by omega]; exact ref_lst L day hj), hW⟩

end Go.Proofs.YtdelcaegofkknaaGreat
