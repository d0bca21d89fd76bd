import Derived.Test.YtgjogglfnkgapaaGreatDoorKR119
import Derived.Sort.OwnSortedInts
namespace Go.Wx
theorem Z8 (ks : List Int) : ks.flatMap (fun x => (Br x).toList) = ks.map vi := by
 induction ks with
 | nil => rfl
 | cons k ks ih => rw [List.flatMap_cons, ih]; rfl
def T0 (kb : Base) (id : Int) : Bool := decide ((It kb id).2.2 = 0) && !(It kb id).2.1
def My (kb : Base) (l : List Fact) : List Int := (l.filter fun p => T0 kb p.ID).map (·.ID)
def Qp (kb : Base) : List Int := (My kb kb.Processes).mergeSort fun x y => decide (x ≤ y)
theorem rD {kb : Base} {l : List Fact} {i : Nat} {x : Fact} (h : l[i]? = some x) (hx : T0 kb x.ID = true) : My kb (l.take (i + 1)) = My kb (l.take i) ++ [x.ID] := by
 unfold My
 rw [List.take_add_one, h, Option.toList_some, List.filter_append, List.map_append]
 simp [hx]
theorem vW {kb : Base} {l : List Fact} {i : Nat} {x : Fact} (h : l[i]? = some x) (hx : T0 kb x.ID = false) : My kb (l.take (i + 1)) = My kb (l.take i) := by
 unfold My
 rw [List.take_add_one, h, Option.toList_some, List.filter_append, List.map_append]
 simp [hx]
theorem T2 (kb : Base) (l : List Fact) (i : Nat) : (My kb (l.take i)).length ≤ l.length := by
 unfold My
 rw [List.length_map]
 exact Nat.le_trans (List.length_filter_le _ _) (by rw [List.length_take]; omega)
theorem BE {α : Type} {w : World} {ad : Option Addr} {n c k : Nat} {enc : α → Array Go.Value} {xs : List α} (h : Sl w (.slice ad n c) k enc xs) : Els w ad k enc xs := by
 obtain ⟨a, c', e, he⟩ := h
 cases e
 exact he
theorem rE {b : Base} {t c r : Int} (h : ∀ p ∈ b.Processes, Ig p ≠ ⟨t, c, r⟩) : Fj b t c r = [] := by
 have : Ey b t c r = [] := List.eq_nil_iff_forall_not_mem.2 fun x hx => by
   obtain ⟨h1, h2, h3, h4⟩ := Mg.1 hx
   exact h x h1 (by unfold Ig; rw [h2, h3, h4])
 unfold Fj
 rw [this]
 rfl
theorem rF {b : Base} {t c r : Int} : (∃ p ∈ b.Processes, Ig p = ⟨t, c, r⟩) ∨ Fj b t c r = [] := by
 by_cases h : ∃ p ∈ b.Processes, Ig p = ⟨t, c, r⟩
 · exact .inl h
 exact .inr (rE fun p hp e => h ⟨p, hp, e⟩)
theorem rG {al : List Fact} {d : Int} : ∀ p ∈ (D5 al d).Processes, J1 p.Value := fun p hp => by
 have h := (Dc (j := 0) cQ).1 hp
 obtain ⟨h1, h2, _⟩ := H3 (C1 h.1)
 by_cases e : ∃ x ∈ fieldsOf p.Kind, x.off = 16
 · obtain ⟨x, hx, e⟩ := e
   have := h2 x hx
   rw [e] at this
   have h3 : M6 p.Value := this
   unfold M6 at h3
   unfold J1
   omega
 have h3 : p.Value = 0 := h1 16 cQ fun x hx e' => e ⟨x, hx, e'⟩
 rw [h3]
 exact ⟨by decide, by decide⟩
theorem T3 {e k : Nat} {enc : Fact → Array Go.Value} {ad : Option Addr} {n c B o : Nat} {xs : List Fact} (h : ad = some ⟨B, o, none⟩) : (J e k enc (.slice ad n c) xs).foot B := by subst h; rfl
theorem P3 (m : Dg) (f : Fact) : (Gx m [f]).2 = if Jg m f = true then [A7 f] else [] := by
 show (Qy (m, []) f).2 = _
 unfold Qy dB
 split <;> simp
theorem T4 {f : Fact} (h : Bk f = true) : A7 f ≠ [] := by unfold A7; rw [if_pos h]; exact Q8 h
theorem iF {m : Dg} {f : Fact} (h : Jg m f = true) : A7 f ≠ [] := fun e => by rw [(I1 e).1] at h; cases h
theorem Rj {m : Dg} {f : Fact} (h : Jg m f = true) : Ck 100000 m f = Hg m (A7 f) f := by
 have hk := iF h
 cases hg : Eb m (A7 f) with
 | none => exact (Js hk hg).2
 | some old => cases hp : Dp f old with
   | false => rw [(Rh hk hg hp).1] at h; cases h
   | true => exact (F3 hk hg hp).2
theorem vX {l : List Fact} {k : List UInt8} (h : (H5 (Az l 100000) k).Kind ≠ 0) : Mw l 100000 (H5 (Az l 100000) k) ∧ A7 (H5 (Az l 100000) k) = k := by
 unfold H5 at h ⊢
 cases hg : Eb (Az l 100000) k with
 | none => rw [hg] at h; exact absurd rfl h
 | some x =>
   have hk : A7 x = k := by
     have hg2 := hg
     unfold Eb at hg2
     obtain ⟨q, hq, hqy⟩ := Option.map_eq_some_iff.1 hg2
     have hq1 := List.mem_of_find?_eq_some hq
     have hq2 : (q.1 == k) = true := List.find?_some (p := fun p : List UInt8 × Fact => p.1 == k) hq
     have := ((Ke l 100000).ok q hq1).1
     rw [← hqy, ← this]; simpa using hq2
   exact ⟨Mj.2 (by rw [Option.getD_some, hk]; exact hg), hk⟩
theorem K8 {kb : Base} {x : Fact} {g : Grp} (h : Eg kb x g = true) : x.Gone = false ∧ ((x.Kind = 1 ∧ g = Ig x) ∨ (x.Kind = 2 ∧ mB kb x g = true) ∨ (x.Kind = 9 ∧ g.t = x.Tool ∧ g.c = x.Chamber) ∨ (x.Kind = 10 ∧ g.r = x.Recipe)) := by
 unfold Eg at h
 rw [Bool.and_eq_true] at h
 obtain ⟨h1, h2⟩ := h
 refine ⟨by simpa using h1, ?_⟩
 split at h2
 · rename_i e; exact .inl ⟨e, of_decide_eq_true h2⟩
 split at h2
 · rename_i e; exact .inr (.inl ⟨e, h2⟩)
 split at h2
 · rename_i e; rw [Bool.and_eq_true] at h2; exact .inr (.inr (.inl ⟨e, of_decide_eq_true h2.1, of_decide_eq_true h2.2⟩))
 split at h2
 · rename_i e; exact .inr (.inr (.inr ⟨e, of_decide_eq_true h2⟩))
 cases h2
theorem lO {all : List Fact} {f : Fact} {kb : Base} {g : Grp} (h : ∃ k ∈ (Gx (Az all 100000) [f]).2, Qz (Az all 100000) (Az (all ++ [f]) 100000) kb k g = true) :
   Bk f = true ∧ ∃ x, (x = f ∨ (x = H5 (Az all 100000) (A7 f) ∧ Mw all 100000 x ∧ A7 x = A7 f)) ∧ Eg kb x g = true := by
 obtain ⟨k, hk, h⟩ := h
 rw [P3] at hk
 split at hk
 · rename_i hc
   rw [List.mem_singleton] at hk
   subst hk
   have e1 : Az (all ++ [f]) 100000 = Hg (Az all 100000) (A7 f) f := by rw [← Rj hc]; unfold Az; rw [List.foldl_append]; rfl
   have e2 : H5 (Az (all ++ [f]) 100000) (A7 f) = f := by unfold H5; rw [e1, Lu, if_pos rfl]; rfl
   refine ⟨Gp (iF hc), ?_⟩
   unfold Qz at h
   rw [Bool.and_eq_true, Bool.or_eq_true, e2] at h
   rcases h.2 with h3 | h3
   · have hkd : (H5 (Az all 100000) (A7 f)).Kind ≠ 0 := by
       rcases (K8 h3).2 with e | e | e | e <;> rw [e.1] <;> decide
     obtain ⟨h4, h5⟩ := vX hkd
     exact ⟨_, .inr ⟨rfl, h4, h5⟩, h3⟩
   exact ⟨f, .inl rfl, h3⟩
 cases hk
def BF (f : Fact) (l : List Fact) : Fact := l.foldl (fun w x => if x.ID = f.ID then x else w) f
theorem vY {f x : Fact} {l : List Fact} (hx : x ∈ l) (hid : x.ID = f.ID) (hu : ∀ y ∈ l, y.ID = f.ID → y = x) : BF f l = x := by
 have key : ∀ (l : List Fact) (w : Fact), (∀ y ∈ l, y.ID = f.ID → y = x) → (x ∈ l ∨ w = x) → l.foldl (fun w x => if x.ID = f.ID then x else w) w = x := by
   intro l
   induction l with
   | nil => intro w _ h; exact h.elim (fun h => by cases h) id
   | cons y l ih =>
     intro w h1 h2
     rw [List.foldl_cons]
     refine ih _ (fun z hz => h1 z (List.mem_cons_of_mem _ hz)) ?_
     by_cases e : y.ID = f.ID
     · rw [if_pos e]; exact .inr (h1 y List.mem_cons_self e)
     rw [if_neg e]
     rcases h2 with h2 | h2
     · rcases List.mem_cons.1 h2 with h3 | h3
       · subst h3; exact absurd hid e
       exact .inl h3
     exact .inr h2
 exact key l f hu (.inl hx)
def yJ (f w : Fact) (g : Grp) : Bool := (decide (f.Tool = g.t) && decide (f.Chamber = g.c)) || (decide (w.Tool = g.t) && decide (w.Chamber = g.c))
def yK (f w : Fact) (g : Grp) : Bool := (decide (f.Kind = 9) && yJ f w g) || (decide (f.Kind = 10) && decide (f.Recipe = g.r))
def rH (f w : Fact) (gs : List Grp) : Nat := if f.Kind = 1 then 2 else if f.Kind = 2 then 1 else (gs.filter (yK f w)).length
theorem rI {f g : Fact} (hf : Bk f = true) (hg : Bk g = true) (hk : g.Kind = 1 ∨ g.Kind = 2 ∨ g.Kind = 9) (h : A7 f = A7 g) : f.ID = g.ID := by
 have e := Tk hf hg h
 have e2 := e.2
 rcases hk with hk | hk | hk <;> rw [e.1.trans hk] at e2 <;> (replace e2 : [f.ID] = [g.ID] := e2) <;> simpa using e2
theorem vZ {f g : Fact} (hf : Bk f = true) (hg : Bk g = true) (hk : g.Kind = 10) (h : A7 f = A7 g) : f.Recipe = g.Recipe := by
 have e := Tk hf hg h
 have e2 := e.2
 rw [e.1.trans hk] at e2
 replace e2 : [f.Recipe, f.Time] = [g.Recipe, g.Time] := e2
 exact (List.cons.inj e2).1
theorem wA (all : List Fact) (f : Fact) : Mn all [f] ≤ rH f (BF f (D5 all 100000).Resets) (G9 (D5 (all ++ [f]) 100000).Processes) := by
 unfold Mn
 generalize hkb : D5 (all ++ [f]) 100000 = kb
 have hnd : ((G9 kb.Processes).filter fun g => (Gx (Az all 100000) [f]).2.any fun k => Qz (Az all 100000) (Az (all ++ [f]) 100000) kb k g).Nodup := (Lv _).sublist List.filter_sublist
 have hin : ∀ g, g ∈ ((G9 kb.Processes).filter fun g => (Gx (Az all 100000) [f]).2.any fun k => Qz (Az all 100000) (Az (all ++ [f]) 100000) kb k g) → g ∈ G9 kb.Processes ∧ Bk f = true ∧ ∃ x, (x = f ∨ (x = H5 (Az all 100000) (A7 f) ∧ Mw all 100000 x ∧ A7 x = A7 f)) ∧ Eg kb x g = true := fun g hg => by
   rw [List.mem_filter, List.any_eq_true] at hg
   exact ⟨hg.1, lO hg.2⟩
 revert hnd hin
 generalize ((G9 kb.Processes).filter fun g => (Gx (Az all 100000) [f]).2.any fun k => Qz (Az all 100000) (Az (all ++ [f]) 100000) kb k g) = L
 intro hnd hin
 have hkd : ∀ x, Bk f = true → (x = f ∨ (x = H5 (Az all 100000) (A7 f) ∧ Mw all 100000 x ∧ A7 x = A7 f)) → x.Kind = f.Kind := fun x hv h => h.elim (fun e => by rw [e]) fun h => Tc (C1 h.2.1) hv h.2.2
 unfold rH
 by_cases h1 : f.Kind = 1
 · rw [if_pos h1]
   refine hnd.length_le_of_subset (l₂ := [Ig f, Ig (H5 (Az all 100000) (A7 f))]) fun g hg => ?_
   obtain ⟨_, hv, x, hx, hc⟩ := hin g hg
   have hk := hkd x hv hx
   rcases (K8 hc).2 with e | e | e | e
   · rcases hx with rfl | hx
     · simp [e.2]
     rw [e.2, hx.1]; simp
   all_goals (have := e.1; omega)
 rw [if_neg h1]
 by_cases h2 : f.Kind = 2
 · rw [if_pos h2]
   refine Nat.le_trans (hnd.length_le_of_subset (l₂ := (Eo kb f.ID).toList.map Ig) fun g hg => ?_) (by rw [List.length_map]; cases Eo kb f.ID <;> simp)
   obtain ⟨_, hv, x, hx, hc⟩ := hin g hg
   have hk := hkd x hv hx
   rcases (K8 hc).2 with e | e | e | e
   · have := e.1; omega
   · have hid : x.ID = f.ID := hx.elim (fun e => by rw [e]) fun h => rI (C1 h.2.1) hv (.inr (.inl h2)) h.2.2
     have h3 := e.2
     unfold mB at h3
     rw [hid] at h3
     cases hp : Eo kb f.ID with
     | none => rw [hp] at h3; cases h3
     | some p => rw [hp] at h3; have h4 : g = Ig p := of_decide_eq_true h3; simp [h4]
   all_goals (have := e.1; omega)
 rw [if_neg h2]
 refine hnd.length_le_of_subset fun g hg => ?_
 obtain ⟨hm, hv, x, hx, hc⟩ := hin g hg
 have hk := hkd x hv hx
 rw [List.mem_filter]
 refine ⟨hm, ?_⟩
 unfold yK
 rw [Bool.or_eq_true, Bool.and_eq_true, Bool.and_eq_true]
 obtain ⟨hg0, hcs⟩ := K8 hc
 rcases hcs with e | e | e | e
 · have := e.1; omega
 · have := e.1; omega
 · left
   have hk9 : f.Kind = 9 := by rw [← hk]; exact e.1
   refine ⟨decide_eq_true hk9, ?_⟩
   unfold yJ
   rw [Bool.or_eq_true, Bool.and_eq_true, Bool.and_eq_true]
   rcases hx with rfl | hx
   · exact .inl ⟨decide_eq_true e.2.1.symm, decide_eq_true e.2.2.symm⟩
   right
   have hid : x.ID = f.ID := rI (C1 hx.2.1) hv (.inr (.inr hk9)) hx.2.2
   have hw : BF f (D5 all 100000).Resets = x := vY ((Dc (j := 8) cQ).2 ⟨hx.2.1, hg0, e.1⟩) hid fun y hy he => by
     have hy2 := (Dc (j := 8) cQ).1 (show y ∈ Ef (D5 all 100000) 8 from hy)
     exact Mf hy2.1 hx.2.1 (Gq (k := 9) (C1 hy2.1) (C1 hx.2.1) hy2.2.2 e.1 (by show (y.ID, (0 : Int)) = (x.ID, 0); rw [he, hid]))
   rw [hw]
   exact ⟨decide_eq_true e.2.1.symm, decide_eq_true e.2.2.symm⟩
 right
 have hk10 : f.Kind = 10 := by rw [← hk]; exact e.1
 refine ⟨decide_eq_true hk10, decide_eq_true ?_⟩
 rw [e.2]
 exact hx.elim (fun e => by rw [e]) fun h => (vZ (C1 h.2.1) hv hk10 h.2.2).symm
def Uv (id time value : Int) : Fact := { Ee with Kind := 2, Version := 1, Day := 20, ID := id, Time := time, Value := value }
def iG (id time value : Int) : Fact := { Ee with Kind := 2, Version := 2, Day := 21, Gone := true, ID := id, Time := time, Value := value }
theorem rJ {id time value : Int} (hi : 1 ≤ id ∧ id ≤ 9) (ht : 0 ≤ time ∧ time < 60) (hv : -10 ≤ value ∧ value < 50) : Bk (Uv id time value) = true := by
 unfold Bk
 have hf : fieldsOf (Uv id time value).Kind = [Co 1, Cl, Jh] := rfl
 have hr : Mr (Gl (Uv id time value).Kind) (Uv id time value) = true := rfl
 have hp : preB (Uv id time value) = false := rfl
 have hn : Ij [Co 1, Cl, Jh] (Uv id time value) = some (Lj 2 1 20 false) := by
   refine (if_neg (show ¬ (id < 1 ∨ (1000000 : Int) < id) by omega)).trans ?_
   refine (if_neg (show ¬ (time < 0 ∨ (1000000 : Int) < time) by omega)).trans ?_
   refine (if_neg (show ¬ (value < -1000000 ∨ (1000000 : Int) < value) by omega)).trans ?_
   rfl
 rw [hf, hr, hp, hn]
 show (true && (!(false || !true) && Cz (Lj 2 1 20 false) (Lj 2 1 20 false))) = true
 rw [Ow]; rfl
theorem rK {id time value : Int} (hi : 1 ≤ id ∧ id ≤ 9) (ht : 0 ≤ time ∧ time < 60) (hv : -10 ≤ value ∧ value < 50) : Bk (iG id time value) = true := by
 unfold Bk
 have hf : fieldsOf (iG id time value).Kind = [Co 1, Cl, Jh] := rfl
 have hr : Mr (Gl (iG id time value).Kind) (iG id time value) = true := rfl
 have hp : preB (iG id time value) = false := rfl
 have hn : Ij [Co 1, Cl, Jh] (iG id time value) = some (Lj 2 2 21 true) := by
   refine (if_neg (show ¬ (id < 1 ∨ (1000000 : Int) < id) by omega)).trans ?_
   refine (if_neg (show ¬ (time < 0 ∨ (1000000 : Int) < time) by omega)).trans ?_
   refine (if_neg (show ¬ (value < -1000000 ∨ (1000000 : Int) < value) by omega)).trans ?_
   rfl
 rw [hf, hr, hp, hn]
 show (true && (!(false || !true) && Cz (Lj 2 2 21 true) (Lj 2 2 21 true))) = true
 rw [Ow]; rfl
theorem wB {id time value : Int} (h1 : Bk (Uv id time value) = true) (h2 : Bk (iG id time value) = true) : A7 (Uv id time value) = A7 (iG id time value) := by
 unfold A7
 rw [if_pos h1, if_pos h2]
 rfl
theorem Z9 {L : List Fact} {m : Fact} (hv : Bk m = true) (hk : m.Kind = 2) (hL : ∀ f ∈ L, notM m.ID f = true) : ∀ g ∈ L, Bk g = true → A7 g ≠ A7 m := fun g hg hgv e => by
 have h1 := JV hgv hv hk e
 have h2 := hL g hg
 unfold notM at h2
 rw [decide_eq_true h1.1, decide_eq_true h1.2] at h2
 cases h2
theorem rL {L : List Fact} {m : Fact} {d : Int} (hval : Bk m = true) (hk : m.Kind = 2) (hg : m.Gone = false) (hd : m.Day ≤ d) (hL : ∀ f ∈ L, notM m.ID f = true) : LateB (D5 L d) (D5 (L ++ [m]) d) m := by
 have hE := uO (d := d) hval hd (Z9 hval hk hL)
 have hj : ∀ j : Nat, j < 11 → j ≠ 1 → Ef (D5 (L ++ [m]) d) j = Ef (D5 L d) j := fun j hj h1 => by
   refine pL hj fun x => ?_
   rw [hE]
   constructor
   · rintro ⟨h | h, h2⟩
     · rw [h, hk] at h2
       omega
     exact ⟨h, h2⟩
   rintro ⟨h, h2⟩
   exact ⟨.inr h, h2⟩
 have hm : ∀ x, x ∈ (D5 (L ++ [m]) d).Measures ↔ x = m ∨ x ∈ (D5 L d).Measures := fun x => by
   have h1 := Dc (l := L ++ [m]) (d := d) (j := 1) cQ (x := x)
   have h2 := Dc (l := L) (d := d) (j := 1) cQ (x := x)
   rw [hE] at h1
   refine h1.trans ⟨?_, ?_⟩
   · rintro ⟨h | h, h3, h4⟩
     · exact .inl h
     exact .inr (h2.2 ⟨h, h3, h4⟩)
   rintro (h | h)
   · exact ⟨.inl h, by rw [h]; exact hg, by rw [h]; exact hk⟩
   have h := h2.1 h
   exact ⟨.inr h.1, h.2⟩
 have hno : ∀ x ∈ (D5 L d).Measures, x.ID ≠ m.ID := fun x hx e => by
   have h := (Dc (j := 1) cQ).1 (show x ∈ Ef (D5 L d) 1 from hx)
   have h2 := hL x h.1.1
   unfold notM at h2
   rw [decide_eq_true (show x.Kind = 2 from h.2.2), decide_eq_true e] at h2
   cases h2
 refine ⟨hj 0 cQ cQ, hj 8 cQ cQ, hj 9 cQ cQ, ?_, Pz.2 ⟨(hm _).2 (.inl rfl), rfl⟩, fun i hi => ?_⟩
 · exact List.find?_eq_none.2 fun x hx => by simpa using hno x hx
 refine Option.ext fun x => ?_
 rw [Pz, Pz, hm]
 constructor
 · rintro ⟨h | h, e⟩
   · rw [h] at e; exact absurd e.symm hi
   exact ⟨h, e⟩
 rintro ⟨h, e⟩
 exact ⟨.inr h, e⟩
theorem rM {L : List Fact} {m n : Fact} {d : Int} (hm : Bk m = true) (hn : Bk n = true) (hk : A7 m = A7 n) (hv : m.Version < n.Version) (hd : n.Day ≤ d) (hL : ∀ g ∈ L, Bk g = true → A7 g ≠ A7 n) (x : Fact) : Mw (L ++ [m] ++ [n]) d x ↔ x = n ∨ Mw L d x := by
 have pm : ∀ y, (y = m ∨ y = n) → ∀ g ∈ L, Dp g y = false ∧ Dp y g = false := fun y hy g hg => by
   have ey : A7 y = A7 n := by rcases hy with rfl | rfl; exact hk; rfl
   constructor
   · rw [Bool.eq_false_iff]; intro h; have h := E5.1 h; exact hL g hg h.1 (h.2.2.1.trans ey)
   rw [Bool.eq_false_iff]; intro h; have h := E5.1 h; exact hL g hg h.2.1 (h.2.2.1.symm.trans ey)
 have hnm : Dp n m = true := E5.2 ⟨hn, hm, hk.symm, .inl hv⟩
 have hmn : Dp m n = false := by
   rw [Bool.eq_false_iff]; intro h
   rcases (E5.1 h).2.2.2 with h | h <;> omega
 have mem : ∀ y, y ∈ L ++ [m] ++ [n] ↔ y ∈ L ∨ y = m ∨ y = n := fun y => by simp
 constructor
 · rintro ⟨h1, h2, h3, h4⟩
   rcases (mem x).1 h1 with h | h | h
   · exact .inr ⟨h, h2, h3, fun g hg => h4 g ((mem g).2 (.inl hg))⟩
   · have := h4 n ((mem n).2 (.inr (.inr rfl))) hd
     rw [h, hnm] at this
     cases this
   exact .inl h
 rintro (h | ⟨h1, h2, h3, h4⟩)
 · rw [h]
   refine ⟨(mem n).2 (.inr (.inr rfl)), by unfold A7; rw [if_pos hn]; exact Q8 hn, hd, fun g hg _ => ?_⟩
   rcases (mem g).1 hg with hg | hg | hg
   · exact (pm n (.inr rfl) g hg).1
   · rw [hg]; exact hmn
   rw [hg]; exact Ln _
 refine ⟨(mem x).2 (.inl h1), h2, h3, fun g hg hgd => ?_⟩
 rcases (mem g).1 hg with hg | hg | hg
 · exact h4 g hg hgd
 · rw [hg]; exact (pm m (.inl rfl) x h1).2
 rw [hg]; exact (pm n (.inr rfl) x h1).2
theorem rN {x y : Base} (hxy : ∀ j, j < 11 → Ef x j = Ef y j) : x = y := by
 obtain ⟨x0, x1, x2, x3, x4, x5, x6, x7, x8, x9, x10⟩ := x
 obtain ⟨y0, y1, y2, y3, y4, y5, y6, y7, y8, y9, y10⟩ := y
 have g0 : x0 = y0 := hxy 0 cQ
 have g1 : x1 = y1 := hxy 1 cQ
 have g2 : x2 = y2 := hxy 2 cQ
 have g3 : x3 = y3 := hxy 3 cQ
 have g4 : x4 = y4 := hxy 4 cQ
 have g5 : x5 = y5 := hxy 5 cQ
 have g6 : x6 = y6 := hxy 6 cQ
 have g7 : x7 = y7 := hxy 7 cQ
 have g8 : x8 = y8 := hxy 8 cQ
 have g9 : x9 = y9 := hxy 9 cQ
 have g10 : x10 = y10 := hxy 10 cQ
 rw [g0, g1, g2, g3, g4, g5, g6, g7, g8, g9, g10]
theorem Wf {L : List Fact} {m n : Fact} {d : Int} (hm : Bk m = true) (hn : Bk n = true) (hk : A7 m = A7 n) (hv : m.Version < n.Version) (hd : n.Day ≤ d) (hL : ∀ g ∈ L, Bk g = true → A7 g ≠ A7 n) (hg : n.Gone = true) : D5 (L ++ [m] ++ [n]) d = D5 L d := rN fun j hj => by
 have := Tr (a := L ++ [m] ++ [n]) (b := L) (d := d) hj (p := fun _ => true) (q := fun _ => true) fun x => by
   rw [Dc hj, Dc hj, rM hm hn hk hv hd hL]
   constructor
   · rintro ⟨⟨h | h, h2, h3⟩, _⟩
     · rw [h, hg] at h2; cases h2
     exact ⟨⟨h, h2, h3⟩, rfl⟩
   rintro ⟨⟨h, h2, h3⟩, _⟩
   exact ⟨⟨.inr h, h2, h3⟩, rfl⟩
 rwa [List.filter_eq_self.2 (fun _ _ => rfl), List.filter_eq_self.2 (fun _ _ => rfl)] at this
theorem lP (kb : Base) (g : Grp) : Eg kb Ee g = false := by simp [Eg, Ee, Lj]
theorem wC {all : List Fact} {f : Fact} (hv : Bk f = true) (hk : f.Kind = 2) (hg : f.Gone = false) (hn : Eb (Az all 100000) (A7 f) = none) : Mn all [f] = ((G9 (D5 (all ++ [f]) 100000).Processes).filter fun g => mB (D5 (all ++ [f]) 100000) f g).length := by
 have hc : Jg (Az all 100000) f = true := (Js (T4 hv) hn).1.trans (by rw [hg]; rfl)
 have e1 : Az (all ++ [f]) 100000 = Hg (Az all 100000) (A7 f) f := by rw [← Rj hc]; unfold Az; rw [List.foldl_append]; rfl
 have e2 : H5 (Az (all ++ [f]) 100000) (A7 f) = f := by unfold H5; rw [e1, Lu, if_pos rfl]; rfl
 have e3 : H5 (Az all 100000) (A7 f) = Ee := by unfold H5; rw [hn]; rfl
 have e4 : Cz Ee f = false := by
   cases he : Cz Ee f with
   | false => rfl
   | true => rw [← O8.1 he] at hk; exact absurd hk cQ
 unfold Mn
 rw [P3, if_pos hc]
 congr 1
 refine List.filter_congr fun g _ => ?_
 rw [List.any_cons, List.any_nil, Bool.or_false]
 unfold Qz
 rw [e2, e3, lP, Bool.false_or, e4]
 unfold Eg
 rw [hg, if_neg oQ, if_pos hk]
 rfl
theorem rO {all : List Fact} {f m : Fact} (hv : Bk f = true) (hk : m.Kind = 2) (hm : m.Gone = false) (hg : f.Gone = true) (ho : Eb (Az all 100000) (A7 f) = some m) (hp : Dp f m = true) : Mn all [f] = ((G9 (D5 (all ++ [f]) 100000).Processes).filter fun g => mB (D5 (all ++ [f]) 100000) m g).length := by
 have hc : Jg (Az all 100000) f = true := (F3 (T4 hv) ho hp).1.trans (by rw [hm]; rfl)
 have e1 : Az (all ++ [f]) 100000 = Hg (Az all 100000) (A7 f) f := by rw [← Rj hc]; unfold Az; rw [List.foldl_append]; rfl
 have e2 : H5 (Az (all ++ [f]) 100000) (A7 f) = f := by unfold H5; rw [e1, Lu, if_pos rfl]; rfl
 have e3 : H5 (Az all 100000) (A7 f) = m := by unfold H5; rw [ho]; rfl
 have e4 : Cz m f = false := by
   cases he : Cz m f with
   | false => rfl
   | true => rw [O8.1 he, hg] at hm; cases hm
 have e5 : ∀ kb g, Eg kb f g = false := fun kb g => by unfold Eg; rw [hg]; rfl
 unfold Mn
 rw [P3, if_pos hc]
 congr 1
 refine List.filter_congr fun g _ => ?_
 rw [List.any_cons, List.any_nil, Bool.or_false]
 unfold Qz
 rw [e2, e3, e5, Bool.or_false, e4]
 unfold Eg
 rw [hm, if_neg oQ, if_pos hk]
 rfl
def F4 (kb : Base) (n : Nat) : List Dec := (List.range n).flatMap fun i => Fj kb ((i / 4 : Nat) : Int) ((i / 2 % 2 : Nat) : Int) (1 + ((i % 2 : Nat) : Int))
theorem Ho (kb : Base) (n : Nat) : F4 kb (n + 1) = F4 kb n ++ Fj kb ((n / 4 : Nat) : Int) ((n / 2 % 2 : Nat) : Int) (1 + ((n % 2 : Nat) : Int)) := by unfold F4; rw [List.range_succ, List.flatMap_append, List.flatMap_cons, List.flatMap_nil, List.append_nil]
theorem P4 {b c : Base} (h : ∀ t ch r, (Fj b t ch r).length = (Fj c t ch r).length) : ∀ n, (F4 b n).length = (F4 c n).length
 | 0 => rfl
 | n + 1 => by rw [Ho, Ho, List.length_append, List.length_append, P4 h n, h]
theorem aA {b c : Base} (h : ∀ t ch r, (Fj b t ch r).length = (Fj c t ch r).length) {i : Nat} {x y : Dec} : ∀ n : Nat, (F4 b n)[i]? = some x → (F4 c n)[i]? = some y → ∃ (t ch r : Int) (j : Nat), (Fj b t ch r)[j]? = some x ∧ (Fj c t ch r)[j]? = some y
 | 0, hx, _ => by simp [F4] at hx
 | n + 1, hx, hy => by
   rw [Ho] at hx hy
   have hl := P4 h n
   by_cases hi : i < (F4 b n).length
   · rw [List.getElem?_append_left hi] at hx
     rw [List.getElem?_append_left (by omega)] at hy
     exact aA h n hx hy
   rw [List.getElem?_append_right (by omega)] at hx
   rw [List.getElem?_append_right oQ, ← hl] at hy
   exact ⟨_, _, _, _, hx, hy⟩
theorem Pa (kb : Base) (hP : kb.Processes.length ≤ 100) : ∀ n, (F4 kb n).length ≤ 100 * n
 | 0 => Nat.le_refl _
 | n + 1 => by
   have h1 := Pa kb hP n
   have h2 := G8 kb ((n / 4 : Nat) : Int) ((n / 2 % 2 : Nat) : Int) (1 + ((n % 2 : Nat) : Int))
   rw [Ho, List.length_append, Jd]
   omega
theorem Ns (kb : Base) (hP : kb.Processes.length ≤ 100) : ∀ n, ∀ D ∈ F4 kb n, D.uses.length ≤ 100
 | 0, D, h => by simp [F4] at h
 | n + 1, D, h => by
   rw [Ho] at h
   rcases List.mem_append.1 h with h | h
   · exact Ns kb hP n D h
   have h1 := V3 kb _ _ _ D h
   have h2 := G8 kb ((n / 4 : Nat) : Int) ((n / 2 % 2 : Nat) : Int) (1 + ((n % 2 : Nat) : Int))
   omega
def BG (c : Base) (m : Fact) : Int := match Eo c m.ID with
 | some q => m.Value - Fa c.Targets q.Recipe q.Time
 | none => 0
def KL (c : Base) (m : Fact) (x y : Dec) : Prop :=
 (y = x ∧ m.ID ∉ x.uses ∧ ∃ E : Int, E.natAbs ≤ 1000000000 ∧ x.est = Bu E 4) ∨
 (y.run = x.run ∧ m.ID ∈ y.uses ∧ BG c m ≠ 0 ∧ (BG c m).natAbs ≤ 1000000000 ∧ ∃ E : Int, E.natAbs ≤ 1000000000 ∧ (E + BG c m).natAbs ≤ 1000000000 ∧ x.est = Bu E 4 ∧ y.est = Bu (E + BG c m) 4)
theorem iH {b : Base} {t ch r : Int} {j : Nat} {x : Dec} (h : (Fj b t ch r)[j]? = some x) : ∃ p, (Ey b t ch r)[j]? = some p ∧ x = { F2 b t ch r p.Time ((Ey b t ch r).take j) with run := p.ID } := by
 have hj := (List.getElem?_eq_some_iff.1 h).1
 rw [Jd] at hj
 exact ⟨_, List.getElem?_eq_getElem hj, Option.some.inj (h.symm.trans (uH (List.getElem?_eq_getElem hj)))⟩
theorem Qq {b c : Base} {m : Fact} (h : LateB b c m) (t ch r : Int) : (Fj b t ch r).length = (Fj c t ch r).length := by rw [Jd, Jd, Zt h]
theorem HZ {b c : Base} {m : Fact} (h : LateB b c m) (hk : KnB b) {t ch r : Int} {j : Nat} {x y : Dec} (hx : (Fj b t ch r)[j]? = some x) (hy : (Fj c t ch r)[j]? = some y) : KL c m x y := by
 obtain ⟨p, hp, rfl⟩ := iH hx
 obtain ⟨p', hp', rfl⟩ := iH hy
 rw [Zt h] at hp' ⊢
 obtain rfl := Option.some.inj (hp'.symm.trans hp)
 rcases pR h hk hp with ⟨h1, h2⟩ | ⟨q, E, h1, _, _, hr⟩
 · refine .inl ⟨by rw [h1], h2, (Ji b.Measures b.Targets r p'.Time (Dl (Gh b t ch p'.Time) ((Ey b t ch r).take j))).1, ?_, rfl⟩
   have h3 := L8 b.Measures b.Targets r p'.Time (Dl (Gh b t ch p'.Time) ((Ey b t ch r).take j))
   have h4 := Nl (Gh b t ch p'.Time) ((Ey b t ch r).take j)
   have h5 := G8 b t ch r
   have h6 : b.Processes.length ≤ 100 := hk.sh 0
   rw [List.length_take] at h4
   omega
 have hq : Eo c m.ID = some q := by
   have h2 := hk.find h1.mem
   unfold Eo at h2 ⊢
   rw [h.P, ← h1.id]
   exact h2
 have hV : BG c m = m.Value - Fa c.Targets r q.Time := by unfold BG; rw [hq, ← hr]
 refine .inr ⟨rfl, h1.use, ?_, by rw [hV]; exact h1.bd1, E, h1.bd2, by rw [hV]; exact h1.bd, h1.est, by rw [hV]; exact h1.est'⟩
 rw [hV]
 have := h1.nz
 omega
theorem iI {E V : Int} (h : V.natAbs ≤ 1000000000) : La (addN (Bu (E + V) 4) (Rt.mk (-(Bu E 4).n) (Bu E 4).d)) ((Bu (E + V) 4).d * (Bu E 4).d) = (Bu V 4, 0) := by
 have e1 : Rt.mk (-(Bu E 4).n) (Bu E 4).d = Bu (-E) 4 := AN E
 have e2 : (Bu E 4).d = (Bu (-E) 4).d := by rw [← e1]
 rw [e1, e2]
 have h2 := Xe (a := E + V) (b := -E) (by rw [show E + V + -E = V by omega]; exact h)
 rw [show E + V + -E = V by omega] at h2
 exact h2
theorem wD {V : Int} (h : V ≠ 0) : (Bu V 4).n ≠ 0 := fun e => by
 have h1 := Gd (n := V) (d := 4) cQ
 have h2 := I8 (n := V) (d := 4) cQ
 rw [e, Int.zero_mul] at h1
 rcases Int.mul_eq_zero.1 h1.symm with h3 | h3 <;> omega
theorem wF {L : List Fact} {k : List UInt8} (h : ∀ g ∈ L, Bk g = true → A7 g ≠ k) : Eb (Az L 100000) k = none := by
 cases hg : Eb (Az L 100000) k with
 | none => rfl
 | some g =>
   have hk : A7 g = k := by
     have hg2 := hg
     unfold Eb at hg2
     obtain ⟨q, hq, hqy⟩ := Option.map_eq_some_iff.1 hg2
     have hq1 := List.mem_of_find?_eq_some hq
     have hq2 : (q.1 == k) = true := List.find?_some (p := fun p : List UInt8 × Fact => p.1 == k) hq
     have := ((Ke L 100000).ok q hq1).1
     rw [← hqy, ← this]; simpa using hq2
   have he : Mw L 100000 g := Mj.2 (by rw [hk]; exact hg)
   exact absurd hk (h g he.1 (C1 he))
theorem rP {L : List Fact} {m n : Fact} (hm : Bk m = true) (hn : Bk n = true) (hk : A7 m = A7 n) (hK : m.Kind = 2) (hv : m.Version < n.Version) (hgm : m.Gone = false) (hgn : n.Gone = true) (hd : n.Day ≤ 100000) (hL : ∀ g ∈ L, Bk g = true → A7 g ≠ A7 n) (hP : (D5 (L ++ [m]) 100000).Processes = (D5 L 100000).Processes) : Mn L [m] = Mn (L ++ [m]) [n] := by
 have h0 : Eb (Az L 100000) (A7 m) = none := wF fun g hg hv e => hL g hg hv (e.trans hk)
 have hc : Jg (Az L 100000) m = true := (Js (T4 hm) h0).1.trans (by rw [hgm]; rfl)
 have e1 : Az (L ++ [m]) 100000 = Hg (Az L 100000) (A7 m) m := by rw [← Rj hc]; unfold Az; rw [List.foldl_append]; rfl
 have hp : Dp n m = true := E5.2 ⟨hn, hm, hk.symm, .inl hv⟩
 rw [wC hm hK hgm h0, rO hn hK hgm hgn (by rw [e1, Lu, ← hk, if_pos rfl]) hp, Wf hm hn hk hv hd hL hgn, ← hP]
 congr 1
 refine List.filter_congr fun g _ => ?_
 unfold mB Eo
 rw [hP]
theorem wG {L : List Fact} {m : Fact} (hK : m.Kind = 2) : Mn L [m] ≤ 1 := by
 have h := wA L m
 unfold rH at h
 rw [if_neg oQ, if_pos hK] at h
 exact h
theorem lQ {S0 : Nat → Prop} {w0 w : World} {Bs X Y : List Asr} (h : Wx.Sep S0 w0 w (Bs ++ [Dt X, Dt Y])) : Wx.Sep S0 w0 w (Bs ++ [Dt (X ++ Y)]) := by
 have h1 := Sep.unfold (Bs := Bs) (As := X) (rest := [Dt Y]) h
 have h2 := Sep.unfold (Bs := Bs ++ X) (As := Y) (rest := []) h1
 exact Oc (Bs := Bs) (As := X ++ Y) (rest := []) (by simpa only [List.append_assoc, List.append_nil] using h2)
theorem lR (ti : TypeId) (L M : List DP) : Ek ti L ++ Ek ti M = Ek ti (L ++ M) := by unfold Ek; rw [List.map_append]
theorem rQ {l : List Int} {k : Nat} {x n : Int} (h : n ∉ l.take k) (hx : l[k]? = some x) (hn : ¬ x = n) : n ∉ l.take (k + 1) := by
 rw [List.take_add_one, hx]
 intro e
 rcases List.mem_append.1 e with e | e
 · exact h e
 exact hn (List.mem_singleton.1 e).symm
theorem BH {t c r : Nat} (hc : c < 2) (hr : r < 2) : (4 * t + 2 * c + r) / 4 = t ∧ (4 * t + 2 * c + r) / 2 % 2 = c ∧ (4 * t + 2 * c + r) % 2 = r := by omega
def rR (n lo hi : Int) : Bool := decide (lo ≤ n) && decide (n ≤ hi)
structure Sg where
 mn : Int
 mx : Int
 t1 : Int
 s1 : Int
 t2 : Int
 s2 : Int
def Sg.cells (s : Sg) : Array Value := #[vi s.mn, vi s.mx, vi s.t1, vi s.s1, vi s.t2, vi s.s2]
theorem Sg.one (s : Sg) : s.cells.all (·.oneCell') = true := by simp [Sg.cells, show ∀ i : Int, (vi i).oneCell' = true from fun _ => rfl]
structure Wn where
 a : Int
 b : Int
 l : Int
def Wn.cells (s : Wn) : Array Value := #[vi s.a, vi s.b, vi s.l]
theorem Wn.one (s : Wn) : s.cells.all (·.oneCell') = true := by simp [Wn.cells, show ∀ i : Int, (vi i).oneCell' = true from fun _ => rfl]
def mC : Sg := ⟨10, 20, 1, 5, 2, 29⟩
def Qr (ad : Option Addr) (cp : Nat) : Array Value := #[vi 0, vi 1, vi 5, .slice ad 1 cp, .slice none 0 0]
theorem iJ {w : World} {B T : Nat} {cs ds : Array Value} {k : Nat} (h : Blk w B cs T) (hd : ∀ j, j < ds.size → cs[k + j]? = ds[j]?) : AggAt w B (0 + k) ds := fun j v hv => by
 have hj := (Array.getElem?_eq_some_iff.1 hv).1
 have := h.agg (k + j) v (by rw [hd j hj]; exact hv)
 rwa [← Nat.add_assoc] at this
section
variable {P : Program} {n : Nat} {l : Env} {w : World} {fn : Func} {RR : Ending → World → Prop}
theorem iK {t : Tmp} {T : TypeId} {B : Nat} {x : Value} (hr : fn.results = #[.cell t T]) (hv : lk l t = some (.eq (.pointer (some ⟨B, 0, none⟩)))) (hT : ∀ w, (isAgg T).run P w = .ok false w) (hx : w.cell? ⟨B, 0, none⟩ = some x) (hR : RR (.returned x) w) : KW n [] (bodyPost P fn RR .ret) l w := fun a ha =>
 ⟨ha.defers, x, by
   have h1 : a.tmps.getD t undef = .pointer (some ⟨B, 0, none⟩) := ha.val _ _ hv
   rw [Array.getD_eq_getD_getElem?] at h1
   simp [results, hr, h1, asAddr, Gy hT hx], hR⟩
end
structure Sk where
 rc : Int
 tl : List Int
 ta : Option Addr
 tc : Nat
 mn : Int
 mx : Int
 nx : List Int
 na : Option Addr
 nc : Nat
 bk : Int
 lm : Int
def Sk.tv (s : Sk) : Value := .slice s.ta s.tl.length s.tc
def Sk.nv (s : Sk) : Value := .slice s.na s.nx.length s.nc
def Sk.cells (s : Sk) : Array Value := #[vi s.rc, s.tv, vi s.mn, vi s.mx, s.nv, vi s.bk, vi s.lm]
theorem Sk.one (s : Sk) : s.cells.all (·.oneCell') = true := by simp [Sk.cells, Sk.tv, Sk.nv, Value.oneCell']
structure Sk.Good (s : Sk) : Prop where
 rc : s.rc = 1
 mn : s.mn = 10
 mx : s.mx = 20
 bk : s.bk = -1
 lm : s.lm = 0
 tl : s.tl.length = 1 ∧ ∀ x ∈ s.tl, rR x 0 59 = true
 nx : s.nx.length ≤ 1 ∧ ∀ x ∈ s.nx, rR x 0 2 = true
def rS : Wn := ⟨0, 2, 13⟩
structure FlE (w : World) (sa wa : Option Addr) (s0 s1 s2 : Sk) : Prop where
 E : Els w sa 7 Sk.cells [s0, s1, s2]
 g : ∀ s ∈ [s0, s1, s2], s.Good
 n0 : s0.nx = [1]
 n1 : s1.nx = [2]
 n2 : s2.nx = []
 p : ∀ s ∈ [s0, s1, s2], Els w s.ta 1 Br s.tl ∧ Els w s.na 1 Br s.nx
 W : Els w wa 3 Wn.cells [rS]
theorem FlE.up {w w' : World} {sa wa : Option Addr} {s0 s1 s2 : Sk} (h : FlE w sa wa s0 s1 s2) (u : Up w w') : FlE w' sa wa s0 s1 s2 := ⟨Els.up h.E u, h.g, h.n0, h.n1, h.n2, fun s hs => ⟨Els.up (h.p s hs).1 u, Els.up (h.p s hs).2 u⟩, Els.up h.W u⟩
def Ki (sa : Option Addr) (sc : Nat) (wa : Option Addr) (wc : Nat) : Array Value := #[vi 2, vi 5, .slice sa 3 sc, .slice wa 1 wc]
theorem PEv.dO {P : Program} {n : Nat} {ds : List Deferred} {l : Env} {w : World} {o : Oper} {v v' : Value} (h : PEv P n ds l w o v) (e : v = v') : PEv P n ds l w o v' := e ▸ h
theorem Nt {α : Type} {l : List α} {k : Nat} {x : α} (h : l[k]? = some x) : l.take (k + 1) = l.take k ++ [x] := by rw [List.take_add_one, h]; rfl
theorem Wg {l : List Int} {k : Nat} {x : Int} (h : l[k]? = some x) : l.attach[k]? = some ⟨x, List.mem_of_getElem? h⟩ := by
 obtain ⟨hk, rfl⟩ := List.getElem?_eq_some_iff.1 h
 rw [List.getElem?_eq_getElem (by rw [List.length_attach]; exact hk)]
 simp
def mD (o : Option Nat) : Array Value := #[.pointer (o.map fun b => (⟨b, 0, none⟩ : Addr))]
def Nu (t : Int) (ad : Option Addr) (m cp : Nat) : Array Value := #[vi t, .slice ad m cp]
def IA (xs : List (Option Nat)) (n : Nat) : Option Nat → List (Option Nat)
 | .none => xs
 | some b => xs.set n (some b)
def wH (cs : Array Value) (T : TypeId) : Option Nat → Asr
 | .none => pY
 | some b => Cc b cs T
theorem Rk {w : World} {ad : Option Addr} {l : List Int} (hE : Els w ad 1 Br l) (hne : l ≠ []) {B o : Nat} (e : ad = some ⟨B, o, none⟩) : B < w.heap.size := by
 cases l with
 | nil => exact absurd rfl hne
 | cons x l =>
   obtain ⟨B', o', e', hc⟩ := hE 0 x rfl
   rw [e] at e'
   cases e'
   exact block_lt_of_cell (hc 0 _ rfl)
def BT (b : Bool) : Array Value := #[.bool b]
theorem rT {α : Type} {enc : α → Array Value} {x0 : α} {u : Value} {w : World} {B : Nat} {e : TypeId} {m : Nat} (h1 : enc x0 = #[u]) (hB : Blk w B (List.replicate m u).toArray e) (hm : m ≤ maxLen) : OwnS w 0 e 1 enc (.slice (some ⟨B, 0, none⟩) m m) (List.replicate m x0) := by
 have hf : ((List.replicate m x0).flatMap fun x => (enc x).toList) = List.replicate m u := by
   clear hB hm
   induction m with
   | zero => rfl
   | succ m ih => rw [List.replicate_succ, List.flatMap_cons, ih, h1, List.replicate_succ]; rfl
 have h : OwnS w 0 e 1 enc (.slice (some ⟨B, 0, none⟩) (List.replicate m x0).length m) (List.replicate m x0) := by
   refine ⟨by rw [hf]; simp, .inr ⟨B, m, (List.replicate m u).toArray, rfl, Nat.zero_le _, hB, by simp, hm, by simp, ?_⟩⟩
   rw [hf]
   simp
 rw [List.length_replicate] at h
 exact h
section
variable {P : Program} {n : Nat} {ds : List Deferred} {l : Env} {w : World} {d : Option Tmp} {ty : TypeId} {ps : String} {af : Array Edge} {g : Option (Nat × Bool)}
theorem REv.yL {α : Type} {enc : α → Array Value} {x0 : α} {u : Value} {T e : TypeId} {i : TypeInfo} {x y : Operand} (h1 : enc x0 = #[u]) (hc : u.cells = #[u]) (hT : P.underlying T = some (.slice e)) (hi : P.info? e = some i) (hz : i.zero = some u) (hs : i.size = 1) (hb : i.bytes ≤ 8) (hx : Val l x (vi 3)) (hy : Val l y (vi 3)) :
   REv P n ds l w ⟨d, .makeSlice T x y, ty, ps, af, g⟩ (fun v w' => Up w w' ∧ ∃ B, w.heap.size ≤ B ∧ v = .slice (some ⟨B, 0, none⟩) 3 3 ∧ OwnS w' 0 e 1 enc (.slice (some ⟨B, 0, none⟩) 3 3) (List.replicate 3 x0)) := fun a ha => by
 have hr2 := run_make (P := P) w T e i u hT hi hz .i64 .i64 3 3 oQ (Int.le_refl _) oQ oQ
 rw [hs, Nat.mul_one, show (3 : Int).toNat = 3 from rfl] at hr2
 have e1 : madeCells u.cells 3 = (List.replicate 3 u).toArray := by
   apply Array.ext'
   rw [hc, toList_madeCells_one]
 rw [e1] at hr2
 have N := New.alloc w (List.replicate 3 u).toArray e
 exact ⟨_, _, Cm (by rw [ha.ev hx, ha.ev hy]; exact hr2), N.up, _, by rw [N.at_]; exact Nat.le_refl _, rfl, rT h1 N.blk cQ⟩
end
def iL (k : Nat) : List Bool := [false, decide (1 ≤ k), decide (2 ≤ k)]
theorem Nv {P : Program} {n : Nat} {ds : List Deferred} {l : Env} {w : World} {d : Option Tmp} {ty : TypeId} {ps : String} {af : Array Edge} {g : Option (Nat × Bool)} {T T' e : TypeId} {x : Operand} {p : Option Addr} (hT : P.underlying T = some (.pointer e)) (hx : Val l x (.pointer p)) : PEv P n ds l w ⟨d, .binOp .neq T x (.const (.pointer none)) T', ty, ps, af, g⟩ (.bool p.isSome) := fun a w' ha _ => by
 refine Cm ?_
 have e1 : a.eval (.const (.pointer none)) = .pointer none := rfl
 rw [ha.ev hx, e1, Sem.run_bind]
 have : (eqGuard .neq T x (.const (.pointer none)) (.pointer p) (.pointer none)).run P w' = .ok () w' := by unfold eqGuard; rfl
 rw [this]
 have hp : P.pointee T = e := by unfold Program.pointee; rw [hT]
 have h := run_neq_pointer_nil w' T p (by rw [hp]; exact hT)
 cases p <;> exact h
def dP (k j : Nat) : Ordering := if j = 0 ∨ (k = 0 ∧ j = 2) then .lt else if (k = 0 ∧ j = 1) ∨ (k = 1 ∧ j = 2) then .eq else .gt
def lS (k j : Nat) : Int := if k = 0 ∧ 2 ≤ j then 1 else if k = 1 ∧ 3 ≤ j then 2 else -1
def rU (b1 k : Nat) (b2 : Nat) : List (Option Nat) := [.none, some b1, if k = 0 then .none else some b2]
theorem BI {b1 b2 k j : Nat} (hj : j < 3) (h : dP k j = .lt) : (rU b1 k b2)[j]? = some .none ∧ lS k (j + 1) = lS k j := by
 unfold dP at h
 split at h
 · rename_i h1
   rcases h1 with rfl | ⟨rfl, rfl⟩
   · refine ⟨rfl, ?_⟩
     unfold lS
     rw [if_neg oQ, if_neg oQ, if_neg oQ, if_neg (by omega)]
   exact ⟨rfl, rfl⟩
 split at h <;> cases h
theorem BJ {b1 b2 k j : Nat} (h : dP k j = .eq) : (∃ b, (rU b1 k b2)[j]? = some (some b)) ∧ (iL k)[j]? = some false ∧ lS k j = -1 ∧ lS k (j + 1) = (j : Int) := by
 unfold dP at h
 split at h
 · cases h
 split at h
 · rename_i h1
   rcases h1 with ⟨rfl, rfl⟩ | ⟨rfl, rfl⟩
   · exact ⟨⟨_, rfl⟩, rfl, rfl, rfl⟩
   exact ⟨⟨_, rfl⟩, rfl, rfl, rfl⟩
 cases h
theorem BL {b1 b2 k j : Nat} (hj : j < 3) (hk : k ≤ 2) (h : dP k j = .gt) : (∃ b, (rU b1 k b2)[j]? = some (some b)) ∧ (iL k)[j]? = some true ∧ lS k (j + 1) = lS k j := by
 have : (k = 1 ∧ j = 1) ∨ (k = 2 ∧ j = 1) ∨ (k = 2 ∧ j = 2) := by
   unfold dP at h
   split at h
   · cases h
   split at h
   · cases h
   omega
 rcases this with ⟨rfl, rfl⟩ | ⟨rfl, rfl⟩ | ⟨rfl, rfl⟩ <;> exact ⟨⟨_, rfl⟩, rfl, rfl⟩
def dR (b1 : Nat) (z : Option Nat) : List (Option Nat) := [.none, some b1, z]
theorem BM {b1 k : Nat} {z : Option Nat} (hz : (k = 0 ∧ z = .none) ∨ (1 ≤ k ∧ z.isSome = true)) : ∃ b2, dR b1 z = rU b1 k b2 := by
 rcases hz with ⟨rfl, rfl⟩ | ⟨h, hz⟩
 · exact ⟨0, rfl⟩
 obtain ⟨b2, rfl⟩ := Option.isSome_iff_exists.1 hz
 exact ⟨b2, by unfold dR rU; rw [if_neg (by omega)]⟩
theorem wJ {k : Nat} (hk : k ≤ 2) (h : lS k 3 < 0) : k = 2 := match k, hk, h with
 | 0, _, h => absurd h cQ
 | 1, _, h => absurd h cQ
 | 2, _, _ => rfl
 | k + 3, h, _ => by omega
theorem BN {k : Nat} (hk : k ≤ 2) (h : ¬ lS k 3 < 0) : k < 2 := match k, hk, h with
 | 0, _, _ => by decide
 | 1, _, _ => by decide
 | 2, _, h => absurd cQ h
 | k + 3, h, _ => by omega
theorem PEv.wK {P : Program} {n : Nat} {ds : List Deferred} {l : Env} {w : World} {d : Option Tmp} {ty : TypeId} {ps : String} {af : Array Edge} {g : Option (Nat × Bool)} {T T' e : TypeId} {x : Operand} {ad : Option Addr} {m c : Nat} (hT : P.underlying T = some (.slice e)) (hx : Val l x (.slice ad m c)) : PEv P n ds l w ⟨d, .binOp .eql T x (.const (.slice none 0 0)) T', ty, ps, af, g⟩ (.bool ad.isNone) := fun a w' ha _ => by
 refine Cm ?_
 have e1 : a.eval (.const (.slice none 0 0)) = .slice none 0 0 := rfl
 rw [ha.ev hx, e1, Sem.run_bind]
 have : (eqGuard .eql T x (.const (.slice none 0 0)) (.slice ad m c) (.slice none 0 0)).run P w' = .ok () w' := by unfold eqGuard; rfl
 rw [this]
 exact Lib.run_eql_slice_nil w' T e ad m c 0 0 hT
theorem IB (k : Nat) : lS k 0 = -1 := by
 unfold lS
 rw [if_neg oQ, if_neg (by omega)]
end Go.Wx
namespace Go.Proofs.YtgjogglfnkgapaaGreatDoor
open Go.Proofs.Tryz
open Go.Wx Go.RowKit
theorem lT (v : Go.Value) (ks : List Int) (w : World) (h : OwnS w 0 3 1 Br v ks) (hlen : ks.length < 4611686018427387904) : Ret prog 54 #[v] w fun r w' => r = .tuple #[] ∧ Stp (J 3 1 Br v ks) (J 3 1 Br v (ks.mergeSort fun x y => decide (x ≤ y))) w w' := by
 have h0 := h
 obtain ⟨h1, ⟨rfl, hn⟩ | ⟨g, cap, cur, rfl, hg, hb, h2, h3, h4, h5⟩⟩ := h
 · have hks : ks = [] := List.eq_nil_of_length_eq_zero hn
   subst hks
   refine Calls.mono (Tryz.slices_Sort_int_none none 0 w) ?_
   rintro e' w' ⟨rfl, rfl⟩
   exact ⟨_, rfl, rfl, Fr.refl _ _, show OwnS w' 0 3 1 Br (.slice none 0 0) (List.mergeSort [] _) from by simpa using h0, fun _ h => .inl h⟩
 rw [Z8] at h5
 have hl : g < w.heap.size := lt_of_block hb
 refine Calls.mono (Tryz.slices_Sort_int g 0 cap ks w (Go.holds_of_blockI hb (by simpa using h5)) hl hlen) ?_
 rintro e' w' ⟨rfl, n, os, rfl⟩
 have hg2 := Go.grownBy_sortedI (w := w) (g := g) (n := n) (os := os) (ks.mergeSort fun x y => decide (x ≤ y)).toArray
 have ho := Go.ownsRow_sortedI (w := w) (n := n) (os := os) (ss := ks) (ts := ks.mergeSort fun x y => decide (x ≤ y)) (by simp) hg hb h2 h3 h4
 refine ⟨_, rfl, rfl, ⟨hg2.os, hg2.tape, hg2.output, hg2.size, fun i hi hn => hg2.block i hi (fun e => hn (by cases e; rfl))⟩, ?_, fun _ h => .inl h⟩
 show World.ownsRow _ _ _ _ _ _ _
 rw [Z8, List.length_mergeSort]
 exact ho
theorem dS (ad : Option Addr) (cp : Nat) (l : List Int) (w : World) (hE0 : Els w ad 1 Br l) (hl : l.length ≤ 1000000000) : Ret prog 94 #[.slice ad l.length cp] w fun r w' => OwnS w' w.heap.size 3 1 Br r l ∧ Up w w' := by
 obtain ⟨w0, rfl, hS⟩ := W0 w
 refine cT 8 func94 rfl (Af (Ay (Ao (Af (Ab rfl (I (.gG underlying34 (.t rfl)) (Ai (CW.b rfl (fun h4 => ?_) (fun h4 => ?_)))))))))
 ·have hnil : l = [] := by cases l with | nil => rfl | cons x r => (obtain ⟨B, o, e, _⟩ := hE0 0 x rfl; rw [e] at h4; cases h4)
  refine Af (Ay (Ai (Ak (Ap (KW.q ?_)))))
  (subst hnil; exact ⟨OwnS.nil _ _ _ _ _, hS.Cr⟩)
 refine Aj (Ac (Af (Al (.buildSlice (xs := ([] : List Int)) (enc := Br) (mk := vi) underlying34 sizeOf3 zeroValue3 rfl cQ (fun _ => rfl) (fun _ => rfl) .nil rfl) rfl ?_)))
 intro v5 w1 hN5
 obtain ⟨uw1, B5, rfl, hO5⟩ := M5 hN5 (Nat.le_refl _)
 replace hS := hS.add uw1 (A' := J 3 1 Br (.slice (some ⟨B5, 0, none⟩) 0 0) ([] : List Int)) (hO5.mono (Nat.zero_le _)) (fun i h => hO5.base i h)
 refine Ab rfl (Al (.C2 (enc := Br) (bytes := 8) (i := Tryz.t3) underlying34 kQ rfl rfl rfl rfl cQ (fun _ => rfl) Hx (.t rfl) (.t rfl) (hS.own 0 rfl) (Aw (Els.up hE0 hS.Cr)) (by simp [maxLen]; omega) (by simp; omega)) rfl ?_)
 intro v7 w2 Gw2
 replace hS := hS.Ez 0 rfl Gw2
 refine LW.A rfl (Ai (Ak (KW.q ?_)))
 exact ⟨(hS.own 0 rfl).I9 (fun i h => (hS.foot 0 rfl i h).resolve_left (fun h => h)), hS.Cr⟩
theorem Wh (E bf bd : Nat) (bc : Array Go.Value) (nw : Int) (kb : Base) (w : World) (hbc : bc.size = 11) (hE : Blk w E (EC bf bc bd nw) 107) (hC : BaseC w bc kb) (hlP : kb.Processes.length ≤ 100) (hlM : kb.Measures.length ≤ 100) (hlR : kb.Resets.length ≤ 100) (hlT : kb.Targets.length ≤ 100) (hV : ∀ f ∈ kb.Processes, J1 f.Value) : Ret prog 12 #[.pointer (some ⟨E, 0, none⟩)] w fun r w' => OwnS w' w.heap.size 3 1 Br r (Qp kb) ∧ Up w w' := by
 obtain ⟨w0, rfl, hS⟩ := W0 w
 refine cT 46 func12 rfl (Af (Ay (Ao (Af (Ab rfl (I (.fa (Fx underlying29 (.t rfl)) (rfl)) (Ai (CW.f rfl (Aj (Ac (Am (Am ?_))))))))))))
 obtain ⟨_, hvp, adp, cpp, rfl, hEp0⟩ := BaseC.at_ hC (j := 0) cQ
 replace hvp : bc[0]? = some (.slice adp kb.Processes.length cpp) := hvp
 have hEp : Els _ adp 19 Fact.cells kb.Processes := hEp0
 replace hS := hS.Ye (OwnS.nil _ 0 3 1 Br)
 refine Aa (Ab rfl (I (.nc rfl) (I (.fB 1 rfl) (I (.fB 0 rfl) (I (.lb rfl (qA (hE.up hS.Cr) hvp)) (I (.Di underlying25 (.t rfl)) (I (.move (.const _)) (Ai (An (A8 (σ := Nat × Go.Value) (fun s w => (s.1 ≤ kb.Processes.length) ∧ (Wx.Sep no w0 w [J 3 1 Br s.2 (My kb (kb.Processes.take s.1))])) (fun s => [(16, .eq (vi (s.1 : Int))), (2, .eq (s.2))]) ([(0, .eq _), (14, .eq _), (15, .eq _)]) (fun s => kb.Processes.length - s.1) (0, .slice none 0 0) ?_ tQ ?_))))))))))
 ·exact ⟨Nat.zero_le _, hS⟩
 rintro ⟨i, v⟩ w1 ⟨hi, hS⟩
 change CW _ _ _ _ _ _ _ ([(16, .eq (vi (i : Int))), (2, .eq (v))] ++ _) _
 refine Am ?_
 skip
 refine Aa (I (.l2 rfl rfl) (Ao (CW.b rfl (fun h17 => ?_) (fun h17 => ?_))))
 ·replace h17 := dQ h17
  refine Aj (Ac (Am (An (Am ?_))))
  have hil : i < kb.Processes.length := by omega
  obtain ⟨x, hx⟩ : ∃ x, kb.Processes[i]? = some x := ⟨_, List.getElem?_eq_getElem hil⟩
  obtain ⟨Bx, ox, ax, hcx⟩ := (Els.up hEp hS.Cr) i x hx
  have hll := T2 kb kb.Processes i
  refine Aa (I (.Av underlying25 sizeOf28 (j := i) (.t rfl) (.t rfl) oQ ax) (I (.lc rfl (hcx)) (Al (.Bm zeroValue28) rfl ?_)))
  rintro _ w2 ⟨B4, rfl, MB4⟩
  refine Be (.Bi sizeOf28 rfl (.t rfl) (.t rfl) (Fact.one _) MB4.blk rfl) ?_
  intro w3 LB4
  have NB4 := MB4.set LB4
  replace hS := hS.Bn NB4
  refine Ao (Q6 15 11 12 8 5 28 (DP.cells ⟨Nn, none, 0⟩) [.eq (.pointer (some ⟨E, 0, none⟩)), .eq (.pointer (some ⟨E, 0, none⟩)), .eq (.pointer (some ⟨E, 1, none⟩)), .eq (.agg bc), .eq (.pointer (some ⟨B4, 1, none⟩)), .eq (vi x.ID), .pred (fun v _ => ∃ ad cp, v = .tuple #[.agg (DP.cells ⟨(It kb x.ID).1, ad, cp⟩), .bool (It kb x.ID).2.1, vi (It kb x.ID).2.2]), .pred (fun v _ => ∃ ad cp, v = .tuple #[.agg (DP.cells ⟨(It kb x.ID).1, ad, cp⟩), .bool (It kb x.ID).2.1, vi (It kb x.ID).2.2]), .pred (fun v _ => ∃ ad cp, v = .agg (DP.cells ⟨(It kb x.ID).1, ad, cp⟩)), .eq (.bool (It kb x.ID).2.1), .eq (vi (It kb x.ID).2.2), .pred fun v _ => ∃ B, v = .pointer (some ⟨B, 0, none⟩), .eq undef, .eq (.bool (It kb x.ID).2.1), .eq (vi (It kb x.ID).2.2)] [6, 7] zeroValue44 sizeOf44 kQ rfl kQ kQ kQ kQ kQ kQ kQ rfl rfl ⟨_, _, _, rfl⟩ _ rfl ⟨_, _, _, rfl⟩ ⟨PhT.eq _ _, PhT.eq _ _, PhT.eq _ _, PhT.eq _ _, PhT.eq _ _, PhT.eq _ _, PhT.pred fun _ _ _ h _ => h, PhT.pred fun _ _ _ h _ => h, PhT.pred fun _ _ _ h _ => h, PhT.eq _ _, PhT.eq _ _, PhT.pred fun _ _ _ h _ => h, PhT.eq _ _, PhT.eq _ _, PhT.eq _ _, trivial⟩ rfl (fun v W h => let ⟨ad, cp, e⟩ := h; ⟨_, e, rfl, DP.one _⟩) (fun B W => ⟨B, rfl⟩) ?_ ?_)
  ·intro W hU0
   have hU := (Up.drew w3).trans hU0
   have hSW := hS.up hU
   have hEW := hE.up hSW.Cr
   have hCW := BaseC.up hC hSW.Cr
   refine aC (.inr ⟨rfl, TU.p (.mv rfl) rfl⟩) (aC (.inr ⟨rfl, TU.p (.nc rfl) rfl⟩) (aC (.inr ⟨rfl, TU.p (.fB 1 rfl) rfl⟩) (aC (.inr ⟨rfl, TU.p (.Gs isAgg50 sizeOf50 hbc (.t rfl) (O4 hEW)) rfl⟩) (aC (.inr ⟨rfl, TU.p (.fB 1 rfl) rfl⟩) (aC (.inr ⟨rfl, TU.p (.lb rfl (hSW.b1.Ah rfl)) rfl⟩) (aC (.inr ⟨rfl, TU.c (eC (.u rfl rfl) (IZ)) (Zn bc kb x.ID W hCW oQ oQ oQ oQ hV) (by rintro _ W1 ⟨v, rfl, ⟨ad, cp, rfl, _⟩, u⟩; exact ⟨u, ad, cp, rfl⟩)⟩) (aC (.inr ⟨rfl, TU.open (d := 27) rfl fun v hv => TU.p (.mv rfl) hv⟩) (aC (.inr ⟨rfl, TU.open (d := 20) rfl fun v hv => by obtain ⟨ad, cp, rfl⟩ := hv; exact TU.p (.xt rfl rfl) ⟨ad, cp, rfl⟩⟩) (aC (.inr ⟨rfl, TU.open (d := 20) rfl fun v hv => by obtain ⟨ad, cp, rfl⟩ := hv; exact TU.p (.xt rfl rfl) rfl⟩) (aC (.inr ⟨rfl, TU.open (d := 20) rfl fun v hv => by obtain ⟨ad, cp, rfl⟩ := hv; exact TU.p (.xt rfl rfl) rfl⟩) (aC (.inl (.inl rfl)) (aC (.inl (.inr rfl)) (aC (.inr ⟨rfl, TU.p (.assign (.t rfl)) rfl⟩) (aC (.inr ⟨rfl, TU.p (.assign (.t rfl)) rfl⟩) ?_))))))))))))))
   exact allL.nil
  intro w4 B5 g hU0 zB5_ _ hg
  have hU := (Up.drew w3).trans hU0
  have e6 : g 6 = .bool (It kb x.ID).2.1 := hg 13 _ 6 cQ rfl rfl
  have e7 : g 7 = vi (It kb x.ID).2.2 := hg 14 _ 7 cQ rfl rfl
  change LW _ _ _ _ _ _ _ _ ((5, _) :: (6, .eq (g 6)) :: (7, .eq (g 7)) :: _) _
  rw [e6, e7]
  replace hS := hS.up hU
  refine Ao (Aa (Ab rfl (I (.eql (.t rfl) (.const _)) (Ab rfl (Fk rfl rfl (LW.gr rfl (fun hc => PEv.not vQ) (I (.pa rfl (fun hp => (by exact .cond rfl (by simp_all)))) (Ai (CW.b rfl (fun h36 => ?_) (fun h36 => ?_))))))))))
  ·replace h36 := dQ h36
   refine Aa (Ab rfl (I (.fB 1 rfl) (I (.lb rfl (hS.b1.Ah rfl)) (Al (.buildSlice (xs := [x.ID]) (enc := Br) (mk := vi) underlying34 sizeOf3 zeroValue3 rfl cQ (fun _ => rfl) (fun _ => rfl) (.cu rfl) rfl) rfl ?_))))
   rintro _ w5 ⟨B40, cB40, rfl, NB40, yB40, xB40⟩
   replace hS := hS.up NB40.up
   have hE40 := xB40
   refine Al (.C2 (enc := Br) (bytes := 8) (i := Tryz.t3) underlying34 kQ rfl rfl rfl rfl cQ (fun _ => rfl) Hx (.t rfl) (.t rfl) (hS.own 0 rfl) (Aw hE40) (by simp [maxLen]; omega) (by simp; omega)) rfl ?_
   intro v41 w6 Gw6
   replace hS := hS.Ez 0 rfl Gw6
   refine LW.A rfl (LW.nil (Ae (Ac (Aa (I (.ic rfl oQ) (Ab rfl (LW.nil (Ar ?_))))))))
   exact ⟨(i + 1, v41), ⟨by show i + 1 ≤ _; omega, by rw [rD hx (by simpa [T0] using h36)]; exact hS.take 1⟩, tQ, by show kb.Processes.length - (i + 1) < kb.Processes.length - i; omega⟩
  replace h36 := dQ h36
  refine Aj (Ae (Ac (Aa (I (.ic rfl oQ) (Ab rfl (LW.nil (Ar ?_)))))))
  exact ⟨(i + 1, v), ⟨by show i + 1 ≤ _; omega, by rw [vW hx (by simpa [T0] using h36)]; exact hS.take 1⟩, tQ, by show kb.Processes.length - (i + 1) < kb.Processes.length - i; omega⟩
 replace h17 := dQ h17
 refine Bl (Ad (Ad (Aq (Ac (Am ?_)))))
 have hie : i = kb.Processes.length := by omega
 rw [hie, List.take_length] at hS
 refine Aa (Ab rfl (A3 (eC (.o rfl) (JA)) rfl (lT _ _ _ (hS.own 0 rfl) (by have := T2 kb kb.Processes kb.Processes.length; rw [List.take_length] at this; omega)) ?_))
 rintro _ w7 ⟨rfl, uw7⟩
 replace hS := hS.Ez 0 rfl uw7
 refine Ao (Aa (Ab rfl (LW.A rfl (Ai (Ak (KW.q ?_))))))
 exact ⟨(hS.own 0 rfl).I9 (fun i h => (hS.foot 0 rfl i h).resolve_left (fun h => h)), hS.Cr⟩
theorem IC {D : List DE} {kb : Base} {bd : Nat} {w : World} (hM : Mk.IMap Ca w bd (D.map DE.kv)) (hDD : (K7 D).holds w) (hk : ∀ g, g ∈ D.map (·.g) ↔ ∃ p ∈ kb.Processes, Ig p = g) (hd : ∀ e ∈ D, dk kb e) (t c r : Int) (ho : J1 t ∧ J1 c ∧ J1 r) : ∃ ad cp L, (∀ (n : Nat) (ds : List Deferred) (l : Env) (d : Option Tmp) (ty : TypeId) (ps : String) (af : Array Edge) (g : Option (Nat × Bool)) (mo x : Operand), Val l mo (.map (some bd)) → Val l x (.agg (Grp.mk t c r).cells) → PEv Tryz.prog n ds l w ⟨d, .lookup 105 mo x false, ty, ps, af, g⟩ (.slice ad (List.length (α := DP) L) cp)) ∧ Els w ad 6 DP.cells L ∧ (∀ p ∈ L, Sl w p.uv 1 Br p.dec.uses) ∧ L.map DP.dec = Fj kb t c r := by
 by_cases h : (Grp.mk t c r) ∈ D.map (·.g)
 · obtain ⟨e, he, hg⟩ := List.mem_map.1 h
   have hA : (aL e).holds w := hDD.1 _ (List.mem_map.2 ⟨e, he, rfl⟩)
   have hO : OwnS w 0 44 6 DP.cells e.v e.L := hA.1 _ List.mem_cons_self
   have hU : (Dt (Ek 3 e.L)).holds w := hA.1 _ (List.mem_cons_of_mem _ List.mem_cons_self)
   obtain ⟨ad, cp, hv, hE⟩ := hO.sl (fun _ => rfl)
   refine ⟨ad, cp, e.L, fun n ds l d ty ps af g mo x hm hx => ?_, hE, I0 hU, ?_⟩
   · exact Mk.PEv.D0 (Q := Ca) (ok := false) (v := .slice ad e.L.length cp) underlying105 Jz (show Ca.ok (Grp.mk t c r) from ho) hm hx hM (List.mem_map.2 ⟨e, he, by unfold DE.kv; rw [hg, hv]⟩)
   have := hd e he
   unfold dk at this
   rw [hg] at this
   exact this
 refine ⟨none, 0, [], fun n ds l d ty ps af g mo x hm hx => ?_, fun i x hx => (by simp at hx), fun _ h => (by cases h), ?_⟩
 · exact Mk.PEv.Gf (Q := Ca) (ok := false) underlying105 Jz (show Ca.ok (Grp.mk t c r) from ho) zeroValue32 hm hx hM (by rw [O5]; exact h)
 rcases rF (b := kb) (t := t) (c := c) (r := r) with h1 | h1
 · exact absurd ((hk _).2 h1) h
 rw [h1]; rfl
theorem lU (E bf bd : Nat) (bc : Array Go.Value) (nw : Int) (D : List DE) (kb : Base) (t c r : Int) (w : World) (hbc : bc.size = 11) (ho : J1 t ∧ J1 c ∧ J1 r) (hlP : kb.Processes.length ≤ 100) (hk : ∀ g, g ∈ D.map (·.g) ↔ ∃ p ∈ kb.Processes, Ig p = g) (hd : ∀ e ∈ D, dk kb e) (hE : Blk w E (EC bf bc bd nw) 107) (hM : Mk.IMap Ca w bd (D.map DE.kv)) (hDD : (K7 D).holds w) : Ret prog 40 #[.pointer (some ⟨E, 0, none⟩), vi t, vi c, vi r] w fun r0 w' => ∃ v L, r0 = v ∧ L.map DP.dec = Fj kb t c r ∧ Wx.Sep no w w' [J 44 6 DP.cells v L, Dt (Ek 3 L)] := by
 obtain ⟨w0, rfl, hS⟩ := W0 w
 refine cT 37 func40 rfl (Af (Ay (Ao (Af (Ab rfl (I (.fa (Fx underlying29 (.t rfl)) (rfl)) (Ai (CW.f rfl (Aj (Ac (Am (Am ?_))))))))))))
 obtain ⟨ad0, cp0, Ls, hlk, hEl, hUs, hdec⟩ := IC (Mk.IMap.up hM hS.Cr) ((K7 D).keep _ _ hDD (fun _ _ hl => hS.Cr.block hl) hS.Cr.size) hk hd t c r ho
 have hLn : Ls.length ≤ 100 := by have h1 := Jd kb t c r; have h2 := G8 kb t c r; rw [← hdec, List.length_map] at h1; omega
 have huse : ∀ x ∈ Ls, x.dec.uses.length ≤ 1000000000 := fun x hx => by have h1 := V3 kb t c r x.dec (by rw [← hdec]; exact List.mem_map.2 ⟨x, hx, rfl⟩); have h2 := G8 kb t c r; omega
 replace hS := hS.add (Up.refl _) (A' := J 44 6 DP.cells (.slice none 0 0) ([] : List DP)) (OwnS.nil _ _ _ _ _) (by intro i h; cases h)
 replace hS := hS.add (Up.refl _) (A' := Dt (Ek 3 [])) ⟨by simp [Ek], by simp [Ek]⟩ (by rintro i ⟨A, hA, _⟩; simp [Ek] at hA)
 refine Aa (Ab rfl (I (.nc rfl) (I (.fB 12 rfl) (I (.lb rfl ((hE.up hS.Cr).cell (Nq hbc))) (Ab rfl (Ab rfl (Ab rfl (I (.build (cs := (Grp.mk t c r).cells) underlying123 zeroValue123 Ld (.ct rfl (.ct rfl (.cu rfl))) rfl) (I (hlk _ _ _ _ _ _ _ _ _ _ (.t rfl) (.t rfl)) (I (.Di underlying32 (.t rfl)) (I (.move (.const _)) (Ai (An (A8 (σ := Nat × Go.Value × List DP) (fun s w => (s.1 ≤ Ls.length) ∧ (s.2.2.map DP.dec = (Ls.take s.1).map DP.dec) ∧ (Wx.Sep no w0 w [J 44 6 DP.cells s.2.1 s.2.2, Dt (Ek 3 s.2.2)])) (fun s => [(23, .eq (vi (s.1 : Int))), (8, .eq (s.2.1))]) ([(21, .eq _), (22, .eq _)]) (fun s => Ls.length - s.1) (0, .slice none 0 0, []) ?_ tQ ?_))))))))))))))
 ·exact ⟨Nat.zero_le _, rfl, hS⟩
 rintro ⟨i, v, L⟩ w1 ⟨hi, hL, hS⟩
 dsimp only at hi hL hS
 have hLl : L.length ≤ i := by have h := congrArg List.length hL; rw [List.length_map, List.length_map, List.length_take] at h; omega
 change CW _ _ _ _ _ _ _ ([(23, .eq (vi (i : Int))), (8, .eq (v))] ++ _) _
 refine Af (I (.l2 rfl rfl) (Ao (CW.b rfl (fun h24 => ?_) (fun h24 => ?_))))
 ·replace h24 := dQ h24
  refine Aj (Ac (Am (An (Am ?_))))
  have hil : i < Ls.length := by omega
  obtain ⟨x, hx⟩ : ∃ x, Ls[i]? = some x := ⟨_, List.getElem?_eq_getElem hil⟩
  obtain ⟨Bx, ox, ax, hcx⟩ := (Els.up hEl hS.Cr) i x hx
  have hxm := List.mem_of_getElem? hx
  refine Aa (I (.Av underlying32 sizeOf44 (j := i) (.t rfl) (.t rfl) oQ ax) (I (.lc rfl (hcx)) (Al (.Bm zeroValue44) rfl ?_)))
  rintro _ w2 ⟨B10, rfl, MB10⟩
  refine Be (.Bi sizeOf44 rfl (.t rfl) (.t rfl) (DP.one _) MB10.blk rfl) ?_
  intro w3 LB10
  have NB10 := MB10.set LB10
  replace hS := hS.Bn NB10
  refine Ao (Aa (I (.fB 5 rfl) (I (.lb rfl (hS.b2.Ah rfl)) ?_)))
  have huL : x.dec.uses.length ≤ 1000000000 := huse x hxm
  refine A3 (eC (.o rfl) (sE)) rfl (dS x.ad x.cp x.dec.uses _ (Els.up (BE (hUs x hxm)) hS.Cr) huL) ?_
  rintro v29 w4 ⟨hO29, uw4⟩
  replace hS := hS.add uw4 (A' := J 3 1 Br v29 x.dec.uses) (hO29.mono (Nat.zero_le _)) (fun i h => (hO29.base i h))
  obtain ⟨ad29, cp29, rfl, _⟩ := hO29.sl (fun _ => rfl)
  refine I (.fB 5 rfl) (Be (.store sizeOf34 (.t rfl) (.t rfl) rfl hS.b2 bQ) ?_)
  intro w5 Nw5
  replace hS := hS.Cp 2 rfl (show Set_ _ w5 _ (DP.cells (⟨x.dec, ad29, cp29⟩ : DP)) _ from Nw5)
  refine Ai (Aa (Ab rfl (I (.lc rfl (hS.b2.agg)) (Al (.buildSlice (xs := [(⟨x.dec, ad29, cp29⟩ : DP)]) (enc := DP.cells) (mk := fun p => .agg p.cells) underlying32 sizeOf44 zeroValue44 rfl cQ (fun _ => rfl) (fun _ => rfl) (.cu rfl) rfl) rfl ?_))))
  rintro _ w6 ⟨B33, cB33, rfl, NB33, yB33, xB33⟩
  replace hS := hS.up NB33.up
  have hE33 := xB33
  refine Al (.C2 (enc := DP.cells) (bytes := 64) (i := Tryz.t44) underlying32 kQ rfl rfl rfl rfl cQ (fun _ => rfl) DP.one (.t rfl) (.t rfl) (hS.own 0 rfl) (Aw hE33) (by simp [maxLen]; omega) (by simp; omega)) rfl ?_
  intro v34 w7 Gw7
  replace hS := hS.Ez 0 rfl Gw7
  refine LW.A rfl (LW.nil (Ae (Ac ?_)))
  have h9 := Vz (Bs := [_]) (hS.sub (.cons_cons _ (.cons_cons _ (.cons _ (.cons_cons _ .slnil)))))
  replace h9 : Wx.Sep no w0 w7 ([_] ++ [Dt (Ek 3 L ++ [J 3 1 Br (DP.uv (⟨x.dec, ad29, cp29⟩ : DP)) (DP.dec (⟨x.dec, ad29, cp29⟩ : DP)).uses])]) := h9
  rw [Tg] at h9
  refine Aa (I (.ic rfl oQ) (Ab rfl (LW.nil (Ar ?_))))
  exact ⟨(i + 1, v34, L ++ [(⟨x.dec, ad29, cp29⟩ : DP)]), ⟨by show i + 1 ≤ _; omega, by rw [List.map_append, hL, List.take_add_one, hx, List.map_append]; rfl, h9⟩, tQ, by show Ls.length - (i + 1) < Ls.length - i; omega⟩
 replace h24 := dQ h24
 refine Bl (Ad (Ad (Aq (Ac (Af (Ab rfl (LW.A rfl (Ai (Ak (KW.q ?_))))))))))
 have hie : i = Ls.length := by omega
 rw [hie, List.take_length] at hL
 exact ⟨_, L, rfl, hL.trans hdec, hS⟩
theorem P5 (c n : Int) (w : World) (hn : n ≠ 0) : Ret prog 7 #[vi c, vi n] w fun r w' => r = vi (A5 c n) ∧ Up w w' := by
 have hW := Up.refl w
 refine cT 13 func7 rfl (Af (Ay (Ao (Af (Ab rfl (I (.lss (.t rfl) (.const _)) (Ai (CW.b rfl (fun h6 => ?_) (fun h6 => ?_)))))))))
 ·replace h6 := dQ h6
  refine Aa (Ab rfl (I (.Gr (.t rfl) (.const _)) (I (.neg underlying3 (.t rfl)) (LW.A rfl (Ao (Aa (Ab rfl (Ab rfl (I (.rem (.t rfl) (.t rfl) oQ) (LW.A rfl (Ai (Ak (KW.q ?_)))))))))))))
  exact ⟨by (rw [A5, if_pos h6]), hW⟩
 replace h6 := dQ h6
 refine Aj (Ac (Af (Ab rfl (Ab rfl (I (.rem (.t rfl) (.t rfl) oQ) (LW.A rfl (Ai (Ak (KW.q ?_)))))))))
 exact ⟨by (rw [A5, if_neg (by omega)]), hW⟩
theorem aB (ad : Option Addr) (cp : Nat) (l : List Int) (n : Int) (w : World) (hE : Els w ad 1 Br l) (hl : l.length ≤ 1000000000) : Ret prog 16 #[.slice ad l.length cp, vi n] w fun r w' => r = .bool (decide (n ∈ l)) ∧ Up w w' := by
 have hW := Up.refl w
 obtain ⟨w0, rfl, _⟩ := W0 w
 refine cT 18 func16 rfl (Af (Ay (Ao (Af (Ay (Ai (An (A8 (σ := Nat) (fun s w => (s ≤ l.length) ∧ (n ∉ l.take s) ∧ (Up w0 w)) (fun s => [(5, .eq (vi (s : Int)))]) ([(0, .eq _), (1, .eq _)]) (fun s => l.length - s) 0 ?_ tQ ?_))))))))
 ·exact ⟨Nat.zero_le _, (fun h => by simp at h), hW⟩
 rintro k w1 ⟨hk, hT, hW⟩
 refine Am (Af (Ab rfl (Ab rfl (I (.Di underlying34 (.t rfl)) (I (.l2 rfl rfl) (Ai (CW.b rfl (fun h9 => ?_) (fun h9 => ?_))))))))
 ·replace h9 := dQ h9
  refine Aj (Ac (Am (An (Am ?_))))
  have hkl : k < l.length := Int.ofNat_lt.1 h9
  refine Aa (Ab rfl (Ab rfl ?_))
  obtain ⟨x, hx⟩ := Au (xs := l) (i := k) oQ
  obtain ⟨Bx, ox, ax, hcx⟩ := (Els.up hE hW) _ x hx
  refine I (.Av underlying34 sizeOf3 (.t rfl) (.t rfl) oQ ax) (I (.lb rfl (hcx.nth (j := 0) rfl)) (Ab rfl (I (.eql (.t rfl) (.t rfl)) (Ai (CW.b rfl (fun h17 => ?_) (fun h17 => ?_))))))
  ·replace h17 := dQ h17
   have hr : decide (n ∈ l) = true := decide_eq_true (h17 ▸ List.mem_of_getElem? hx)
   refine Af (Ay (Ai (Ak (A9 (Ap (Ap (A9 (Ap (KW.q ?_)))))))))
   exact ⟨by rw [hr], hW⟩
  replace h17 := dQ h17
  refine Aj (Ae (Ac (Aa (Ab rfl (I (.ic rfl oQ) (LW.A rfl (LW.nil (Ar ?_))))))))
  exact ⟨k + 1, ⟨by omega, rQ hT hx h17, hW⟩, tQ, by omega⟩
 replace h9 := dQ h9
 have hkl : k = l.length := by have : ¬ k < l.length := fun h => h9 (Int.ofNat_lt.2 h); omega
 rw [hkl, List.take_length] at hT
 have hr : decide (n ∈ l) = false := decide_eq_false hT
 refine Bl (Ad (Ad (Aq (Ac (Af (Ay (Ai (Ak (KW.q ?_)))))))))
 exact ⟨by rw [hr], hW⟩
theorem P6 (E bf bd : Nat) (bc : Array Go.Value) (nw : Int) (D : List DE) (kb : Base) (w : World) (hbc : bc.size = 11) (hlP : kb.Processes.length ≤ 100) (hk : ∀ g, g ∈ D.map (·.g) ↔ ∃ p ∈ kb.Processes, Ig p = g) (hd : ∀ e ∈ D, dk kb e) (hE : Blk w E (EC bf bc bd nw) 107) (hM : Mk.IMap Ca w bd (D.map DE.kv)) (hDD : (K7 D).holds w) : Ret prog 11 #[.pointer (some ⟨E, 0, none⟩)] w fun r0 w' => ∃ v M, r0 = v ∧ M.map DP.dec = F4 kb 8 ∧ Wx.Sep no w w' [J 44 6 DP.cells v M, Dt (Ek 3 M)] := by
 obtain ⟨w0, rfl, hS⟩ := W0 w
 refine cT 27 func11 rfl (Af (Ay (Ao (Aa (Ay (Ao (Am ?_)))))))
 replace hS := hS.Ye (OwnS.nil _ 0 44 6 DP.cells)
 replace hS := hS.add (Up.refl _) (A' := Dt (Ek 3 [])) ⟨fun A h => by simp [Ek] at h, List.Pairwise.nil⟩ (fun i h => by obtain ⟨A, h, _⟩ := h; simp [Ek] at h)
 refine Aa (Ay (Ai (An (A8 (σ := Nat × Go.Value × List DP) (fun s w => (s.1 ≤ 2) ∧ (s.2.2.map DP.dec = F4 kb (4 * s.1)) ∧ (Wx.Sep no w0 w [J 44 6 DP.cells s.2.1 s.2.2, Dt (Ek 3 s.2.2)])) (fun s => [(4, .eq (vi ((s.1 : Int)))), (3, .eq (s.2.1))]) ([(0, .eq _), (2, .eq _)]) (fun s => 2 - s.1) (0, .slice none 0 0, []) ?_ tQ ?_))))
 ·exact ⟨Nat.zero_le _, rfl, hS⟩
 rintro ⟨t, v, M⟩ w1 ⟨ht, hm, hS⟩
 dsimp only at ht hm hS
 change CW _ _ _ _ _ _ _ ([(4, .eq (vi ((t : Int)))), (3, .eq (v))] ++ _) _
 refine Am (Af (Ab rfl (I (.lss (.t rfl) (.const _)) (Ai (CW.b rfl (fun h8 => ?_) (fun h8 => ?_))))))
 ·replace h8 := dQ h8
  refine Aj (Ac (Am (An (Am ?_))))
  refine Aa (Ay (Ai (An (A8 (σ := Nat × Go.Value × List DP) (fun s w => (s.1 ≤ 2) ∧ (s.2.2.map DP.dec = F4 kb (4 * t + 2 * s.1)) ∧ (Wx.Sep no w0 w [J 44 6 DP.cells s.2.1 s.2.2, Dt (Ek 3 s.2.2)])) (fun s => [(5, .eq (vi ((s.1 : Int)))), (3, .eq (s.2.1))]) ([(0, .eq _), (2, .eq _), (4, .eq _)]) (fun s => 2 - s.1) (0, v, M) ?_ tQ ?_))))
  ·exact ⟨Nat.zero_le _, hm, hS⟩
  rintro ⟨c, v, M⟩ w2 ⟨hc, hm, hS⟩
  dsimp only at hc hm hS
  change CW _ _ _ _ _ _ _ ([(5, .eq (vi ((c : Int)))), (3, .eq (v))] ++ _) _
  refine Am (Af (Ab rfl (I (.lss (.t rfl) (.const _)) (Ai (CW.b rfl (fun h12 => ?_) (fun h12 => ?_))))))
  ·replace h12 := dQ h12
   refine Aj (Ac (Am (An (Am ?_))))
   have hc2 : c < 2 := Int.ofNat_lt.1 h12
   refine Aa (Ay (Ai (An (A8 (σ := Nat × Go.Value × List DP) (fun s w => (s.1 ≤ 2) ∧ (s.2.2.map DP.dec = F4 kb (4 * t + 2 * c + s.1)) ∧ (Wx.Sep no w0 w [J 44 6 DP.cells s.2.1 s.2.2, Dt (Ek 3 s.2.2)])) (fun s => [(6, .eq (vi (1 + (s.1 : Int)))), (3, .eq (s.2.1))]) ([(0, .eq _), (2, .eq _), (4, .eq _), (5, .eq _)]) (fun s => 2 - s.1) (0, v, M) ?_ tQ ?_))))
   ·exact ⟨Nat.zero_le _, hm, hS⟩
   rintro ⟨r, v, M⟩ w3 ⟨hr, hm, hS⟩
   dsimp only at hr hm hS
   change CW _ _ _ _ _ _ _ ([(6, .eq (vi (1 + (r : Int)))), (3, .eq (v))] ++ _) _
   refine Am (Af (Ab rfl (I (.leq (.t rfl) (.const _)) (Ai (CW.b rfl (fun h16 => ?_) (fun h16 => ?_))))))
   ·replace h16 := dQ h16
    refine Aj (Ac (Am (An ?_)))
    have hr2 : r < 2 := by omega
    refine Aa (Ab rfl (Ab rfl (Ab rfl (Ab rfl (Ab rfl (A3 (eC (.ct rfl (.ct rfl (.ct rfl (.cu rfl)))) (IQ)) rfl (lU E bf bd bc nw D kb (t : Int) (c : Int) (1 + (r : Int)) _ hbc ⟨by unfold J1; omega, by unfold J1; omega, by unfold J1; omega⟩ hlP hk hd (hE.up hS.Cr) (Mk.IMap.up hM hS.Cr) ((K7 D).keep _ _ hDD (fun _ _ hl => hS.Cr.block hl) (Up.size hS.Cr))) ?_))))))
    rintro _ w4 ⟨v24, M24, rfl, hm24, hT24⟩
    replace hS := hS.join hT24
    have hl24 : M24.length ≤ 100 := by have h1 := congrArg List.length hm24; rw [List.length_map, Jd] at h1; have h2 := G8 kb (t : Int) (c : Int) (1 + (r : Int)); omega
    have hlM : M.length ≤ 800 := by have h1 := congrArg List.length hm; rw [List.length_map] at h1; have h2 := Pa kb hlP (4 * t + 2 * c + r); omega
    refine Al (.C2 (enc := DP.cells) (bytes := 64) (i := Tryz.t44) underlying32 kQ rfl rfl rfl rfl cQ (fun _ => rfl) DP.one (.t rfl) (.t rfl) (hS.own 0 rfl) ((hS.own 2 rfl).sl (fun _ => rfl)) (by simp [maxLen]; omega) oQ) rfl ?_
    intro v25 w5 Gw5
    replace hS := hS.Ez 0 rfl Gw5
    replace hS := lQ (Bs := [_]) ((hS.sub (.cons_cons _ (.cons_cons _ (.cons _ (.cons_cons _ .slnil))))))
    rw [lR] at hS
    refine LW.A rfl (LW.nil (Ae (Ac (Aa (Ab rfl (I (.as (v' := vi (1 + ((r + 1 : Nat) : Int))) (PEv.add (.t rfl) (.const _) oQ oQ) (by rw [show (1 + ((r + 1 : Nat) : Int)) = 1 + (r : Int) + 1 by omega])) (LW.A rfl (LW.nil (Ar ?_)))))))))
    exact ⟨(r + 1, v25, M ++ M24), ⟨by show r + 1 ≤ 2; omega, by show (M ++ M24).map DP.dec = F4 kb (4 * t + 2 * c + r + 1); rw [List.map_append, hm, hm24, Ho, (BH hc2 hr2).1, (BH hc2 hr2).2.1, (BH hc2 hr2).2.2], hS⟩, tQ, by show 2 - (r + 1) < 2 - r; omega⟩
   replace h16 := dQ h16
   refine Bl (Ad (Ad (Aq (Ae (Ac ?_)))))
   have hr2 : r = 2 := by omega
   subst hr2
   refine Aa (Ab rfl (I (.ic rfl oQ) (LW.A rfl (LW.nil (Ar ?_)))))
   exact ⟨(c + 1, v, M), ⟨by show c + 1 ≤ 2; omega, by show M.map DP.dec = F4 kb (4 * t + 2 * (c + 1)); exact hm, hS⟩, tQ, by show 2 - (c + 1) < 2 - c; omega⟩
  replace h12 := dQ h12
  refine Bl (Ad (Ad (Aq (Ae (Ac ?_)))))
  have hc2 : c = 2 := by have : ¬ c < 2 := fun h => h12 (Int.ofNat_lt.2 h); omega
  subst hc2
  refine Aa (Ab rfl (I (.ic rfl oQ) (LW.A rfl (LW.nil (Ar ?_)))))
  exact ⟨(t + 1, v, M), ⟨by show t + 1 ≤ 2; omega, by show M.map DP.dec = F4 kb (4 * (t + 1)); exact hm, hS⟩, tQ, by show 2 - (t + 1) < 2 - t; omega⟩
 replace h8 := dQ h8
 refine Bl (Ad (Ad (Aq (Ac (Am ?_)))))
 have ht2 : t = 2 := by have : ¬ t < 2 := fun h => h8 (Int.ofNat_lt.2 h); omega
 subst ht2
 refine Aa (Ab rfl (LW.A rfl (Ai (Ak (KW.q ?_)))))
 exact ⟨_, _, rfl, hm, hS⟩
theorem Hp (n lo hi : Int) (w : World) : Ret prog 196 #[vi n, vi lo, vi hi] w fun r w' => r = .bool (rR n lo hi) ∧ Up w w' := by
 have hW := Up.refl w
 refine cT 15 func196 rfl (Af (Ay (Ao (Aa (Ab rfl (Ab rfl (I (.geq (.t rfl) (.t rfl)) (Ab rfl (Fk rfl rfl (Fk rfl rfl (LW.gr rfl (fun hc => PEv.leq vQ vQ) (I (.pa rfl (fun hp => (by exact .cond rfl (by (rw [hp]; rfl))))) (LW.A rfl (Ai (Ak (KW.q ?_))))))))))))))))
 exact ⟨by unfold rR; simp, hW⟩
theorem T5 (t s d : Int) (w : World) (hd : 0 ≤ d ∧ d ≤ 10000) : Ret prog 293 #[.agg (#[vi t, vi s] : Array Go.Value), vi d] w fun r w' => r = .bool (rR t 0 59 && rR s 0 (1000000 - d)) ∧ Up w w' := by
 obtain ⟨w0, rfl, hS⟩ := W0 w
 refine cT 15 func293 rfl (Af (Al (.bA rfl) rfl ?_))
 rintro _ w1 ⟨B2, rfl, NB2⟩
 replace hS := hS.Bn NB2
 refine Ay (Ao (Aa (I (.fB 0 rfl) (I (.lb rfl (hS.b0.Ah rfl)) (A3 (eC (.ct rfl (.cons (.const _) (.cons (.const _) .nil))) (U6)) rfl (Hp _ _ _ _) ?_)))))
 rintro _ w2 ⟨rfl, uw2⟩
 replace hS := hS.up uw2
 refine Ab rfl (LW.gr rfl (fun hc => PEv.fB 1 rfl) (LW.gr rfl (fun hc => PEv.load isAgg3 vQ (hS.b0.Ah rfl)) (Fk rfl rfl (LW.gr rfl (fun hc => PEv.sub (.const _) vQ oQ oQ) (Rm rfl rfl rfl rfl rfl rfl rfl rfl (fun hc => Ci (.cons vQ (.cons (.const _) (.cons vQ .nil))) (U6)) (fun hc => Hp _ _ _ _) ?_)))))
 intro w3 uw3
 replace hS := hS.up uw3
 refine I (.pa rfl (fun hp => (by exact .cond rfl (by (rw [hp]; rfl))))) (LW.A rfl (Ai (Ak (KW.q ?_))))
 exact ⟨by simp, hS.Cr⟩
theorem dU (cf : Nat) (lb : Array Go.Value) (hen : ∀ args w, (callFunc cf args).run Tryz.prog w = .ok (.enter cf args) w) (ad : Option Addr) (cp : Nat) (l : List Sg) (w : World) (hE0 : Els w ad 6 Sg.cells l) (hl : l.length ≤ 100000) (hp : ∀ W, Up w W → ∀ x ∈ l, Ret Tryz.prog cf (#[.agg (Sg.cells x)] ++ lb) W fun r W' => r = .bool false ∧ Up W W') : Ret prog 292 #[.slice ad l.length cp, .func (.func cf) #[] lb] w fun r w' => r = vi (-1) ∧ Up w w' := by
 have hW := Up.refl w
 obtain ⟨w0, rfl, _⟩ := W0 w
 refine cT 19 func292 rfl (Af (Ay (Ao (Af (Ab rfl (I (.Di underlying99 (.t rfl)) (I (.move (.const _)) (Ai (An (A8 (σ := Nat) (fun s w => (s ≤ l.length) ∧ (Up w0 w)) (fun s => [(8, .eq (vi (s : Int)))]) ([(0, .eq _), (1, .eq _), (7, .eq _)]) (fun s => l.length - s) 0 ?_ tQ ?_))))))))))
 ·exact ⟨Nat.zero_le _, hW⟩
 rintro k w1 ⟨hk, hW⟩
 refine Af (I (.l2 rfl rfl) (Ao (CW.b rfl (fun h9 => ?_) (fun h9 => ?_))))
 ·replace h9 := dQ h9
  refine Aj (Ac (Am (An (Af (Ab rfl (LW.A rfl (Ao ?_)))))))
  have hE := Els.up hE0 hW
  refine Aa (Ab rfl (Ab rfl (Ab rfl ?_)))
  obtain ⟨x, hx⟩ := Au (xs := l) (i := k) oQ
  obtain ⟨Bx, ox, ax, hcx⟩ := hE _ x hx
  refine I (.Av underlying99 sizeOf94 (.t rfl) (.t rfl) oQ ax) (I (.lc rfl (hcx)) (A3 (Cs (.t rfl) (.cu rfl) (hen)) rfl (hp _ hW x (List.mem_of_getElem? hx)) ?_))
  rintro _ w2 ⟨rfl, uw2⟩
  replace hW := hW.up uw2
  replace hcx := hcx.up uw2
  refine Ai (CW.f rfl (Aj (Ae (Ac (Aa (I (.ic rfl oQ) (Ab rfl (LW.nil (Ar ?_)))))))))
  exact ⟨k + 1, ⟨by omega, hW⟩, tQ, by omega⟩
 replace h9 := dQ h9
 refine Bl (Ad (Ad (Aq (Ac (Af (Ay (Ai (Ak (KW.q ?_)))))))))
 exact ⟨rfl, hW⟩
theorem Uw (cf : Nat) (lb : Array Go.Value) (hen : ∀ args w, (callFunc cf args).run Tryz.prog w = .ok (.enter cf args) w) (ad : Option Addr) (cp : Nat) (l : List Sg) (w : World) (hE0 : Els w ad 6 Sg.cells l) (hl : l.length ≤ 100000) (hp : ∀ W, Up w W → ∀ x ∈ l, Ret Tryz.prog cf (#[.agg (Sg.cells x)] ++ lb) W fun r W' => r = .bool false ∧ Up W W') : Ret prog 197 #[.slice ad l.length cp, .func (.func cf) #[] lb] w fun r w' => r = .bool false ∧ Up w w' := by
 have hW := Up.refl w
 refine cT 9 func197 rfl (Af (Ay (Ao (Aa (Ab rfl (Ab rfl (A3 (eC (.u rfl rfl) (FJ)) rfl (dU cf lb hen ad cp l _ (Els.up hE0 hW) hl (fun W u x hx => hp W (hW.trans u) x hx)) ?_)))))))
 rintro _ w1 ⟨rfl, uw1⟩
 replace hW := hW.up uw1
 refine I (.geq (.t rfl) (.const _)) (LW.A rfl (Ai (Ak (KW.q ?_))))
 exact ⟨rfl, hW⟩
theorem dV (cf : Nat) (lb : Array Go.Value) (hen : ∀ args w, (callFunc cf args).run Tryz.prog w = .ok (.enter cf args) w) (ad : Option Addr) (cp : Nat) (l : List Wn) (w : World) (hE0 : Els w ad 3 Wn.cells l) (hl : l.length ≤ 100000) (hp : ∀ W, Up w W → ∀ x ∈ l, Ret Tryz.prog cf (#[.agg (Wn.cells x)] ++ lb) W fun r W' => r = .bool false ∧ Up W W') : Ret prog 294 #[.slice ad l.length cp, .func (.func cf) #[] lb] w fun r w' => r = vi (-1) ∧ Up w w' := by
 have hW := Up.refl w
 obtain ⟨w0, rfl, _⟩ := W0 w
 refine cT 19 func294 rfl (Af (Ay (Ao (Af (Ab rfl (I (.Di underlying82 (.t rfl)) (I (.move (.const _)) (Ai (An (A8 (σ := Nat) (fun s w => (s ≤ l.length) ∧ (Up w0 w)) (fun s => [(8, .eq (vi (s : Int)))]) ([(0, .eq _), (1, .eq _), (7, .eq _)]) (fun s => l.length - s) 0 ?_ tQ ?_))))))))))
 ·exact ⟨Nat.zero_le _, hW⟩
 rintro k w1 ⟨hk, hW⟩
 refine Af (I (.l2 rfl rfl) (Ao (CW.b rfl (fun h9 => ?_) (fun h9 => ?_))))
 ·replace h9 := dQ h9
  refine Aj (Ac (Am (An (Af (Ab rfl (LW.A rfl (Ao ?_)))))))
  have hE := Els.up hE0 hW
  refine Aa (Ab rfl (Ab rfl (Ab rfl ?_)))
  obtain ⟨x, hx⟩ := Au (xs := l) (i := k) oQ
  obtain ⟨Bx, ox, ax, hcx⟩ := hE _ x hx
  refine I (.Av underlying82 sizeOf81 (.t rfl) (.t rfl) oQ ax) (I (.lc rfl (hcx)) (A3 (Cs (.t rfl) (.cu rfl) (hen)) rfl (hp _ hW x (List.mem_of_getElem? hx)) ?_))
  rintro _ w2 ⟨rfl, uw2⟩
  replace hW := hW.up uw2
  replace hcx := hcx.up uw2
  refine Ai (CW.f rfl (Aj (Ae (Ac (Aa (I (.ic rfl oQ) (Ab rfl (LW.nil (Ar ?_)))))))))
  exact ⟨k + 1, ⟨by omega, hW⟩, tQ, by omega⟩
 replace h9 := dQ h9
 refine Bl (Ad (Ad (Aq (Ac (Af (Ay (Ai (Ak (KW.q ?_)))))))))
 exact ⟨rfl, hW⟩
theorem Ux (cf : Nat) (lb : Array Go.Value) (hen : ∀ args w, (callFunc cf args).run Tryz.prog w = .ok (.enter cf args) w) (ad : Option Addr) (cp : Nat) (l : List Wn) (w : World) (hE0 : Els w ad 3 Wn.cells l) (hl : l.length ≤ 100000) (hp : ∀ W, Up w W → ∀ x ∈ l, Ret Tryz.prog cf (#[.agg (Wn.cells x)] ++ lb) W fun r W' => r = .bool false ∧ Up W W') : Ret prog 200 #[.slice ad l.length cp, .func (.func cf) #[] lb] w fun r w' => r = .bool false ∧ Up w w' := by
 have hW := Up.refl w
 refine cT 9 func200 rfl (Af (Ay (Ao (Aa (Ab rfl (Ab rfl (A3 (eC (.u rfl rfl) (FK)) rfl (dV cf lb hen ad cp l _ (Els.up hE0 hW) hl (fun W u x hx => hp W (hW.trans u) x hx)) ?_)))))))
 rintro _ w1 ⟨rfl, uw1⟩
 replace hW := hW.up uw1
 refine I (.geq (.t rfl) (.const _)) (LW.A rfl (Ai (Ak (KW.q ?_))))
 exact ⟨rfl, hW⟩
theorem dW (cf : Nat) (lb : Array Go.Value) (hen : ∀ args w, (callFunc cf args).run Tryz.prog w = .ok (.enter cf args) w) (ad : Option Addr) (cp : Nat) (l : List Int) (w : World) (hE0 : Els w ad 1 Br l) (hl : l.length ≤ 100000) (hp : ∀ W, Up w W → ∀ x ∈ l, Ret Tryz.prog cf (#[vi x] ++ lb) W fun r W' => r = .bool false ∧ Up W W') : Ret prog 356 #[.slice ad l.length cp, .func (.func cf) #[] lb] w fun r w' => r = vi (-1) ∧ Up w w' := by
 have hW := Up.refl w
 obtain ⟨w0, rfl, _⟩ := W0 w
 refine cT 19 func356 rfl (Af (Ay (Ao (Af (Ab rfl (I (.Di underlying293 (.t rfl)) (I (.move (.const _)) (Ai (An (A8 (σ := Nat) (fun s w => (s ≤ l.length) ∧ (Up w0 w)) (fun s => [(8, .eq (vi (s : Int)))]) ([(0, .eq _), (1, .eq _), (7, .eq _)]) (fun s => l.length - s) 0 ?_ tQ ?_))))))))))
 ·exact ⟨Nat.zero_le _, hW⟩
 rintro k w1 ⟨hk, hW⟩
 refine Af (I (.l2 rfl rfl) (Ao (CW.b rfl (fun h9 => ?_) (fun h9 => ?_))))
 ·replace h9 := dQ h9
  refine Aj (Ac (Am (An (Af (Ab rfl (LW.A rfl (Ao ?_)))))))
  have hE := Els.up hE0 hW
  refine Aa (Ab rfl (Ab rfl (Ab rfl ?_)))
  obtain ⟨x, hx⟩ := Au (xs := l) (i := k) oQ
  obtain ⟨Bx, ox, ax, hcx⟩ := hE _ x hx
  refine I (.Av underlying293 sizeOf3 (.t rfl) (.t rfl) oQ ax) (I (.lb rfl (hcx.nth (j := 0) rfl)) (A3 (Cs (.t rfl) (.cu rfl) (hen)) rfl (hp _ hW x (List.mem_of_getElem? hx)) ?_))
  rintro _ w2 ⟨rfl, uw2⟩
  replace hW := hW.up uw2
  replace hcx := hcx.up uw2
  refine Ai (CW.f rfl (Aj (Ae (Ac (Aa (I (.ic rfl oQ) (Ab rfl (LW.nil (Ar ?_)))))))))
  exact ⟨k + 1, ⟨by omega, hW⟩, tQ, by omega⟩
 replace h9 := dQ h9
 refine Bl (Ad (Ad (Aq (Ac (Af (Ay (Ai (Ak (KW.q ?_)))))))))
 exact ⟨rfl, hW⟩
theorem Uy (cf : Nat) (lb : Array Go.Value) (hen : ∀ args w, (callFunc cf args).run Tryz.prog w = .ok (.enter cf args) w) (ad : Option Addr) (cp : Nat) (l : List Int) (w : World) (hE0 : Els w ad 1 Br l) (hl : l.length ≤ 100000) (hp : ∀ W, Up w W → ∀ x ∈ l, Ret Tryz.prog cf (#[vi x] ++ lb) W fun r W' => r = .bool false ∧ Up W W') : Ret prog 290 #[.slice ad l.length cp, .func (.func cf) #[] lb] w fun r w' => r = .bool false ∧ Up w w' := by
 have hW := Up.refl w
 refine cT 9 func290 rfl (Af (Ay (Ao (Aa (Ab rfl (Ab rfl (A3 (eC (.u rfl rfl) (GC)) rfl (dW cf lb hen ad cp l _ (Els.up hE0 hW) hl (fun W u x hx => hp W (hW.trans u) x hx)) ?_)))))))
 rintro _ w1 ⟨rfl, uw1⟩
 replace hW := hW.up uw1
 refine I (.geq (.t rfl) (.const _)) (LW.A rfl (Ai (Ak (KW.q ?_))))
 exact ⟨rfl, hW⟩
theorem F5 (n lo hi : Int) (w : World) : Ret prog 183 #[vi n, vi lo, vi hi] w fun r w' => r = .bool (rR n lo hi) ∧ Up w w' := by
 have hW := Up.refl w
 refine cT 15 func183 rfl (Af (Ay (Ao (Aa (Ab rfl (Ab rfl (I (.geq (.t rfl) (.t rfl)) (Ab rfl (Fk rfl rfl (Fk rfl rfl (LW.gr rfl (fun hc => PEv.leq vQ vQ) (I (.pa rfl (fun hp => (by exact .cond rfl (by (rw [hp]; rfl))))) (LW.A rfl (Ai (Ak (KW.q ?_))))))))))))))))
 exact ⟨by unfold rR; simp, hW⟩
theorem Mz (ad : Option Addr) (cp : Nat) (l : List Int) (lo hi : Int) (w : World) (hE : Els w ad 1 Br l) (hl : l.length ≤ 1) (hr : ∀ x ∈ l, rR x lo hi = true) : Ret prog 285 #[.slice ad l.length cp, vi lo, vi hi] w fun r w' => r = .bool true ∧ Up w w' := by
 have hW := Up.refl w
 obtain ⟨w0, rfl, _⟩ := W0 w
 refine cT 35 func285 rfl (Af (Ay (Ao (Af (Ab rfl (I (.Di underlying34 (.t rfl)) (I (.move (.const _)) (Ai (An (A8 (σ := Nat) (fun s w => (s ≤ l.length) ∧ (Up w0 w)) (fun s => [(11, .eq (vi (s : Int)))]) ([(0, .eq _), (1, .eq _), (2, .eq _), (9, .eq _), (10, .eq _)]) (fun s => l.length - s) 0 ?_ tQ ?_))))))))))
 ·exact ⟨Nat.zero_le _, hW⟩
 rintro k w1 ⟨hk, hW⟩
 refine Af (I (.l2 rfl rfl) (Ao (CW.b rfl (fun h12 => ?_) (fun h12 => ?_))))
 ·replace h12 := dQ h12
  refine Aj (Ac (Am (An (Af (Ab rfl ?_)))))
  obtain ⟨x, hx⟩ := Au (xs := l) (i := k) oQ
  obtain ⟨Bx, ox, ax, hcx⟩ := (Els.up hE hW) _ x hx
  refine I (.Av underlying34 sizeOf3 (.t rfl) (.t rfl) oQ ax) (I (.lb rfl (hcx.nth (j := 0) rfl)) (LW.A rfl (LW.A rfl (Ao (Aa (Ab rfl (Ab rfl (Ab rfl (A3 (eC (.ct rfl (.ct rfl (.cu rfl))) (Ru)) rfl (F5 _ _ _ _) ?_)))))))))
  rintro _ w2 ⟨rfl, uw2⟩
  replace hW := hW.up uw2
  replace hcx := hcx.up uw2
  have hrx := hr x (List.mem_of_getElem? hx)
  refine I (.fa (PEv.n1 rfl) (by rw [hrx]; rfl)) (Ab rfl (Cb (Ab rfl (Cb (I (.fa (PEv.gtr (.t rfl) (.const _)) (decide_eq_false oQ)) (Cb (Ab rfl (Da (Da (Da (Da (Da (Da (Da (Cb (I (.Ei (b := false) (.t rfl) (fun hp => absurd (show false = true from hp) cQ)) (I (.fa (PEv.po rfl (fun hp => (by exact .tmp rfl))) (by rfl)) (Ai (CW.f rfl (Aj (Ae (Ac (Aa (I (.ic rfl oQ) (Ab rfl (LW.nil (Ar ?_)))))))))))))))))))))))))))
  exact ⟨k + 1, ⟨by omega, hW⟩, tQ, by omega⟩
 replace h12 := dQ h12
 refine Bl (Ad (Ad (Aq (Ac (Af (Ay (Ai (Ak (KW.q ?_)))))))))
 exact ⟨rfl, hW⟩
theorem T6 (sa wa : Option Addr) (sc wc : Nat) (w : World) : Ret prog 182 #[.agg (Ki sa sc wa wc)] w fun r w' => r = .bool true ∧ Up w w' := by
 obtain ⟨w0, rfl, hS⟩ := W0 w
 refine cT 18 func182 rfl (Af (Al (.bA rfl) rfl ?_))
 rintro _ w1 ⟨B1, rfl, NB1⟩
 replace hS := hS.Bn NB1
 refine Ay (Ao (Aa (I (.fB 0 rfl) (I (.lb rfl (hS.b0.Ah rfl)) (I (.leq (.const _) (.t rfl)) (Ab rfl (LW.gr rfl (fun hc => PEv.fB 0 rfl) (LW.gr rfl (fun hc => PEv.load isAgg3 vQ (hS.b0.Ah rfl)) (LW.gr rfl (fun hc => PEv.fB 1 rfl) (LW.gr rfl (fun hc => PEv.load isAgg3 vQ (hS.b0.Ah rfl)) (LW.gr rfl (fun hc => PEv.leq vQ vQ) (I (.pa rfl (fun hp => (by exact .cond rfl (by assumption)))) (Ab rfl (LW.gr rfl (fun hc => PEv.fB 1 rfl) (LW.gr rfl (fun hc => PEv.load isAgg3 vQ (hS.b0.Ah rfl)) (LW.gr rfl (fun hc => PEv.leq vQ (.const _)) (I (.pa rfl (fun hp => (by exact .cond rfl (by assumption)))) (LW.A rfl (Ai (Ak (KW.q ?_)))))))))))))))))))))
 exact ⟨rfl, hS.Cr⟩
theorem Uz (s : Sk) (w : World) (hg : s.Good) (h1 : Els w s.ta 1 Br s.tl) (h2 : Els w s.na 1 Br s.nx) : Ret prog 186 #[.agg s.cells, vi 3] w fun r w' => r = .bool true ∧ Up w w' := by
 obtain ⟨w0, rfl, hS⟩ := W0 w
 refine cT 75 func186 rfl (Af (Al (.bA rfl) rfl ?_))
 rintro _ w1 ⟨B2, rfl, NB2⟩
 replace hS := hS.Bn NB2
 refine Ay (Ao (Aa (I (.fB 5 rfl) (I (.lb rfl (hS.b0.Ah rfl)) (I (.tr (PEv.eql (.t rfl) (.const _)) (decide_eq_true hg.bk)) (Ab rfl (Cb (I (.fB 6 rfl) (Cb (I (.lb rfl (hS.b0.Ah rfl)) (Cb (I (.tr (PEv.eql (.t rfl) (.const _)) (decide_eq_true hg.lm)) (I (.pa rfl (fun hp => (by exact .tmp rfl))) (Ab rfl (Da (Da (Da (Da (Da (Da (I2 rfl rfl rfl rfl rfl rfl (I2 rfl rfl rfl rfl rfl rfl (I2 rfl rfl rfl rfl rfl rfl (Da (I (.tr (PEv.E1 (b := false) (.t rfl) (fun hp => absurd (show true = false from hp) cQ)) (rfl)) (LW.A rfl (Ao (Aa (I (.fB 1 rfl) (I (.lb rfl (hS.b0.Ah rfl)) (I (.Di underlying34 (.t rfl)) (A3 (eC (.ct rfl (.cons (.const _) (.cons (.const _) .nil))) (Ru)) rfl (F5 _ _ _ _) ?_))))))))))))))))))))))))))))))))
 rintro _ w2 ⟨rfl, uw2⟩
 replace hS := hS.up uw2
 refine Ab rfl (LW.gr rfl (fun hc => PEv.fB 4 rfl) (LW.gr rfl (fun hc => PEv.load isAgg34 vQ (hS.b0.Ah rfl)) (LW.gr rfl (fun hc => PEv.Di underlying34 vQ) (LW.gr rfl (fun hc => PEv.tr (PEv.leq vQ (.const _)) (decide_eq_true (by have := hg.nx.1; omega))) (I (.tr (PEv.pa rfl (fun hp => (by exact .cond rfl (by (rw [hp]; rfl))))) (by rw [hg.tl.1]; rfl)) (LW.A rfl (Ao (Aa (Ab rfl (Ab rfl (Cb (Ab rfl (I (.pa rfl (fun hp => (by exact .tmp rfl))) (Ab rfl (Cb (I (.fB 0 rfl) (Cb (I (.lb rfl (hS.b0.Ah rfl)) (Cb (A3 (eC (.ct rfl (.cons (.const _) (.cons (.const _) .nil))) (Ru)) rfl (F5 _ _ _ _) ?_))))))))))))))))))))
 rintro _ w3 ⟨rfl, uw3⟩
 replace hS := hS.up uw3
 refine I (.tr (PEv.pa rfl (fun hp => (by exact .tmp rfl))) (by rw [hg.rc]; rfl)) (Ab rfl (Cb (I (.fB 1 rfl) (Cb (I (.lb rfl (hS.b0.Ah rfl)) (Cb (A3 (eC (.ct rfl (.cons (.const _) (.cons (.const _) .nil))) (xJ)) rfl (Mz s.ta s.tc s.tl 0 59 _ (Els.up h1 hS.Cr) (by have := hg.tl.1; omega) hg.tl.2) ?_)))))))
 rintro _ w4 ⟨rfl, uw4⟩
 replace hS := hS.up uw4
 refine I (.pa rfl (fun hp => (by exact .tmp rfl))) (Ab rfl (Cb (I (.fB 4 rfl) (Cb (I (.lb rfl (hS.b0.Ah rfl)) (Cb (Ab rfl (Cb (I (.sub (.t rfl) (.const _) oQ oQ) (Cb (A3 (eC (.ct rfl (.cons (.const _) (.cu rfl))) (xJ)) rfl (Mz s.na s.nc s.nx 0 2 _ (Els.up h2 hS.Cr) hg.nx.1 hg.nx.2) ?_)))))))))))
 rintro _ w5 ⟨rfl, uw5⟩
 replace hS := hS.up uw5
 refine I (.pa rfl (fun hp => (by exact .tmp rfl))) (Ab rfl (Cb (I (.fB 2 rfl) (Cb (I (.lb rfl (hS.b0.Ah rfl)) (Cb (I (.tr (PEv.leq (.const _) (.t rfl)) (decide_eq_true (by have := hg.mn; omega))) (I (.pa rfl (fun hp => (by exact .tmp rfl))) (Ab rfl (Cb (I (.fB 2 rfl) (Cb (I (.lb rfl (hS.b0.Ah rfl)) (Cb (I (.fB 3 rfl) (Cb (I (.lb rfl (hS.b0.Ah rfl)) (Cb (I (.tr (PEv.leq (.t rfl) (.t rfl)) (decide_eq_true (by have := hg.mn; have := hg.mx; omega))) (I (.pa rfl (fun hp => (by exact .tmp rfl))) (Ab rfl (Cb (I (.fB 3 rfl) (Cb (I (.lb rfl (hS.b0.Ah rfl)) (Cb (I (.tr (PEv.leq (.t rfl) (.const _)) (decide_eq_true (by have := hg.mx; omega))) (I (.pa rfl (fun hp => (by exact .tmp rfl))) (LW.A rfl (Ai (Ak (KW.q ?_))))))))))))))))))))))))))))))))
 exact ⟨rfl, hS.Cr⟩
theorem aD (s : Sk) (B : Nat) (w : World) (hB : Blk w B #[vi 3] 3) (hg : s.Good) (h1 : Els w s.ta 1 Br s.tl) (h2 : Els w s.na 1 Br s.nx) : Ret prog 185 #[.agg s.cells, .pointer (some ⟨B, 0, none⟩)] w fun r w' => r = .bool false ∧ Up w w' := by
 obtain ⟨w0, rfl, hS⟩ := W0 w
 refine cT 8 func185 rfl (Af (Al (.bA rfl) rfl ?_))
 rintro _ w1 ⟨B2, rfl, NB2⟩
 replace hS := hS.Bn NB2
 refine Ay (Ao (Aa (I (.lc rfl (hS.b0.agg)) (I (.lb rfl ((hB.up hS.Cr).Ah rfl)) (A3 (eC (.u rfl rfl) (DM)) rfl (Uz s _ hg (Els.up h1 hS.Cr) (Els.up h2 hS.Cr)) ?_)))))
 rintro _ w2 ⟨rfl, uw2⟩
 replace hS := hS.up uw2
 refine I (.n1 rfl) (LW.A rfl (Ai (Ak (KW.q ?_))))
 exact ⟨rfl, hS.Cr⟩
theorem dX (cf : Nat) (lb : Array Go.Value) (hen : ∀ args w, (callFunc cf args).run Tryz.prog w = .ok (.enter cf args) w) (ad : Option Addr) (cp : Nat) (l : List Sk) (w : World) (hE0 : Els w ad 7 Sk.cells l) (hl : l.length ≤ 100000) (hp : ∀ W, Up w W → ∀ x ∈ l, Ret Tryz.prog cf (#[.agg (Sk.cells x)] ++ lb) W fun r W' => r = .bool false ∧ Up W W') : Ret prog 284 #[.slice ad l.length cp, .func (.func cf) #[] lb] w fun r w' => r = vi (-1) ∧ Up w w' := by
 have hW := Up.refl w
 obtain ⟨w0, rfl, _⟩ := W0 w
 refine cT 19 func284 rfl (Af (Ay (Ao (Af (Ab rfl (I (.Di underlying83 (.t rfl)) (I (.move (.const _)) (Ai (An (A8 (σ := Nat) (fun s w => (s ≤ l.length) ∧ (Up w0 w)) (fun s => [(8, .eq (vi (s : Int)))]) ([(0, .eq _), (1, .eq _), (7, .eq _)]) (fun s => l.length - s) 0 ?_ tQ ?_))))))))))
 ·exact ⟨Nat.zero_le _, hW⟩
 rintro k w1 ⟨hk, hW⟩
 refine Af (I (.l2 rfl rfl) (Ao (CW.b rfl (fun h9 => ?_) (fun h9 => ?_))))
 ·replace h9 := dQ h9
  refine Aj (Ac (Am (An (Af (Ab rfl (LW.A rfl (Ao ?_)))))))
  have hE := Els.up hE0 hW
  refine Aa (Ab rfl (Ab rfl (Ab rfl ?_)))
  obtain ⟨x, hx⟩ := Au (xs := l) (i := k) oQ
  obtain ⟨Bx, ox, ax, hcx⟩ := hE _ x hx
  refine I (.Av underlying83 sizeOf87 (.t rfl) (.t rfl) oQ ax) (I (.lc rfl (hcx)) (A3 (Cs (.t rfl) (.cu rfl) (hen)) rfl (hp _ hW x (List.mem_of_getElem? hx)) ?_))
  rintro _ w2 ⟨rfl, uw2⟩
  replace hW := hW.up uw2
  replace hcx := hcx.up uw2
  refine Ai (CW.f rfl (Aj (Ae (Ac (Aa (I (.ic rfl oQ) (Ab rfl (LW.nil (Ar ?_)))))))))
  exact ⟨k + 1, ⟨by omega, hW⟩, tQ, by omega⟩
 replace h9 := dQ h9
 refine Bl (Ad (Ad (Aq (Ac (Af (Ay (Ai (Ak (KW.q ?_)))))))))
 exact ⟨rfl, hW⟩
theorem U0 (cf : Nat) (lb : Array Go.Value) (hen : ∀ args w, (callFunc cf args).run Tryz.prog w = .ok (.enter cf args) w) (ad : Option Addr) (cp : Nat) (l : List Sk) (w : World) (hE0 : Els w ad 7 Sk.cells l) (hl : l.length ≤ 100000) (hp : ∀ W, Up w W → ∀ x ∈ l, Ret Tryz.prog cf (#[.agg (Sk.cells x)] ++ lb) W fun r W' => r = .bool false ∧ Up W W') : Ret prog 184 #[.slice ad l.length cp, .func (.func cf) #[] lb] w fun r w' => r = .bool false ∧ Up w w' := by
 have hW := Up.refl w
 refine cT 9 func184 rfl (Af (Ay (Ao (Aa (Ab rfl (Ab rfl (A3 (eC (.u rfl rfl) (FF)) rfl (dX cf lb hen ad cp l _ (Els.up hE0 hW) hl (fun W u x hx => hp W (hW.trans u) x hx)) ?_)))))))
 rintro _ w1 ⟨rfl, uw1⟩
 replace hW := hW.up uw1
 refine I (.geq (.t rfl) (.const _)) (LW.A rfl (Ai (Ak (KW.q ?_))))
 exact ⟨rfl, hW⟩
theorem Q0 (w : World) : Ret prog 187 #[.agg rS.cells, vi 3] w fun r w' => r = .bool true ∧ Up w w' := by
 obtain ⟨w0, rfl, hS⟩ := W0 w
 refine cT 29 func187 rfl (Af (Al (.bA rfl) rfl ?_))
 rintro _ w1 ⟨B2, rfl, NB2⟩
 replace hS := hS.Bn NB2
 refine Ay (Ao (Aa (I (.fB 0 rfl) (I (.lb rfl (hS.b0.Ah rfl)) (Ab rfl (I (.sub (.t rfl) (.const _) oQ oQ) (A3 (eC (.ct rfl (.cons (.const _) (.cu rfl))) (Ru)) rfl (F5 _ _ _ _) ?_)))))))
 rintro _ w2 ⟨rfl, uw2⟩
 replace hS := hS.up uw2
 refine Ab rfl (LW.gr rfl (fun hc => PEv.fB 1 rfl) (LW.gr rfl (fun hc => PEv.load isAgg3 vQ (hS.b0.Ah rfl)) (Fk rfl rfl (LW.gr rfl (fun hc => PEv.sub vQ (.const _) oQ oQ) (Rm rfl rfl rfl rfl rfl rfl rfl rfl (fun hc => Ci (.cons vQ (.cons (.const _) (.cons vQ .nil))) (Ru)) (fun hc => F5 _ _ _ _) ?_)))))
 intro w3 uw3
 replace hS := hS.up uw3
 refine I (.pa rfl (fun hp => (by exact .cond rfl (by assumption)))) (Ab rfl (LW.gr rfl (fun hc => PEv.fB 0 rfl) (LW.gr rfl (fun hc => PEv.load isAgg3 vQ (hS.b0.Ah rfl)) (LW.gr rfl (fun hc => PEv.fB 1 rfl) (LW.gr rfl (fun hc => PEv.load isAgg3 vQ (hS.b0.Ah rfl)) (LW.gr rfl (fun hc => PEv.neq vQ vQ) (I (.pa rfl (fun hp => (by exact .cond rfl (by assumption)))) (Ab rfl (LW.gr rfl (fun hc => PEv.fB 2 rfl) (LW.gr rfl (fun hc => PEv.load isAgg3 vQ (hS.b0.Ah rfl)) (Rm rfl rfl rfl rfl rfl rfl rfl rfl (fun hc => Ci (.cons vQ (.cons (.const _) (.cons (.const _) .nil))) (Ru)) (fun hc => F5 _ _ _ _) ?_)))))))))))
 intro w4 uw4
 replace hS := hS.up uw4
 refine I (.pa rfl (fun hp => (by exact .cond rfl (by assumption)))) (LW.A rfl (Ai (Ak (KW.q ?_))))
 exact ⟨rfl, hS.Cr⟩
theorem aE (ad : Option Addr) (cp : Nat) (w : World) : Ret prog 188 #[.slice ad 0 cp, .agg rS.cells] w fun r w' => r = .bool true ∧ Up w w' := by
 obtain ⟨w0, rfl, hS⟩ := W0 w
 refine cT 34 func188 rfl (Af (Al (.bA rfl) rfl ?_))
 rintro _ w1 ⟨B3, rfl, NB3⟩
 replace hS := hS.Bn NB3
 refine Ay (Ao (Af (Ab rfl (I (.Di underlying82 (.t rfl)) (I (.tr (PEv.eql (.t rfl) (.const _)) (rfl)) (Ai (CW.v rfl (Af (Ay (Ai (Ak (Ap (KW.q ?_)))))))))))))
 exact ⟨rfl, hS.Cr⟩
theorem T7 (sa wa : Option Addr) (sc wc : Nat) (s0 s1 s2 : Sk) (w : World) (hF : FlE w sa wa s0 s1 s2) : Ret prog 96 #[.agg (Ki sa sc wa wc)] w fun r w' => r = .bool true ∧ Up w w' := by
 obtain ⟨w0, rfl, hS⟩ := W0 w
 refine cT 49 func96 rfl (Af (Al (.bA rfl) rfl ?_))
 rintro _ w1 ⟨B1, rfl, NB1⟩
 replace hS := hS.Bn NB1
 refine Ay (Ao (Aa (I (.fB 2 rfl) (I (.lb rfl (hS.b0.Ah rfl)) (I (.Di underlying83 (.t rfl)) (Al (.H6 zeroValue3 rfl) rfl ?_))))))
 rintro _ w2 ⟨B3, rfl, MB3⟩
 refine Be (.store sizeOf3 (.t rfl) (.t rfl) rfl MB3.blk cQ) ?_
 intro w3 LB3
 have NB3 := MB3.set LB3
 replace hS := hS.Bn NB3
 refine Ao (Af (I (.lc rfl (hS.b0.agg)) (A3 (eC (.o rfl) (DI)) rfl (T6 sa wa sc wc _) ?_)))
 rintro _ w4 ⟨rfl, uw4⟩
 replace hS := hS.up uw4
 refine I (.n1 rfl) (Ab rfl (Cb (I (.lb rfl (hS.b1.Ah rfl)) (Cb (A3 (eC (.ct rfl (.cons (.const _) (.cons (.const _) .nil))) (Ru)) rfl (F5 _ _ _ _) ?_)))))
 rintro _ w5 ⟨rfl, uw5⟩
 replace hS := hS.up uw5
 refine Cb (I (.fa (PEv.n1 rfl) (rfl)) (I (.po rfl (fun hp => (by exact .tmp rfl))) (Ab rfl (Cb (I (.fB 3 rfl) (Cb (I (.lb rfl (hS.b0.Ah rfl)) (Cb (I (.Di underlying82 (.t rfl)) (Cb (I (.fa (PEv.gtr (.t rfl) (.const _)) (rfl)) (I (.po rfl (fun hp => (by exact .tmp rfl))) (Ai (CW.f rfl (Aj (Ac (Am (Af (I (.fB 2 rfl) (I (.lb rfl (hS.b0.Ah rfl)) (I (.makeFunc (.cu rfl)) (A3 (eC (.u rfl rfl) (DJ)) rfl (U0 185 #[.pointer (some ⟨B3, 0, none⟩)] DK sa sc [s0, s1, s2] _ (Els.up hF.E hS.Cr) (by simp) (fun W u x hx => aD x B3 W (hS.b1.up u) (hF.g x hx) (Els.up (hF.p x hx).1 (hS.Cr.trans u)) (Els.up (hF.p x hx).2 (hS.Cr.trans u)))) ?_))))))))))))))))))))))
 rintro _ w6 ⟨rfl, uw6⟩
 replace hS := hS.up uw6
 refine Ai (CW.f rfl (Aj (Ac (Am (Af (I (.fB 3 rfl) (I (.lb rfl (hS.b0.Ah rfl)) (I (.Di underlying82 (.t rfl)) (I (.move (.const _)) (Ai (An (A8 (σ := Nat) (fun s w => (s ≤ 1) ∧ (Wx.Sep no w0 w [Cc B1 (Ki sa sc wa wc) 85, Cc B3 #[vi 3] 3])) (fun s => [(30, .eq (vi (s : Int)))]) ([(1, .eq _), (3, .eq _), (28, .eq _), (29, .eq _)]) (fun s => 1 - s) 0 ?_ tQ ?_))))))))))))
 ·exact ⟨Nat.zero_le _, hS⟩
 rintro k w7 ⟨hk, hS⟩
 refine Af (I (.l2 rfl rfl) (Ao (CW.b rfl (fun h31 => ?_) (fun h31 => ?_))))
 ·replace h31 := dQ h31
  refine Aj (Ac (Am (An (Am ?_))))
  have hk0 : k = 0 := by have := Int.ofNat_lt.1 h31; omega
  subst hk0
  obtain ⟨Bw, ow, aw, hcw⟩ := hF.W 0 rS rfl
  refine Aa (Ab rfl (I (.Av underlying82 sizeOf81 (j := 0) (.t rfl) (.t rfl) cQ aw) (I (.lc rfl ((hcw.up hS.Cr))) (Al (.Bm zeroValue81) rfl ?_))))
  rintro _ w8 ⟨B5, rfl, MB5⟩
  refine LW.A rfl (Be (.Bi sizeOf81 rfl (.t rfl) (.t rfl) (Wn.one _) MB5.blk rfl) ?_)
  intro w9 LB5
  have NB5 := MB5.set LB5
  replace hS := hS.Bn NB5
  refine Ao (C5 kQ kQ rfl rfl (U (.lc rfl (hS.b2.agg)) (U (.lb rfl (hS.b1.Ah rfl)) (HW.c (fun a w _ ha => Ci (.ct rfl (.cu rfl)) (DN) a ha) rfl rfl (fun w hu => Q0 w) (U (.fa (PEv.n1 rfl) (rfl)) (U (.mv rfl) (A6 (.fB 3 rfl) (A6 (.lb rfl (hS.b0.Ah rfl)) (A6 (.mv rfl) (A6 (.N9 underlying82 sizeOf81 (.t rfl) (.t rfl) oQ) (A6 (.lc rfl (hS.b2.agg)) (U4 rfl rfl rfl rfl rfl (fun a w _ ha => Ci (.ct rfl (.cu rfl)) (DO) a ha) rfl (fun w hu => aE wa wc w) (A6 (.fa (PEv.n1 rfl) (rfl)) (U (.fa (PEv.po rfl (fun hp => (by exact .tmp rfl))) (rfl)) (HW.nil ?_)))))))))))))))
  intro w10 uw10
  replace hS := hS.up uw10
  refine Ac (CW.f rfl (Aj (Ae (Ac (Aa (I (.ic rfl oQ) (Ab rfl (LW.nil (Ar ?_)))))))))
  exact ⟨1, ⟨Nat.le_refl _, hS.take 2⟩, tQ, by omega⟩
 replace h31 := dQ h31
 refine Bl (Ad (Ad (Aq (Ac (Af (Ay (Ai (Ak (KW.q ?_)))))))))
 exact ⟨rfl, hS.Cr⟩
theorem dY (cf : Nat) (lb : Array Go.Value) (hen : ∀ args w, (callFunc cf args).run Tryz.prog w = .ok (.enter cf args) w) (ad : Option Addr) (cp : Nat) (l : List Int) (w : World) (hE0 : Els w ad 1 Br l) (hl : l.length ≤ 100000) (hp : ∀ W, Up w W → ∀ x ∈ l, Ret Tryz.prog cf (#[vi x] ++ lb) W fun r W' => r = .bool false ∧ Up W W') : Ret prog 379 #[.slice ad l.length cp, .func (.func cf) #[] lb] w fun r w' => r = vi (-1) ∧ Up w w' := by
 have hW := Up.refl w
 obtain ⟨w0, rfl, _⟩ := W0 w
 refine cT 19 func379 rfl (Af (Ay (Ao (Af (Ab rfl (I (.Di underlying34 (.t rfl)) (I (.move (.const _)) (Ai (An (A8 (σ := Nat) (fun s w => (s ≤ l.length) ∧ (Up w0 w)) (fun s => [(8, .eq (vi (s : Int)))]) ([(0, .eq _), (1, .eq _), (7, .eq _)]) (fun s => l.length - s) 0 ?_ tQ ?_))))))))))
 ·exact ⟨Nat.zero_le _, hW⟩
 rintro k w1 ⟨hk, hW⟩
 refine Af (I (.l2 rfl rfl) (Ao (CW.b rfl (fun h9 => ?_) (fun h9 => ?_))))
 ·replace h9 := dQ h9
  refine Aj (Ac (Am (An (Af (Ab rfl (LW.A rfl (Ao ?_)))))))
  have hE := Els.up hE0 hW
  refine Aa (Ab rfl (Ab rfl (Ab rfl ?_)))
  obtain ⟨x, hx⟩ := Au (xs := l) (i := k) oQ
  obtain ⟨Bx, ox, ax, hcx⟩ := hE _ x hx
  refine I (.Av underlying34 sizeOf3 (.t rfl) (.t rfl) oQ ax) (I (.lb rfl (hcx.nth (j := 0) rfl)) (A3 (Cs (.t rfl) (.cu rfl) (hen)) rfl (hp _ hW x (List.mem_of_getElem? hx)) ?_))
  rintro _ w2 ⟨rfl, uw2⟩
  replace hW := hW.up uw2
  replace hcx := hcx.up uw2
  refine Ai (CW.f rfl (Aj (Ae (Ac (Aa (I (.ic rfl oQ) (Ab rfl (LW.nil (Ar ?_)))))))))
  exact ⟨k + 1, ⟨by omega, hW⟩, tQ, by omega⟩
 replace h9 := dQ h9
 refine Bl (Ad (Ad (Aq (Ac (Af (Ay (Ai (Ak (KW.q ?_)))))))))
 exact ⟨rfl, hW⟩
theorem U1 (cf : Nat) (lb : Array Go.Value) (hen : ∀ args w, (callFunc cf args).run Tryz.prog w = .ok (.enter cf args) w) (ad : Option Addr) (cp : Nat) (l : List Int) (w : World) (hE0 : Els w ad 1 Br l) (hl : l.length ≤ 100000) (hp : ∀ W, Up w W → ∀ x ∈ l, Ret Tryz.prog cf (#[vi x] ++ lb) W fun r W' => r = .bool false ∧ Up W W') : Ret prog 351 #[.slice ad l.length cp, .func (.func cf) #[] lb] w fun r w' => r = .bool false ∧ Up w w' := by
 have hW := Up.refl w
 refine cT 9 func351 rfl (Af (Ay (Ao (Aa (Ab rfl (Ab rfl (A3 (eC (.u rfl rfl) (GR)) rfl (dY cf lb hen ad cp l _ (Els.up hE0 hW) hl (fun W u x hx => hp W (hW.trans u) x hx)) ?_)))))))
 rintro _ w1 ⟨rfl, uw1⟩
 replace hW := hW.up uw1
 refine I (.geq (.t rfl) (.const _)) (LW.A rfl (Ai (Ak (KW.q ?_))))
 exact ⟨rfl, hW⟩
theorem dZ (n : Int) (B : Nat) (sa wa : Option Addr) (sc wc : Nat) (w : World) (hB : Blk w B (Ki sa sc wa wc) 85) (hn : 0 ≤ n ∧ n < 3) : Ret prog 352 #[vi n, .pointer (some ⟨B, 0, none⟩)] w fun r w' => r = .bool false ∧ Up w w' := by
 have hW := Up.refl w
 refine cT 13 func352 rfl (Af (Ay (Ao (Aa (Ab rfl (I (.fa (PEv.lss (.t rfl) (.const _)) (decide_eq_false oQ)) (Ab rfl (Cb (Ab rfl (Cb (I (.fB 2 rfl) (Cb (I (.lb rfl (hB.Ah rfl)) (Cb (I (.Di underlying83 (.t rfl)) (Cb (I (.fa (PEv.geq (.t rfl) (.t rfl)) (decide_eq_false oQ)) (I (.fa (PEv.po rfl (fun hp => (by exact .tmp rfl))) (rfl)) (LW.A rfl (Ai (Ak (KW.q ?_))))))))))))))))))))))
 exact ⟨rfl, hW⟩
theorem Wi (sa wa : Option Addr) (sc wc : Nat) (s0 s1 s2 : Sk) (w : World) (hF : FlE w sa wa s0 s1 s2) (ad : Option Addr) (cp : Nat) (l : List Int) (hE : Els w ad 1 Br l) (hl : l.length ≤ 1000) (hn : ∀ x ∈ l, 0 ≤ x ∧ x < 3) : Ret prog 286 #[.agg (Ki sa sc wa wc), .slice ad l.length cp] w fun r w' => r = .bool true ∧ Up w w' := by
 obtain ⟨w0, rfl, hS⟩ := W0 w
 refine cT 13 func286 rfl (Af (Al (.bA rfl) rfl ?_))
 rintro _ w1 ⟨B2, rfl, NB2⟩
 replace hS := hS.Bn NB2
 refine Ay (Ao (Aa (I (.lc rfl (hS.b0.agg)) (A3 (eC (.o rfl) (CD)) rfl (T7 sa wa sc wc s0 s1 s2 _ (hF.up hS.Cr)) ?_))))
 rintro _ w2 ⟨rfl, uw2⟩
 replace hS := hS.up uw2
 refine Ab rfl (Cb (Ab rfl (Cb (I (.makeFunc (.cu rfl)) (Cb (A3 (eC (.u rfl rfl) (FZ)) rfl (U1 352 #[.pointer (some ⟨B2, 0, none⟩)] GA ad cp l _ (Els.up hE hS.Cr) oQ (fun W u x hx => dZ x B2 sa wa sc wc W (hS.b0.up u) (hn x hx))) ?_))))))
 rintro _ w3 ⟨rfl, uw3⟩
 replace hS := hS.up uw3
 refine Cb (I (.n1 rfl) (I (.pa rfl (fun hp => (by exact .tmp rfl))) (LW.A rfl (Ai (Ak (KW.q ?_))))))
 exact ⟨rfl, hS.Cr⟩
theorem eD (X Y : Nat → Prop) (B1 : Nat) (sk : Sk) (w : World) (hEX : sk.nx ≠ [] → ∀ B o, sk.na = some ⟨B, o, none⟩ → ¬ X B) (hFX : ¬ X B1) (hF0 : Blk w B1 sk.cells 87) (hE0 : Els w sk.na 1 Br sk.nx) (hb : sk.bk = -1) (hl : sk.nx.length ≤ 1) :
   IterS Tryz.prog 381 #[.pointer (some ⟨B1, 0, none⟩)] (fun x : {x : Int // x ∈ sk.nx} => #[vi x.1]) X Y (fun ys => ys = sk.nx.attach) (fun _ => True) sk.nx.length w := by
 refine IterS.of ?_
 intro lp J Jx w0 hUw _ hY hJ
 obtain ⟨Bd, hBd⟩ : ∃ Bd, Bd = w0.heap.size := ⟨_, rfl⟩
 rw [← hBd] at hJ hY
 have hF := hF0.up hUw
 have hE := Els.up hE0 hUw
 refine cT 41 func381 rfl (Af (I (.fB 5 rfl) (I (.dO (v' := vi (-1)) (PEv.lb rfl (hF.Ah rfl)) (by rw [hb])) (LW.A rfl (Ao (Af (I (.fB 4 rfl) (I (.lb rfl (hF.Ah rfl)) (I (.Di underlying34 (.t rfl)) (I (.move (.const _)) (Ai (An (CW.loop (σ := Nat) (fun s w => s ≤ sk.nx.length ∧ Jw Bd J (sk.nx.attach.take s) w ∧ Els w sk.na 1 Br sk.nx ∧ Blk w B1 sk.cells 87) (fun s => [(0, .eq (.func (.yield lp) #[] #[])), (3, .eq (vi (-1))), (9, .eq (.slice sk.na sk.nx.length sk.nc)), (10, .eq (vi (sk.nx.length : Int))), (11, .eq (vi (s : Int)))]) (fun s => sk.nx.length - s) 0 ?_ ?_ ?_)))))))))))))
 ·exact ⟨Nat.zero_le _, hJ, hE, hF⟩
 ·exact tQ
 rintro k w1 ⟨hk, hJ, hE, hF⟩
 refine Af (I (.l2 rfl rfl) (Ao (CW.b rfl (fun h12 => ?_) (fun h12 => ?_))))
 ·refine Aj (Ac (Am (An (Am ?_))))
  have hkl : k < sk.nx.length := by simp at h12; omega
  refine Aa ?_
  obtain ⟨x, hx⟩ := Au (xs := sk.nx) (i := k) oQ
  obtain ⟨Bx, ox, ax, hcx⟩ := hE _ x hx
  refine I (.Av underlying34 sizeOf3 (.t rfl) (.t rfl) oQ ax) (I (.lb rfl (hcx.nth (j := 0) rfl)) (LW.A rfl (Ao (Af (Ab rfl (I (.fa (PEv.geq (.t rfl) (.const _)) (rfl)) (Ab rfl (Da (Da (Da (I (.Ei (b := false) (.t rfl) (fun hp => absurd (show false = true from hp) cQ)) (Ab rfl (Da (Da (Da (Da (I (.Ei (b := false) (.t rfl) (fun hp => absurd (show false = true from hp) cQ)) (Ai (CW.f rfl (Aj (Ac (Am (Af (Ab rfl (Ab rfl (I (.leq (.t rfl) (.t rfl)) (Ai (CW.b rfl (fun h30 => ?_) (fun h30 => ?_)))))))))))))))))))))))))))))
  ·refine Aa (Ay (Ao (Aa (Ab rfl (Ab rfl (LW.y (.t rfl) (.cu rfl) rfl rfl (hY _ ⟨x, List.mem_of_getElem? hx⟩ _ hJ (by rw [List.length_take, List.length_attach]; omega)) ?_))))))
   rintro _ w2 ⟨y, rfl, hcase⟩
   refine I (.n1 rfl) (Ai (CW.b rfl (fun h34 => ?_) (fun h34 => ?_)))
   ·have hy : y = false := by simpa using h34
    subst hy
    obtain ⟨_, hJx⟩ := hcase.resolve_left (by simp)
    refine Ak (A9 (Ap (Ap (A9 (Ap (Ih rfl ⟨_, rfl, ?_⟩))))))
    exact .inr ⟨_, trivial, hJx⟩
   have hy : y = true := by simpa using h34
   subst hy
   obtain ⟨_, hJ2, hN⟩ := hcase.resolve_right (by simp)
   replace hE := hE.kx hN (hEX fun e => by rw [e] at hx; cases hx)
   replace hF := hF.kx hN hFX
   rw [← Nt (Wg hx)] at hJ2
   refine Aj (Ae (Ac (Aa (I (.ic rfl oQ) (Ab rfl (LW.nil (Ar ?_)))))))
   exact ⟨k + 1, ⟨by omega, hJ2, hE, hF⟩, tQ, by omega⟩
  refine Aj (Ac (Af (Ab rfl (Ab rfl (LW.y (.t rfl) (.cu rfl) rfl rfl (hY _ ⟨x, List.mem_of_getElem? hx⟩ _ hJ (by rw [List.length_take, List.length_attach]; omega)) ?_)))))
  rintro _ w3 ⟨y, rfl, hcase⟩
  refine I (.n1 rfl) (Ai (CW.b rfl (fun h34 => ?_) (fun h34 => ?_)))
  ·have hy : y = false := by simpa using h34
   subst hy
   obtain ⟨_, hJx⟩ := hcase.resolve_left (by simp)
   refine Ak (A9 (Ap (Ap (A9 (Ap (Ih rfl ⟨_, rfl, ?_⟩))))))
   exact .inr ⟨_, trivial, hJx⟩
  have hy : y = true := by simpa using h34
  subst hy
  obtain ⟨_, hJ2, hN⟩ := hcase.resolve_right (by simp)
  replace hE := hE.kx hN (hEX fun e => by rw [e] at hx; cases hx)
  replace hF := hF.kx hN hFX
  rw [← Nt (Wg hx)] at hJ2
  refine Aj (Ae (Ac (Aa (I (.ic rfl oQ) (Ab rfl (LW.nil (Ar ?_)))))))
  exact ⟨k + 1, ⟨by omega, hJ2, hE, hF⟩, tQ, by omega⟩
 have hkk : k = sk.nx.length := by simp at h12; omega
 refine Bl (Ad (Ad (Aq (Ac (Af (Ab rfl (I (.fa (PEv.geq (.t rfl) (.const _)) (rfl)) (Ai (CW.f rfl (Aj (C7 rfl ⟨_, rfl, ?_⟩)))))))))))
 exact .inl ⟨_, rfl, by rw [hkk, ← List.length_attach (l := sk.nx), List.take_length] at hJ; exact hJ.j⟩
theorem lV (sk : Sk) (w : World) : Ret prog 355 #[.agg sk.cells] w fun r w' => (∃ B, r = .func (.func 381) #[] #[.pointer (some ⟨B, 0, none⟩)] ∧ Blk w' B sk.cells 87 ∧ w.heap.size ≤ B) ∧ Up w w' := by
 have hW := Up.refl w
 refine cT 4 func355 rfl (Af (Al (.bA rfl) rfl ?_))
 rintro _ w1 ⟨B1, rfl, NB1⟩
 have eB1 := NB1.at_
 replace hW := hW.up NB1.up
 have hB1 := NB1.blk
 refine Ay (Ao (Aa (I (.makeFunc (.cu rfl)) (LW.A rfl (Ai (Ak (KW.q ?_)))))))
 exact ⟨⟨_, rfl, hB1, Nat.le_of_eq eB1.symm⟩, hW⟩
theorem Nw (Bo g cp : Nat) (xs : List (Option Nat)) (t : Int) (ad : Option Addr) (m c : Nat) (sk : Sk) (n : Nat) (Bf : Nat) (w : World) (hE : Els w sk.na 1 Br sk.nx) (hb : sk.bk = -1) (hl : sk.nx.length ≤ 1) (hx : ∀ x ∈ sk.nx, x = (n : Int)) (hn : n < 3) (hnil : xs[n]? = some .none) (hna : sk.nx ≠ [] → ∀ B o, sk.na = some ⟨B, o, none⟩ → ¬ Cu [Cc Bo #[.slice (some ⟨g, 0, none⟩) 3 cp] 362, J 361 1 mD (.slice (some ⟨g, 0, none⟩) 3 cp) (xs)] B) (hS0 : Wx.Sep (Cu [Cc Bo #[.slice (some ⟨g, 0, none⟩) 3 cp] 362, J 361 1 mD (.slice (some ⟨g, 0, none⟩) 3 cp) (xs)]) w w [Cc Bo #[.slice (some ⟨g, 0, none⟩) 3 cp] 362, J 361 1 mD (.slice (some ⟨g, 0, none⟩) 3 cp) (xs)]) : Ret prog 354 #[.agg (Nu t ad m c), .agg sk.cells, .pointer (some ⟨Bo, 0, none⟩), .pointer (some ⟨Bf, 0, none⟩)] w fun _ w' => ∃ z, Wx.Sep (Cu [Cc Bo #[.slice (some ⟨g, 0, none⟩) 3 cp] 362, J 361 1 mD (.slice (some ⟨g, 0, none⟩) 3 cp) (xs)]) w w' [Cc Bo #[.slice (some ⟨g, 0, none⟩) 3 cp] 362, J 361 1 mD (.slice (some ⟨g, 0, none⟩) 3 cp) (IA xs n z), wH (Nu t ad m c) 365 z] ∧ (sk.nx = [] ∧ z = .none ∨ sk.nx ≠ [] ∧ z.isSome = true) := by
 obtain ⟨w0, rfl, _⟩ := W0 w
 have hS := (hS0.pX.Ec 0 rfl).Ec 0 rfl
 refine Gz (n := 36) func354 rfl rfl rfl (Af (Al (.bA rfl) rfl ?_))
 rintro _ w1 ⟨B4, rfl, NB4⟩
 have eB4 := NB4.at_
 have zB4 := NB4.size
 replace hS := hS.Bn NB4
 refine Al (.bA rfl) rfl ?_
 rintro _ w2 ⟨B5, rfl, NB5⟩
 have eB5 := NB5.at_
 have zB5 := NB5.size
 replace hS := hS.Bn NB5
 refine Ao (Aa (I (.lc rfl (hS.b4.agg)) (A3 (eC (.o rfl) (GB)) rfl (lV sk _) ?_)))
 rintro _ w3 ⟨⟨B8, rfl, hK8, hn8⟩, uw3⟩
 replace hS := hS.add uw3 (A' := Cc B8 sk.cells 87) (hK8) (fun i h => by cases h; exact hn8)
 replace hS := ((hS.Ec 1 rfl).Ec 2 rfl).Ec 1 rfl
 replace hS := hS.add (Up.refl _) (A' := pY) trivial (fun i h => h.elim)
 refine Ai (An ?_)
 obtain ⟨bq, hbq⟩ : ∃ bq, bq = w3.heap.size := ⟨_, rfl⟩
 refine Qn (Zs := [_, _, _]) (σ := Option Nat) (fun s => [Cc Bo #[.slice (some ⟨g, 0, none⟩) 3 cp] 362, Cc B4 (Nu t ad m c) 365, J 361 1 mD (.slice (some ⟨g, 0, none⟩) 3 cp) (IA xs n s), wH (Nu t ad m c) 365 s]) (fun pre s => ((pre = [] ∧ s = .none) ∨ (pre.length = 1 ∧ s.isSome = true))) (fun _ _ _ => False) (fun x b => []) (fun x b => [(6, .eq (vi x.1)), (2, .eq (.pointer (some ⟨Bo, 0, none⟩))), (4, .eq (.pointer (some ⟨B4, 0, none⟩))), (3, .eq (.pointer (some ⟨Bf, 0, none⟩)))]) .none (.t rfl) (fun args w => GS args w) (eD _ _ B8 sk _ (fun hne B o e h => h.1.elim (hna hne B o e) (fun h2 => absurd (Rk hE hne e) oQ)) (fun h => h.2 ⟨_, List.mem_cons_of_mem _ (List.mem_cons_of_mem _ List.mem_cons_self), rfl⟩) hS.b2 (fun i x hx => Els.fr hE hS.fr (hna fun e => by rw [e] at hx; cases hx) i x hx) hb hl) (fun _ => rfl) rfl (fun _ _ => rfl) (show Wx.Sep _ _ _ ([_, _, _] ++ [_, _, _, _]) from hS) (.inl ⟨rfl, rfl⟩) ?_ ?_ ?_ ?_
 ·intro lp x w4
  have hS := Sep.start no w4
  refine M4 rfl (Aa (LW.A rfl (LW.nil ?_)))
  exact fun a ha => ⟨0, hS, .nil _ _, ha.sub tQ⟩
 ·rintro lp pre x z b w5 hJ hlt hqw hS0 hS
  rw [← hbq] at hqw ⊢
  obtain ⟨rfl, rfl⟩ := hJ.resolve_right (fun h => by omega)
  have hxn := hx x.1 x.2
  obtain ⟨Bz, oz, az, hcz⟩ := (Db (hS.own 2 rfl) (fun _ => rfl)) n .none hnil
  cases az
  refine An (Am (C5 kQ kQ rfl rfl (U (.lb rfl (hS.b0.Ah rfl)) (U (.dO (v' := vi (n : Int)) (PEv.mv rfl) (by rw [hxn])) (U (.Av underlying362 sizeOf361 (j := n) (.t rfl) (.t rfl) oQ rfl) (U (.lb rfl (hcz.nth (j := 0) rfl)) (U (.tr (Fx underlying361 (.t rfl)) (rfl)) (U (.mv rfl) (Dq (Dq (Dq (Dq (Dq (Dq (Dq (Dq (Dq (Dq (U (.E1 (b := false) (.t rfl) (fun hp => absurd (show true = false from hp) cQ)) (HW.nil ?_))))))))))))))))))))
  intro w6 uw6
  replace hS := hS.up uw6
  refine Ac (CW.v rfl (Aa (I (.lb rfl (hS.b0.Ah rfl)) (I (.dO (v' := vi (n : Int)) (PEv.mv rfl) (by rw [hxn])) (I (.fB 0 rfl) (I (.lb rfl (hS.b1.Ah rfl)) (I (.fB 1 rfl) (I (.lb rfl (hS.b1.Ah rfl)) (I (.build (cs := (Nu t ad m c)) underlying365 zeroValue365 G1 (.ct rfl (.cu rfl)) rfl) (Al (.bA rfl) rfl ?_))))))))))
  rintro _ w7 ⟨B34, rfl, NB34⟩
  replace hS := hS.Bn NB34
  refine I (.Av underlying362 sizeOf361 (j := n) (.t rfl) (.t rfl) oQ rfl) (Be (.Pm (enc := mD) (k := 1) (z := some B34) (i := n) (j := 0) sizeOf361 (fun _ => rfl) rfl (.t rfl) (.t rfl) (hS.own 2 rfl) hnil cQ rfl) ?_)
  intro w8 Gw8
  replace hS := hS.Ez 2 rfl Gw8
  refine LW.nil (Ae ?_)
  exact fun _ _ => ⟨some B34, [_], .inr ⟨rfl, rfl⟩, hS.Ec 3 rfl, .cons (pV hS.b0) (.cons (pV hS.b1) (.cons (HV (hS.own 2 rfl)) (.cons (pV hS.b4) (.nil _ _))))⟩
 ·rintro Dm ys z w9 hDq hYs hJ hqw hS
  rw [← hbq] at hDq hqw
  replace hS := gV (Ds := []) (As := [_, _]) (Bs := [_, _, _, _]) hS
  refine Ae (Tn rfl (Dm :: []) _ (hS.get 0 rfl).1 (hS.get 0 rfl).2 ?_)
  intro w10 hF_
  replace hS := hS.step 0 rfl (A' := pY) hF_ trivial (fun _ h => h.elim)
  refine Ih rfl ⟨_, rfl, ?_⟩
  refine ⟨z, hS.sub (.cons _ (.cons _ (.cons _ (.cons_cons _ (.cons _ (.cons_cons _ (.cons_cons _ .slnil))))))), ?_⟩
  subst hYs
  rcases hJ with ⟨h1, h2⟩ | ⟨h1, h2⟩
  ·exact .inl ⟨List.attach_eq_nil_iff.1 h1, h2⟩
  exact .inr ⟨fun e => (by rw [List.length_attach, e] at h1; cases h1), h2⟩
 exact fun _ _ _ _ _ _ _ h => h.elim
theorem Nx (ad : Option Addr) (cp : Nat) (l : List Int) (w : World) (hE0 : Els w ad 1 Br l) (hl : l.length ≤ 1000000000) : Ret prog 94 #[.slice ad l.length cp] w fun r w' => OwnS w' w.heap.size 3 1 Br r l ∧ Up w w' := by
 obtain ⟨w0, rfl, hS⟩ := W0 w
 refine cT 8 func94 rfl (Af (Ay (Ao (Af (Ab rfl (I (.wK underlying34 (.t rfl)) (Ai (CW.b rfl (fun h4 => ?_) (fun h4 => ?_)))))))))
 ·have hnil : l = [] := by cases l with | nil => rfl | cons x r => (obtain ⟨B, o, e, _⟩ := hE0 0 x rfl; rw [e] at h4; cases h4)
  refine Af (Ay (Ai (Ak (Ap (KW.q ?_)))))
  (subst hnil; exact ⟨OwnS.nil _ _ _ _ _, hS.Cr⟩)
 refine Aj (Ac (Af (Al (.buildSlice (xs := ([] : List Int)) (enc := Br) (mk := vi) underlying34 sizeOf3 zeroValue3 rfl cQ (fun _ => rfl) (fun _ => rfl) .nil rfl) rfl ?_)))
 intro v5 w1 hN5
 obtain ⟨uw1, B5, rfl, hO5⟩ := M5 hN5 (Nat.le_refl _)
 replace hS := hS.add uw1 (A' := J 3 1 Br (.slice (some ⟨B5, 0, none⟩) 0 0) ([] : List Int)) (hO5.mono (Nat.zero_le _)) (fun i h => hO5.base i h)
 refine Ab rfl (Al (.C2 (enc := Br) (bytes := 8) (i := Tryz.t3) underlying34 kQ rfl rfl rfl rfl cQ (fun _ => rfl) Hx (.t rfl) (.t rfl) (hS.own 0 rfl) (Aw (Els.up hE0 hS.Cr)) (by simp [maxLen]; omega) (by simp; omega)) rfl ?_)
 intro v7 w2 Gw2
 replace hS := hS.Ez 0 rfl Gw2
 refine LW.A rfl (Ai (Ak (KW.q ?_)))
 exact ⟨(hS.own 0 rfl).I9 (fun i h => (hS.foot 0 rfl i h).resolve_left (fun h => h)), hS.Cr⟩
theorem aF (sa wa : Option Addr) (sc wc : Nat) (s0 s1 s2 : Sk) (w : World) (hF : FlE w sa wa s0 s1 s2) : Ret prog 287 #[.agg (Ki sa sc wa wc), vi 0] w fun r w' => ∃ go b1 b2 a c, r = .slice (some ⟨go, 0, none⟩) 3 3 ∧ Els w' (some ⟨go, 0, none⟩) 1 mD [.none, some b1, some b2] ∧ Blk w' b2 (Nu 14 a 1 c) 365 ∧ Els w' a 1 Br [1] ∧ Up w w' := by
 obtain ⟨w0, rfl, hS⟩ := W0 w
 refine cT 109 func287 rfl (Af (Al (.bA rfl) rfl ?_))
 rintro _ w1 ⟨B2, rfl, NB2⟩
 have eB2 := NB2.at_
 have zB2 := NB2.size
 replace hS := hS.Bn NB2
 refine Ay (Ao (Aa (I (.fB 2 rfl) (I (.lb rfl (hS.b0.Ah rfl)) (I (.Di underlying83 (.t rfl)) (Al (.yL (enc := mD) (x0 := .none) (i := Tryz.t361) rfl rfl underlying362 kQ rfl rfl cQ (.t rfl) (.t rfl)) rfl ?_))))))
 rintro _ w2 ⟨uM, go, zM, rfl, hOM⟩
 replace hS := hS.add uM (A' := J 361 1 mD (.slice (some ⟨go, 0, none⟩) 3 3) (List.replicate 3 .none)) hOM (fun i h => by cases h; exact zM)
 refine Al (.H6 zeroValue362 rfl) rfl ?_
 rintro _ w3 ⟨B5, rfl, MB5⟩
 refine Be (.store sizeOf362 (.t rfl) (.t rfl) rfl MB5.blk cQ) ?_
 intro w4 LB5
 have NB5 := MB5.set LB5
 replace hS := hS.Bn NB5
 refine Ao (Aa (I (.fB 2 rfl) (I (.lb rfl (hS.b0.Ah rfl)) (I (.Di underlying83 (.t rfl)) (Al (.yL (enc := BT) (x0 := false) (i := Tryz.t4) rfl rfl underlying417 kQ rfl rfl cQ (.t rfl) (.t rfl)) rfl ?_)))))
 rintro _ w5 ⟨uM, gd, zM, rfl, hOM⟩
 replace hS := hS.add uM (A' := J 4 1 BT (.slice (some ⟨gd, 0, none⟩) 3 3) (List.replicate 3 false)) hOM (fun i h => by cases h; exact zM)
 refine LW.A rfl (Ao (Aa (Al (.H6 zeroValue418 rfl) rfl ?_)))
 rintro _ w6 ⟨B7, rfl, MB7⟩
 refine Be (.store sizeOf418 (.t rfl) (.func _) rfl MB7.blk cQ) ?_
 intro w7 LB7
 have NB7 := MB7.set LB7
 replace hS := hS.Bn NB7
 refine Ao (Aa (I (.makeFunc (.ct rfl (.cu rfl))) (LW.A rfl (Ao ?_))))
 obtain ⟨Bs, os, as_, hcs⟩ := hF.E 0 s0 rfl
 refine Ew 9 kQ kQ kQ kQ kQ rfl rfl (U (.mv rfl) (U (.fB 0 rfl) (U (.lb rfl (hS.b0.Ah rfl)) (U (.build (cs := (Nu 2 none 0 0)) underlying365 zeroValue365 G1 (.cu rfl) rfl) (U (.fB 2 rfl) (U (.lb rfl (hS.b0.Ah rfl)) (U (.mv rfl) (U (.Av underlying83 sizeOf87 (j := 0) (.t rfl) (.t rfl) cQ as_) (U (.lc rfl ((hcs.up hS.Cr))) (HW.nil ?_))))))))))
 intro w8 uw8
 replace hS := hS.up uw8
 replace hS := hS.Ec 2 rfl
 replace hS := hS.Ec 1 rfl
 have hq_ := (show Wx.Sep _ _ _ ([_, _, _] ++ [_, _]) from hS)
 refine A3 (Cs (f := 354) (lb := #[.pointer (some ⟨B5, 0, none⟩), .pointer (some ⟨B7, 0, none⟩)]) (.t rfl) (.ct rfl (.cu rfl)) (mQ)) rfl (Nw B5 go 3 _ 2 none 0 0 s0 1 B7 _ (Els.up (hF.p s0 (by simp)).2 hS.Cr) (hF.g s0 (by simp)).bk (hF.g s0 (by simp)).nx.1 (by rw [hF.n0]; simp) cQ rfl (fun hne B o e h => by obtain ⟨A_, hA_, hi_⟩ := h; have h1_ := ((hq_.right.each A_ hA_).2 B hi_).resolve_left (fun h => h); have h2_ := Rk (hF.p s0 (by simp)).2 hne e; omega) hq_.right.self) ?_
 rintro _ w9 ⟨z1, uw9, hz1⟩
 replace hS := hq_.frame uw9
 obtain ⟨_, hz1⟩ := hz1.resolve_left (fun h => by rw [hF.n0] at h; cases h.1)
 obtain ⟨b1, rfl⟩ := Option.isSome_iff_exists.1 hz1
 replace hS := (hS.add (Up.refl _) (A' := pY) trivial (fun i h => h.elim)).Ye (OwnS.nil _ 0 3 1 Br)
 refine Ai (An (A8 (σ := Nat × Option Nat × Option Addr × Nat) (fun s w => (s.1 ≤ 2) ∧ ((s.1 = 0 ∧ s.2.1 = .none) ∨ (1 ≤ s.1 ∧ s.2.1.isSome = true)) ∧ (Wx.Sep no w0 w [Cc B2 (Ki sa sc wa wc) 85, J 4 1 BT (.slice (some ⟨gd, 0, none⟩) 3 3) (iL s.1), Cc B7 #[.func (.func 353) #[] #[]] 418, Cc B5 #[.slice (some ⟨go, 0, none⟩) 3 3] 362, J 361 1 mD (.slice (some ⟨go, 0, none⟩) 3 3) (dR b1 (s.2.1)), Cc b1 (Nu 2 none 0 0) 365, wH (Nu 14 (s.2.2.1) 1 (s.2.2.2)) 365 (s.2.1), J 3 1 Br (if s.1 = 0 then .slice none 0 0 else .slice (s.2.2.1) 1 (s.2.2.2)) (if s.1 = 0 then [] else [1])])) (fun s => []) ([(2, .eq _), (5, .eq _), (6, .eq _), (7, .eq _), (8, .eq _)]) (fun s => 3 - s.1) (0, .none, .none, 0) ?_ tQ ?_))
 ·exact ⟨Nat.zero_le _, .inl ⟨rfl, rfl⟩, hS⟩
 rintro ⟨k, z, a, c⟩ w10 ⟨hk, hz, hS⟩
 dsimp only at hk hz hS
 refine An (Af (I (.dO (v' := vi (lS k 0)) (PEv.assign (.const _)) (by rw [IB])) (Ao (Af (I (.lb rfl (hS.b3.Ah rfl)) (I (.Di underlying362 (.t rfl)) (I (.move (.const _)) (Ai (An (A8 (σ := Nat) (fun s w => (s ≤ 3) ∧ (Wx.Sep no w0 w [Cc B2 (Ki sa sc wa wc) 85, J 4 1 BT (.slice (some ⟨gd, 0, none⟩) 3 3) (iL k), Cc B7 #[.func (.func 353) #[] #[]] 418, Cc B5 #[.slice (some ⟨go, 0, none⟩) 3 3] 362, J 361 1 mD (.slice (some ⟨go, 0, none⟩) 3 3) (dR b1 (z)), Cc b1 (Nu 2 none 0 0) 365, wH (Nu 14 (a) 1 (c)) 365 (z), J 3 1 Br (if k = 0 then .slice none 0 0 else .slice (a) 1 (c)) (if k = 0 then [] else [1])])) (fun s => [(33, .eq (vi (s : Int))), (9, .eq (vi (lS k s)))]) ([(2, .eq _), (5, .eq _), (6, .eq _), (7, .eq _), (8, .eq _), (31, .eq _), (32, .eq _)]) (fun s => 3 - s) 0 ?_ tQ ?_))))))))))
 ·exact ⟨Nat.zero_le _, hS⟩
 rintro j w11 ⟨hj, hS⟩
 refine Af (I (.l2 rfl rfl) (Ao (CW.b rfl (fun h34 => ?_) (fun h34 => ?_))))
 ·replace h34 := dQ h34
  refine Aj (Ac (Am (An (Am ?_))))
  have hj3 : j < 3 := Int.ofNat_lt.1 h34
  obtain ⟨b2, hb2⟩ := BM (b1 := b1) hz
  obtain ⟨x, hxj⟩ := Au (xs := dR b1 z) (i := j) hj3
  obtain ⟨Bo, oo, ao, hco⟩ := (Db (hS.own 4 rfl) (fun _ => rfl)) j x hxj
  cases ao
  refine Aa (Ab rfl (I (.Av underlying362 sizeOf361 (j := j) (.t rfl) (.t rfl) oQ rfl) (I (.lb rfl (hco.nth (j := 0) rfl)) (LW.A rfl (LW.A rfl (Ao ?_))))))
  cases hq10 : dP k j with
  | lt =>
   obtain ⟨e1, e2⟩ := BI (b1 := b1) (b2 := b2) hj3 hq10
   rw [← hb2] at e1
   cases Option.some.inj (hxj.symm.trans e1)
   refine C5 kQ kQ rfl rfl (U (.mv rfl) (U (.fa (Nv underlying361 (.t rfl)) (rfl)) (U (.mv rfl) (Dq (Dq (Dq (Dq (Dq (U (.fa (PEv.Ei (b := false) (.t rfl) (fun hp => absurd (show false = true from hp) cQ)) (rfl)) (U (.mv rfl) (Dq (Dq (Dq (D6 rfl rfl rfl rfl rfl (D6 rfl rfl rfl rfl rfl (D6 rfl rfl rfl rfl rfl (D6 rfl rfl rfl rfl rfl (D6 rfl rfl rfl rfl rfl (D6 rfl rfl rfl rfl rfl (D6 rfl rfl rfl rfl rfl (D6 rfl rfl rfl rfl rfl (D6 rfl rfl rfl rfl rfl (D6 rfl rfl rfl rfl rfl (D6 rfl rfl rfl rfl rfl (D6 rfl rfl rfl rfl rfl (Dq (U (.fa (PEv.Ei (b := false) (.t rfl) (fun hp => absurd (show false = true from hp) cQ)) (rfl)) (HW.nil ?_))))))))))))))))))))))))))))
   intro w12 uw12
   replace hS := hS.up uw12
   refine Ac (CW.f rfl (Aj (Ae (Ac (Aa (I (.ic rfl oQ) (Ab rfl (LW.nil (Ar ?_)))))))))
   exact ⟨j + 1, ⟨by omega, hS.take 8⟩, ⟨rfl, by rw [e2]; rfl, rfl, rfl, rfl, rfl, rfl, rfl, rfl, trivial⟩, by omega⟩
  | eq =>
   obtain ⟨⟨b, e1⟩, ed, e0, e2⟩ := BJ (b1 := b1) (b2 := b2)  hq10
   rw [← hb2] at e1
   cases Option.some.inj (hxj.symm.trans e1)
   obtain ⟨Bd, od, ad_, hcd⟩ := (Db (hS.own 1 rfl) (fun _ => rfl)) j _ ed
   cases ad_
   refine C5 kQ kQ rfl rfl (U (.mv rfl) (U (.tr (Nv underlying361 (.t rfl)) (rfl)) (U (.mv rfl) (A6 (.mv rfl) (A6 (.mv rfl) (A6 (.Av underlying417 sizeOf4 (j := j) (.t rfl) (.t rfl) oQ rfl) (A6 (.lb rfl (hcd.nth (j := 0) rfl)) (A6 (.tr (PEv.n1 rfl) (rfl)) (U (.tr (PEv.pa rfl (fun hp => (by exact .tmp rfl))) (rfl)) (U (.mv rfl) (A6 (.mv rfl) (A6 (.tr (PEv.lss (.t rfl) (.const _)) (by rw [e0]; rfl)) (A6 (.mv rfl) (Dq (Dq (Dq (Dq (Dq (Dq (Dq (Dq (Dq (Dq (Dq (Dq (A6 (.tr (PEv.E1 (b := false) (.t rfl) (fun hp => absurd (show true = false from hp) cQ)) (rfl)) (U (.tr (PEv.pa rfl (fun hp => (by exact .tmp rfl))) (rfl)) (HW.nil ?_))))))))))))))))))))))))))))
   intro w13 uw13
   replace hS := hS.up uw13
   refine Ac (CW.v rfl (Aa (Ab rfl (LW.A rfl (LW.nil (Ae (Ac (Aa (I (.ic rfl oQ) (Ab rfl (LW.nil (Ar ?_))))))))))))
   exact ⟨j + 1, ⟨by omega, hS.take 8⟩, ⟨rfl, by rw [e2]; rfl, rfl, rfl, rfl, rfl, rfl, rfl, rfl, trivial⟩, by omega⟩
  | gt =>
   obtain ⟨⟨b, e1⟩, ed, e2⟩ := BL (b1 := b1) (b2 := b2) hj3 hk hq10
   rw [← hb2] at e1
   cases Option.some.inj (hxj.symm.trans e1)
   obtain ⟨Bd, od, ad_, hcd⟩ := (Db (hS.own 1 rfl) (fun _ => rfl)) j _ ed
   cases ad_
   refine C5 kQ kQ rfl rfl (U (.mv rfl) (U (.tr (Nv underlying361 (.t rfl)) (rfl)) (U (.mv rfl) (A6 (.mv rfl) (A6 (.mv rfl) (A6 (.Av underlying417 sizeOf4 (j := j) (.t rfl) (.t rfl) oQ rfl) (A6 (.lb rfl (hcd.nth (j := 0) rfl)) (A6 (.fa (PEv.n1 rfl) (rfl)) (U (.fa (PEv.pa rfl (fun hp => (by exact .tmp rfl))) (rfl)) (U (.mv rfl) (Dq (Dq (Dq (D6 rfl rfl rfl rfl rfl (D6 rfl rfl rfl rfl rfl (D6 rfl rfl rfl rfl rfl (D6 rfl rfl rfl rfl rfl (D6 rfl rfl rfl rfl rfl (D6 rfl rfl rfl rfl rfl (D6 rfl rfl rfl rfl rfl (D6 rfl rfl rfl rfl rfl (D6 rfl rfl rfl rfl rfl (D6 rfl rfl rfl rfl rfl (D6 rfl rfl rfl rfl rfl (D6 rfl rfl rfl rfl rfl (Dq (U (.fa (PEv.Ei (b := false) (.t rfl) (fun hp => absurd (show false = true from hp) cQ)) (rfl)) (HW.nil ?_))))))))))))))))))))))))))))
   intro w14 uw14
   replace hS := hS.up uw14
   refine Ac (CW.f rfl (Aj (Ae (Ac (Aa (I (.ic rfl oQ) (Ab rfl (LW.nil (Ar ?_)))))))))
   exact ⟨j + 1, ⟨by omega, hS.take 8⟩, ⟨rfl, by rw [e2]; rfl, rfl, rfl, rfl, rfl, rfl, rfl, rfl, trivial⟩, by omega⟩
 replace h34 := dQ h34
 refine Bl (Ad (Ad (Aq (Ac (Am (Am ?_))))))
 have hj3 : j = 3 := by have : ¬ j < 3 := fun h => h34 (Int.ofNat_lt.2 h); omega
 subst hj3
 refine Aa (Ab rfl (I (.lss (.t rfl) (.const _)) (Ai (CW.b rfl (fun h68 => ?_) (fun h68 => ?_)))))
 ·replace h68 := dQ h68
  have hk2 : k = 2 := wJ hk h68
  subst hk2
  obtain ⟨b2, rfl⟩ := Option.isSome_iff_exists.1 (hz.resolve_left (fun h => absurd h.1 cQ)).2
  refine Af (I (.lb rfl (hS.b3.Ah rfl)) (LW.A rfl (Ai (Ak (Ap (A9 (Ap (A9 (KW.q ?_)))))))))
  exact ⟨go, b1, b2, a, c, rfl, Db (hS.own 4 rfl) (fun _ => rfl), hS.blk 6 rfl, Db (hS.own 7 rfl) (fun _ => rfl), hS.Cr⟩
 replace h68 := dQ h68
 have hk1 : k < 2 := BN hk h68
 refine Aj (Ac (Am ?_))
 cases k with
 | zero =>
  obtain rfl : z = .none := hz.elim (fun h => h.2) (fun h => by omega)
  obtain ⟨Bs, os, as_, hcs⟩ := hF.E 1 s1 rfl
  have hmn : s1.mn = 10 := (hF.g s1 (by simp)).mn
  refine Aa (Ab rfl (Ab rfl (I (.Av underlying417 sizeOf4 (j := 1) (k := 3) (.t rfl) (.t rfl) cQ rfl) (Be (.Pm (enc := BT) (k := 1) (z := true) (i := 1) (j := 0) sizeOf4 (fun _ => rfl) rfl (.t rfl) (.const _) (hS.own 1 rfl) (x0 := false) rfl cQ rfl) ?_))))
  intro w15 Gw15
  replace hS := hS.Ez 1 rfl Gw15
  refine Ai (Yd 35 28 [25, 27] [29] (.eq (.func (.func 354) #[] #[.pointer (some ⟨B5, 0, none⟩), .pointer (some ⟨B7, 0, none⟩)]) :: .eq (.slice (some ⟨go, 0, none⟩) 3 3) :: .eq (vi 1) :: .eq (.pointer (some ⟨go, 0 + 1 * 1, none⟩)) :: .eq (.pointer (some ⟨b1, 0, none⟩)) :: .eq (.pointer (some ⟨b1, 0, none⟩)) :: .eq (.pointer (some ⟨b1, 0, none⟩)) :: .eq (vi 2) :: .eq (.pointer (some ⟨B2, 2, none⟩)) :: .eq (.slice sa 3 sc) :: .eq (vi 1) :: .eq (.pointer (some ⟨Bs, os + 1 * 7, none⟩)) :: .eq (.pointer (some ⟨Bs, os + 1 * 7 + 2, none⟩)) :: .eq (vi 10) :: .eq (vi 12) :: .eq (.pointer (some ⟨B2, 0, none⟩)) :: .eq (vi 2) :: .eq (vi 14) :: .eq (.slice (some ⟨go, 0, none⟩) 3 3) :: .eq (vi 1) :: .eq (.pointer (some ⟨go, 0 + 1 * 1, none⟩)) :: .eq (.pointer (some ⟨b1, 0, none⟩)) :: .eq (.pointer (some ⟨b1, 0, none⟩)) :: .eq (.pointer (some ⟨b1, 1, none⟩)) :: .eq (.slice none 0 0) :: (.pred fun v W => OwnS W w15.drew.heap.size 3 1 Br v ([] : List Int)) :: .eq (vi 1) :: (.pred fun v W => Sl W v 1 Br [1]) :: (.pred fun v W => OwnS W w15.drew.heap.size 3 1 Br v ([1] : List Int)) :: (.pred fun v W => ∃ ad c, v = .agg (Nu 14 ad 1 c) ∧ OwnS W w15.drew.heap.size 3 1 Br (.slice ad 1 c) ([1] : List Int)) :: .eq (.pointer (some ⟨B2, 2, none⟩)) :: .eq (.slice sa 3 sc) :: .eq (vi 1) :: .eq (.pointer (some ⟨Bs, os + 1 * 7, none⟩)) :: .eq (.agg s1.cells) :: []) [73, 102, 107] (fun _ _ => True) kQ rfl kQ kQ kQ kQ kQ kQ kQ kQ kQ kQ ⟨PhU.eq _, PhU.eq _, PhU.eq _, PhU.eq _, PhU.eq _, PhU.eq _, PhU.eq _, PhU.eq _, PhU.eq _, PhU.eq _, PhU.eq _, PhU.eq _, PhU.eq _, PhU.eq _, PhU.eq _, PhU.eq _, PhU.eq _, PhU.eq _, PhU.eq _, PhU.eq _, PhU.eq _, PhU.eq _, PhU.eq _, PhU.eq _, PhU.eq _, PhU.pred fun _ _ _ h u => OwnS.up h u, PhU.eq _, PhU.pred fun _ _ _ h u => Sl.up h u, PhU.pred fun _ _ _ h u => OwnS.up h u, PhU.pred fun _ _ _ h u => let ⟨ad, c, e, ho⟩ := h; ⟨ad, c, e, ho.up u⟩, PhU.eq _, PhU.eq _, PhU.eq _, PhU.eq _, PhU.eq _, trivial⟩ ⟨.inr (fun _ _ _ h _ => h), .inr (fun _ _ _ h _ => h), .inr (fun _ _ _ h _ => h), .inr (fun _ _ _ h _ => h), .inr (fun _ _ _ h _ => h), .inr (fun _ _ _ h _ => h), .inr (fun _ _ _ h _ => h), .inr (fun _ _ _ h _ => h), .inr (fun _ _ _ h _ => h), .inr (fun _ _ _ h _ => h), .inr (fun _ _ _ h _ => h), .inr (fun _ _ _ h _ => h), .inr (fun _ _ _ h _ => h), .inr (fun _ _ _ h _ => h), .inr (fun _ _ _ h _ => h), .inr (fun _ _ _ h _ => h), .inr (fun _ _ _ h _ => h), .inr (fun _ _ _ h _ => h), .inr (fun _ _ _ h _ => h), .inr (fun _ _ _ h _ => h), .inr (fun _ _ _ h _ => h), .inr (fun _ _ _ h _ => h), .inr (fun _ _ _ h _ => h), .inr (fun _ _ _ h _ => h), .inr (fun _ _ _ h _ => h), .inl rfl, .inr (fun _ _ _ h _ => h), .inl rfl, .inl rfl, .inl rfl, .inr (fun _ _ _ h _ => h), .inr (fun _ _ _ h _ => h), .inr (fun _ _ _ h _ => h), .inr (fun _ _ _ h _ => h), .inr (fun _ _ _ h _ => h), trivial⟩ ?_ ?_)
  ·intro W hU0
   have hU := (Up.drew w15).trans hU0
   have hSW := hS.up hU
   have zU0 := hU0.size
   obtain ⟨Bg, og, ag, hcg⟩ := (Db (hSW.own 4 rfl) (fun _ => rfl)) 1 (some b1) rfl
   cases ag
   have hEL : Els W none 1 Br ([] : List Int) := fun i x h => by simp at h
   refine aC ⟨rfl, fun _ => TU.p (.mv rfl) rfl, fun h => absurd h cQ⟩ (aC ⟨rfl, fun _ => TU.p (.lb rfl (hSW.b3.Ah rfl)) rfl, fun h => absurd h cQ⟩ (aC ⟨rfl, fun _ => TU.p (.mv rfl) rfl, fun h => absurd h cQ⟩ (aC ⟨rfl, fun _ => TU.p (.Av (j := 1) underlying362 sizeOf361 (.t rfl) (.t rfl) cQ rfl) rfl, fun h => absurd h cQ⟩ (aC ⟨rfl, fun _ => TU.p (.lb rfl (AggAt.nth (j := 0) hcg rfl)) rfl, fun h => absurd h cQ⟩ (aC ⟨rfl, fun _ => TU.p (.nc rfl) rfl, fun h => absurd h cQ⟩ (aC ⟨rfl, fun _ => TU.p (.fB 0 rfl) rfl, fun h => absurd h cQ⟩ (aC ⟨rfl, fun _ => TU.p (.lb rfl (hSW.b5.Ah rfl)) rfl, fun h => absurd h cQ⟩ (aC ⟨rfl, fun _ => TU.p (.fB 2 rfl) rfl, fun h => absurd h cQ⟩ (aC ⟨rfl, fun _ => TU.p (.lb rfl (hSW.b0.Ah rfl)) rfl, fun h => absurd h cQ⟩ (aC ⟨rfl, fun _ => TU.p (.mv rfl) rfl, fun h => absurd h cQ⟩ (aC ⟨rfl, fun _ => TU.p (.Av (j := 1) underlying83 sizeOf87 (.t rfl) (.t rfl) cQ as_) rfl, fun h => absurd h cQ⟩ (aC ⟨rfl, fun _ => TU.p (.fB 2 rfl) rfl, fun h => absurd h cQ⟩ (aC ⟨rfl, fun _ => TU.p (.dO (PEv.lb rfl ((hcs.up hSW.Cr).nth (j := 2) rfl)) (by rw [hmn])) rfl, fun h => absurd h cQ⟩ (aC ⟨rfl, fun _ => TU.p (.add (.t rfl) (.t rfl) cQ cQ) rfl, fun h => absurd h cQ⟩ (aC ⟨rfl, fun _ => TU.p (.fB 0 rfl) rfl, fun h => absurd h cQ⟩ (aC ⟨rfl, fun _ => TU.p (.lb rfl (hSW.b0.Ah rfl)) rfl, fun h => absurd h cQ⟩ (aC ⟨rfl, fun _ => TU.p (.add (.t rfl) (.t rfl) cQ cQ) rfl, fun h => absurd h cQ⟩ (aC ⟨rfl, fun _ => TU.p (.lb rfl (hSW.b3.Ah rfl)) rfl, fun h => absurd h cQ⟩ (aC ⟨rfl, fun _ => TU.p (.mv rfl) rfl, fun h => absurd h cQ⟩ (aC ⟨rfl, fun _ => TU.p (.Av (j := 1) underlying362 sizeOf361 (.t rfl) (.t rfl) cQ rfl) rfl, fun h => absurd h cQ⟩ (aC ⟨rfl, fun _ => TU.p (.lb rfl (AggAt.nth (j := 0) hcg rfl)) rfl, fun h => absurd h cQ⟩ (aC ⟨rfl, fun _ => TU.p (.nc rfl) rfl, fun h => absurd h cQ⟩ (aC ⟨rfl, fun _ => TU.p (.fB 1 rfl) rfl, fun h => absurd h cQ⟩ (aC ⟨rfl, fun _ => TU.p (.lb rfl (hSW.b5.Ah rfl)) rfl, fun h => absurd h cQ⟩ (aC ⟨rfl, fun _ => TU.c (eC (.o rfl) (sE)) (Nx none 0 ([] : List Int) W hEL cQ) (fun v W' h => ⟨h.2, h.1.mono zU0⟩), fun h => absurd h cQ⟩ (aC ⟨rfl, fun _ => TU.p (.mv rfl) rfl, fun h => absurd h cQ⟩ (aC ⟨rfl, fun _ => TU.r (REv.buildSlice (xs := ([1] : List Int)) (enc := Br) (mk := vi) underlying34 sizeOf3 zeroValue3 rfl bQ (fun _ => rfl) (fun _ => rfl) (.cu rfl) rfl) (fun v W' h => h.q), fun h => absurd h cQ⟩ (aC ⟨rfl, fun h => absurd rfl h, fun _ a ha => ?_⟩ ?_))))))))))))))))))))))))))))
   ·skip
    have h1 := ha.known (p := fun v W => OwnS W w15.drew.heap.size 3 1 Br v ([] : List Int)) (t := 98) rfl
    have h2 := ha.known (p := fun v W => Sl W v 1 Br [1]) (t := 100) rfl
    obtain ⟨v, W', hr, hG⟩ := REv.C2 (enc := Br) (bytes := 8) (i := Tryz.t3) underlying34 kQ rfl rfl rfl rfl cQ (fun _ => rfl) Hx (.tmp (t := 98) rfl) (.tmp (t := 100) rfl) (h1.mono (Nat.zero_le _)) h2 cQ cQ a ((ha.fS (t := 98) rfl).fS (t := 100) rfl)
    exact .inl ⟨v, W', hr, ⟨hU0.T9 hG.fr (fun b hb => h1.base b hb), trivial⟩, OwnS.I9 hG.holds fun i hi => (hG.sub i hi).elim (fun h => h1.base i h) (fun h => Nat.le_trans zU0 h)⟩
   refine aC ⟨rfl, fun _ => TU.open (d := 101) rfl fun v hv => by obtain ⟨ad, c, rfl, _⟩ := OwnS.sl hv (fun _ => rfl); exact TU.p (.build (cs := Nu 14 ad 1 c) underlying365 zeroValue365 G1 (.ct rfl (.cu rfl)) rfl) ⟨ad, c, rfl, hv⟩, fun h => absurd h cQ⟩ (aC ⟨rfl, fun _ => TU.p (.fB 2 rfl) rfl, fun h => absurd h cQ⟩ (aC ⟨rfl, fun _ => TU.p (.lb rfl (hSW.b0.Ah rfl)) rfl, fun h => absurd h cQ⟩ (aC ⟨rfl, fun _ => TU.p (.mv rfl) rfl, fun h => absurd h cQ⟩ (aC ⟨rfl, fun _ => TU.p (.Av (j := 1) underlying83 sizeOf87 (.t rfl) (.t rfl) cQ as_) rfl, fun h => absurd h cQ⟩ (aC ⟨rfl, fun _ => TU.p (.lc rfl (hcs.up hSW.Cr)) rfl, fun h => absurd h cQ⟩ ?_)))))
   exact allL.nil
  intro w16 g hU0 hg
  have hU := (Up.drew w15).trans hU0
  have e73 := hg 0 _ 73 cQ rfl rfl rfl
  obtain ⟨adN, cN, e102, hO102⟩ := hg 29 _ 102 cQ rfl rfl rfl
  have e107 := hg 34 _ 107 cQ rfl rfl rfl
  change LW _ _ _ _ _ _ _ _ ((73, .eq (g 73)) :: (102, .eq (g 102)) :: (107, .eq (g 107)) :: _) _
  replace e73 : g 73 = _ := e73
  replace e107 : g 107 = _ := e107
  rw [e73, e102, e107]
  replace hS := hS.add hU (A' := J 3 1 Br (.slice adN 1 cN) ([1] : List Int)) (hO102.mono (Nat.zero_le _)) (fun i h => hO102.base i h)
  replace hS := hS.Ec 3 rfl
  replace hS := hS.Ec 3 rfl
  have hq_ := (show Wx.Sep _ _ _ ([_, _, _, _, _, _, _] ++ [_, _]) from hS)
  refine A3 (Cs (f := 354) (lb := #[.pointer (some ⟨B5, 0, none⟩), .pointer (some ⟨B7, 0, none⟩)]) (.t rfl) (.ct rfl (.cu rfl)) (mQ)) rfl (Nw B5 go 3 (dR b1 (.none)) 14 adN 1 cN s1 2 B7 _ (Els.up (hF.p s1 (by simp)).2 hS.Cr) (hF.g s1 (by simp)).bk (hF.g s1 (by simp)).nx.1 (by rw [hF.n1]; simp) cQ rfl (fun hne B o e h => by obtain ⟨A_, hA_, hi_⟩ := h; have h1_ := ((hq_.right.each A_ hA_).2 B hi_).resolve_left (fun h => h); have h2_ := Rk (hF.p s1 (by simp)).2 hne e; omega) hq_.right.self) ?_
  rintro _ w17 ⟨z1, uw17, hz1⟩
  replace hS := hq_.frame uw17
  obtain ⟨_, hz1⟩ := hz1.resolve_left (fun h => by rw [hF.n1] at h; cases h.1)
  obtain ⟨b2, rfl⟩ := Option.isSome_iff_exists.1 hz1
  replace hS := (((hS.Ec 3 rfl).Ec 8 rfl).Ec 5 rfl)
  replace hS := hS.sub (.cons_cons _ (.cons_cons _ (.cons_cons _ (.cons _ (.cons _ (List.Sublist.refl _))))))
  refine LW.nil (Ae (Ar ?_))
  exact ⟨(1, some b2, adN, cN), ⟨Nat.le_of_ble_eq_true rfl, .inr ⟨Nat.le_refl _, rfl⟩, hS⟩, tQ, by omega⟩
 | succ k1 =>
  obtain rfl : k1 = 0 := by omega
  obtain ⟨b2, rfl⟩ := Option.isSome_iff_exists.1 (hz.resolve_left (fun h => absurd h.1 cQ)).2
  obtain ⟨Bs, os, as_, hcs⟩ := hF.E 2 s2 rfl
  have hmn : s2.mn = 10 := (hF.g s2 (by simp)).mn
  refine Aa (Ab rfl (Ab rfl (I (.Av underlying417 sizeOf4 (j := 2) (k := 3) (.t rfl) (.t rfl) cQ rfl) (Be (.Pm (enc := BT) (k := 1) (z := true) (i := 2) (j := 0) sizeOf4 (fun _ => rfl) rfl (.t rfl) (.const _) (hS.own 1 rfl) (x0 := false) rfl cQ rfl) ?_))))
  intro w18 Gw18
  replace hS := hS.Ez 1 rfl Gw18
  refine Ai (Yd 35 28 [25, 27] [29] (.eq (.func (.func 354) #[] #[.pointer (some ⟨B5, 0, none⟩), .pointer (some ⟨B7, 0, none⟩)]) :: .eq (.slice (some ⟨go, 0, none⟩) 3 3) :: .eq (vi 2) :: .eq (.pointer (some ⟨go, 0 + 2 * 1, none⟩)) :: .eq (.pointer (some ⟨b2, 0, none⟩)) :: .eq (.pointer (some ⟨b2, 0, none⟩)) :: .eq (.pointer (some ⟨b2, 0, none⟩)) :: .eq (vi 14) :: .eq (.pointer (some ⟨B2, 2, none⟩)) :: .eq (.slice sa 3 sc) :: .eq (vi 2) :: .eq (.pointer (some ⟨Bs, os + 2 * 7, none⟩)) :: .eq (.pointer (some ⟨Bs, os + 2 * 7 + 2, none⟩)) :: .eq (vi 10) :: .eq (vi 24) :: .eq (.pointer (some ⟨B2, 0, none⟩)) :: .eq (vi 2) :: .eq (vi 26) :: .eq (.slice (some ⟨go, 0, none⟩) 3 3) :: .eq (vi 2) :: .eq (.pointer (some ⟨go, 0 + 2 * 1, none⟩)) :: .eq (.pointer (some ⟨b2, 0, none⟩)) :: .eq (.pointer (some ⟨b2, 0, none⟩)) :: .eq (.pointer (some ⟨b2, 1, none⟩)) :: .eq (.slice a 1 c) :: (.pred fun v W => OwnS W w18.drew.heap.size 3 1 Br v ([1] : List Int)) :: .eq (vi 2) :: (.pred fun v W => Sl W v 1 Br [2]) :: (.pred fun v W => OwnS W w18.drew.heap.size 3 1 Br v ([1, 2] : List Int)) :: (.pred fun v W => ∃ ad c, v = .agg (Nu 26 ad 2 c) ∧ OwnS W w18.drew.heap.size 3 1 Br (.slice ad 2 c) ([1, 2] : List Int)) :: .eq (.pointer (some ⟨B2, 2, none⟩)) :: .eq (.slice sa 3 sc) :: .eq (vi 2) :: .eq (.pointer (some ⟨Bs, os + 2 * 7, none⟩)) :: .eq (.agg s2.cells) :: []) [73, 102, 107] (fun _ _ => True) kQ rfl kQ kQ kQ kQ kQ kQ kQ kQ kQ kQ ⟨PhU.eq _, PhU.eq _, PhU.eq _, PhU.eq _, PhU.eq _, PhU.eq _, PhU.eq _, PhU.eq _, PhU.eq _, PhU.eq _, PhU.eq _, PhU.eq _, PhU.eq _, PhU.eq _, PhU.eq _, PhU.eq _, PhU.eq _, PhU.eq _, PhU.eq _, PhU.eq _, PhU.eq _, PhU.eq _, PhU.eq _, PhU.eq _, PhU.eq _, PhU.pred fun _ _ _ h u => OwnS.up h u, PhU.eq _, PhU.pred fun _ _ _ h u => Sl.up h u, PhU.pred fun _ _ _ h u => OwnS.up h u, PhU.pred fun _ _ _ h u => let ⟨ad, c, e, ho⟩ := h; ⟨ad, c, e, ho.up u⟩, PhU.eq _, PhU.eq _, PhU.eq _, PhU.eq _, PhU.eq _, trivial⟩ ⟨.inr (fun _ _ _ h _ => h), .inr (fun _ _ _ h _ => h), .inr (fun _ _ _ h _ => h), .inr (fun _ _ _ h _ => h), .inr (fun _ _ _ h _ => h), .inr (fun _ _ _ h _ => h), .inr (fun _ _ _ h _ => h), .inr (fun _ _ _ h _ => h), .inr (fun _ _ _ h _ => h), .inr (fun _ _ _ h _ => h), .inr (fun _ _ _ h _ => h), .inr (fun _ _ _ h _ => h), .inr (fun _ _ _ h _ => h), .inr (fun _ _ _ h _ => h), .inr (fun _ _ _ h _ => h), .inr (fun _ _ _ h _ => h), .inr (fun _ _ _ h _ => h), .inr (fun _ _ _ h _ => h), .inr (fun _ _ _ h _ => h), .inr (fun _ _ _ h _ => h), .inr (fun _ _ _ h _ => h), .inr (fun _ _ _ h _ => h), .inr (fun _ _ _ h _ => h), .inr (fun _ _ _ h _ => h), .inr (fun _ _ _ h _ => h), .inl rfl, .inr (fun _ _ _ h _ => h), .inl rfl, .inl rfl, .inl rfl, .inr (fun _ _ _ h _ => h), .inr (fun _ _ _ h _ => h), .inr (fun _ _ _ h _ => h), .inr (fun _ _ _ h _ => h), .inr (fun _ _ _ h _ => h), trivial⟩ ?_ ?_)
  ·intro W hU0
   have hU := (Up.drew w18).trans hU0
   have hSW := hS.up hU
   have zU0 := hU0.size
   obtain ⟨Bg, og, ag, hcg⟩ := (Db (hSW.own 4 rfl) (fun _ => rfl)) 2 (some b2) rfl
   cases ag
   have hEL : Els W a 1 Br ([1] : List Int) := Db (hSW.own 7 rfl) (fun _ => rfl)
   refine aC ⟨rfl, fun _ => TU.p (.mv rfl) rfl, fun h => absurd h cQ⟩ (aC ⟨rfl, fun _ => TU.p (.lb rfl (hSW.b3.Ah rfl)) rfl, fun h => absurd h cQ⟩ (aC ⟨rfl, fun _ => TU.p (.mv rfl) rfl, fun h => absurd h cQ⟩ (aC ⟨rfl, fun _ => TU.p (.Av (j := 2) underlying362 sizeOf361 (.t rfl) (.t rfl) cQ rfl) rfl, fun h => absurd h cQ⟩ (aC ⟨rfl, fun _ => TU.p (.lb rfl (AggAt.nth (j := 0) hcg rfl)) rfl, fun h => absurd h cQ⟩ (aC ⟨rfl, fun _ => TU.p (.nc rfl) rfl, fun h => absurd h cQ⟩ (aC ⟨rfl, fun _ => TU.p (.fB 0 rfl) rfl, fun h => absurd h cQ⟩ (aC ⟨rfl, fun _ => TU.p (.lb rfl ((hSW.blk 6 rfl).Ah rfl)) rfl, fun h => absurd h cQ⟩ (aC ⟨rfl, fun _ => TU.p (.fB 2 rfl) rfl, fun h => absurd h cQ⟩ (aC ⟨rfl, fun _ => TU.p (.lb rfl (hSW.b0.Ah rfl)) rfl, fun h => absurd h cQ⟩ (aC ⟨rfl, fun _ => TU.p (.mv rfl) rfl, fun h => absurd h cQ⟩ (aC ⟨rfl, fun _ => TU.p (.Av (j := 2) underlying83 sizeOf87 (.t rfl) (.t rfl) cQ as_) rfl, fun h => absurd h cQ⟩ (aC ⟨rfl, fun _ => TU.p (.fB 2 rfl) rfl, fun h => absurd h cQ⟩ (aC ⟨rfl, fun _ => TU.p (.dO (PEv.lb rfl ((hcs.up hSW.Cr).nth (j := 2) rfl)) (by rw [hmn])) rfl, fun h => absurd h cQ⟩ (aC ⟨rfl, fun _ => TU.p (.add (.t rfl) (.t rfl) cQ cQ) rfl, fun h => absurd h cQ⟩ (aC ⟨rfl, fun _ => TU.p (.fB 0 rfl) rfl, fun h => absurd h cQ⟩ (aC ⟨rfl, fun _ => TU.p (.lb rfl (hSW.b0.Ah rfl)) rfl, fun h => absurd h cQ⟩ (aC ⟨rfl, fun _ => TU.p (.add (.t rfl) (.t rfl) cQ cQ) rfl, fun h => absurd h cQ⟩ (aC ⟨rfl, fun _ => TU.p (.lb rfl (hSW.b3.Ah rfl)) rfl, fun h => absurd h cQ⟩ (aC ⟨rfl, fun _ => TU.p (.mv rfl) rfl, fun h => absurd h cQ⟩ (aC ⟨rfl, fun _ => TU.p (.Av (j := 2) underlying362 sizeOf361 (.t rfl) (.t rfl) cQ rfl) rfl, fun h => absurd h cQ⟩ (aC ⟨rfl, fun _ => TU.p (.lb rfl (AggAt.nth (j := 0) hcg rfl)) rfl, fun h => absurd h cQ⟩ (aC ⟨rfl, fun _ => TU.p (.nc rfl) rfl, fun h => absurd h cQ⟩ (aC ⟨rfl, fun _ => TU.p (.fB 1 rfl) rfl, fun h => absurd h cQ⟩ (aC ⟨rfl, fun _ => TU.p (.lb rfl ((hSW.blk 6 rfl).Ah rfl)) rfl, fun h => absurd h cQ⟩ (aC ⟨rfl, fun _ => TU.c (eC (.o rfl) (sE)) (Nx a c ([1] : List Int) W hEL cQ) (fun v W' h => ⟨h.2, h.1.mono zU0⟩), fun h => absurd h cQ⟩ (aC ⟨rfl, fun _ => TU.p (.mv rfl) rfl, fun h => absurd h cQ⟩ (aC ⟨rfl, fun _ => TU.r (REv.buildSlice (xs := ([2] : List Int)) (enc := Br) (mk := vi) underlying34 sizeOf3 zeroValue3 rfl bQ (fun _ => rfl) (fun _ => rfl) (.cu rfl) rfl) (fun v W' h => h.q), fun h => absurd h cQ⟩ (aC ⟨rfl, fun h => absurd rfl h, fun _ a ha => ?_⟩ ?_))))))))))))))))))))))))))))
   ·skip
    have h1 := ha.known (p := fun v W => OwnS W w18.drew.heap.size 3 1 Br v ([1] : List Int)) (t := 98) rfl
    have h2 := ha.known (p := fun v W => Sl W v 1 Br [2]) (t := 100) rfl
    obtain ⟨v, W', hr, hG⟩ := REv.C2 (enc := Br) (bytes := 8) (i := Tryz.t3) underlying34 kQ rfl rfl rfl rfl cQ (fun _ => rfl) Hx (.tmp (t := 98) rfl) (.tmp (t := 100) rfl) (h1.mono (Nat.zero_le _)) h2 cQ cQ a ((ha.fS (t := 98) rfl).fS (t := 100) rfl)
    exact .inl ⟨v, W', hr, ⟨hU0.T9 hG.fr (fun b hb => h1.base b hb), trivial⟩, OwnS.I9 hG.holds fun i hi => (hG.sub i hi).elim (fun h => h1.base i h) (fun h => Nat.le_trans zU0 h)⟩
   refine aC ⟨rfl, fun _ => TU.open (d := 101) rfl fun v hv => by obtain ⟨ad, c, rfl, _⟩ := OwnS.sl hv (fun _ => rfl); exact TU.p (.build (cs := Nu 26 ad 2 c) underlying365 zeroValue365 G1 (.ct rfl (.cu rfl)) rfl) ⟨ad, c, rfl, hv⟩, fun h => absurd h cQ⟩ (aC ⟨rfl, fun _ => TU.p (.fB 2 rfl) rfl, fun h => absurd h cQ⟩ (aC ⟨rfl, fun _ => TU.p (.lb rfl (hSW.b0.Ah rfl)) rfl, fun h => absurd h cQ⟩ (aC ⟨rfl, fun _ => TU.p (.mv rfl) rfl, fun h => absurd h cQ⟩ (aC ⟨rfl, fun _ => TU.p (.Av (j := 2) underlying83 sizeOf87 (.t rfl) (.t rfl) cQ as_) rfl, fun h => absurd h cQ⟩ (aC ⟨rfl, fun _ => TU.p (.lc rfl (hcs.up hSW.Cr)) rfl, fun h => absurd h cQ⟩ ?_)))))
   exact allL.nil
  intro w19 g hU0 hg
  have hU := (Up.drew w18).trans hU0
  have e73 := hg 0 _ 73 cQ rfl rfl rfl
  obtain ⟨adN, cN, e102, hO102⟩ := hg 29 _ 102 cQ rfl rfl rfl
  have e107 := hg 34 _ 107 cQ rfl rfl rfl
  change LW _ _ _ _ _ _ _ _ ((73, .eq (g 73)) :: (102, .eq (g 102)) :: (107, .eq (g 107)) :: _) _
  replace e73 : g 73 = _ := e73
  replace e107 : g 107 = _ := e107
  rw [e73, e102, e107]
  replace hS := hS.add hU (A' := J 3 1 Br (.slice adN 2 cN) ([1, 2] : List Int)) (hO102.mono (Nat.zero_le _)) (fun i h => hO102.base i h)
  replace hS := hS.Ec 3 rfl
  replace hS := hS.Ec 3 rfl
  have hq_ := (show Wx.Sep _ _ _ ([_, _, _, _, _, _, _] ++ [_, _]) from hS)
  refine A3 (Cs (f := 354) (lb := #[.pointer (some ⟨B5, 0, none⟩), .pointer (some ⟨B7, 0, none⟩)]) (.t rfl) (.ct rfl (.cu rfl)) (mQ)) rfl (Nw B5 go 3 (dR b1 (some b2)) 26 adN 2 cN s2 0 B7 _ (Els.up (hF.p s2 (by simp)).2 hS.Cr) (hF.g s2 (by simp)).bk (hF.g s2 (by simp)).nx.1 (by rw [hF.n2]; simp) cQ rfl (fun hne B o e h => by obtain ⟨A_, hA_, hi_⟩ := h; have h1_ := ((hq_.right.each A_ hA_).2 B hi_).resolve_left (fun h => h); have h2_ := Rk (hF.p s2 (by simp)).2 hne e; omega) hq_.right.self) ?_
  rintro _ w20 ⟨z1, uw20, hz1⟩
  replace hS := hq_.frame uw20
  obtain rfl : z1 = .none := (hz1.resolve_right (fun h => h.1 hF.n2)).2
  replace hS := (((hS.Ec 3 rfl).Ec 3 rfl).Ec 3 rfl)
  replace hS := hS.sub (.cons_cons _ (.cons_cons _ (.cons_cons _ (.cons _ (.cons_cons _ (.cons_cons _ (.cons _ (List.Sublist.refl _))))))))
  refine LW.nil (Ae (Ar ?_))
  exact ⟨(2, some b2, a, c), ⟨Nat.le_refl _, .inr ⟨Nat.le_of_ble_eq_true rfl, rfl⟩, hS⟩, tQ, by omega⟩
end Go.Proofs.YtgjogglfnkgapaaGreatDoor
