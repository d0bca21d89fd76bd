import Derived.Test.YtmimclgihlhaeaaGreatKR718
import Derived.Shelf.SlSortCmp.Insertion
import Derived.Lib.Small
import Derived.Sort.Statements
section
namespace Go.Wx
def oV : List Int → Int
 | [] => 0
 | x :: l => if x = 0 then oV l else x
theorem Yb {l : List Int} {k : Nat} (h : ∀ x ∈ l.take k, x = 0) : oV l = oV (l.drop k) := by
 induction l generalizing k with
 | nil => simp
 | cons a l ih =>
   cases k with
   | zero => rfl
   | succ k =>
     rw [List.take_succ_cons] at h
     have h0 := h a List.mem_cons_self
     rw [List.drop_succ_cons, ← ih fun x hx => h x (List.mem_cons_of_mem _ hx)]
     show (if a = 0 then oV l else a) = _
     rw [if_pos h0]
theorem uZ {l : List Int} {k : Nat} {x : Int} (h : ∀ y ∈ l.take k, y = 0) (hx : l[k]? = some x) (hn : x ≠ 0) : oV l = x := by
 obtain ⟨hk, e⟩ := List.getElem?_eq_some_iff.1 hx
 rw [Yb h, List.drop_eq_getElem_cons hk, e]
 show (if x = 0 then _ else x) = x
 rw [if_neg hn]
theorem mP {l : List Int} {k : Nat} (h : ∀ y ∈ l.take k, y = 0) (hk : l.length ≤ k) : oV l = 0 := by
 rw [Yb h, List.drop_eq_nil_of_le hk]
 rfl
def Jk (a b : Ar2) : Prop := a.a < b.a ∨ (a.a = b.a ∧ a.b < b.b)
def Mx (a b : Ar2) : Int := if Lib.compareInt a.a b.a ≠ 0 then Lib.compareInt a.a b.a else Lib.compareInt a.b b.b
theorem DM (x y : Ar2) : oV [Lib.compareInt x.a y.a, Lib.compareInt x.b y.b] = Mx x y := by
 unfold Mx
 generalize Lib.compareInt x.a y.a = a
 generalize Lib.compareInt x.b y.b = b
 show (if a = 0 then (if b = 0 then 0 else b) else a) = _
 by_cases h1 : a = 0
 · by_cases h2 : b = 0 <;> simp [h1, h2]
 simp [h1]
theorem rJ (a b : Ar2) : Mx a b < 0 ↔ Jk a b := by
 unfold Mx Jk Lib.compareInt
 by_cases h1 : a.a < b.a
 · simp [h1]
 by_cases h2 : b.a < a.a
 · simp [h1, h2]; omega
 have e : a.a = b.a := by omega
 by_cases h3 : a.b < b.b
 · simp [e, h3]
 by_cases h4 : b.b < a.b
 · simp [e, h3, h4]
 simp [e, h3, h4]
theorem Lz (a b : Ar2) : Go.Proofs.ltOf Mx a b = true ↔ Jk a b := by
 unfold Go.Proofs.ltOf
 rw [decide_eq_true_iff]
 exact rJ a b
theorem Vg (a : Ar2) : ¬ Jk a a := by unfold Jk; omega
theorem Ln {a b c : Ar2} (h : Jk a b) (k : Jk b c) : Jk a c := by unfold Jk at *; omega
theorem Ny {a b : Ar2} (h : ¬ Jk a b) (k : ¬ Jk b a) : a = b := by
 obtain ⟨a1, a2⟩ := a
 obtain ⟨b1, b2⟩ := b
 unfold Jk at *
 dsimp only at h k
 have e1 : a1 = b1 := by omega
 have e2 : a2 = b2 := by omega
 rw [e1, e2]
theorem dV {a b c : Ar2} (h : ¬ Jk a b) (k : ¬ Jk b c) : ¬ Jk a c := by unfold Jk at *; omega
theorem CZ : Sort.SWO (Go.Proofs.ltOf Mx) where
 irrefl x := by
   cases h : Go.Proofs.ltOf Mx x x
   · rfl
   exact absurd ((Lz _ _).1 h) (Vg x)
 trans x y z h k := (Lz _ _).2 (Ln ((Lz _ _).1 h) ((Lz _ _).1 k))
 ntrans x y z h k := by
   cases e : Go.Proofs.ltOf Mx x z
   · rfl
   exact absurd ((Lz _ _).1 e) (dV (fun e' => by rw [(Lz _ _).2 e'] at h; cases h) (fun e' => by rw [(Lz _ _).2 e'] at k; cases k))
theorem DA (x y : Ar2) (h : Go.Proofs.ltOf Mx x y = false) (k : Go.Proofs.ltOf Mx y x = false) : x = y :=
 Ny (fun e' => by rw [(Lz _ _).2 e'] at h; cases h) (fun e' => by rw [(Lz _ _).2 e'] at k; cases k)
instance : Inhabited Ar2 := ⟨⟨0, 0⟩⟩
end Go.Wx
namespace Go.Proofs.YtmimclgihlhaeaaGreat
open Go.Proofs.Tryz
open Go.Wx Go.RowKit
theorem Yc (a : Int) (w : World) : Ret Tryz.prog 106 #[vi a] w fun r w' => r = .bool false ∧ w' = w := by
 refine cS (n := 6) (m := 9) func106 rfl rfl rfl (CW.S (LW.C (LW.S (CW.region (LW.M rfl (LW.M rfl (LW.pp (.neq (.t rfl) (.t rfl)) (LW.A rfl (LW.T (CW.ret (Ae rfl rfl ⟨_, rfl, ?_⟩)))))))))))
 exact ⟨by simp, rfl⟩
theorem Yd (a b : Int) (w : World) : Ret Tryz.prog 50 #[vi a, vi b] w fun r w' => r = vi (Lib.compareInt a b) ∧ w' = w := by
 refine cS (n := 20) (m := 9) func50 rfl rfl rfl (CW.S (LW.C (LW.S (CW.region (LW.M rfl (LW.K (eC (.o rfl) (cE)) rfl (Yc _ _) ?_))))))
 rintro _ w1 ⟨rfl, ew1⟩
 subst ew1
 refine LW.A rfl (LW.S (CW.region (LW.M rfl (LW.K (eC (.o rfl) (cE)) rfl (Yc _ _) ?_))))
 rintro _ w2 ⟨rfl, ew2⟩
 subst ew2
 refine LW.A rfl (LW.S (CW.S (LW.M rfl (LW.T (CW.cond (.t rfl) (fun h11 => ?_) (fun h11 => ?_))))))
 ·refine CW.seq (CW.S (LW.M rfl (LW.T (CW.cond (.t rfl) (fun h12 => ?_) (fun h12 => ?_)))))
  ·refine CW.S (LW.C (LW.T (CW.ret (Af (Af (Ae rfl rfl ⟨_, rfl, ?_⟩))))))
   exact ⟨by unfold Lib.compareInt; (simp_all; done), rfl⟩
  refine CW.skip (KW.then (CW.S (LW.C (LW.T (CW.ret (Af (Ae rfl rfl ⟨_, rfl, ?_⟩)))))))
  exact ⟨by unfold Lib.compareInt; (simp_all; done), rfl⟩
 refine CW.skip (KW.then (CW.seq (CW.S (LW.M rfl (LW.T (CW.cond (.t rfl) (fun h13 => ?_) (fun h13 => ?_)))))))
 ·refine CW.S (LW.C (LW.T (CW.ret (Af (Ae rfl rfl ⟨_, rfl, ?_⟩)))))
  exact ⟨by unfold Lib.compareInt; (simp_all; done), rfl⟩
 refine CW.skip (KW.then (CW.seq (CW.S (LW.M rfl (LW.M rfl (LW.pp (.lss (.t rfl) (.t rfl)) (LW.T (CW.cond (.t rfl) (fun h16 => ?_) (fun h16 => ?_)))))))))
 ·refine CW.S (LW.C (LW.T (CW.ret (Af (Ae rfl rfl ⟨_, rfl, ?_⟩)))))
  exact ⟨by unfold Lib.compareInt; (simp_all; done), rfl⟩
 replace h16 := dQ h16
 refine CW.skip (KW.then (CW.seq (CW.S (LW.M rfl (LW.M rfl (LW.pp (.gtr (.t rfl) (.t rfl)) (LW.T (CW.cond (.t rfl) (fun h19 => ?_) (fun h19 => ?_)))))))))
 ·replace h19 := dQ h19
  refine CW.S (LW.C (LW.T (CW.ret (Af (Ae rfl rfl ⟨_, rfl, ?_⟩)))))
  exact ⟨by unfold Lib.compareInt; (simp_all; done), rfl⟩
 replace h19 := dQ h19
 refine CW.skip (KW.then (CW.S (LW.C (LW.T (CW.ret (Ae rfl rfl ⟨_, rfl, ?_⟩))))))
 exact ⟨by unfold Lib.compareInt; rw [if_neg oQ, if_neg (by omega)], rfl⟩
theorem rK (ad : Option Addr) (cp : Nat) (l : List Int) (w : World) (hE0 : Els w ad 1 Aq l) (hl : l.length ≤ 1000) : Ret Tryz.prog 49 #[.slice ad l.length cp] w fun r w' => r = vi (oV l) ∧ w' = w := by
 obtain ⟨w0, rfl⟩ : ∃ w0, w0 = w := ⟨_, rfl⟩
 refine cS (n := 18) (m := 9) func49 rfl rfl rfl (CW.S (LW.C (LW.S (CW.region (LW.C (LW.S (CW.S (LW.M rfl (LW.pp (.Ci underlying30 (.t rfl)) (LW.pp (.move (.const _)) (LW.T (CW.block (Am (σ := Nat) (fun s w => (s ≤ l.length) ∧ (∀ y ∈ l.take s, y = 0) ∧ (w = w0)) (fun s => [(8, .eq (vi (s : Int)))]) ([(3, .eq _), (6, .eq _), (7, .eq _)]) (fun s => l.length - s) 0 ?_ ⟨rfl, rfl, rfl, rfl, trivial⟩ ?_)))))))))))))
 ·exact ⟨Nat.zero_le _, by simp, rfl⟩
 rintro k w1 ⟨hk, hn, hE⟩
 refine CW.S (LW.pp (.lss (.t rfl) (.t rfl)) (LW.S (CW.cond (.t rfl) (fun h9 => ?_) (fun h9 => ?_))))
 ·replace h9 := dQ h9
  refine CW.skip (KW.then (CW.seq (CW.block (CW.seq ?_))))
  subst hE
  obtain ⟨y, hy⟩ : ∃ y, l[k]? = some y := ⟨_, List.getElem?_eq_getElem (by simp at h9; omega)⟩
  obtain ⟨Bx, ox, rfl, hcy⟩ := hE0 k y hy
  refine CW.region (LW.pp (.Aj underlying30 sizeOf3 (j := k) (.t rfl) (.t rfl) oQ rfl) (LW.pp (.ld isAgg3 rfl (hcy.nth (j := 0) rfl)) (LW.A rfl (LW.S (CW.region (LW.M rfl (LW.M rfl (LW.pp (.neq (.t rfl) (.t rfl)) (LW.T (CW.cond (.t rfl) (fun h14 => ?_) (fun h14 => ?_)))))))))))
  ·replace h14 := dQ h14
   refine CW.S (LW.M rfl (LW.A rfl (LW.T (CW.ret (An (Af (Af (An (Af (Ae rfl rfl ⟨_, rfl, ?_⟩))))))))))
   exact ⟨congrArg vi (uZ hn hy (by simpa using h14)).symm, rfl⟩
  refine CW.skip (KW.inBlock (KW.then (CW.region (LW.pp (.inc (.t rfl) oQ) (LW.M rfl (LW.nil (KW.round ?_)))))))
  exact ⟨k + 1, ⟨by simp at h9; omega, fun z hz => by rw [List.take_add_one, hy] at hz; rcases List.mem_append.1 hz with h | h; exact hn z h; rw [List.mem_singleton.1 h]; simpa using h14, rfl⟩, ⟨rfl, rfl, rfl, rfl, trivial⟩, by simp at h9; omega⟩
 refine CW.exit (Aa (Aa (Ad (KW.then (CW.S (LW.M rfl (LW.A rfl (LW.T (CW.ret (Ae rfl rfl ⟨_, rfl, ?_⟩))))))))))
 exact ⟨congrArg vi (mP hn (by simp at h9; omega)).symm, hE⟩
theorem Vh (x y : Ar2) (w : World) : Ret Tryz.prog 48 #[.agg x.cells, .agg y.cells] w fun r w' => r = vi (Mx x y) ∧ Dr w w' := by
 have hD := Dr.refl w
 refine cS (n := 17) (m := 9) func48 rfl rfl rfl (CW.S (Ah (.zT (.t rfl)) rfl ?_))
 rintro _ w1 ⟨B2, rfl, NB2, dB2⟩
 replace hD := hD.trans (Dr.same NB2.up dB2)
 have hB2 := NB2.blk
 refine Ah (.zT (.t rfl)) rfl ?_
 rintro _ w2 ⟨B3, rfl, NB3, dB3⟩
 replace hB2 := hB2.up NB3.up
 replace hD := hD.trans (Dr.same NB3.up dB3)
 have hB3 := NB3.blk
 refine LW.C (LW.S ?_)
 have hDw := hD
 refine mO 12 [.eq (.pointer (some ⟨B2, 0, none⟩)), .eq (vi x.a), .eq (.pointer (some ⟨B3, 0, none⟩)), .eq (vi y.a), .eq (vi (Lib.compareInt x.a y.a)), .eq (.pointer (some ⟨B2, 1, none⟩)), .eq (vi x.b), .eq (.pointer (some ⟨B3, 1, none⟩)), .eq (vi y.b), .eq (vi (Lib.compareInt x.b y.b)), .pred (fun v w => Sl w v 1 Aq [Lib.compareInt x.a y.a, Lib.compareInt x.b y.b]), .eq (vi (oV [Lib.compareInt x.a y.a, Lib.compareInt x.b y.b]))] [16] kQ rfl kQ kQ kQ kQ kQ kQ kQ ⟨PhD.eq _, PhD.eq _, PhD.eq _, PhD.eq _, PhD.eq _, PhD.eq _, PhD.eq _, PhD.eq _, PhD.eq _, PhD.eq _, PhD.pred fun _ _ _ h u => Sl.up h u, PhD.eq _, trivial⟩ ?_ ?_
 ·intro W hD0
  have hU := ((Dr.drew w2).trans hD0).up
  refine aC ⟨rfl, TD.p (PEv.Bk (j := 0) underlying99 sizeOf3 (.t rfl) (.const _) cQ) rfl⟩ (aC ⟨rfl, TD.p (PEv.ld isAgg3 rfl ((hB2.up hU).Ai rfl)) rfl⟩ (aC ⟨rfl, TD.p (PEv.Bk (j := 0) underlying99 sizeOf3 (.t rfl) (.const _) cQ) rfl⟩ (aC ⟨rfl, TD.p (PEv.ld isAgg3 rfl ((hB3.up hU).Ai rfl)) rfl⟩ (aC ⟨rfl, TD.c (eC (.u rfl rfl) (eZ)) (Yd x.a y.a _) (by rintro _ W1 ⟨rfl, rfl⟩; exact ⟨Dr.refl _, rfl⟩)⟩ (aC ⟨rfl, TD.p (PEv.Bk (j := 1) underlying99 sizeOf3 (.t rfl) (.const _) cQ) rfl⟩ (aC ⟨rfl, TD.p (PEv.ld isAgg3 rfl ((hB2.up hU).Ai rfl)) rfl⟩ (aC ⟨rfl, TD.p (PEv.Bk (j := 1) underlying99 sizeOf3 (.t rfl) (.const _) cQ) rfl⟩ (aC ⟨rfl, TD.p (PEv.ld isAgg3 rfl ((hB3.up hU).Ai rfl)) rfl⟩ (aC ⟨rfl, TD.c (eC (.u rfl rfl) (eZ)) (Yd x.b y.b _) (by rintro _ W1 ⟨rfl, rfl⟩; exact ⟨Dr.refl _, rfl⟩)⟩ (aC ⟨rfl, TD.r (P0 (xs := [Lib.compareInt x.a y.a, Lib.compareInt x.b y.b]) (enc := Aq) (mk := vi) underlying30 sizeOf3 zeroValue3 rfl cQ (fun _ => rfl) (fun _ => rfl) (.cons (.t rfl) (.cons (.t rfl) .nil)) rfl) (by rintro _ W1 ⟨h, e⟩; exact ⟨Dr.same h.q.1 e, h.q.2⟩)⟩ (aC ⟨rfl, TD.open (d := 15) rfl (by rintro _ ⟨ad, cp, rfl, hE⟩; exact TD.c (eC (.o rfl) (tA)) (rK ad cp [Lib.compareInt x.a y.a, Lib.compareInt x.b y.b] _ hE (Nat.le_of_ble_eq_true rfl)) (by rintro _ W1 ⟨rfl, rfl⟩; exact ⟨Dr.refl _, rfl⟩))⟩ ?_)))))))))))
  exact allL.nil
 intro w3 g hD0 hg
 have hD := (Dr.drew w2).trans hD0
 have e4 : g 16 = vi (oV [Lib.compareInt x.a y.a, Lib.compareInt x.b y.b]) := hg 11 _ 16 cQ rfl rfl
 change LW _ _ _ _ _ _ _ _ ((16, .eq (g 16)) :: _) _
 rw [e4]
 replace hD := hDw.trans hD
 refine LW.A rfl (LW.T (CW.ret (Ae rfl rfl ⟨_, rfl, ?_⟩)))
 exact ⟨congrArg vi (DM x y), hD⟩
end Go.Proofs.YtmimclgihlhaeaaGreat
end
section
namespace Go.Wx
structure BE (κ : Type) where
 g : κ
 v : Go.Value
 l : List Int
def BE.kv {κ : Type} (e : BE κ) : κ × Go.Value := (e.g, e.v)
def BE.own {κ : Type} (ti : TypeId) (e : BE κ) : Asr := Al ti 1 Aq e.v e.l
def S4 {κ : Type} (ti : TypeId) (D : List (BE κ)) : Asr := Db (D.map (BE.own ti))
structure BeInv {κ : Type} (D : List (BE κ)) (F : κ → List Int) : Prop where
 nd : (D.map (·.g)).Nodup
 key : ∀ g, g ∈ D.map (·.g) ↔ F g ≠ []
 val : ∀ e ∈ D, e.l = F e.g
def Ye {κ : Type} [DecidableEq κ] (F : κ → List Int) (g : κ) (w : Int) : κ → List Int := fun k => if k = g then F k ++ [w] else F k
theorem J5 {κ : Type} (D : List (BE κ)) : (D.map BE.kv).map (·.1) = D.map (·.g) := by rw [List.map_map]; rfl
theorem BeInv.nil {κ : Type} {F : κ → List Int} (h : ∀ g, F g = []) : BeInv ([] : List (BE κ)) F := ⟨List.nodup_nil, fun g => ⟨fun e => (by cases e), fun e => absurd (h g) e⟩, fun _ e => (by cases e)⟩
theorem bF {α β : Type} (f : α → β) {l : List α} {j : Nat} {x : α} (h : l[j]? = some x) (y : α) (e : f y = f x) : (l.set j y).map f = l.map f := by
 rw [List.map_set, e]
 apply List.ext_getElem?
 intro i
 by_cases hij : j = i
 · subst hij
   have hl := (List.getElem?_eq_some_iff.1 h).1
   rw [List.getElem?_set_self (by rw [List.length_map]; exact hl), List.getElem?_map, h]
   rfl
 rw [List.getElem?_set_ne hij]
theorem vA {κ : Type} [DecidableEq κ] {D : List (BE κ)} (hn : (D.map (·.g)).Nodup) {j : Nat} {e : BE κ} (hj : D[j]? = some e) (v : Go.Value) (l : List Int) : Mk.D5 (D.map BE.kv) e.g v = (D.set j ⟨e.g, v, l⟩).map BE.kv := by
 have hl := (List.getElem?_eq_some_iff.1 hj).1
 have hm : e.g ∈ (D.map BE.kv).map (·.1) := by rw [J5]; exact List.mem_map.2 ⟨e, List.mem_of_getElem? hj, rfl⟩
 rw [Mk.D5, if_pos hm]
 apply List.ext_getElem?
 intro i
 simp only [List.getElem?_map]
 by_cases hij : j = i
 · subst hij
   rw [hj, List.getElem?_set_self hl]
   simp [BE.kv]
 rw [List.getElem?_set_ne hij]
 cases hq : D[i]? with
 | none => rfl
 | some q =>
   have hne : ¬ (BE.kv q).1 = e.g := fun e' => by
     have h1 : (D.map (·.g))[i]? = some e.g := by rw [List.getElem?_map, hq]; exact congrArg some e'
     have h2 : (D.map (·.g))[j]? = some e.g := by rw [List.getElem?_map, hj]; rfl
     obtain ⟨hi, h3⟩ := List.getElem?_eq_some_iff.1 h1
     obtain ⟨hj', h4⟩ := List.getElem?_eq_some_iff.1 h2
     exact hij ((List.getElem_inj hn).1 (h4.trans h3.symm))
   simp [hne]
theorem mQ {κ : Type} [DecidableEq κ] {D : List (BE κ)} {F : κ → List Int} {g : κ} {w : Int} {v : Go.Value} {j : Nat} {e : BE κ} (hn : (D.map (·.g)).Nodup) (hk : ∀ k, k ∈ D.map (·.g) ↔ k = g ∨ F k ≠ []) (hv : ∀ q ∈ D, q.l = F q.g) (hj : D[j]? = some e) (hg : e.g = g) : BeInv (D.set j ⟨g, v, F g ++ [w]⟩) (Ye F g w) := by
 have hs : (D.set j ⟨g, v, F g ++ [w]⟩).map (·.g) = D.map (·.g) := bF _ hj _ hg.symm
 refine ⟨by rw [hs]; exact hn, fun k => ?_, fun q hq => ?_⟩
 · rw [hs, hk]
   unfold Ye
   by_cases h : k = g <;> simp [h]
 obtain ⟨i, hi⟩ := List.getElem?_of_mem hq
 have hl := (List.getElem?_eq_some_iff.1 hj).1
 unfold Ye
 by_cases hij : j = i
 · subst hij
   rw [List.getElem?_set_self hl] at hi
   cases hi
   rw [if_pos rfl]
 rw [List.getElem?_set_ne hij] at hi
 have hne : ¬ q.g = g := fun e' => by
   have h1 : (D.map (·.g))[i]? = some g := by rw [List.getElem?_map, hi]; exact congrArg some e'
   have h2 : (D.map (·.g))[j]? = some g := by rw [List.getElem?_map, hj]; exact congrArg some hg
   obtain ⟨hi', h3⟩ := List.getElem?_eq_some_iff.1 h1
   obtain ⟨hj', h4⟩ := List.getElem?_eq_some_iff.1 h2
   exact hij ((List.getElem_inj hn).1 (h4.trans h3.symm))
 rw [if_neg hne]
 exact hv q (List.mem_of_getElem? hi)
theorem Yf {κ : Type} [DecidableEq κ] {D : List (BE κ)} {F : κ → List Int} (h : BeInv D F) {g : κ} {v0 : Go.Value} (w : Int) (h0 : (g ∉ (D.map BE.kv).map (·.1) ∧ v0 = .slice none 0 0) ∨ (g, v0) ∈ D.map BE.kv) :
   ∃ D1 j e1, (D1 = D ∨ D1 = D ++ [(⟨g, .slice none 0 0, []⟩ : BE κ)]) ∧ D1[j]? = some e1 ∧ e1.v = v0 ∧ e1.l = F g ∧ ∀ v, Mk.D5 (D.map BE.kv) g v = (D1.set j ⟨g, v, F g ++ [w]⟩).map BE.kv ∧ BeInv (D1.set j ⟨g, v, F g ++ [w]⟩) (Ye F g w) := by
 rcases h0 with ⟨h1, rfl⟩ | h1
 · rw [J5] at h1
   have hF : F g = [] := by
     cases e : F g with
     | nil => rfl
     | cons a b => exact absurd ((h.key g).2 (by rw [e]; simp)) h1
   refine ⟨_, D.length, ⟨g, .slice none 0 0, []⟩, .inr rfl, by simp, rfl, hF.symm, fun v => ⟨?_, mQ (e := ⟨g, .slice none 0 0, []⟩) ?_ ?_ ?_ (by simp) rfl⟩⟩
   · have hs : (D ++ [(⟨g, .slice none 0 0, []⟩ : BE κ)]).set D.length ⟨g, v, F g ++ [w]⟩ = D ++ [⟨g, v, F g ++ [w]⟩] := by rw [List.set_append]; simp
     rw [Mk.D5, if_neg (by rw [J5]; exact h1), hs, List.map_append]
     rfl
   · rw [List.map_append]
     exact List.nodup_append.2 ⟨h.nd, by simp, fun a ha c hc => by simp at hc; subst hc; exact fun e => h1 (e ▸ ha)⟩
   · intro k
     rw [List.map_append, List.mem_append, h.key]
     simp [or_comm]
   intro q hq
   rcases List.mem_append.1 hq with hq | hq
   · exact h.val q hq
   rw [List.mem_singleton.1 hq]; exact hF.symm
 obtain ⟨e, he, hek⟩ := List.mem_map.1 h1
 obtain ⟨j, hj⟩ := List.getElem?_of_mem he
 have e1 : e.g = g := congrArg Prod.fst hek
 have e2 : e.v = v0 := congrArg Prod.snd hek
 refine ⟨D, j, e, .inl rfl, hj, e2, by rw [h.val e he, e1], fun v => ⟨by rw [← e1]; exact vA h.nd hj v _, mQ h.nd (fun k => ?_) h.val hj e1⟩⟩
 rw [h.key]
 refine ⟨.inr, fun hk => hk.elim (fun hk => ?_) id⟩
 rw [hk, ← h.key, ← e1]
 exact List.mem_map.2 ⟨e, he, rfl⟩
theorem bG {As : List Asr} {A : Asr} {w : World} (h : (Db As).holds w) (hA : A.holds w) (hf : ∀ i, ¬ A.foot i) : Stp (Db As) (Db (As ++ [A])) w w :=
 ⟨Fr.refl _ _, ⟨fun B hB => (List.mem_append.1 hB).elim (h.1 B) fun hB => by rw [List.mem_singleton.1 hB]; exact hA, List.pairwise_append.2 ⟨h.2, by simp, fun B _ C hC i _ => by rw [List.mem_singleton.1 hC]; exact hf i⟩⟩, fun i ⟨B, hB, hi⟩ => .inl ((List.mem_append.1 hB).elim (fun hB => ⟨B, hB, hi⟩) fun hB => by rw [List.mem_singleton.1 hB] at hi; exact absurd hi (hf i))⟩
theorem mR {κ : Type} {ti : TypeId} {D D1 : List (BE κ)} {g : κ} {w : World} (h : D1 = D ∨ D1 = D ++ [(⟨g, .slice none 0 0, []⟩ : BE κ)]) (hh : (S4 ti D).holds w) : Stp (S4 ti D) (S4 ti D1) w w := by
 rcases h with rfl | rfl
 · exact Stp.refl hh
 unfold S4 at hh ⊢
 rw [List.map_append]
 exact bG hh (OwnS.nil _ _ _ _ _) (fun i hi => by cases hi)
theorem mS {κ : Type} {ti : TypeId} {D : List (BE κ)} {j : Nat} {e : BE κ} {g : κ} {v : Go.Value} {l : List Int} {w w' : World} (h : (S4 ti D).holds w) (hj : D[j]? = some e) (s : Stp (Al ti 1 Aq e.v e.l) (Al ti 1 Aq v l) w w') : Stp (S4 ti D) (S4 ti (D.set j ⟨g, v, l⟩)) w w' := by
 have h2 := Kq (A' := Al ti 1 Aq v l) h (by rw [List.getElem?_map, hj]; rfl) s
 unfold S4 at h2 ⊢
 rw [List.map_set]
 exact h2
theorem O1 {κ : Type} {ti : TypeId} {D : List (BE κ)} {w : World} (h : (S4 ti D).holds w) {e : BE κ} (he : e ∈ D) : OwnS w 0 ti 1 Aq e.v e.l := h.1 (BE.own ti e) (List.mem_map.2 ⟨e, he, rfl⟩)
theorem rL (kv : List (Int × Go.Value)) (k : Int) (v : Go.Value) : D5 kv k v = Mk.D5 kv k v := rfl
theorem vB {κ : Type} [DecidableEq κ] (kv : List (κ × Go.Value)) (k : κ) : ∃ v0, (k ∉ kv.map (·.1) ∧ v0 = .slice none 0 0) ∨ (k, v0) ∈ kv := by
 by_cases h : k ∈ kv.map (·.1)
 · obtain ⟨p, hp, rfl⟩ := List.mem_map.1 h
   exact ⟨p.2, .inr hp⟩
 exact ⟨_, .inl ⟨h, rfl⟩⟩
def F3 (f : Fact) : Ar2 := ⟨f.Time, f.Until⟩
def Ic {α : Type} [DecidableEq α] (K : List α) (g : α) : List α := if g ∈ K then K else K ++ [g]
theorem Nz {α : Type} [DecidableEq α] {K : List α} {g x : α} : x ∈ Ic K g ↔ x ∈ K ∨ x = g := by
 unfold Ic
 split
 · rename_i h
   exact ⟨.inl, fun e => e.elim id fun e => e ▸ h⟩
 simp
theorem My {α : Type} [DecidableEq α] {K : List α} {g : α} (h : K.Nodup) : (Ic K g).Nodup := by
 unfold Ic
 split
 · exact h
 rename_i hn
 exact List.nodup_append.2 ⟨h, by simp, fun a ha c hc => by simp at hc; subst hc; exact fun e => hn (e ▸ ha)⟩
def Fy (P : List Fact) (why : List Int) : List Ar2 := P.foldl (fun K f => if f.ID ∈ why then Ic K (F3 f) else K) []
theorem O2 (P : List Fact) (why : List Int) (f : Fact) : Fy (P ++ [f]) why = if f.ID ∈ why then Ic (Fy P why) (F3 f) else Fy P why := by
 unfold Fy
 rw [List.foldl_append]
 rfl
theorem mT {P : List Fact} {why : List Int} {j : Nat} {y : Fact} (hy : P[j]? = some y) (h : y.ID ∈ why) : Fy (P.take (j + 1)) why = Ic (Fy (P.take j) why) (F3 y) := by
 rw [List.take_add_one, hy, Option.toList_some, O2, if_pos h]
theorem rM {P : List Fact} {why : List Int} {j : Nat} {y : Fact} (hy : P[j]? = some y) (h : ¬ y.ID ∈ why) : Fy (P.take (j + 1)) why = Fy (P.take j) why := by
 rw [List.take_add_one, hy, Option.toList_some, O2, if_neg h]
theorem Fc {α : Type} {p : List α → Prop} (h0 : p []) (h1 : ∀ l x, p l → p (l ++ [x])) (l : List α) : p l := by
 have h : ∀ m : List α, p m.reverse := fun m => by
   induction m with
   | nil => exact h0
   | cons x m ih => rw [List.reverse_cons]; exact h1 _ _ ih
 have := h l.reverse
 rwa [List.reverse_reverse] at this
theorem N0 {P : List Fact} {why : List Int} {g : Ar2} : g ∈ Fy P why ↔ ∃ f ∈ P, f.ID ∈ why ∧ F3 f = g := by
 refine Fc (p := fun P => g ∈ Fy P why ↔ ∃ f ∈ P, f.ID ∈ why ∧ F3 f = g) (by simp [Fy]) (fun l x h => ?_) P
 rw [O2]
 have e : (∃ f ∈ l ++ [x], f.ID ∈ why ∧ F3 f = g) ↔ (∃ f ∈ l, f.ID ∈ why ∧ F3 f = g) ∨ (x.ID ∈ why ∧ F3 x = g) := by
   simp only [List.mem_append, List.mem_singleton]
   constructor
   · rintro ⟨f, hf | rfl, h2⟩
     · exact .inl ⟨f, hf, h2⟩
     exact .inr h2
   rintro (⟨f, hf, h2⟩ | h2)
   · exact ⟨f, .inl hf, h2⟩
   exact ⟨x, .inr rfl, h2⟩
 rw [e]
 split
 · rename_i hx
   rw [Nz, h]
   simp [hx, eq_comm]
 rename_i hx
 rw [h]
 simp [hx]
def Ry (g : Ar2) : Ar2 × Go.Value := (g, .bool true)
theorem Mz (K : List Ar2) : (K.map Ry).map (·.1) = K := by rw [List.map_map]; exact List.map_id _
theorem bH (K : List Ar2) (g : Ar2) : Mk.D5 (K.map Ry) g (.bool true) = (Ic K g).map Ry := by
 unfold Mk.D5 Ic
 rw [Mz]
 split
 · rw [List.map_map]
   refine List.map_congr_left fun x _ => ?_
   show (if x = g then (g, Go.Value.bool true) else Ry x) = Ry x
   by_cases hx : x = g
   · subst hx; rw [if_pos rfl]; rfl
   rw [if_neg hx]
 rw [List.map_append]; rfl
def Gw (P : List Fact) (O : List Vd) (g : Ar2) : List Int := (O.filter (fun p => decide (g ∈ Fy P p.why))).map (·.w)
def Es (b : Base) (O : List Vd) (n : Int) : List Int := (O.filter (fun p => decide (Eb b p = n ∧ n ≠ 0))).map (·.w)
def O3 (P : List Fact) (O : List Vd) (p : Vd) (V : List Ar2) (g : Ar2) : List Int := Gw P O g ++ if g ∈ V then [p.w] else []
theorem mU (P : List Fact) (O : List Vd) (p : Vd) : O3 P O p [] = Gw P O := funext fun g => by simp [O3]
theorem mV {P : List Fact} {O : List Vd} {p : Vd} {V : List Ar2} {g : Ar2} (h : g ∉ V) : O3 P O p (V ++ [g]) = Ye (O3 P O p V) g p.w := funext fun k => by
 unfold O3 Ye
 by_cases e : k = g
 · subst e; simp [h]
 simp [e]
theorem iF {P : List Fact} {O : List Vd} {p : Vd} {V : List Ar2} (h : V.Perm (Fy P p.why)) : O3 P O p V = Gw P (O ++ [p]) := funext fun k => by
 unfold O3 Gw
 rw [List.filter_append, List.map_append]
 congr 1
 by_cases e : k ∈ Fy P p.why
 · rw [if_pos (h.mem_iff.2 e)]; simp [e]
 rw [if_neg (fun h' => e (h.mem_iff.1 h'))]; simp [e]
theorem iG {b : Base} {O : List Vd} {p : Vd} (h : ¬ Eb b p = 0) : Es b (O ++ [p]) = Ye (Es b O) (Eb b p) p.w := funext fun k => by
 unfold Es Ye
 rw [List.filter_append, List.map_append]
 by_cases e : k = Eb b p
 · subst e; simp [h]
 have e2 : ¬ Eb b p = k := fun h => e h.symm
 simp [e, e2]
theorem mW {b : Base} {O : List Vd} {p : Vd} (h : Eb b p = 0) : Es b (O ++ [p]) = Es b O := funext fun k => by
 unfold Es
 have hd : decide (Eb b p = k ∧ k ≠ 0) = false := decide_eq_false fun ⟨e1, e2⟩ => e2 (by rw [← e1, h])
 rw [List.filter_append, List.map_append, List.filter_cons, hd]
 simp
theorem Rz (P : List Fact) (O : List Vd) (g : Ar2) : (Gw P O g).length ≤ O.length := by
 unfold Gw
 rw [List.length_map]
 exact List.length_filter_le _ _
theorem O4 (b : Base) (O : List Vd) (n : Int) : (Es b O n).length ≤ O.length := by
 unfold Es
 rw [List.length_map]
 exact List.length_filter_le _ _
theorem mX (P : List Fact) (O : List Vd) (p : Vd) (V : List Ar2) (g : Ar2) : (O3 P O p V g).length ≤ O.length + 1 := by
 unfold O3
 have := Rz P O g
 rw [List.length_append]
 split <;> simp <;> omega
theorem dW {P : List Fact} {why : List Int} (h : ∀ f ∈ P, K7 f.Time ∧ K7 f.Until) : ∀ g ∈ Fy P why, g.ok := fun g hg => by
 obtain ⟨f, hf, _, rfl⟩ := N0.1 hg
 exact h f hf
theorem Qb {O : List VP} {i : Nat} {p : VP} (h : O[i]? = some p) : (O.take (i + 1)).map (·.vd) = (O.take i).map (·.vd) ++ [p.vd] := by
 rw [List.take_add_one, h, List.map_append]; rfl
end Go.Wx
namespace Go.Proofs.YtmimclgihlhaeaaGreat
open Go.Proofs.Tryz
open Go.Wx Go.RowKit
end Go.Proofs.YtmimclgihlhaeaaGreat
end
