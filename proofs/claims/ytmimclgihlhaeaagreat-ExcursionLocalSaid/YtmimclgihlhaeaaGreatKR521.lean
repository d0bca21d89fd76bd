import Derived.Test.YtmimclgihlhaeaaGreatKR520
import Derived.Shelf.SlLaysF0
section
namespace Go.Proofs
open Go.Proofs.Tryz
open Go.Shelf
def Se : Go.Shelf.Ren := ⟨fun | 6 => 108 | 15 => 95 | 14 => 159 | 28 => 154 | 29 => 155 | 20 => 181 | 21 => 182 | 22 => 183 | 23 => 184 | 24 => 185 | 25 => 186 | 26 => 187 | 27 => 188 | 46 => 194 | 47 => 176 | 48 => 177 | 49 => 195 | 50 => 196 | 57 => 200 | n => n, fun | 22 => 103 | 24 => 99 | 25 => 102 | 3 => 3 | 39 => 147 | 0 => 0 | 53 => 188 | 55 => 190 | 4 => 4 | 46 => 182 | 45 => 181 | 50 => 159 | 5 => 5 | 9 => 9 | 66 => 212 | 70 => 164 | 76 => 226 | 77 => 33 | n => n, fun | n => n⟩
theorem Sf : Go.Proofs.SlLaysF0.n6 Tryz.prog Se := {
 mixed := by kernel_rfl
 f6 := ⟨Tryz.f108.name, by decide, func108.trans (congrArg some kQ)⟩
 f14 := ⟨Tryz.f159.name, by decide, func159.trans (congrArg some kQ)⟩
 f15 := func95.trans (congrArg some kQ)
 f20 := ⟨Tryz.f181.name, by decide, func181.trans (congrArg some kQ)⟩
 f21 := ⟨Tryz.f182.name, by decide, func182.trans (congrArg some kQ)⟩
 f22 := ⟨Tryz.f183.name, by decide, func183.trans (congrArg some kQ)⟩
 f23 := ⟨Tryz.f184.name, by decide, func184.trans (congrArg some kQ)⟩
 f24 := ⟨Tryz.f185.name, by decide, func185.trans (congrArg some kQ)⟩
 f25 := ⟨Tryz.f186.name, by decide, func186.trans (congrArg some kQ)⟩
 f26 := ⟨Tryz.f187.name, by decide, func187.trans (congrArg some kQ)⟩
 f27 := ⟨Tryz.f188.name, by decide, func188.trans (congrArg some kQ)⟩
 f28 := func154.trans (congrArg some kQ)
 f29 := func155.trans (congrArg some kQ)
 f46 := ⟨Tryz.f194.name, by decide, func194.trans (congrArg some kQ)⟩
 f47 := func176.trans (congrArg some kQ)
 f48 := func177.trans (congrArg some kQ)
 f49 := ⟨Tryz.f195.name, by decide, func195.trans (congrArg some kQ)⟩
 f50 := ⟨Tryz.f196.name, by decide, func196.trans (congrArg some kQ)⟩
 f57 := ⟨Tryz.f200.name, by decide, func200.trans (congrArg some kQ)⟩
 t0 := underlying0
 a0 := isAgg0
 z0 := sizeOf0
 v0 := zeroValue0
 t3 := underlying3
 a3 := isAgg3
 z3 := sizeOf3
 v3 := zeroValue3
 t4 := underlying4
 a4 := isAgg4
 z4 := sizeOf4
 v4 := zeroValue4
 t5 := underlying5
 a5 := isAgg5
 z5 := sizeOf5
 v5 := zeroValue5
 t9 := underlying9
 a9 := isAgg9
 z9 := sizeOf9
 v9 := zeroValue9
 t22 := underlying103
 a22 := isAgg103
 z22 := sizeOf103
 v22 := zeroValue103
 t25 := underlying102
 a25 := isAgg102
 z25 := sizeOf102
 v25 := zeroValue102
 t39 := underlying147
 a39 := isAgg147
 z39 := sizeOf147
 v39 := zeroValue147
 t45 := underlying181
 a45 := isAgg181
 z45 := sizeOf181
 v45 := zeroValue181
 t46 := underlying182
 a46 := isAgg182
 z46 := sizeOf182
 v46 := zeroValue182
 t50 := underlying159
 a50 := isAgg159
 z50 := sizeOf159
 v50 := zeroValue159
 t53 := underlying188
 a53 := isAgg188
 z53 := sizeOf188
 v53 := zeroValue188
 t55 := underlying190
 a55 := isAgg190
 z55 := sizeOf190
 v55 := zeroValue190
 t66 := underlying212
 a66 := isAgg212
 z66 := sizeOf212
 v66 := zeroValue212
 t70 := underlying164
 a70 := isAgg164
 z70 := sizeOf164
 v70 := zeroValue164
 t76 := underlying226
 a76 := isAgg226
 z76 := sizeOf226
 v76 := zeroValue226
 t77 := underlying33
 a77 := isAgg33
 z77 := sizeOf33
 v77 := zeroValue33 }
end Go.Proofs
end
section
namespace Go.Wx
structure TP where
 ad : Option Addr
 l : List Int
 cp : Nat
def TP.v (t : TP) : Go.Value := .slice t.ad t.l.length t.cp
def TP.cells (t : TP) : Array Go.Value := #[t.v]
theorem TP.one (t : TP) : t.cells.all (·.oneCell') = true := by simp [TP.cells, TP.v, Value.oneCell']
def S7 (x y : Ar2) : Bool := !(Go.Proofs.ltOf Nh) y x
theorem Kt (x y : Ar2) : S7 x y = true ↔ ¬ Vt y x := by
 unfold S7
 rw [← Mp]
 simp
theorem Pm (a b c : Ar2) (h : S7 a b = true) (k : S7 b c = true) : S7 a c = true := by
 rw [Kt] at *
 exact cB k h
theorem Pn (a b : Ar2) : (S7 a b || S7 b a) = true := by
 rw [Bool.or_eq_true, Kt, Kt]
 unfold Vt
 omega
theorem aE {a b : List Ar2} (h : a.Perm b) : a.mergeSort S7 = b.mergeSort S7 :=
 List.Perm.eq_of_pairwise (le := fun x y => S7 x y = true) (fun x y _ _ h1 h2 => Vh ((Kt y x).1 h2) ((Kt x y).1 h1))
   (List.pairwise_mergeSort Pm Pn a) (List.pairwise_mergeSort Pm Pn b)
   ((List.mergeSort_perm a _).trans (h.trans (List.mergeSort_perm b _).symm))
def Qg {α : Type} [DecidableEq α] (l : List α) : List α := l.foldl Sb []
theorem Ua {α : Type} [DecidableEq α] (l : List α) (x : α) : Qg (l ++ [x]) = Sb (Qg l) x := by
 unfold Qg
 rw [List.foldl_append]
 rfl
theorem Lx {α : Type} [DecidableEq α] (l : List α) (x : α) : x ∈ Qg l ↔ x ∈ l := by
 refine Hy (p := fun l => x ∈ Qg l ↔ x ∈ l) Iff.rfl (fun l y h => ?_) l
 rw [Ua, X5, h]
 simp
theorem Sg {α : Type} [DecidableEq α] (l : List α) : (Qg l).Nodup := by
 refine Hy (p := fun l => (Qg l).Nodup) List.nodup_nil (fun l y h => ?_) l
 rw [Ua]
 exact aA h
def F8 (P : List Fact) (O : List Vd) : List Ar2 := (Qg (O.flatMap fun p => Hf P p.why)).mergeSort S7
def Iv (b : Base) (O : List Vd) : List Int := (Qg ((O.map (Gm b)).filter fun n => decide (n ≠ 0))).mergeSort fun x y => decide (x ≤ y)
def Vk (b : Base) (O : List Vd) : List (List Int) := (F8 b.Processes O).map (J2 b.Processes O) ++ (Iv b O).map (Fa b O)
def Vl (b : Base) (L : List Vd) : List (List Int) := (Vk b (L.filter fun v => decide (v.t = 1))).take 16
theorem Vm {P : List Fact} {O : List Vd} {g : Ar2} : J2 P O g ≠ [] ↔ g ∈ O.flatMap fun p => Hf P p.why := by
 unfold J2
 rw [List.mem_flatMap]
 constructor
 · intro h
   obtain ⟨x, hx⟩ := List.exists_mem_of_ne_nil _ h
   obtain ⟨p, hp, _⟩ := List.mem_map.1 hx
   obtain ⟨h1, h2⟩ := List.mem_filter.1 hp
   exact ⟨p, h1, of_decide_eq_true h2⟩
 rintro ⟨p, h1, h2⟩ e
 have h3 : p.w ∈ (O.filter fun p => decide (g ∈ Hf P p.why)).map (·.w) := List.mem_map.2 ⟨p, List.mem_filter.2 ⟨h1, decide_eq_true h2⟩, rfl⟩
 rw [e] at h3
 cases h3
theorem Sh {b : Base} {O : List Vd} {n : Int} : Fa b O n ≠ [] ↔ n ∈ (O.map (Gm b)).filter fun n => decide (n ≠ 0) := by
 unfold Fa
 rw [List.mem_filter, List.mem_map]
 constructor
 · intro h
   obtain ⟨x, hx⟩ := List.exists_mem_of_ne_nil _ h
   obtain ⟨p, hp, _⟩ := List.mem_map.1 hx
   obtain ⟨h1, h2⟩ := List.mem_filter.1 hp
   have h3 := of_decide_eq_true h2
   exact ⟨⟨p, h1, h3.1⟩, decide_eq_true h3.2⟩
 rintro ⟨⟨p, h1, h2⟩, h3⟩ e
 have h4 : p.w ∈ (O.filter fun p => decide (Gm b p = n ∧ n ≠ 0)).map (·.w) := List.mem_map.2 ⟨p, List.mem_filter.2 ⟨h1, decide_eq_true ⟨h2, of_decide_eq_true h3⟩⟩, rfl⟩
 rw [e] at h4
 cases h4
theorem Ya {P : List Fact} {O : List Vd} {D : List (BE Ar2)} {ks : List Ar2} (h : BeInv D (J2 P O)) (hk : ks.Perm (D.map (·.g))) : ks.mergeSort S7 = F8 P O :=
 aE (hk.trans ((List.perm_ext_iff_of_nodup h.nd (Sg _)).2 fun g => by rw [h.key, Vm, Lx]))
theorem Yb {b : Base} {O : List Vd} {E : List (BE Int)} {ks : List Int} (h : BeInv E (Fa b O)) (hk : ks.Perm (E.map (·.g))) : (ks.mergeSort fun x y => decide (x ≤ y)) = Iv b O :=
 H6 (hk.trans ((List.perm_ext_iff_of_nodup h.nd (Sg _)).2 fun g => by rw [h.key, Sh, Lx]))
theorem fG {P : List Fact} {O : List Vd} {D : List (BE Ar2)} (h : BeInv D (J2 P O)) {g : Ar2} (hg : g ∈ F8 P O) : ∃ e ∈ D, e.g = g := by
 unfold F8 at hg
 rw [List.mem_mergeSort, Lx, ← Vm, ← h.key] at hg
 exact List.mem_map.1 hg
theorem fH {b : Base} {O : List Vd} {E : List (BE Int)} (h : BeInv E (Fa b O)) {g : Int} (hg : g ∈ Iv b O) : ∃ e ∈ E, e.g = g := by
 unfold Iv at hg
 rw [List.mem_mergeSort, Lx, ← Sh, ← h.key] at hg
 exact List.mem_map.1 hg
theorem nR {P : List Fact} {O : List Vd} {D : List (BE Ar2)} (h : BeInv D (J2 P O)) : D.length ≤ P.length := by
 have := h.nd.length_le_of_subset (l₂ := P.map kC) fun g hg => by
   rw [h.key, Vm, List.mem_flatMap] at hg
   obtain ⟨p, _, h2⟩ := hg
   obtain ⟨f, hf, _, e⟩ := X7.1 h2
   exact List.mem_map.2 ⟨f, hf, e⟩
 simpa using this
theorem nS {b : Base} {O : List Vd} {E : List (BE Int)} (h : BeInv E (Fa b O)) : E.length ≤ O.length := by
 have := h.nd.length_le_of_subset (l₂ := O.map (Gm b)) fun g hg => by
   rw [h.key, Sh] at hg
   exact (List.mem_filter.1 hg).1
 simpa using this
theorem kJ {P : List Fact} {O : List Vd} (h : ∀ f ∈ P, Uj f.Time ∧ Uj f.Until) : ∀ g ∈ F8 P O, g.ok := fun g hg => by
 unfold F8 at hg
 rw [List.mem_mergeSort, Lx, List.mem_flatMap] at hg
 obtain ⟨p, _, h2⟩ := hg
 exact cD h g h2
theorem G4 {α β : Type} {f : α → β} {l : List α} {k : Nat} {x : α} (h : l[k]? = some x) : (l.take (k + 1)).map f = (l.take k).map f ++ [f x] := by
 rw [List.take_add_one, h, List.map_append]; rfl
theorem cE (L : List VP) : (L.filter Au).map (·.vd) = (L.map (·.vd)).filter fun v => decide (v.t = 1) := by
 rw [List.filter_map]
 congr 1
end Go.Wx
namespace Go.Proofs.YtmimclgihlhaeaaGreat
open Go.Proofs.Tryz
open Go.Wx Go.RowKit
theorem fI (v : Go.Value) (l : List Ar2) (w : World) (h : OwnS w 0 99 2 Ar2.cells v l) (hlen : l.length < 4611686018427387904) : Ret Tryz.prog 108 #[v, .func (.func 48) #[] #[]] w fun r w' => r = .tuple #[] ∧ Stp (Ah 99 2 Ar2.cells v l) (Ah 99 2 Ar2.cells v (l.mergeSort S7)) w w' := by
 have hc := h
 obtain ⟨h1, ⟨rfl, hn⟩ | ⟨g, cap, cur, rfl, _, hb, _⟩⟩ := h
 · have hks : l = [] := List.eq_nil_of_length_eq_zero hn
   subst hks
   refine Calls.mono (AnyF.slices_SortFunc_none Sf none 0 _ w) ?_
   rintro e' w' ⟨rfl, rfl⟩
   refine ⟨_, rfl, rfl, ?_⟩
   rw [List.mergeSort_nil]
   exact Stp.refl hc
 have hcmp : CmpLays Tryz.prog 48 #[] (fun x : Ar2 => x.cells.toList) 2 Nh g 0 l.toArray.size w := fun m os dk _ x y => by
   refine Calls.mono (Vi x y _) ?_
   rintro e' w' ⟨v, rfl, rfl, hD⟩
   exact ⟨rfl, hD.grow⟩
 have hK := aD (enc := Ar2.cells) (k := 2) (fun _ => rfl) hc
 refine Calls.mono (AnyQ.slices_SortFunc_total Sf 2 isAgg99 sizeOf99 (fun x : Ar2 => x.cells.toList) (fun _ => rfl) (fun x v hv => by simp [Ar2.cells] at hv; rcases hv with rfl | rfl <;> rfl) Nh wR 48 #[] g 0 cap l.toArray w vE hcmp hK (lt_of_block hb) (by simpa using hlen) wS) ?_
 rintro e' w' ⟨rfl, n, os, rfl⟩
 refine ⟨_, rfl, rfl, ?_⟩
 have h2 := kH (enc := Ar2.cells) (k := 2) (n := n) (os := os) (ts := (l.mergeSort S7)) (fun _ => rfl) (by rw [List.length_mergeSort]) hc
 simpa [show (fun x y => !Go.Proofs.ltOf Nh y x) = S7 from rfl] using h2
theorem Yc (g : Nat) (lb : Array Go.Value) (S Sp : List Ar2 → Prop) (N : Nat) (w : World) (en : ∀ args w, (callFunc g args).run Tryz.prog w = .ok (.enter g args) w) (hit : ∀ W (X Y : Nat → Prop), Up w W → (∀ i, X i → w.heap.size ≤ i) → (∀ i, Y i → w.heap.size ≤ i ∧ i < W.heap.size) → IterS Tryz.prog g lb nM X Y S Sp N W) (hN0 : N ≤ 1000000000) (hS0 : ∀ ks, S ks → ks.length ≤ 1000000000) : Ret Tryz.prog 51 #[.func (.func g) #[] lb, .func (.func 48) #[] #[]] w fun r w' => ∃ ks, S ks ∧ (Ah 99 2 Ar2.cells r (ks.mergeSort S7)).holds w' ∧ (∀ i, (Ah 99 2 Ar2.cells r (ks.mergeSort S7)).foot i → w.heap.size ≤ i) ∧ Up w w' := by
 obtain ⟨w0, rfl⟩ : ∃ w0, w0 = w := ⟨_, rfl⟩
 have hS := Sep.start no w0
 refine cS (n := 12) (m := 9) func51 rfl rfl rfl ?_
 refine CW.S (LW.C (LW.S (CW.region (LW.M rfl ?_))))
 refine LW.K (eC (.o rfl) (rR)) rfl (Vg _ _ _ _ _ _ en hit hN0) ?_
 rintro v w1 ⟨ks, hP, hO_, hF_, uw1⟩
 have zw1 := uw1.size
 replace hS := hS.add uw1 (A' := Ah 99 2 Ar2.cells v ks) (hO_) (hF_)
 change Wx.Sep _ _ _ [_] at hS
 clear hO_ hF_
 refine LW.A rfl (LW.S (CW.region (LW.M rfl (LW.M rfl ?_))))
 refine LW.K (eC (.u rfl rfl) (rS)) rfl (fI v ks _ (hS.own 0 rfl) (by have := hS0 ks hP; omega)) ?_
 rintro _ w2 ⟨rfl, uw2⟩
 have zw2 := uw2.fr.size
 replace hS := hS.Di 0 rfl uw2
 change Wx.Sep _ _ _ [_] at hS
 refine LW.S (CW.region (LW.M rfl (LW.A rfl (LW.T (CW.ret ?_)))))
 refine Af rfl rfl ⟨_, rfl, ?_⟩
 exact ⟨ks, hP, hS.get 0 rfl, fun i hi => (hS.foot 0 rfl i hi).resolve_left (fun h => h), hS.Cn⟩
end Go.Proofs.YtmimclgihlhaeaaGreat
end
section
namespace Go.Wx
def wI (n : Int) : Int := IntKind.i64.wrap n
deriving instance DecidableEq for Vd
theorem kK {x y : Vd} (h1 : x.w = y.w) (h2 : x.t = y.t) (h3 : x.why = y.why) : x = y := by
 cases x; cases y; cases h1; cases h2; cases h3; rfl
theorem Om {α β γ : Type} {f : α → γ} {g : β → γ} {xs : List α} {ys : List β} {k : Nat} {x : α} {y : β} (h : (xs.take k).map f = (ys.take k).map g) (hx : xs[k]? = some x) (hy : ys[k]? = some y) (e : f x = g y) : (xs.take (k + 1)).map f = (ys.take (k + 1)).map g := by
 rw [G4 hx, G4 hy, h, e]
theorem On {α β γ : Type} {f : α → γ} {g : β → γ} {xs : List α} {ys : List β} {k : Nat} {x : α} {y : β} (hx : xs[k]? = some x) (hy : ys[k]? = some y) (e : ¬ f x = g y) : ¬ xs.map f = ys.map g := fun h => e (by
 have h1 : (xs.map f)[k]? = some (f x) := by rw [List.getElem?_map, hx]; rfl
 have h2 : (ys.map g)[k]? = some (g y) := by rw [List.getElem?_map, hy]; rfl
 rw [h, h2] at h1
 exact (Option.some.inj h1).symm)
def E6 (id wafer time til : Int) : Fact := { Hi with Kind := 1, Version := 1, ID := id, Wafer := wafer, Tool := 2, Recipe := 1, Revision := 1, Time := time, Until := til }
def Iw (y : I5) : Exc := ⟨2, An y.a 2, An y.b 200, wI (An y.b 200 + An y.c 50), An y.d 12⟩
def S8 : Vd := ⟨0, -1, []⟩
def Gq (L : List Vd) (w : Int) : Vd := (L.find? fun v => decide (v.w = w)).getD S8
end Go.Wx
namespace Go.Proofs.YtmimclgihlhaeaaGreat
open Go.Proofs.Tryz
open Go.Wx Go.RowKit
theorem Hz (v1 v2 : Value) (xs ys : List Int) (w : World) (h1 : Sl w v1 1 A8 xs) (h2 : Sl w v2 1 A8 ys) (hx0 : xs.length ≤ 1000000000) (hy0 : ys.length ≤ 1000000000) : Ret Tryz.prog 21 #[v1, v2] w fun r w' => r = .bool (decide (xs = ys)) ∧ Up w w' := by
 have hW := Up.refl w
 obtain ⟨w0, rfl⟩ : ∃ w0, w0 = w := ⟨_, rfl⟩
 obtain ⟨ad, cp, rfl, hE1⟩ := h1
 obtain ⟨ad', cp', rfl, hE2⟩ := h2
 refine cS (n := 26) (m := 9) func21 rfl rfl rfl ?_
 refine CW.S (LW.C (LW.S (CW.S (LW.M rfl ?_))))
 refine LW.pp (.Dl underlying30 (.t rfl)) ?_
 refine LW.M rfl ?_
 refine LW.pp (.Dl underlying30 (.t rfl)) ?_
 refine LW.pp (.neq (.t rfl) (.t rfl)) ?_
 refine LW.T ?_
 refine CW.cond (.t rfl) (fun h10 => ?_) (fun h10 => ?_)
 ·replace h10 := dQ h10
  have hr : decide (xs = ys) = false := decide_eq_false (fun h => by subst h; simp at h10)
  refine CW.S (LW.C (LW.T (CW.ret (Ae ?_))))
  refine Af rfl rfl ⟨_, rfl, ?_⟩
  exact ⟨by rw [hr], hW⟩
 replace h10 := dQ h10
 have hlen : xs.length = ys.length := Int.ofNat.inj (show Int.ofNat _ = Int.ofNat _ from (by simpa using h10 : (xs.length : Int) = ys.length))
 refine CW.skip (KW.then (CW.seq (CW.S (LW.C (LW.T (CW.block ?_))))))
 refine CW.loop (σ := Nat) (fun s w => (s ≤ xs.length ∧ xs.take s = ys.take s) ∧ Els w ad 1 A8 xs ∧ Els w ad' 1 A8 ys ∧ Up w0 w) (fun s => [(0, .eq (.slice ad xs.length cp)), (1, .eq (.slice ad' ys.length cp')), (5, .eq (vi (s : Int)))]) (fun s => xs.length - s) 0 ?_ ?_ ?_
 ·exact ⟨⟨Nat.zero_le _, rfl⟩, hE1, hE2, hW⟩
 ·exact ⟨rfl, rfl, rfl, trivial⟩
 rintro k w1 ⟨⟨hk, hT⟩, hE1, hE2, hW⟩
 refine CW.seq (CW.S (LW.M rfl (LW.M rfl ?_)))
 refine LW.pp (.Dl underlying30 (.t rfl)) ?_
 refine LW.pp (.lss (.t rfl) (.t rfl)) ?_
 refine LW.T ?_
 refine CW.cond (.t rfl) (fun h14 => ?_) (fun h14 => ?_)
 ·replace h14 := dQ h14
  refine CW.skip (KW.then (CW.seq (CW.block (CW.seq ?_))))
  obtain ⟨x, hx⟩ := Ac (xs := xs) (i := k) oQ
  obtain ⟨y, hy⟩ := Ac (xs := ys) (i := k) oQ
  obtain ⟨B, o, had, hcell⟩ := hE1 k x hx
  obtain ⟨B', o', had', hcell'⟩ := hE2 k y hy
  refine Cq kQ kQ rfl rfl ?_
  refine HW.pp (.move (.t rfl)) ?_
  refine HW.pp (.move (.t rfl)) ?_
  refine HW.pp (.Al underlying30 sizeOf3 (.t rfl) (.t rfl) oQ had) ?_
  refine HW.pp (.ld isAgg3 rfl (hcell.nth (j := 0) rfl)) ?_
  refine HW.pp (.move (.t rfl)) ?_
  refine HW.pp (.move (.t rfl)) ?_
  refine HW.pp (.Al underlying30 sizeOf3 (.t rfl) (.t rfl) oQ had') ?_
  refine HW.pp (.ld isAgg3 rfl (hcell'.nth (j := 0) rfl)) ?_
  refine HW.pp (.neq (.t rfl) (.t rfl)) ?_
  refine HW.nil ?_
  intro w2 uw2
  have zw2 := uw2.size
  replace hE1 := hE1.up uw2
  replace hE2 := hE2.up uw2
  replace hW := hW.up uw2
  refine KW.then ?_
  refine CW.cond (.t rfl) (fun h25 => ?_) (fun h25 => ?_)
  ·replace h25 := dQ h25
   have hr : decide (xs = ys) = false := decide_eq_false (jA hx hy (by simpa using h25))
   refine CW.S (LW.C (LW.T (CW.ret (Ap (Ae (Ae (Ap (Ae ?_))))))))
   refine Af rfl rfl ⟨_, rfl, ?_⟩
   exact ⟨by rw [hr], hW⟩
  replace h25 := dQ h25
  refine CW.skip (KW.inBlock (KW.then (CW.region (LW.M rfl ?_))))
  refine LW.pp (.inc (.t rfl) oQ) ?_
  refine LW.A rfl (LW.nil (KW.round ?_))
  exact ⟨k + 1, ⟨⟨by omega, Vb hT hx hy (by simpa using h25)⟩, hE1, hE2, hW⟩, ⟨rfl, rfl, rfl, trivial⟩, by omega⟩
 replace h14 := dQ h14
 have hr : decide (xs = ys) = true := decide_eq_true (by have := hT; rw [show k = xs.length by omega, List.take_length, hlen, List.take_length] at this; exact this)
 refine CW.exit (Aa (Aa (Ad (KW.then (CW.S (LW.C (LW.T (CW.ret ?_))))))))
 refine Af rfl rfl ⟨_, rfl, ?_⟩
 exact ⟨by rw [hr], hW⟩
theorem Cj (c n : Int) (w : World) (hn : n ≠ 0) : Ret Tryz.prog 27 #[vi c, vi n] w fun r w' => r = vi (An c n) ∧ Up w w' := by
 have hW := Up.refl w
 refine cS (n := 13) (m := 9) func27 rfl rfl rfl ?_
 refine CW.S (LW.C (LW.S (CW.S (LW.M rfl ?_))))
 refine LW.pp (.lss (.t rfl) (.const _)) ?_
 refine LW.T ?_
 refine CW.cond (.t rfl) (fun h6 => ?_) (fun h6 => ?_)
 ·replace h6 := dQ h6
  refine CW.region (LW.M rfl ?_)
  refine LW.pp (.Ia (.t rfl) (.const _)) ?_
  refine LW.pp (.neg underlying3 (.t rfl)) ?_
  refine LW.A rfl (LW.S (CW.region (LW.M rfl (LW.M rfl ?_))))
  refine LW.pp (.rem (.t rfl) (.t rfl) oQ) ?_
  refine LW.A rfl (LW.T (CW.ret ?_))
  refine Af rfl rfl ⟨_, rfl, ?_⟩
  exact ⟨by first | (rw [An, if_pos h6]) | (rw [An, if_neg (by omega)]), hW⟩
 replace h6 := dQ h6
 refine CW.skip (KW.then (CW.S (LW.M rfl (LW.M rfl ?_))))
 refine LW.pp (.rem (.t rfl) (.t rfl) oQ) ?_
 refine LW.A rfl (LW.T (CW.ret ?_))
 refine Af rfl rfl ⟨_, rfl, ?_⟩
 exact ⟨by first | (rw [An, if_pos h6]) | (rw [An, if_neg (by omega)]), hW⟩
theorem Fy (a b c d : Int) (w : World) : Ret Tryz.prog 30 #[vi a, vi b, vi c, vi d] w fun r w' => r = .agg (E6 a b c d).cells ∧ Up w w' := by
 obtain ⟨w0, rfl⟩ : ∃ w0, w0 = w := ⟨_, rfl⟩
 have hS := Sep.start no w0
 refine cS (n := 14) (m := 9) func30 rfl rfl rfl ?_
 refine CW.S ?_
 refine Ai (.A6 zeroValue36) rfl ?_
 rintro _ w1 ⟨B8, rfl, NB8⟩
 have eB8 := NB8.at_
 have zB8 := NB8.size
 replace hS := hS.C6 NB8
 change Wx.Sep _ _ _ [_] at hS
 refine LW.S (CW.region (LW.M rfl (LW.M rfl (LW.M rfl (LW.M rfl ?_)))))
 refine LW.pp (.build (cs := (E6 a b c d).cells) underlying36 zeroValue36 C1 (.cons (.const _) (.cons (.const _) (.cons (.t rfl) (.cons (.t rfl) (.cons (.const _) (.cons (.const _) (.cons (.const _) (.cons (.t rfl) (.cons (.t rfl) .nil))))))))) kQ) ?_
 refine LW.E (.A3 sizeOf36 rfl (.t rfl) (.t rfl) (Fact.one _) (hS.blk 0 rfl) rfl) ?_
 intro w2 Nw2
 have zw2 := Nw2.size
 replace hS := hS.F9 0 rfl Nw2
 change Wx.Sep _ _ _ [_] at hS
 refine LW.T (CW.ret ?_)
 refine E8 rfl rfl isAgg36 sizeOf36 rfl ((hS.blk 0 rfl).agg) ⟨_, rfl, ?_⟩
 exact ⟨rfl, hS.Cn⟩
theorem Si (ad1 : Option Addr) (cp1 : Nat) (ad2 : Option Addr) (cp2 : Nat) (La Lb : List VP) (w : World) (hE10 : Els w ad1 3 VP.cells La) (hE20 : Els w ad2 3 VP.cells Lb) (hw1 : ∀ p ∈ La, Sl w p.uv 1 A8 p.vd.why) (hw2 : ∀ p ∈ Lb, Sl w p.uv 1 A8 p.vd.why) (hl1 : ∀ p ∈ La, p.vd.why.length ≤ 1000000000) (hl2 : ∀ p ∈ Lb, p.vd.why.length ≤ 1000000000) (hl : La.length ≤ 1000000000) : Ret Tryz.prog 20 #[.slice ad1 La.length cp1, .slice ad2 Lb.length cp2] w fun r w' => r = .bool (decide (La.map (·.vd) = Lb.map (·.vd))) ∧ Up w w' := by
 have hW := Up.refl w
 obtain ⟨w0, rfl⟩ : ∃ w0, w0 = w := ⟨_, rfl⟩
 refine cS (n := 57) (m := 9) func20 rfl rfl rfl ?_
 refine CW.S (LW.C (LW.S (CW.S (LW.M rfl ?_))))
 refine LW.pp (.Dl underlying27 (.t rfl)) ?_
 refine LW.M rfl ?_
 refine LW.pp (.Dl underlying27 (.t rfl)) ?_
 refine LW.pp (.neq (.t rfl) (.t rfl)) ?_
 refine LW.T ?_
 refine CW.cond (.t rfl) (fun h11 => ?_) (fun h11 => ?_)
 ·replace h11 := dQ h11
  have hr : decide (La.map (·.vd) = Lb.map (·.vd)) = false := decide_eq_false (fun h => by have h5 := congrArg List.length h; simp only [List.length_map] at h5; simp [h5] at h11)
  refine CW.S (LW.C (LW.T (CW.ret (Ae ?_))))
  refine Af rfl rfl ⟨_, rfl, ?_⟩
  exact ⟨by rw [hr], hW⟩
 replace h11 := dQ h11
 have hlen : La.length = Lb.length := Int.ofNat.inj (show Int.ofNat _ = Int.ofNat _ from (by simpa using h11 : (La.length : Int) = Lb.length))
 refine CW.skip (KW.then (CW.seq (CW.S (LW.C (LW.T (CW.block ?_))))))
 refine Am (σ := Nat) (fun s w => (s ≤ La.length) ∧ ((La.take s).map (·.vd) = (Lb.take s).map (·.vd)) ∧ (Up w0 w)) (fun s => [(5, .eq (vi (s : Int)))]) ([(0, .eq _), (1, .eq _)]) (fun s => La.length - s) 0 ?_ ⟨rfl, rfl, rfl, trivial⟩ ?_
 ·exact ⟨Nat.zero_le _, rfl, hW⟩
 rintro k w1 ⟨hk, hT, hW⟩
 refine CW.seq (CW.S (LW.M rfl (LW.M rfl ?_)))
 refine LW.pp (.Dl underlying27 (.t rfl)) ?_
 refine LW.pp (.lss (.t rfl) (.t rfl)) ?_
 refine LW.T ?_
 refine CW.cond (.t rfl) (fun h15 => ?_) (fun h15 => ?_)
 ·replace h15 := dQ h15
  refine CW.skip (KW.then (CW.seq (CW.block (CW.seq ?_))))
  obtain ⟨x, hx⟩ := Ac (xs := La) (i := k) oQ
  obtain ⟨Bx, ox, ax, hcx⟩ := (Els.up hE10 hW) k x hx
  obtain ⟨y, hy⟩ := Ac (xs := Lb) (i := k) oQ
  obtain ⟨By, oy, ay, hcy⟩ := (Els.up hE20 hW) k y hy
  refine Cq kQ kQ rfl rfl ?_
  refine HW.pp (.move (.t rfl)) ?_
  refine HW.pp (.move (.t rfl)) ?_
  refine HW.pp (.Al underlying27 sizeOf32 (j := k) (.t rfl) (.t rfl) oQ ax) ?_
  refine HW.pp (.fA 2 underlying32 rfl sizeOf30 rfl) ?_
  refine HW.pp (.ld isAgg30 rfl (hcx.nth (j := 2) rfl)) ?_
  refine HW.pp (.move (.t rfl)) ?_
  refine HW.pp (.move (.t rfl)) ?_
  refine HW.pp (.Al underlying27 sizeOf32 (j := k) (.t rfl) (.t rfl) oQ ay) ?_
  refine HW.pp (.fA 2 underlying32 rfl sizeOf30 rfl) ?_
  refine HW.pp (.ld isAgg30 rfl (hcy.nth (j := 2) rfl)) ?_
  refine HW.c (fun a w _ ha => Cg (.cons (.t rfl) (.cons (.t rfl) .nil)) (lI) a ha) rfl rfl (fun w hu => Hz _ _ x.vd.why y.vd.why w (Sl.up (Sl.up (hw1 x (List.mem_of_getElem? hx)) hW) hu) (Sl.up (Sl.up (hw2 y (List.mem_of_getElem? hy)) hW) hu) (hl1 x (List.mem_of_getElem? hx)) (hl2 y (List.mem_of_getElem? hy))) ?_
  refine HW.pp (.assign (.t rfl)) ?_
  refine HW.nil ?_
  intro w2 uw2
  have zw2 := uw2.size
  replace hW := hW.up uw2
  replace hcx := hcx.up uw2
  replace hcy := hcy.up uw2
  refine KW.then (CW.seq ?_)
  refine Cq kQ kQ rfl rfl ?_
  refine HW.pp (.move (.t rfl)) ?_
  refine HW.pp (.move (.t rfl)) ?_
  refine HW.pp (.Al underlying27 sizeOf32 (j := k) (.t rfl) (.t rfl) oQ ax) ?_
  refine HW.pp (.fA 0 underlying32 rfl sizeOf3 rfl) ?_
  refine HW.pp (.ld isAgg3 rfl (hcx.nth (j := 0) rfl)) ?_
  refine HW.pp (.move (.t rfl)) ?_
  refine HW.pp (.move (.t rfl)) ?_
  refine HW.pp (.Al underlying27 sizeOf32 (j := k) (.t rfl) (.t rfl) oQ ay) ?_
  refine HW.pp (.fA 0 underlying32 rfl sizeOf3 rfl) ?_
  refine HW.pp (.ld isAgg3 rfl (hcy.nth (j := 0) rfl)) ?_
  refine HW.pp (.neq (.t rfl) (.t rfl)) ?_
  refine HW.pp (.move (.t rfl)) ?_
  refine HW.g rfl rfl rfl rfl rfl rfl (fun hc => PEv.move (.t rfl)) ?_
  refine HW.g rfl rfl rfl rfl rfl rfl (fun hc => PEv.move (.t rfl)) ?_
  refine HW.g rfl rfl rfl rfl rfl rfl (fun hc => PEv.Al underlying27 sizeOf32 (j := k) vQ vQ oQ ax) ?_
  refine HW.g rfl rfl rfl rfl rfl rfl (fun hc => PEv.fieldAddr (off := 1) underlying32 rfl rfl sizeOf3 rfl vQ) ?_
  refine HW.g rfl rfl rfl rfl rfl rfl (fun hc => PEv.load isAgg3 vQ (hcx.nth (j := 1) rfl)) ?_
  refine HW.g rfl rfl rfl rfl rfl rfl (fun hc => PEv.move (.t rfl)) ?_
  refine HW.g rfl rfl rfl rfl rfl rfl (fun hc => PEv.move (.t rfl)) ?_
  refine HW.g rfl rfl rfl rfl rfl rfl (fun hc => PEv.Al underlying27 sizeOf32 (j := k) vQ vQ oQ ay) ?_
  refine HW.g rfl rfl rfl rfl rfl rfl (fun hc => PEv.fieldAddr (off := 1) underlying32 rfl rfl sizeOf3 rfl vQ) ?_
  refine HW.g rfl rfl rfl rfl rfl rfl (fun hc => PEv.load isAgg3 vQ (hcy.nth (j := 1) rfl)) ?_
  refine HW.g rfl rfl rfl rfl rfl rfl (fun hc => PEv.neq vQ vQ) ?_
  refine HW.pp (.Cd (.t rfl) (fun hp => (by first | exact .const _ | exact .tmp rfl | exact .cond rfl (by first | assumption | (rw [hp]; rfl) | (rw [hc, hp]; rfl) | simp_all)))) ?_
  refine HW.pp (.move (.t rfl)) ?_
  refine HW.g rfl rfl rfl rfl rfl rfl (fun hc => PEv.move (.t rfl)) ?_
  refine HW.g rfl rfl rfl rfl rfl rfl (fun hc => PEv.not vQ) ?_
  refine HW.pp (.Cd (.t rfl) (fun hp => (by first | exact .const _ | exact .tmp rfl | exact .cond rfl (by first | assumption | (rw [hp]; rfl) | (rw [hc, hp]; rfl) | simp_all)))) ?_
  refine HW.nil ?_
  intro w3 uw3
  have zw3 := uw3.size
  replace hW := hW.up uw3
  replace hcx := hcx.up uw3
  replace hcy := hcy.up uw3
  refine KW.then ?_
  refine CW.cond (.t rfl) (fun h56 => ?_) (fun h56 => ?_)
  ·replace h56 := dQ h56
   have hne : ¬ x.vd = y.vd := fun e => by rw [e] at h56; simp at h56
   have hr : decide (La.map (·.vd) = Lb.map (·.vd)) = false := decide_eq_false (On (f := VP.vd) (g := VP.vd) hx hy hne)
   refine CW.S (LW.C (LW.T (CW.ret (Ap (Ae (Ae (Ap (Ae ?_))))))))
   refine Af rfl rfl ⟨_, rfl, ?_⟩
   exact ⟨by rw [hr], hW⟩
  replace h56 := dQ h56
  have heq : x.vd = y.vd := by have h5 := h56; simp at h5; first | exact kK h5.1 h5.2.1 h5.2.2 | exact kK h5.1.1 h5.1.2 h5.2
  refine CW.skip (KW.inBlock (KW.then (CW.region (LW.M rfl ?_))))
  refine LW.pp (.inc (.t rfl) oQ) ?_
  refine LW.A rfl (LW.nil (KW.round ?_))
  exact ⟨k + 1, ⟨by omega, Om hT hx hy heq, hW⟩, ⟨rfl, rfl, rfl, trivial⟩, by first | omega | (dsimp only; omega)⟩
 replace h15 := dQ h15
 have hr : decide (La.map (·.vd) = Lb.map (·.vd)) = true := decide_eq_true (by have h5 := hT; rw [show k = La.length by omega, List.take_length, hlen, List.take_length] at h5; exact h5)
 refine CW.exit (Aa (Aa (Ad (KW.then (CW.S (LW.C (LW.T (CW.ret ?_))))))))
 refine Af rfl rfl ⟨_, rfl, ?_⟩
 exact ⟨by rw [hr], hW⟩
theorem Yd (ad1 : Option Addr) (cp1 : Nat) (ad2 : Option Addr) (cp2 : Nat) (La Lb : List TP) (w : World) (hE10 : Els w ad1 1 TP.cells La) (hE20 : Els w ad2 1 TP.cells Lb) (hw1 : ∀ p ∈ La, Sl w p.v 1 A8 p.l) (hw2 : ∀ p ∈ Lb, Sl w p.v 1 A8 p.l) (hl1 : ∀ p ∈ La, p.l.length ≤ 1000000000) (hl2 : ∀ p ∈ Lb, p.l.length ≤ 1000000000) (hl : La.length ≤ 1000000000) : Ret Tryz.prog 24 #[.slice ad1 La.length cp1, .slice ad2 Lb.length cp2] w fun r w' => r = .bool (decide (La.map (·.l) = Lb.map (·.l))) ∧ Up w w' := by
 have hW := Up.refl w
 obtain ⟨w0, rfl⟩ : ∃ w0, w0 = w := ⟨_, rfl⟩
 refine cS (n := 31) (m := 9) func24 rfl rfl rfl ?_
 refine CW.S (LW.C (LW.S (CW.S (LW.M rfl ?_))))
 refine LW.pp (.Dl underlying51 (.t rfl)) ?_
 refine LW.M rfl ?_
 refine LW.pp (.Dl underlying51 (.t rfl)) ?_
 refine LW.pp (.neq (.t rfl) (.t rfl)) ?_
 refine LW.T ?_
 refine CW.cond (.t rfl) (fun h11 => ?_) (fun h11 => ?_)
 ·replace h11 := dQ h11
  have hr : decide (La.map (·.l) = Lb.map (·.l)) = false := decide_eq_false (fun h => by have h5 := congrArg List.length h; simp only [List.length_map] at h5; simp [h5] at h11)
  refine CW.S (LW.C (LW.T (CW.ret (Ae ?_))))
  refine Af rfl rfl ⟨_, rfl, ?_⟩
  exact ⟨by rw [hr], hW⟩
 replace h11 := dQ h11
 have hlen : La.length = Lb.length := Int.ofNat.inj (show Int.ofNat _ = Int.ofNat _ from (by simpa using h11 : (La.length : Int) = Lb.length))
 refine CW.skip (KW.then (CW.seq (CW.S (LW.C (LW.T (CW.block ?_))))))
 refine Am (σ := Nat) (fun s w => (s ≤ La.length) ∧ ((La.take s).map (·.l) = (Lb.take s).map (·.l)) ∧ (Up w0 w)) (fun s => [(5, .eq (vi (s : Int)))]) ([(0, .eq _), (1, .eq _)]) (fun s => La.length - s) 0 ?_ ⟨rfl, rfl, rfl, trivial⟩ ?_
 ·exact ⟨Nat.zero_le _, rfl, hW⟩
 rintro k w1 ⟨hk, hT, hW⟩
 refine CW.seq (CW.S (LW.M rfl (LW.M rfl ?_)))
 refine LW.pp (.Dl underlying51 (.t rfl)) ?_
 refine LW.pp (.lss (.t rfl) (.t rfl)) ?_
 refine LW.T ?_
 refine CW.cond (.t rfl) (fun h15 => ?_) (fun h15 => ?_)
 ·replace h15 := dQ h15
  refine CW.skip (KW.then (CW.seq (CW.block (CW.seq ?_))))
  obtain ⟨x, hx⟩ := Ac (xs := La) (i := k) oQ
  obtain ⟨Bx, ox, ax, hcx⟩ := (Els.up hE10 hW) k x hx
  obtain ⟨y, hy⟩ := Ac (xs := Lb) (i := k) oQ
  obtain ⟨By, oy, ay, hcy⟩ := (Els.up hE20 hW) k y hy
  refine Cq kQ kQ rfl rfl ?_
  refine HW.pp (.move (.t rfl)) ?_
  refine HW.pp (.move (.t rfl)) ?_
  refine HW.pp (.Al underlying51 sizeOf64 (j := k) (.t rfl) (.t rfl) oQ ax) ?_
  refine HW.pp (.fA 0 underlying64 rfl sizeOf30 rfl) ?_
  refine HW.pp (.ld isAgg30 rfl (hcx.nth (j := 0) rfl)) ?_
  refine HW.pp (.move (.t rfl)) ?_
  refine HW.pp (.move (.t rfl)) ?_
  refine HW.pp (.Al underlying51 sizeOf64 (j := k) (.t rfl) (.t rfl) oQ ay) ?_
  refine HW.pp (.fA 0 underlying64 rfl sizeOf30 rfl) ?_
  refine HW.pp (.ld isAgg30 rfl (hcy.nth (j := 0) rfl)) ?_
  refine HW.c (fun a w _ ha => Cg (.cons (.t rfl) (.cons (.t rfl) .nil)) (lI) a ha) rfl rfl (fun w hu => Hz _ _ x.l y.l w (Sl.up (Sl.up (hw1 x (List.mem_of_getElem? hx)) hW) hu) (Sl.up (Sl.up (hw2 y (List.mem_of_getElem? hy)) hW) hu) (hl1 x (List.mem_of_getElem? hx)) (hl2 y (List.mem_of_getElem? hy))) ?_
  refine HW.pp (.assign (.t rfl)) ?_
  refine HW.nil ?_
  intro w2 uw2
  have zw2 := uw2.size
  replace hW := hW.up uw2
  refine KW.then (CW.S (LW.M rfl ?_))
  refine LW.pp (.not (.t rfl)) ?_
  refine LW.T ?_
  refine CW.cond (.t rfl) (fun h30 => ?_) (fun h30 => ?_)
  ·replace h30 := dQ h30
   have hne : ¬ x.l = y.l := by simpa using h30
   have hr : decide (La.map (·.l) = Lb.map (·.l)) = false := decide_eq_false (On (f := TP.l) (g := TP.l) hx hy hne)
   refine CW.S (LW.C (LW.T (CW.ret (Ap (Ae (Ae (Ap (Ae ?_))))))))
   refine Af rfl rfl ⟨_, rfl, ?_⟩
   exact ⟨by rw [hr], hW⟩
  replace h30 := dQ h30
  have heq : x.l = y.l := by simpa using h30
  refine CW.skip (KW.inBlock (KW.then (CW.region (LW.M rfl ?_))))
  refine LW.pp (.inc (.t rfl) oQ) ?_
  refine LW.A rfl (LW.nil (KW.round ?_))
  exact ⟨k + 1, ⟨by omega, Om hT hx hy heq, hW⟩, ⟨rfl, rfl, rfl, trivial⟩, by first | omega | (dsimp only; omega)⟩
 replace h15 := dQ h15
 have hr : decide (La.map (·.l) = Lb.map (·.l)) = true := decide_eq_true (by have h5 := hT; rw [show k = La.length by omega, List.take_length, hlen, List.take_length] at h5; exact h5)
 refine CW.exit (Aa (Aa (Ad (KW.then (CW.S (LW.C (LW.T (CW.ret ?_))))))))
 refine Af rfl rfl ⟨_, rfl, ?_⟩
 exact ⟨by rw [hr], hW⟩
end Go.Proofs.YtmimclgihlhaeaaGreat
end
section
namespace Go.Wx
def Ye (k : Nat) (y : I5) : Fact := { Hi with Kind := 1, Version := 1, ID := wI (1 + (k : Int)), Wafer := wI (1 + An y.b 8), Tool := 2, Chamber := An y.e 2, Recipe := 1, Revision := 1, Time := An y.c 200, Until := wI (An y.c 200 + An y.d 20) }
def fJ (k : Nat) (y : I5) : Fact := { Hi with Kind := 11, Version := 1, ID := wI (1 + (k : Int)), Tool := 2, Chamber := An y.e 2, Time := An y.c 200, Until := wI (An y.c 200 + An y.d 9) }
def S9 (k : Nat) (y : I5) : Fact := { Hi with Kind := 3, Version := 1, ID := wI (1 + (k : Int)), Wafer := wI (1 + An y.b 7), Time := An y.c 200 }
def aF (y : I5) : Fact := { Hi with Kind := 4, Version := 1, Wafer := wI (1 + An y.b 8), Lot := wI (1 + An y.d 4), Product := 1, Time := wI ((An y.c 200).tdiv 4) }
def Vn (k : Nat) (y : I5) : Fact := if An y.a 10 = 0 then fJ k y else if An y.a 10 = 1 then { S9 k y with Other := wI ((S9 k y).Wafer + 1) } else if An y.a 10 = 2 ∨ An y.a 10 = 3 then aF y else Ye k y
theorem Ub {k : Nat} {y : I5} (h : An y.a 10 = 0) : Vn k y = fJ k y := if_pos h
theorem Uc {k : Nat} {y : I5} (h : An y.a 10 = 1) : Vn k y = { S9 k y with Other := wI ((S9 k y).Wafer + 1) } := by unfold Vn; rw [if_neg oQ, if_pos h]
theorem Ud {k : Nat} {y : I5} (h : An y.a 10 = 2 ∨ An y.a 10 = 3) : Vn k y = aF y := by unfold Vn; rw [if_neg oQ, if_neg oQ, if_pos h]
theorem Ue {k : Nat} {y : I5} (h0 : ¬ An y.a 10 = 0) (h1 : ¬ An y.a 10 = 1) (h2 : ¬ An y.a 10 = 2) (h3 : ¬ An y.a 10 = 3) : Vn k y = Ye k y := by unfold Vn; rw [if_neg h0, if_neg h1, if_neg (by omega)]
def E7 (xs : List I5) : List Fact := (xs.take 30).mapIdx Vn
theorem Iy (xs : List I5) : (E7 xs).length ≤ 30 := by unfold E7; rw [List.length_mapIdx, List.length_take]; omega
theorem H9 {xs : List I5} {k : Nat} {y : I5} (hy : xs[k]? = some y) (hk : k < 30) : E7 (xs.take (k + 1)) = E7 (xs.take k) ++ [Vn k y] := by
 have hl := (List.getElem?_eq_some_iff.1 hy).1
 unfold E7
 rw [List.take_take, List.take_take, Nat.min_eq_right oQ, Nat.min_eq_right oQ, List.take_add_one, hy, Option.toList_some, List.mapIdx_append, List.length_take, Nat.min_eq_left (by omega)]
 simp
theorem kL {xs : List I5} {k : Nat} (h : ¬ (k < xs.length ∧ k < 30)) : E7 (xs.take k) = E7 xs := by
 unfold E7
 rw [List.take_take]
 congr 1
 by_cases h1 : k < 30
 · rw [Nat.min_eq_right oQ, List.take_of_length_le oQ, List.take_of_length_le (by omega)]
 rw [Nat.min_eq_left (by omega)]
theorem Yf {La : List VP} {k : Nat} {x : VP} {wf : Int} (hx : La[k]? = some x) (h : decide (x.vd.w = wf) = true) (hn : ∀ y ∈ La.take k, decide (y.vd.w = wf) = false) : x.vd = Gq (La.map (·.vd)) wf := by
 unfold Gq
 rw [Ng (p := fun v : Vd => decide (v.w = wf)) (k := k) (x := x.vd) (by rw [List.getElem?_map, hx]; rfl) h fun v hv => by
   rw [← List.map_take] at hv
   obtain ⟨p, hp, rfl⟩ := List.mem_map.1 hv
   exact hn p hp]
 rfl
theorem cF {La : List VP} {wf : Int} (hn : ∀ y ∈ La, decide (y.vd.w = wf) = false) : Gq (La.map (·.vd)) wf = S8 := by
 unfold Gq
 rw [List.find?_eq_none.2 fun v hv => by
   obtain ⟨p, hp, rfl⟩ := List.mem_map.1 hv
   rw [hn p hp]; exact Bool.false_ne_true]
 rfl
end Go.Wx
namespace Go.Proofs.YtmimclgihlhaeaaGreat
open Go.Proofs.Tryz
open Go.Wx Go.RowKit
theorem aG (y : I5) (w : World) : Ret Tryz.prog 15 #[.agg y.cells] w fun r w' => r = .agg (Iw y).cells ∧ Up w w' := by
 obtain ⟨w0, rfl⟩ : ∃ w0, w0 = w := ⟨_, rfl⟩
 have hS := Sep.start no w0
 refine cS (n := 22) (m := 9) func15 rfl rfl rfl ?_
 refine CW.S ?_
 refine Ai (.Er (.t rfl)) rfl ?_
 rintro _ w1 ⟨B1, rfl, NB1⟩
 have eB1 := NB1.at_
 have zB1 := NB1.size
 replace hS := hS.C6 NB1
 change Wx.Sep _ _ _ [_] at hS
 refine Ai (.A6 zeroValue25) rfl ?_
 rintro _ w2 ⟨B2, rfl, NB2⟩
 have eB2 := NB2.at_
 have zB2 := NB2.size
 replace hS := hS.C6 NB2
 change Wx.Sep _ _ _ [_, _] at hS
 refine LW.S ?_
 refine Hq 11 [.eq (.pointer (some ⟨B1, 0, none⟩)), .eq (vi (y.a)), .eq (vi (An y.a 2)), .eq (.pointer (some ⟨B1, 1, none⟩)), .eq (vi (y.b)), .eq (vi (An y.b 200)), .eq (.pointer (some ⟨B1, 3, none⟩)), .eq (vi (y.d)), .eq (vi (An y.d 12)), .eq (.agg (Exc.mk 2 (An y.a 2) (An y.b 200) 0 (An y.d 12)).cells), .pred fun v W => ∃ B, v = .pointer (some ⟨B, 0, none⟩) ∧ w2.drew.heap.size ≤ B ∧ Blk W B (Exc.mk 0 0 0 0 0).cells 25] [3, 13] kQ rfl kQ kQ kQ kQ kQ kQ kQ ⟨PhU.eq _, PhU.eq _, PhU.eq _, PhU.eq _, PhU.eq _, PhU.eq _, PhU.eq _, PhU.eq _, PhU.eq _, PhU.eq _, PhU.pred fun _ _ _ h u => let ⟨B, e, hz, hb⟩ := h; ⟨B, e, hz, hb.up u⟩, trivial⟩ ?_ ?_
 ·intro W hU0
  have hU := (Up.drew w2).trans hU0
  have zU0 := hU0.size
  refine aC ⟨rfl, TU.p (.Cl (j := 0) underlying26 sizeOf3 (.t rfl) (.const _) cQ) rfl⟩ ?_
  refine aC ⟨rfl, TU.p (.ld isAgg3 rfl (((hS.blk 0 rfl).up hU).Ak rfl)) rfl⟩ ?_
  refine aC ⟨rfl, TU.c (eC (.cons (.t rfl) (.cons (.const _) .nil)) (Kw)) (Cj _ _ _ cQ) sQ⟩ ?_
  refine aC ⟨rfl, TU.p (.Cl (j := 1) underlying26 sizeOf3 (.t rfl) (.const _) cQ) rfl⟩ ?_
  refine aC ⟨rfl, TU.p (.ld isAgg3 rfl (((hS.blk 0 rfl).up hU).Ak rfl)) rfl⟩ ?_
  refine aC ⟨rfl, TU.c (eC (.cons (.t rfl) (.cons (.const _) .nil)) (Kw)) (Cj _ _ _ cQ) sQ⟩ ?_
  refine aC ⟨rfl, TU.p (.Cl (j := 3) underlying26 sizeOf3 (.t rfl) (.const _) cQ) rfl⟩ ?_
  refine aC ⟨rfl, TU.p (.ld isAgg3 rfl (((hS.blk 0 rfl).up hU).Ak rfl)) rfl⟩ ?_
  refine aC ⟨rfl, TU.c (eC (.cons (.t rfl) (.cons (.const _) .nil)) (Kw)) (Cj _ _ _ cQ) sQ⟩ ?_
  refine aC ⟨rfl, TU.p (.build (cs := (Exc.mk 2 (An y.a 2) (An y.b 200) 0 (An y.d 12)).cells) underlying25 zeroValue25 G0 (.cons (.const _) (.cons (.t rfl) (.cons (.t rfl) (.cons (.t rfl) .nil)))) rfl) rfl⟩ ?_
  refine aC ⟨rfl, TU.r (REv.A6 zeroValue25) (fun v W' h => let ⟨B, e, N⟩ := h; ⟨N.up, B, e, by rw [N.at_]; exact zU0, N.blk⟩)⟩ ?_
  exact allL.nil
 intro w3 g hU0 hg
 have hU := (Up.drew w2).trans hU0
 have zw3 := hU.size
 obtain ⟨B3, e6, z6, hB3⟩ : ∃ B, g 3 = .pointer (some ⟨B, 0, none⟩) ∧ w2.drew.heap.size ≤ B ∧ Blk w3 B (Exc.mk 0 0 0 0 0).cells 25 := hg 10 _ 3 cQ rfl rfl
 have e45 : g 13 = .agg (Exc.mk 2 (An y.a 2) (An y.b 200) 0 (An y.d 12)).cells := hg 9 _ 13 cQ rfl rfl
 change LW _ _ _ _ _ _ _ _ ((3, .eq (g 3)) :: (13, .eq (g 13)) :: _) _
 rw [e6, e45]
 clear hg e6 e45
 replace hS := (hS.up (Up.drew _)).add hU0 (A' := Cp B3 (Exc.mk 0 0 0 0 0).cells 25) hB3 (fun i (e : i = B3) => by omega)
 change Wx.Sep no w0 _ [_, _, _] at hS
 refine LW.E (.A3 sizeOf25 rfl (.t rfl) (.t rfl) (Exc.one _) (hS.blk 2 rfl) rfl) ?_
 intro w4 Nw4
 have zw4 := Nw4.size
 replace hS := hS.F9 2 rfl (show Set_ _ w4 _ ((Exc.mk 2 (An y.a 2) (An y.b 200) 0 (An y.d 12)).cells) _ from Nw4)
 change Wx.Sep _ _ _ [_, _, _] at hS
 refine LW.S ?_
 refine D5 6 kQ kQ kQ kQ kQ rfl rfl ?_
 refine HW.pp (.fA 2 underlying25 rfl sizeOf3 rfl) ?_
 refine HW.pp (.ld isAgg3 rfl ((hS.blk 2 rfl).Ak rfl)) ?_
 refine HW.pp (.Cl (j := 2) underlying26 sizeOf3 (.t rfl) (.const _) cQ) ?_
 refine HW.pp (.ld isAgg3 rfl ((hS.blk 0 rfl).Ak rfl)) ?_
 refine HW.c (fun a w _ ha => Cg (.cons (.t rfl) (.cons (.const _) .nil)) (Kw) a ha) rfl rfl (fun w hu => Cj _ _ w cQ) ?_
 refine HW.pp (.Ia (.t rfl) (.t rfl)) ?_
 refine HW.nil ?_
 intro w5 uw5
 have zw5 := uw5.size
 replace hS := hS.up uw5
 refine LW.pp (.fA 3 underlying25 rfl sizeOf3 rfl) ?_
 refine LW.E (.store sizeOf3 (.t rfl) (.t rfl) rfl (hS.blk 2 rfl) (Nat.le_of_ble_eq_true rfl)) ?_
 intro w6 Nw6
 have zw6 := Nw6.size
 replace hS := hS.F9 2 rfl (show Set_ _ w6 _ ((Iw y).cells) _ from Nw6)
 change Wx.Sep _ _ _ [_, _, _] at hS
 refine LW.S (CW.region ?_)
 refine LW.pp (.la isAgg25 sizeOf25 rfl ((hS.blk 2 rfl).agg)) ?_
 refine LW.E (.A3 sizeOf25 rfl (.t rfl) (.t rfl) (Exc.one _) (hS.blk 1 rfl) rfl) ?_
 intro w7 Nw7
 have zw7 := Nw7.size
 replace hS := hS.F9 1 rfl Nw7
 change Wx.Sep _ _ _ [_, _, _] at hS
 refine LW.T (CW.ret ?_)
 refine E8 rfl rfl isAgg25 sizeOf25 rfl ((hS.blk 1 rfl).agg) ⟨_, rfl, ?_⟩
 exact ⟨rfl, hS.Cn⟩
theorem Jm (ad : Option Addr) (cp : Nat) (La : List VP) (wf : Int) (w : World) (hE0 : Els w ad 3 VP.cells La) (hl : La.length ≤ 1000000000) : Ret Tryz.prog 29 #[.slice ad La.length cp, vi wf] w fun r w' => ((∃ p ∈ La, r = .agg p.cells ∧ p.vd = Gq (La.map (·.vd)) wf) ∨ (r = .agg (VP.mk S8 none 0).cells ∧ Gq (La.map (·.vd)) wf = S8 ∧ ∀ p ∈ La, ¬ p.vd.w = wf)) ∧ Up w w' := by
 obtain ⟨w0, rfl⟩ : ∃ w0, w0 = w := ⟨_, rfl⟩
 have hS := Sep.start no w0
 refine cS (n := 24) (m := 9) func29 rfl rfl rfl ?_
 refine CW.S ?_
 refine Ai (.A6 zeroValue32) rfl ?_
 rintro _ w1 ⟨B4, rfl, NB4⟩
 have eB4 := NB4.at_
 have zB4 := NB4.size
 replace hS := hS.C6 NB4
 change Wx.Sep _ _ _ [_] at hS
 refine LW.S (CW.S (LW.C (LW.T (CW.block ?_))))
 refine Am (σ := Nat) (fun s w => (s ≤ La.length) ∧ (∀ y ∈ La.take s, decide (y.vd.w = wf) = false) ∧ (Wx.Sep no w0 w [Cp B4 (VP.mk ⟨0, 0, []⟩ none 0).cells 32])) (fun s => [(5, .eq (vi (s : Int)))]) ([(0, .eq _), (1, .eq _), (4, .eq _)]) (fun s => La.length - s) 0 ?_ ⟨rfl, rfl, rfl, rfl, trivial⟩ ?_
 ·exact ⟨Nat.zero_le _, by simp, hS⟩
 rintro k w2 ⟨hk, hn, hS⟩
 refine CW.seq (CW.S (LW.M rfl (LW.M rfl ?_)))
 refine LW.pp (.Dl underlying27 (.t rfl)) ?_
 refine LW.pp (.lss (.t rfl) (.t rfl)) ?_
 refine LW.T ?_
 refine CW.cond (.t rfl) (fun h9 => ?_) (fun h9 => ?_)
 ·replace h9 := dQ h9
  refine CW.skip (KW.then (CW.seq (CW.block (CW.seq ?_))))
  obtain ⟨x, hx⟩ := Ac (xs := La) (i := k) oQ
  obtain ⟨Bx, ox, ax, hcx⟩ := (Els.up hE0 hS.Cn) k x hx
  refine CW.region (LW.M rfl (LW.M rfl ?_))
  refine LW.pp (.Al underlying27 sizeOf32 (j := k) (.t rfl) (.t rfl) oQ ax) ?_
  refine LW.pp (.fA 0 underlying32 rfl sizeOf3 rfl) ?_
  refine LW.pp (.ld isAgg3 rfl (hcx.nth (j := 0) rfl)) ?_
  refine LW.M rfl ?_
  refine LW.pp (.eql (.t rfl) (.t rfl)) ?_
  refine LW.T ?_
  refine CW.cond (.t rfl) (fun h18 => ?_) (fun h18 => ?_)
  ·replace h18 := dQ h18
   have hxw : decide (x.vd.w = wf) = true := by simpa using h18
   refine CW.S (LW.M rfl (LW.M rfl ?_))
   refine LW.pp (.Al underlying27 sizeOf32 (j := k) (.t rfl) (.t rfl) oQ ax) ?_
   refine LW.pp (.la isAgg32 sizeOf32 rfl (hcx)) ?_
   refine LW.E (.A3 sizeOf32 rfl (.t rfl) (.t rfl) (VP.one _) (hS.blk 0 rfl) rfl) ?_
   intro w3 Nw3
   have zw3 := Nw3.size
   replace hS := hS.F9 0 rfl Nw3
   change Wx.Sep _ _ _ [_] at hS
   refine LW.T (CW.ret (Ap (Ae (Ae (Ap (Ae ?_))))))
   refine E8 rfl rfl isAgg32 sizeOf32 rfl ((hS.blk 0 rfl).agg) ⟨_, rfl, ?_⟩
   first | exact ⟨.inl ⟨x, List.mem_of_getElem? hx, rfl, Yf hx hxw hn⟩, hS.Cn⟩ | (rw [show k = La.length by omega, List.take_length] at hn; exact ⟨.inr ⟨rfl, cF hn, fun p hp => of_decide_eq_false (hn p hp)⟩, hS.Cn⟩)
  replace h18 := dQ h18
  have hxw : decide (x.vd.w = wf) = false := by simpa using h18
  refine CW.skip (KW.inBlock (KW.then (CW.region (LW.M rfl ?_))))
  refine LW.pp (.inc (.t rfl) oQ) ?_
  refine LW.A rfl (LW.nil (KW.round ?_))
  exact ⟨k + 1, ⟨by omega, Iu (p := fun y : VP => decide (y.vd.w = wf)) hx hn hxw, hS.take 1⟩, ⟨rfl, rfl, rfl, rfl, trivial⟩, by first | omega | (dsimp only; omega)⟩
 replace h9 := dQ h9
 refine CW.exit (Aa (Aa (Ad (KW.then (CW.S ?_)))))
 refine LW.pp (.build (cs := (VP.mk S8 none 0).cells) underlying32 zeroValue32 Ej (.cons (.const _) .nil) (rfl)) ?_
 refine LW.E (.A3 sizeOf32 rfl (.t rfl) (.t rfl) (VP.one _) (hS.blk 0 rfl) rfl) ?_
 intro w4 Nw4
 have zw4 := Nw4.size
 replace hS := hS.F9 0 rfl Nw4
 change Wx.Sep _ _ _ [_] at hS
 refine LW.T (CW.ret ?_)
 refine E8 rfl rfl isAgg32 sizeOf32 rfl ((hS.blk 0 rfl).agg) ⟨_, rfl, ?_⟩
 first | exact ⟨.inl ⟨x, List.mem_of_getElem? hx, rfl, Yf hx hxw hn⟩, hS.Cn⟩ | (rw [show k = La.length by omega, List.take_length] at hn; exact ⟨.inr ⟨rfl, cF hn, fun p hp => of_decide_eq_false (hn p hp)⟩, hS.Cn⟩)
set_option maxHeartbeats 2000000 in
theorem Yg (ad : Option Addr) (cp : Nat) (xs : List I5) (w : World) (hE0 : Els w ad 5 I5.cells xs) : Ret Tryz.prog 14 #[.slice ad xs.length cp] w fun r w' => OwnS w' w.heap.size 36 19 Fact.cells r (E7 xs) ∧ Up w w' := by
 obtain ⟨w0, rfl⟩ : ∃ w0, w0 = w := ⟨_, rfl⟩
 have hS := Sep.start no w0
 refine cS (n := 91) (m := 9) func14 rfl rfl rfl ?_
 refine CW.S (LW.C (LW.S (CW.region (LW.C (LW.S (CW.seq ?_))))))
 replace hS := hS.add (Up.refl _) (A' := Ah 36 19 Fact.cells (.slice none 0 0) ([] : List Fact)) (OwnS.nil _ _ _ _ _) (fun i h => by cases h)
 change Wx.Sep _ _ _ [_] at hS
 refine CW.region (LW.C (LW.T (CW.block ?_)))
 refine Am (σ := Nat × Go.Value) (fun s w => (s.1 ≤ xs.length ∧ s.1 ≤ 30) ∧ (Wx.Sep no w0 w [Ah 36 19 Fact.cells s.2 (E7 (xs.take s.1))])) (fun s => [(4, .eq (vi (s.1 : Int))), (3, .eq (s.2))]) ([(0, .eq _), (2, .eq _)]) (fun s => xs.length - s.1) (0, .slice none 0 0) ?_ ⟨rfl, rfl, rfl, rfl, trivial⟩ ?_
 ·exact ⟨⟨Nat.zero_le _, Nat.zero_le _⟩, hS⟩
 rintro ⟨k, v⟩ w1 ⟨hk, hS⟩
 dsimp only at hk hS
 change CW _ _ _ _ _ _ _ ([(4, .eq (vi (k : Int))), (3, .eq (v))] ++ _) _
 refine CW.seq (CW.S (LW.M rfl (LW.M rfl ?_)))
 refine LW.pp (.Dl underlying22 (.t rfl)) ?_
 refine LW.pp (.lss (.t rfl) (.t rfl)) ?_
 refine LW.M rfl ?_
 refine LW.g rfl rfl rfl rfl rfl rfl rfl (fun hc => PEv.move (.t rfl)) ?_
 refine LW.g rfl rfl rfl rfl rfl rfl rfl (fun hc => PEv.lss vQ (.const _)) ?_
 refine LW.pp (.A5 (.t rfl) (fun hp => (by first | exact .const _ | exact .tmp rfl | exact .cond rfl (by first | assumption | simp_all)))) ?_
 refine LW.T ?_
 refine CW.cond (.t rfl) (fun h15 => ?_) (fun h15 => ?_)
 ·replace h15 := dQ h15
  refine CW.skip (KW.then (CW.seq (CW.block (CW.seq ?_))))
  have hE := hE0.up hS.Cn
  have hkl : k < xs.length ∧ k < 30 := by simp at h15; omega
  refine CW.region (LW.M rfl (LW.M rfl ?_))
  obtain ⟨y, hy⟩ := Ac (xs := xs) (i := k) oQ
  obtain ⟨By, oy, ay, hcy⟩ := hE _ y hy
  refine LW.pp (.Al underlying22 sizeOf26 (.t rfl) (.t rfl) oQ ay) ?_
  refine LW.pp (.la isAgg26 sizeOf26 rfl (hcy)) ?_
  refine Ai (.A6 zeroValue26) rfl ?_
  rintro _ w2 ⟨B5, rfl, MB5⟩
  refine LW.E (.A3 sizeOf26 rfl (.t rfl) (.t rfl) (I5.one _) MB5.blk rfl) ?_
  intro w3 LB5
  have NB5 := MB5.set LB5
  clear LB5 MB5
  have eB5 := NB5.at_
  have zB5 := NB5.size
  replace hcy := hcy.up NB5.up
  replace hS := hS.C6 NB5
  change Wx.Sep _ _ _ [_, _] at hS
  refine LW.S (CW.region ?_)
  refine LW.pp (.Cl (j := 2) underlying26 sizeOf3 (.t rfl) (.const _) cQ) ?_
  refine LW.pp (.ld isAgg3 rfl ((hS.blk 1 rfl).Ak rfl)) ?_
  refine LW.K (eC (.cons (.t rfl) (.cons (.const _) .nil)) (Kw)) rfl (Cj _ _ _ cQ) ?_
  rintro _ w4 ⟨rfl, uw4⟩
  have zw4 := uw4.size
  replace hS := hS.up uw4
  refine LW.A rfl (LW.S ?_)
  refine Hq 17 [.eq (vi ((k : Int))), .eq (vi (wI (1 + (k : Int)))), .eq (.pointer (some ⟨B5, 1, none⟩)), .eq (vi (y.b)), .eq (vi (An y.b 8)), .eq (vi (wI (1 + An y.b 8))), .eq (.pointer (some ⟨B5, 4, none⟩)), .eq (vi (y.e)), .eq (vi (An y.e 2)), .eq (vi (An y.c 200)), .eq (vi (An y.c 200)), .eq (.pointer (some ⟨B5, 3, none⟩)), .eq (vi (y.d)), .eq (vi (An y.d 20)), .eq (vi (wI (An y.c 200 + An y.d 20))), .eq (.agg (Ye k y).cells), .pred fun v W => ∃ B, v = .pointer (some ⟨B, 0, none⟩) ∧ w4.drew.heap.size ≤ B ∧ Blk W B Hi.cells 36] [7, 40] kQ rfl kQ kQ kQ kQ kQ kQ kQ ⟨PhU.eq _, PhU.eq _, PhU.eq _, PhU.eq _, PhU.eq _, PhU.eq _, PhU.eq _, PhU.eq _, PhU.eq _, PhU.eq _, PhU.eq _, PhU.eq _, PhU.eq _, PhU.eq _, PhU.eq _, PhU.eq _, PhU.pred fun _ _ _ h u => let ⟨B, e, hz, hb⟩ := h; ⟨B, e, hz, hb.up u⟩, trivial⟩ ?_ ?_
  ·intro W hU0
   have hU := (Up.drew w4).trans hU0
   have zU0 := hU0.size
   refine aC ⟨rfl, TU.p (.move (.t rfl)) rfl⟩ ?_
   refine aC ⟨rfl, TU.p (.Ia (.const _) (.t rfl)) rfl⟩ ?_
   refine aC ⟨rfl, TU.p (.Cl (j := 1) underlying26 sizeOf3 (.t rfl) (.const _) cQ) rfl⟩ ?_
   refine aC ⟨rfl, TU.p (.ld isAgg3 rfl (((hS.blk 1 rfl).up hU).Ak rfl)) rfl⟩ ?_
   refine aC ⟨rfl, TU.c (eC (.cons (.t rfl) (.cons (.const _) .nil)) (Kw)) (Cj _ _ _ cQ) sQ⟩ ?_
   refine aC ⟨rfl, TU.p (.Ia (.const _) (.t rfl)) rfl⟩ ?_
   refine aC ⟨rfl, TU.p (.Cl (j := 4) underlying26 sizeOf3 (.t rfl) (.const _) cQ) rfl⟩ ?_
   refine aC ⟨rfl, TU.p (.ld isAgg3 rfl (((hS.blk 1 rfl).up hU).Ak rfl)) rfl⟩ ?_
   refine aC ⟨rfl, TU.c (eC (.cons (.t rfl) (.cons (.const _) .nil)) (Kw)) (Cj _ _ _ cQ) sQ⟩ ?_
   refine aC ⟨rfl, TU.p (.move (.t rfl)) rfl⟩ ?_
   refine aC ⟨rfl, TU.p (.move (.t rfl)) rfl⟩ ?_
   refine aC ⟨rfl, TU.p (.Cl (j := 3) underlying26 sizeOf3 (.t rfl) (.const _) cQ) rfl⟩ ?_
   refine aC ⟨rfl, TU.p (.ld isAgg3 rfl (((hS.blk 1 rfl).up hU).Ak rfl)) rfl⟩ ?_
   refine aC ⟨rfl, TU.c (eC (.cons (.t rfl) (.cons (.const _) .nil)) (Kw)) (Cj _ _ _ cQ) sQ⟩ ?_
   refine aC ⟨rfl, TU.p (.Ia (.t rfl) (.t rfl)) rfl⟩ ?_
   refine aC ⟨rfl, TU.p (.build (cs := (Ye k y).cells) underlying36 zeroValue36 C1 (.cons (.const _) (.cons (.const _) (.cons (.t rfl) (.cons (.t rfl) (.cons (.const _) (.cons (.t rfl) (.cons (.const _) (.cons (.const _) (.cons (.t rfl) (.cons (.t rfl) .nil)))))))))) kQ) rfl⟩ ?_
   refine aC ⟨rfl, TU.r (REv.A6 zeroValue36) (fun v W' h => let ⟨B, e, N⟩ := h; ⟨N.up, B, e, by rw [N.at_]; exact zU0, N.blk⟩)⟩ ?_
   exact allL.nil
  intro w5 g hU0 hg
  have hU := (Up.drew w4).trans hU0
  have zw5 := hU.size
  obtain ⟨B7, e6, z6, hB7⟩ : ∃ B, g 7 = .pointer (some ⟨B, 0, none⟩) ∧ w4.drew.heap.size ≤ B ∧ Blk w5 B Hi.cells 36 := hg 16 _ 7 cQ rfl rfl
  have e45 : g 40 = .agg (Ye k y).cells := hg 15 _ 40 cQ rfl rfl
  change LW _ _ _ _ _ _ _ _ ((7, .eq (g 7)) :: (40, .eq (g 40)) :: _) _
  rw [e6, e45]
  clear hg e6 e45
  replace hS := (hS.up (Up.drew _)).add hU0 (A' := Cp B7 Hi.cells 36) hB7 (fun i (e : i = B7) => by omega)
  change Wx.Sep no w0 _ [_, _, _] at hS
  refine LW.E (.A3 sizeOf36 rfl (.t rfl) (.t rfl) (Fact.one _) (hS.blk 2 rfl) rfl) ?_
  intro w6 Nw6
  have zw6 := Nw6.size
  replace hS := hS.F9 2 rfl (show Set_ _ w6 _ ((Ye k y).cells) _ from Nw6)
  change Wx.Sep _ _ _ [_, _, _] at hS
  refine LW.S (CW.S ?_)
  refine LW.pp (.Cl (j := 0) underlying26 sizeOf3 (.t rfl) (.const _) cQ) ?_
  refine LW.pp (.ld isAgg3 rfl ((hS.blk 1 rfl).Ak rfl)) ?_
  refine LW.K (eC (.cons (.t rfl) (.cons (.const _) .nil)) (Kw)) rfl (Cj _ _ _ cQ) ?_
  rintro _ w7 ⟨rfl, uw7⟩
  have zw7 := uw7.size
  replace hS := hS.up uw7
  refine LW.T (CW.block (CW.S ?_))
  refine LW.pp (.eql (.t rfl) (.const _)) ?_
  refine LW.A rfl (LW.T ?_)
  refine CW.cond (.t rfl) (fun h44 => ?_) (fun h44 => ?_)
  ·replace h44 := dQ h44
   refine D5 12 kQ kQ kQ kQ kQ rfl rfl ?_
   refine HW.pp (.move (.t rfl)) ?_
   refine HW.pp (.Ia (.const _) (.t rfl)) ?_
   refine HW.pp (.Cl (j := 4) underlying26 sizeOf3 (.t rfl) (.const _) cQ) ?_
   refine HW.pp (.ld isAgg3 rfl ((hS.blk 1 rfl).Ak rfl)) ?_
   refine HW.c (fun a w _ ha => Cg (.cons (.t rfl) (.cons (.const _) .nil)) (Kw) a ha) rfl rfl (fun w hu => Cj _ _ w cQ) ?_
   refine HW.pp (.move (.t rfl)) ?_
   refine HW.pp (.move (.t rfl)) ?_
   refine HW.pp (.Cl (j := 3) underlying26 sizeOf3 (.t rfl) (.const _) cQ) ?_
   refine HW.pp (.ld isAgg3 rfl ((hS.blk 1 rfl).Ak rfl)) ?_
   refine HW.c (fun a w _ ha => Cg (.cons (.t rfl) (.cons (.const _) .nil)) (Kw) a ha) rfl rfl (fun w hu => Cj _ _ w cQ) ?_
   refine HW.pp (.Ia (.t rfl) (.t rfl)) ?_
   refine HW.pp (.build (cs := (fJ k y).cells) underlying36 zeroValue36 C1 (.cons (.const _) (.cons (.const _) (.cons (.t rfl) (.cons (.const _) (.cons (.t rfl) (.cons (.t rfl) (.cons (.t rfl) .nil))))))) kQ) ?_
   refine HW.nil ?_
   intro w8 uw8
   have zw8 := uw8.size
   replace hS := hS.up uw8
   refine LW.E (.A3 sizeOf36 rfl (.t rfl) (.t rfl) (Fact.one _) (hS.blk 2 rfl) rfl) ?_
   intro w9 Nw9
   have zw9 := Nw9.size
   replace hS := hS.F9 2 rfl (show Set_ _ w9 _ ((fJ k y).cells) _ from Nw9)
   change Wx.Sep _ _ _ [_, _, _] at hS
   refine LW.nil (KW.inBlock (KW.then ?_))
   first | rw [← Ub (by omega)] at hS | rw [← Uc (by omega)] at hS | rw [← Ud (by omega)] at hS | rw [← Ue oQ oQ oQ (by omega)] at hS
   have hsl := Iy (xs.take k)
   refine CW.region (LW.M rfl ?_)
   refine LW.pp (.la isAgg36 sizeOf36 rfl ((hS.blk 2 rfl).agg)) ?_
   refine Ai (.buildSlice (xs := [Vn k y]) (enc := Fact.cells) (mk := fun f : Fact => .agg f.cells) underlying23 sizeOf36 zeroValue36 rfl cQ (fun _ => rfl) (fun _ => rfl) (.cons (.t rfl) .nil) rfl) rfl ?_
   rintro _ w10 ⟨B88, cB88, rfl, NB88, yB88, xB88⟩
   have eB88 := NB88.at_
   have zB88 := NB88.size
   replace hS := hS.up NB88.up
   have hE88 := xB88
   refine Ai (.Cy (enc := Fact.cells) (bytes := 160) (i := Tryz.t36) underlying23 kQ rfl rfl rfl rfl cQ (fun _ => rfl) Fact.one (.t rfl) (.t rfl) (hS.own 0 rfl) (Aj hE88) (by have := hsl; simp [maxLen]; omega) (by have := hsl; simp; omega)) rfl ?_
   intro v89 w11 Gw11
   have zw11 := Gw11.fr.size
   replace hS := hS.Di 0 rfl Gw11
   change Wx.Sep _ _ _ [_, _, _] at hS
   refine LW.A rfl (LW.nil (KW.inBlock (KW.then (CW.region (LW.M rfl ?_)))))
   refine LW.pp (.inc (.t rfl) oQ) ?_
   refine LW.A rfl (LW.nil (KW.round ?_))
   exact ⟨(k + 1, v89), ⟨⟨by show k + 1 ≤ _; omega, by show k + 1 ≤ _; omega⟩, by rw [H9 hy hkl.2]; exact hS.take 1⟩, ⟨rfl, rfl, rfl, rfl, trivial⟩, by show xs.length - (k + 1) < xs.length - k; omega⟩
  replace h44 := dQ h44
  refine CW.S ?_
  refine LW.pp (.eql (.t rfl) (.const _)) ?_
  refine LW.A rfl (LW.T ?_)
  refine CW.cond (.t rfl) (fun h58 => ?_) (fun h58 => ?_)
  ·replace h58 := dQ h58
   refine CW.S (LW.M rfl ?_)
   refine LW.pp (.Ia (.const _) (.t rfl)) ?_
   refine LW.pp (.Cl (j := 1) underlying26 sizeOf3 (.t rfl) (.const _) cQ) ?_
   refine LW.pp (.ld isAgg3 rfl ((hS.blk 1 rfl).Ak rfl)) ?_
   refine LW.K (eC (.cons (.t rfl) (.cons (.const _) .nil)) (Kw)) rfl (Cj _ _ _ cQ) ?_
   rintro _ w12 ⟨rfl, uw12⟩
   have zw12 := uw12.size
   replace hS := hS.up uw12
   refine LW.pp (.Ia (.const _) (.t rfl)) ?_
   refine LW.M rfl ?_
   refine LW.pp (.build (cs := (S9 k y).cells) underlying36 zeroValue36 C1 (.cons (.const _) (.cons (.const _) (.cons (.t rfl) (.cons (.t rfl) (.cons (.t rfl) .nil))))) kQ) ?_
   refine LW.E (.A3 sizeOf36 rfl (.t rfl) (.t rfl) (Fact.one _) (hS.blk 2 rfl) rfl) ?_
   intro w13 Nw13
   have zw13 := Nw13.size
   replace hS := hS.F9 2 rfl (show Set_ _ w13 _ ((S9 k y).cells) _ from Nw13)
   change Wx.Sep _ _ _ [_, _, _] at hS
   refine LW.T (CW.region ?_)
   refine LW.pp (.fA 7 underlying36 rfl sizeOf3 rfl) ?_
   refine LW.pp (.ld isAgg3 rfl ((hS.blk 2 rfl).Ak rfl)) ?_
   refine LW.pp (.Ia (.t rfl) (.const _)) ?_
   refine LW.pp (.fA 8 underlying36 rfl sizeOf3 rfl) ?_
   refine LW.E (.store sizeOf3 (.t rfl) (.t rfl) rfl (hS.blk 2 rfl) (Nat.le_of_ble_eq_true rfl)) ?_
   intro w14 Nw14
   have zw14 := Nw14.size
   replace hS := hS.F9 2 rfl (show Set_ _ w14 _ (({ S9 k y with Other := wI ((S9 k y).Wafer + 1) } : Fact).cells) _ from Nw14)
   change Wx.Sep _ _ _ [_, _, _] at hS
   refine LW.nil (KW.inBlock (KW.then ?_))
   first | rw [← Ub (by omega)] at hS | rw [← Uc (by omega)] at hS | rw [← Ud (by omega)] at hS | rw [← Ue oQ oQ oQ (by omega)] at hS
   have hsl := Iy (xs.take k)
   refine CW.region (LW.M rfl ?_)
   refine LW.pp (.la isAgg36 sizeOf36 rfl ((hS.blk 2 rfl).agg)) ?_
   refine Ai (.buildSlice (xs := [Vn k y]) (enc := Fact.cells) (mk := fun f : Fact => .agg f.cells) underlying23 sizeOf36 zeroValue36 rfl cQ (fun _ => rfl) (fun _ => rfl) (.cons (.t rfl) .nil) rfl) rfl ?_
   rintro _ w15 ⟨B88, cB88, rfl, NB88, yB88, xB88⟩
   have eB88 := NB88.at_
   have zB88 := NB88.size
   replace hS := hS.up NB88.up
   have hE88 := xB88
   refine Ai (.Cy (enc := Fact.cells) (bytes := 160) (i := Tryz.t36) underlying23 kQ rfl rfl rfl rfl cQ (fun _ => rfl) Fact.one (.t rfl) (.t rfl) (hS.own 0 rfl) (Aj hE88) (by have := hsl; simp [maxLen]; omega) (by have := hsl; simp; omega)) rfl ?_
   intro v89 w16 Gw16
   have zw16 := Gw16.fr.size
   replace hS := hS.Di 0 rfl Gw16
   change Wx.Sep _ _ _ [_, _, _] at hS
   refine LW.A rfl (LW.nil (KW.inBlock (KW.then (CW.region (LW.M rfl ?_)))))
   refine LW.pp (.inc (.t rfl) oQ) ?_
   refine LW.A rfl (LW.nil (KW.round ?_))
   exact ⟨(k + 1, v89), ⟨⟨by show k + 1 ≤ _; omega, by show k + 1 ≤ _; omega⟩, by rw [H9 hy hkl.2]; exact hS.take 1⟩, ⟨rfl, rfl, rfl, rfl, trivial⟩, by show xs.length - (k + 1) < xs.length - k; omega⟩
  replace h58 := dQ h58
  refine CW.seq (CW.S ?_)
  refine LW.pp (.eql (.t rfl) (.const _)) ?_
  refine LW.A rfl (LW.T ?_)
  refine CW.cond (.t rfl) (fun h72 => ?_) (fun h72 => ?_)
  ·replace h72 := dQ h72
   refine CW.skip (KW.then ?_)
   refine CW.cond (.t rfl) (fun h72 => ?_) (fun h72 => ?_)
   ·replace h72 := dQ h72
    refine D5 11 kQ kQ kQ kQ kQ rfl rfl ?_
    refine HW.pp (.Cl (j := 1) underlying26 sizeOf3 (.t rfl) (.const _) cQ) ?_
    refine HW.pp (.ld isAgg3 rfl ((hS.blk 1 rfl).Ak rfl)) ?_
    refine HW.c (fun a w _ ha => Cg (.cons (.t rfl) (.cons (.const _) .nil)) (Kw) a ha) rfl rfl (fun w hu => Cj _ _ w cQ) ?_
    refine HW.pp (.Ia (.const _) (.t rfl)) ?_
    refine HW.pp (.Cl (j := 3) underlying26 sizeOf3 (.t rfl) (.const _) cQ) ?_
    refine HW.pp (.ld isAgg3 rfl ((hS.blk 1 rfl).Ak rfl)) ?_
    refine HW.c (fun a w _ ha => Cg (.cons (.t rfl) (.cons (.const _) .nil)) (Kw) a ha) rfl rfl (fun w hu => Cj _ _ w cQ) ?_
    refine HW.pp (.Ia (.const _) (.t rfl)) ?_
    refine HW.pp (.move (.t rfl)) ?_
    refine HW.pp (.quo (.t rfl) (.const _) cQ) ?_
    refine HW.pp (.build (cs := (aF y).cells) underlying36 zeroValue36 C1 (.cons (.const _) (.cons (.const _) (.cons (.t rfl) (.cons (.t rfl) (.cons (.const _) (.cons (.t rfl) .nil)))))) kQ) ?_
    refine HW.nil ?_
    intro w17 uw17
    have zw17 := uw17.size
    replace hS := hS.up uw17
    refine LW.E (.A3 sizeOf36 rfl (.t rfl) (.t rfl) (Fact.one _) (hS.blk 2 rfl) rfl) ?_
    intro w18 Nw18
    have zw18 := Nw18.size
    replace hS := hS.F9 2 rfl (show Set_ _ w18 _ ((aF y).cells) _ from Nw18)
    change Wx.Sep _ _ _ [_, _, _] at hS
    refine LW.nil (KW.inBlock (KW.then ?_))
    first | rw [← Ub (by omega)] at hS | rw [← Uc (by omega)] at hS | rw [← Ud (by omega)] at hS | rw [← Ue oQ oQ oQ (by omega)] at hS
    have hsl := Iy (xs.take k)
    refine CW.region (LW.M rfl ?_)
    refine LW.pp (.la isAgg36 sizeOf36 rfl ((hS.blk 2 rfl).agg)) ?_
    refine Ai (.buildSlice (xs := [Vn k y]) (enc := Fact.cells) (mk := fun f : Fact => .agg f.cells) underlying23 sizeOf36 zeroValue36 rfl cQ (fun _ => rfl) (fun _ => rfl) (.cons (.t rfl) .nil) rfl) rfl ?_
    rintro _ w19 ⟨B88, cB88, rfl, NB88, yB88, xB88⟩
    have eB88 := NB88.at_
    have zB88 := NB88.size
    replace hS := hS.up NB88.up
    have hE88 := xB88
    refine Ai (.Cy (enc := Fact.cells) (bytes := 160) (i := Tryz.t36) underlying23 kQ rfl rfl rfl rfl cQ (fun _ => rfl) Fact.one (.t rfl) (.t rfl) (hS.own 0 rfl) (Aj hE88) (by have := hsl; simp [maxLen]; omega) (by have := hsl; simp; omega)) rfl ?_
    intro v89 w20 Gw20
    have zw20 := Gw20.fr.size
    replace hS := hS.Di 0 rfl Gw20
    change Wx.Sep _ _ _ [_, _, _] at hS
    refine LW.A rfl (LW.nil (KW.inBlock (KW.then (CW.region (LW.M rfl ?_)))))
    refine LW.pp (.inc (.t rfl) oQ) ?_
    refine LW.A rfl (LW.nil (KW.round ?_))
    exact ⟨(k + 1, v89), ⟨⟨by show k + 1 ≤ _; omega, by show k + 1 ≤ _; omega⟩, by rw [H9 hy hkl.2]; exact hS.take 1⟩, ⟨rfl, rfl, rfl, rfl, trivial⟩, by show xs.length - (k + 1) < xs.length - k; omega⟩
   replace h72 := dQ h72
   refine CW.skip (KW.inBlock (KW.then ?_))
   first | rw [← Ub (by omega)] at hS | rw [← Uc (by omega)] at hS | rw [← Ud (by omega)] at hS | rw [← Ue oQ oQ oQ (by omega)] at hS
   have hsl := Iy (xs.take k)
   refine CW.region (LW.M rfl ?_)
   refine LW.pp (.la isAgg36 sizeOf36 rfl ((hS.blk 2 rfl).agg)) ?_
   refine Ai (.buildSlice (xs := [Vn k y]) (enc := Fact.cells) (mk := fun f : Fact => .agg f.cells) underlying23 sizeOf36 zeroValue36 rfl cQ (fun _ => rfl) (fun _ => rfl) (.cons (.t rfl) .nil) rfl) rfl ?_
   rintro _ w21 ⟨B88, cB88, rfl, NB88, yB88, xB88⟩
   have eB88 := NB88.at_
   have zB88 := NB88.size
   replace hS := hS.up NB88.up
   have hE88 := xB88
   refine Ai (.Cy (enc := Fact.cells) (bytes := 160) (i := Tryz.t36) underlying23 kQ rfl rfl rfl rfl cQ (fun _ => rfl) Fact.one (.t rfl) (.t rfl) (hS.own 0 rfl) (Aj hE88) (by have := hsl; simp [maxLen]; omega) (by have := hsl; simp; omega)) rfl ?_
   intro v89 w22 Gw22
   have zw22 := Gw22.fr.size
   replace hS := hS.Di 0 rfl Gw22
   change Wx.Sep _ _ _ [_, _, _] at hS
   refine LW.A rfl (LW.nil (KW.inBlock (KW.then (CW.region (LW.M rfl ?_)))))
   refine LW.pp (.inc (.t rfl) oQ) ?_
   refine LW.A rfl (LW.nil (KW.round ?_))
   exact ⟨(k + 1, v89), ⟨⟨by show k + 1 ≤ _; omega, by show k + 1 ≤ _; omega⟩, by rw [H9 hy hkl.2]; exact hS.take 1⟩, ⟨rfl, rfl, rfl, rfl, trivial⟩, by show xs.length - (k + 1) < xs.length - k; omega⟩
  replace h72 := dQ h72
  refine CW.region ?_
  refine LW.pp (.eql (.t rfl) (.const _)) ?_
  refine LW.A rfl (LW.T ?_)
  refine CW.cond (.t rfl) (fun h72 => ?_) (fun h72 => ?_)
  ·replace h72 := dQ h72
   refine D5 11 kQ kQ kQ kQ kQ rfl rfl ?_
   refine HW.pp (.Cl (j := 1) underlying26 sizeOf3 (.t rfl) (.const _) cQ) ?_
   refine HW.pp (.ld isAgg3 rfl ((hS.blk 1 rfl).Ak rfl)) ?_
   refine HW.c (fun a w _ ha => Cg (.cons (.t rfl) (.cons (.const _) .nil)) (Kw) a ha) rfl rfl (fun w hu => Cj _ _ w cQ) ?_
   refine HW.pp (.Ia (.const _) (.t rfl)) ?_
   refine HW.pp (.Cl (j := 3) underlying26 sizeOf3 (.t rfl) (.const _) cQ) ?_
   refine HW.pp (.ld isAgg3 rfl ((hS.blk 1 rfl).Ak rfl)) ?_
   refine HW.c (fun a w _ ha => Cg (.cons (.t rfl) (.cons (.const _) .nil)) (Kw) a ha) rfl rfl (fun w hu => Cj _ _ w cQ) ?_
   refine HW.pp (.Ia (.const _) (.t rfl)) ?_
   refine HW.pp (.move (.t rfl)) ?_
   refine HW.pp (.quo (.t rfl) (.const _) cQ) ?_
   refine HW.pp (.build (cs := (aF y).cells) underlying36 zeroValue36 C1 (.cons (.const _) (.cons (.const _) (.cons (.t rfl) (.cons (.t rfl) (.cons (.const _) (.cons (.t rfl) .nil)))))) kQ) ?_
   refine HW.nil ?_
   intro w23 uw23
   have zw23 := uw23.size
   replace hS := hS.up uw23
   refine LW.E (.A3 sizeOf36 rfl (.t rfl) (.t rfl) (Fact.one _) (hS.blk 2 rfl) rfl) ?_
   intro w24 Nw24
   have zw24 := Nw24.size
   replace hS := hS.F9 2 rfl (show Set_ _ w24 _ ((aF y).cells) _ from Nw24)
   change Wx.Sep _ _ _ [_, _, _] at hS
   refine LW.nil (KW.inBlock (KW.then ?_))
   first | rw [← Ub (by omega)] at hS | rw [← Uc (by omega)] at hS | rw [← Ud (by omega)] at hS | rw [← Ue oQ oQ oQ (by omega)] at hS
   have hsl := Iy (xs.take k)
   refine CW.region (LW.M rfl ?_)
   refine LW.pp (.la isAgg36 sizeOf36 rfl ((hS.blk 2 rfl).agg)) ?_
   refine Ai (.buildSlice (xs := [Vn k y]) (enc := Fact.cells) (mk := fun f : Fact => .agg f.cells) underlying23 sizeOf36 zeroValue36 rfl cQ (fun _ => rfl) (fun _ => rfl) (.cons (.t rfl) .nil) rfl) rfl ?_
   rintro _ w25 ⟨B88, cB88, rfl, NB88, yB88, xB88⟩
   have eB88 := NB88.at_
   have zB88 := NB88.size
   replace hS := hS.up NB88.up
   have hE88 := xB88
   refine Ai (.Cy (enc := Fact.cells) (bytes := 160) (i := Tryz.t36) underlying23 kQ rfl rfl rfl rfl cQ (fun _ => rfl) Fact.one (.t rfl) (.t rfl) (hS.own 0 rfl) (Aj hE88) (by have := hsl; simp [maxLen]; omega) (by have := hsl; simp; omega)) rfl ?_
   intro v89 w26 Gw26
   have zw26 := Gw26.fr.size
   replace hS := hS.Di 0 rfl Gw26
   change Wx.Sep _ _ _ [_, _, _] at hS
   refine LW.A rfl (LW.nil (KW.inBlock (KW.then (CW.region (LW.M rfl ?_)))))
   refine LW.pp (.inc (.t rfl) oQ) ?_
   refine LW.A rfl (LW.nil (KW.round ?_))
   exact ⟨(k + 1, v89), ⟨⟨by show k + 1 ≤ _; omega, by show k + 1 ≤ _; omega⟩, by rw [H9 hy hkl.2]; exact hS.take 1⟩, ⟨rfl, rfl, rfl, rfl, trivial⟩, by show xs.length - (k + 1) < xs.length - k; omega⟩
  replace h72 := dQ h72
  refine CW.skip (KW.inBlock (KW.then ?_))
  first | rw [← Ub (by omega)] at hS | rw [← Uc (by omega)] at hS | rw [← Ud (by omega)] at hS | rw [← Ue oQ oQ oQ (by omega)] at hS
  have hsl := Iy (xs.take k)
  refine CW.region (LW.M rfl ?_)
  refine LW.pp (.la isAgg36 sizeOf36 rfl ((hS.blk 2 rfl).agg)) ?_
  refine Ai (.buildSlice (xs := [Vn k y]) (enc := Fact.cells) (mk := fun f : Fact => .agg f.cells) underlying23 sizeOf36 zeroValue36 rfl cQ (fun _ => rfl) (fun _ => rfl) (.cons (.t rfl) .nil) rfl) rfl ?_
  rintro _ w27 ⟨B88, cB88, rfl, NB88, yB88, xB88⟩
  have eB88 := NB88.at_
  have zB88 := NB88.size
  replace hS := hS.up NB88.up
  have hE88 := xB88
  refine Ai (.Cy (enc := Fact.cells) (bytes := 160) (i := Tryz.t36) underlying23 kQ rfl rfl rfl rfl cQ (fun _ => rfl) Fact.one (.t rfl) (.t rfl) (hS.own 0 rfl) (Aj hE88) (by have := hsl; simp [maxLen]; omega) (by have := hsl; simp; omega)) rfl ?_
  intro v89 w28 Gw28
  have zw28 := Gw28.fr.size
  replace hS := hS.Di 0 rfl Gw28
  change Wx.Sep _ _ _ [_, _, _] at hS
  refine LW.A rfl (LW.nil (KW.inBlock (KW.then (CW.region (LW.M rfl ?_)))))
  refine LW.pp (.inc (.t rfl) oQ) ?_
  refine LW.A rfl (LW.nil (KW.round ?_))
  exact ⟨(k + 1, v89), ⟨⟨by show k + 1 ≤ _; omega, by show k + 1 ≤ _; omega⟩, by rw [H9 hy hkl.2]; exact hS.take 1⟩, ⟨rfl, rfl, rfl, rfl, trivial⟩, by show xs.length - (k + 1) < xs.length - k; omega⟩
 replace h15 := dQ h15
 refine CW.exit (Aa (Aa (Ad (KW.then (CW.S (LW.M rfl (LW.A rfl (LW.T (CW.ret ?_)))))))))
 refine Af rfl rfl ⟨_, rfl, ?_⟩
 rw [kL (by simp at h15; omega)] at hS
 exact ⟨Na hS, hS.Cn⟩
end Go.Proofs.YtmimclgihlhaeaaGreat
end
section
namespace Go.Wx
theorem kM {w : World} {ad : Option Addr} {cp : Nat} {Ts : List TP} (h : Els w ad 1 TP.cells Ts) : Sl w (.slice ad (min Ts.length 16) cp) 1 TP.cells (Ts.take 16) := ⟨ad, cp, by rw [List.length_take, Nat.min_comm], h.take⟩
theorem kN {x : Fact} (h : Lr x) : Uj x.Time ∧ Uj x.Until := by unfold Lr at h; unfold Uj; omega
theorem nT {κ : Type} [DecidableEq κ] {Q : Mk.KT κ} {P : Program} {T : TypeId} {b : Nat} {kv : List (κ × Go.Value)} {k : κ} {st : Nat} {w w' : World} (h : Mk.MidM Q P T w' b kv k st) (K : Sto b w w') : Stp (Mk.Cc Q b kv) (Mk.uC Q P T b kv k st) w w' := ⟨K.fr, h, fun _ h => .inl h⟩
theorem fK {κ : Type} [DecidableEq κ] {Q : Mk.KT κ} {P : Program} {T : TypeId} {b : Nat} {kv kv' : List (κ × Go.Value)} {k : κ} {st : Nat} {w w' : World} (h : Mk.IMap Q w' b kv') (K : Sto b w w') : Stp (Mk.uC Q P T b kv k st) (Mk.Cc Q b kv') w w' := ⟨K.fr, h, fun _ h => .inl h⟩
section
variable {P : Program} {n : Nat} {ds : List Deferred} {l : Env} {w : World} {d : Option Tmp} {ty : TypeId} {ps : String} {af : Array Edge} {g : Option (Nat × Bool)}
theorem PEv.qS {T E : TypeId} {m x : Operand} {b : Nat} {k : Int} {z : Go.Value} {kv : List (Int × Go.Value)} {v0 : Go.Value} {K : TypeId} (hT : P.underlying T = some (.map K E)) (hI : P.underlying K = some (.int .i64)) (hz : ∀ w, (zeroValue E).run P w = .ok z w) (hm : Val l m (.map (some b))) (hx : Val l x (vi k)) (h : IMap w b kv) (h0 : (k ∉ kv.map (·.1) ∧ v0 = z) ∨ (k, v0) ∈ kv) : PEv P n ds l w ⟨d, .lookup T m x false, ty, ps, af, g⟩ v0 := by
 rcases h0 with ⟨h1, rfl⟩ | h1
 · exact PEv.G5 (ok := false) hT hI hz hm hx h h1
 exact PEv.C0 (ok := false) hT hI hm hx h h1
end
end Go.Wx
namespace Go.Proofs.YtmimclgihlhaeaaGreat
open Go.Proofs.Tryz
open Go.Wx Go.RowKit
set_option maxHeartbeats 2000000 in
set_option maxRecDepth 4000 in
theorem fL (bc : Array Go.Value) (b : Base) (ad : Option Addr) (cp : Nat) (L : List VP) (w : World) (hC : BaseC w bc b) (hT : ∀ p ∈ b.Processes, Lr p) (hE0 : Els w ad 3 VP.cells L) (hw : ∀ p ∈ L, Sl w p.uv 1 A8 p.vd.why) (hlw : ∀ p ∈ L, p.vd.why.length ≤ 100000) (hl : L.length ≤ 100000) (hlP : b.Processes.length ≤ 100000) (hlL : b.Lots.length ≤ 1000000000) : Ret Tryz.prog 25 #[.agg bc, .slice ad L.length cp] w fun r0 w' => ∃ Ts : List TP, Ts.map TP.l = Vl b (L.map (·.vd)) ∧ Sl w' r0 1 TP.cells Ts ∧ (∀ t ∈ Ts, Sl w' t.v 1 A8 t.l) ∧ Up w w' := by
 obtain ⟨w0, rfl⟩ : ∃ w0, w0 = w := ⟨_, rfl⟩
 have hS := Sep.start no w0
 refine cS (n := 117) (m := 9) func25 rfl rfl rfl ?_
 refine CW.S ?_
 refine Ai (.Er (.t rfl)) rfl ?_
 rintro _ w1 ⟨B2, rfl, NB2⟩
 have eB2 := NB2.at_
 have zB2 := NB2.size
 replace hS := hS.C6 NB2
 change Wx.Sep _ _ _ [_] at hS
 refine LW.C (LW.S (CW.region ?_))
 refine Ai (Mk.REv.makeMap (Q := Sq)) rfl ?_
 rintro _ w2 ⟨B20, rfl, M_, u_, e_, z_⟩
 replace hS := hS.add u_ (A' := Mk.Cc Sq B20 []) M_ (fun i (e : i = B20) => by omega)
 change Wx.Sep _ _ _ [_, _] at hS
 clear M_ u_
 refine LW.r REv.makeMap rfl rfl rfl rfl ?_
 rintro _ w3 ⟨B21, rfl, M_, u_, e_, z_⟩
 replace hS := hS.add u_ (A' := Cc B21 []) M_ (fun i (e : i = B21) => by omega)
 change Wx.Sep _ _ _ [_, _, _] at hS
 clear M_ u_
 refine LW.A rfl (LW.A rfl (LW.S (CW.S (LW.M rfl ?_))))
 refine LW.K (eC (.o rfl) (rF)) rfl (T8 ad cp L _ (Els.up hE0 hS.Cn) hl) ?_
 rintro v7 w4 ⟨hO7, uw4⟩
 have zw4 := uw4.size
 replace hS := hS.add uw4 (A' := Ah 32 3 VP.cells v7 (L.filter Au)) (hO7.mono (Nat.zero_le _)) (fun i h => hO7.base i h)
 change Wx.Sep _ _ _ [_, _, _, _] at hS
 clear hO7
 obtain ⟨ad7, cp7, rfl, _⟩ := (hS.own 3 rfl).sl (fun _ => rfl)
 have hfl := List.length_filter_le Au L
 refine LW.pp (.Dl underlying27 (.t rfl)) ?_
 refine LW.pp (.move (.const _)) ?_
 refine LW.nil ?_
 replace hS := hS.add (Up.refl _) (A' := S6 3 ([] : List (BE Ar2))) ⟨by simp, by simp⟩ (by rintro i ⟨A, hA, _⟩; simp at hA)
 change Wx.Sep _ _ _ [_, _, _, _, _] at hS
 replace hS := hS.add (Up.refl _) (A' := S6 3 ([] : List (BE Int))) ⟨by simp, by simp⟩ (by rintro i ⟨A, hA, _⟩; simp at hA)
 change Wx.Sep _ _ _ [_, _, _, _, _, _] at hS
 refine KW.then (CW.block ?_)
 refine Am (σ := Nat × List (BE Ar2) × List (BE Int)) (fun s w => (s.1 ≤ (L.filter Au).length) ∧ (BeInv s.2.1 (J2 b.Processes (((L.filter Au).take s.1).map (·.vd)))) ∧ (BeInv s.2.2 (Fa b (((L.filter Au).take s.1).map (·.vd)))) ∧ (Wx.Sep no w0 w [Cp B2 bc 38, Mk.Cc Sq B20 ((s.2.1).map BE.kv), Cc B21 ((s.2.2).map BE.kv), Ah 32 3 VP.cells (.slice ad7 (L.filter Au).length cp7) (L.filter Au), S6 3 (s.2.1), S6 3 (s.2.2)])) (fun s => [(25, .eq (vi (s.1 : Int)))]) ([(2, .eq _), (4, .eq _), (5, .eq _), (6, .eq _), (23, .eq _), (24, .eq _)]) (fun s => (L.filter Au).length - s.1) (0, [], []) ?_ ⟨rfl, rfl, rfl, rfl, rfl, rfl, rfl, trivial⟩ ?_
 ·exact ⟨Nat.zero_le _, BeInv.nil fun _ => rfl, BeInv.nil fun _ => rfl, hS⟩
 rintro ⟨i, D, E⟩ w5 ⟨hi, hDI, hEI, hS⟩
 dsimp only at hi hDI hEI hS
 change Wx.Sep _ _ _ [_, _, _, _, _, _] at hS
 change CW _ _ _ _ _ _ _ ([(25, .eq (vi (i : Int)))] ++ _) _
 refine CW.S ?_
 refine LW.pp (.lss (.t rfl) (.t rfl)) ?_
 refine LW.S ?_
 refine CW.cond (.t rfl) (fun h26 => ?_) (fun h26 => ?_)
 ·replace h26 := dQ h26
  refine CW.skip (KW.then (CW.seq (CW.block (CW.seq ?_))))
  obtain ⟨p, hp⟩ := Ac (xs := (L.filter Au)) (i := i) oQ
  have hpL : p ∈ L := (List.mem_filter.1 (List.mem_of_getElem? hp)).1
  obtain ⟨Bp, op_, ap, hcp⟩ := (D9 (hS.own 3 rfl) (fun _ => rfl)) i p hp
  have hEw := oP (hw p hpL)
  refine CW.region ?_
  refine LW.pp (.Al underlying27 sizeOf32 (j := i) (.t rfl) (.t rfl) oQ ap) ?_
  refine LW.pp (.la isAgg32 sizeOf32 rfl (hcp)) ?_
  refine Ai (.A6 zeroValue32) rfl ?_
  rintro _ w6 ⟨B8, rfl, MB8⟩
  refine LW.E (.A3 sizeOf32 rfl (.t rfl) (.t rfl) (VP.one _) MB8.blk rfl) ?_
  intro w7 LB8
  have NB8 := MB8.set LB8
  clear LB8 MB8
  have eB8 := NB8.at_
  have zB8 := NB8.size
  replace hS := hS.C6 NB8
  change Wx.Sep _ _ _ [_, _, _, _, _, _, _] at hS
  refine LW.S (CW.region ?_)
  refine Ai (Mk.REv.makeMap (Q := Sq)) rfl ?_
  rintro _ w8 ⟨B29, rfl, M_, u_, e_, z_⟩
  replace hS := hS.add u_ (A' := Mk.Cc Sq B29 []) M_ (fun i (e : i = B29) => by omega)
  change Wx.Sep _ _ _ [_, _, _, _, _, _, _, _] at hS
  clear M_ u_
  refine LW.A rfl (LW.S (CW.seq ?_))
  obtain ⟨v00, h00, hs00⟩ := hC.at_ (j := 0) cQ
  obtain ⟨adP, cpP, rfl, hEP⟩ := (show Sl w0 v00 19 Fact.cells b.Processes from hs00)
  refine CW.region ?_
  refine LW.pp (.fA 0 underlying38 rfl sizeOf23 rfl) ?_
  refine LW.pp (.ld isAgg23 rfl ((hS.blk 0 rfl).cell h00)) ?_
  refine LW.pp (.Dl underlying23 (.t rfl)) ?_
  refine LW.pp (.move (.const _)) ?_
  refine LW.T (CW.block ?_)
  refine Am (σ := Nat) (fun s w => (s ≤ b.Processes.length) ∧ (Wx.Sep no w0 w [Cp B2 bc 38, Mk.Cc Sq B20 ((D).map BE.kv), Cc B21 ((E).map BE.kv), Ah 32 3 VP.cells (.slice ad7 (L.filter Au).length cp7) (L.filter Au), S6 3 (D), S6 3 (E), Cp B8 p.cells 32, Mk.Cc Sq B29 ((Hf (b.Processes.take s) p.vd.why).map Sc)])) (fun s => [(33, .eq (vi (s : Int)))]) ([(2, .eq _), (4, .eq _), (5, .eq _), (6, .eq _), (8, .eq _), (9, .eq _), (23, .eq _), (24, .eq _), (25, .eq _), (31, .eq _), (32, .eq _)]) (fun s => b.Processes.length - s) 0 ?_ ⟨rfl, rfl, rfl, rfl, rfl, rfl, rfl, rfl, rfl, rfl, rfl, rfl, trivial⟩ ?_
  ·exact ⟨Nat.zero_le _, hS⟩
  rintro j w9 ⟨hj, hS⟩
  refine CW.S ?_
  refine LW.pp (.lss (.t rfl) (.t rfl)) ?_
  refine LW.S ?_
  refine CW.cond (.t rfl) (fun h34 => ?_) (fun h34 => ?_)
  ·replace h34 := dQ h34
   refine CW.skip (KW.then (CW.seq (CW.block (CW.seq ?_))))
   obtain ⟨y, hy⟩ := Ac (xs := b.Processes) (i := j) oQ
   obtain ⟨By, oy, ay, hcy⟩ := (Els.up hEP hS.Cn) j y hy
   refine CW.region ?_
   refine LW.pp (.Al underlying23 sizeOf36 (j := j) (.t rfl) (.t rfl) oQ ay) ?_
   refine LW.pp (.la isAgg36 sizeOf36 rfl (hcy)) ?_
   refine Ai (.A6 zeroValue36) rfl ?_
   rintro _ w10 ⟨B11, rfl, MB11⟩
   refine LW.E (.A3 sizeOf36 rfl (.t rfl) (.t rfl) (Fact.one _) MB11.blk rfl) ?_
   intro w11 LB11
   have NB11 := MB11.set LB11
   clear LB11 MB11
   have eB11 := NB11.at_
   have zB11 := NB11.size
   replace hS := hS.C6 NB11
   change Wx.Sep _ _ _ [_, _, _, _, _, _, _, _, _] at hS
   refine LW.S (CW.region ?_)
   refine LW.pp (.fA 2 underlying32 rfl sizeOf30 rfl) ?_
   refine LW.pp (.ld isAgg30 rfl (Blk.Ak (v := p.uv) (hS.blk 6 rfl) rfl)) ?_
   refine LW.pp (.fA 1 underlying36 rfl sizeOf3 rfl) ?_
   refine LW.pp (.ld isAgg3 rfl ((hS.blk 8 rfl).Ak rfl)) ?_
   refine LW.K (eC (.u rfl rfl) (vC)) rfl (S5 p.ad p.cp p.vd.why y.ID _ (Els.up hEw hS.Cn) (hlw p hpL)) ?_
   rintro _ w12 ⟨rfl, uw12⟩
   have zw12 := uw12.size
   replace hS := hS.up uw12
   refine LW.T ?_
   refine CW.cond (.t rfl) (fun h41 => ?_) (fun h41 => ?_)
   ·replace h41 := dQ h41
    have hin : y.ID ∈ p.vd.why := by simpa using h41
    refine CW.region (LW.M rfl ?_)
    refine LW.pp (.fA 5 underlying36 rfl sizeOf3 rfl) ?_
    refine LW.pp (.ld isAgg3 rfl ((hS.blk 8 rfl).Ak rfl)) ?_
    refine LW.pp (.fA 6 underlying36 rfl sizeOf3 rfl) ?_
    refine LW.pp (.ld isAgg3 rfl ((hS.blk 8 rfl).Ak rfl)) ?_
    refine LW.pp (.Jr (cs := (Ar2.mk y.Time y.Until).cells) underlying99 zeroValue99 sizeOf3 (.cons (.t rfl) (.cons (.t rfl) .nil)) rfl) ?_
    refine LW.E (Mk.SEv.mapUpdate (k := kC y) underlying97 jW (show Sq.ok (kC y) from kN (hT y (List.mem_of_getElem? hy))) (.t rfl) (.t rfl) (.const _) (hS.get 7 rfl)) ?_
    rintro w13 ⟨Mu, Ku, zu⟩
    rw [aB] at Mu
    replace hS := hS.Di 7 rfl (Mk.Kj Mu Ku)
    change Wx.Sep _ _ _ [_, _, _, _, _, _, _, _, _] at hS
    clear Mu Ku
    refine LW.nil (KW.inBlock (KW.then (CW.region ?_)))
    refine LW.pp (.inc (.t rfl) oQ) ?_
    refine LW.M rfl (LW.nil (KW.round ?_))
    exact ⟨j + 1, ⟨by omega, by first | (rw [X6 hy hin]; exact hS.take 8) | (rw [cC hy hin]; exact hS.take 8)⟩, ⟨rfl, rfl, rfl, rfl, rfl, rfl, rfl, rfl, rfl, rfl, rfl, rfl, trivial⟩, by first | omega | (dsimp only; omega)⟩
   replace h41 := dQ h41
   have hin : ¬ y.ID ∈ p.vd.why := by simpa using h41
   refine CW.skip (KW.inBlock (KW.then (CW.region ?_)))
   refine LW.pp (.inc (.t rfl) oQ) ?_
   refine LW.M rfl (LW.nil (KW.round ?_))
   exact ⟨j + 1, ⟨by omega, by first | (rw [X6 hy hin]; exact hS.take 8) | (rw [cC hy hin]; exact hS.take 8)⟩, ⟨rfl, rfl, rfl, rfl, rfl, rfl, rfl, rfl, rfl, rfl, rfl, rfl, trivial⟩, by first | omega | (dsimp only; omega)⟩
  replace h34 := dQ h34
  refine CW.exit (Aa (Aa (Ad (KW.then (CW.seq (CW.seq ?_))))))
  have hjl : j = b.Processes.length := by omega
  rw [hjl, List.take_length] at hS
  refine CW.region (LW.M rfl ?_)
  refine Ai (Mk.REv.range underlying97 (.t rfl) (hS.get 7 rfl)) rfl ?_
  rintro _ w14 ⟨r50, rfl, hR_, u_, e_, z_⟩
  replace hS := hS.Di 7 rfl (Mk.Gx hR_ u_ e_)
  change Wx.Sep _ _ _ [_, _, _, _, _, _, _, _] at hS
  clear hR_ u_
  refine LW.T (CW.block ?_)
  refine Am (σ := List Ar2 × List (BE Ar2)) (fun s w => (s.1.Nodup ∧ ∀ k ∈ s.1, k ∈ Hf (b.Processes) p.vd.why) ∧ (BeInv s.2 (Pk b.Processes (((L.filter Au).take i).map (·.vd)) p.vd s.1)) ∧ (Wx.Sep no w0 w [Cp B2 bc 38, Mk.Cc Sq B20 ((s.2).map BE.kv), Cc B21 ((E).map BE.kv), Ah 32 3 VP.cells (.slice ad7 (L.filter Au).length cp7) (L.filter Au), S6 3 (s.2), S6 3 (E), Cp B8 p.cells 32, Mk.Fo Sq B29 r50 ((Hf (b.Processes) p.vd.why).map Sc) s.1])) (fun s => []) ([(2, .eq _), (4, .eq _), (5, .eq _), (6, .eq _), (8, .eq _), (23, .eq _), (24, .eq _), (25, .eq _), (50, .eq _)]) (fun s => (Hf (b.Processes) p.vd.why).length - s.1.length) ([], D) ?_ ⟨rfl, rfl, rfl, rfl, rfl, rfl, rfl, rfl, rfl, trivial⟩ ?_
  ·exact ⟨⟨List.nodup_nil, fun _ h => (by cases h)⟩, by rw [kD]; exact hDI, hS⟩
  rintro ⟨V, D⟩ w15 ⟨hV, hDI, hS⟩
  dsimp only at hV hDI hS
  change Wx.Sep _ _ _ [_, _, _, _, _, _, _, _] at hS
  change CW _ _ _ _ _ _ _ ([] ++ _) _
  refine CW.S ?_
  refine Ai (Mk.REv.next (.t rfl) (hS.get 7 rfl)) rfl ?_
  rintro _ w16 (⟨rfl, rfl, hPm⟩ | ⟨k0, u0, rfl, hNx⟩)
  ·skip
   refine LW.pp (.extract (.t rfl) rfl) (LW.S ?_)
   refine CW.cond_false (.t rfl) ?_
   refine CW.exit (Aa (Aa (Ad (KW.then (CW.seq ?_)))))
   rw [fE (by rw [Ni] at hPm; exact hPm)] at hDI
   refine CW.region ?_
   refine LW.pp (.K5 isAgg38 sizeOf38 (hC.size) (.t rfl) ((hS.blk 0 rfl).agg)) ?_
   refine LW.pp (.la isAgg32 sizeOf32 rfl ((hS.blk 6 rfl).agg)) ?_
   refine LW.K (eC (.u rfl rfl) (vD)) rfl (Z6 bc b p _ (hC.up hS.Cn) (Sl.up (hw p hpL) hS.Cn) (hlw p hpL) hlP hlL) ?_
   rintro _ w17 ⟨rfl, uw17⟩
   have zw17 := uw17.size
   replace hS := hS.up uw17
   refine LW.A rfl (LW.S (CW.region (LW.M rfl ?_)))
   refine LW.pp (.neq (.t rfl) (.const _)) ?_
   refine LW.T ?_
   refine CW.cond (.t rfl) (fun h68 => ?_) (fun h68 => ?_)
   ·replace h68 := dQ h68
    have hn : ¬ Gm b p.vd = 0 := by simpa using h68
    obtain ⟨v0, hv0⟩ := qQ (E.map BE.kv) (Gm b p.vd)
    obtain ⟨E1, j1, e1, hE1, hj1, rfl, hl1, hputE⟩ := X4 hEI p.vd.w hv0
    replace hS := hS.Di 5 rfl (kA hE1 (hS.get 5 rfl))
    change Wx.Sep _ _ _ [_, _, _, _, _, _, _, _] at hS
    have hbl := fF b (((L.filter Au).take i).map (·.vd)) (Gm b p.vd)
    rw [List.length_map, List.length_take] at hbl
    refine CW.region (LW.M rfl (LW.M rfl (LW.M rfl (LW.M rfl ?_))))
    refine LW.pp (.qS underlying96 underlying3 zeroValue30 (.t rfl) (.t rfl) (hS.get 2 rfl) hv0) ?_
    refine LW.pp (.fA 0 underlying32 rfl sizeOf3 rfl) ?_
    refine LW.pp (.ld isAgg3 rfl (Blk.Ak (v := vi p.vd.w) (hS.blk 6 rfl) rfl)) ?_
    refine Ai (.buildSlice (xs := [p.vd.w]) (enc := A8) (mk := vi) underlying30 sizeOf3 zeroValue3 rfl cQ (fun _ => rfl) (fun _ => rfl) (.cons (.t rfl) .nil) rfl) rfl ?_
    rintro _ w18 ⟨B76, cB76, rfl, NB76, yB76, xB76⟩
    have eB76 := NB76.at_
    have zB76 := NB76.size
    replace hS := hS.up NB76.up
    have hE76 := xB76
    refine Ai (.Cy (enc := A8) (bytes := 8) (i := Tryz.t3) underlying30 kQ rfl rfl rfl rfl cQ (fun _ => rfl) Ig (.t rfl) (.t rfl) (Pg (hS.get 5 rfl) (List.mem_of_getElem? hj1)) (Aj hE76) (by rw [hl1]; simp only [maxLen, List.length_cons, List.length_nil]; omega) (by rw [hl1]; simp only [List.length_cons, List.length_nil]; omega)) rfl ?_
    intro v77 w19 Gw19
    have zw19 := Gw19.fr.size
    replace hS := hS.Di 5 rfl (kB (g := (Gm b p.vd)) (v := v77) (l := Fa b (((L.filter Au).take i).map (·.vd)) (Gm b p.vd) ++ [p.vd.w]) (hS.get 5 rfl) hj1 (by rw [← hl1]; exact Gw19))
    change Wx.Sep _ _ _ [_, _, _, _, _, _, _, _] at hS
    refine LW.E (.mapUpdate underlying96 underlying3 (.t rfl) (.t rfl) (.t rfl) (hS.get 2 rfl)) ?_
    rintro w20 ⟨Mu, Ku, zu⟩
    rw [nQ, (hputE v77).1] at Mu
    replace hS := hS.Di 2 rfl (R3 Mu Ku)
    change Wx.Sep _ _ _ [_, _, _, _, _, _, _, _] at hS
    clear Mu Ku
    refine LW.nil (KW.inBlock (KW.then (CW.region ?_)))
    refine LW.pp (.inc (.t rfl) oQ) ?_
    refine LW.M rfl (LW.nil (KW.round ?_))
    first | exact ⟨(i + 1, D, E1.set j1 ⟨Gm b p.vd, v77, Fa b (((L.filter Au).take i).map (·.vd)) (Gm b p.vd) ++ [p.vd.w]⟩), ⟨by show i + 1 ≤ _; omega, by show BeInv D (J2 _ (((L.filter Au).take (i + 1)).map (·.vd))); rw [Jd hp]; exact hDI, by show BeInv _ (Fa b (((L.filter Au).take (i + 1)).map (·.vd))); rw [Jd hp, T9 hn]; exact (hputE v77).2, by exact hS.take 6⟩, ⟨rfl, rfl, rfl, rfl, rfl, rfl, rfl, trivial⟩, by show (L.filter Au).length - (i + 1) < (L.filter Au).length - i; omega⟩ | exact ⟨(i + 1, D, E), ⟨by show i + 1 ≤ _; omega, by show BeInv D (J2 _ (((L.filter Au).take (i + 1)).map (·.vd))); rw [Jd hp]; exact hDI, by show BeInv E (Fa b (((L.filter Au).take (i + 1)).map (·.vd))); rw [Jd hp, X8 hn]; exact hEI, by exact hS.take 6⟩, ⟨rfl, rfl, rfl, rfl, rfl, rfl, rfl, trivial⟩, by show (L.filter Au).length - (i + 1) < (L.filter Au).length - i; omega⟩
   replace h68 := dQ h68
   have hn : Gm b p.vd = 0 := by simpa using h68
   refine CW.skip (KW.inBlock (KW.then (CW.region ?_)))
   refine LW.pp (.inc (.t rfl) oQ) ?_
   refine LW.M rfl (LW.nil (KW.round ?_))
   first | exact ⟨(i + 1, D, E1.set j1 ⟨Gm b p.vd, v77, Fa b (((L.filter Au).take i).map (·.vd)) (Gm b p.vd) ++ [p.vd.w]⟩), ⟨by show i + 1 ≤ _; omega, by show BeInv D (J2 _ (((L.filter Au).take (i + 1)).map (·.vd))); rw [Jd hp]; exact hDI, by show BeInv _ (Fa b (((L.filter Au).take (i + 1)).map (·.vd))); rw [Jd hp, T9 hn]; exact (hputE v77).2, by exact hS.take 6⟩, ⟨rfl, rfl, rfl, rfl, rfl, rfl, rfl, trivial⟩, by show (L.filter Au).length - (i + 1) < (L.filter Au).length - i; omega⟩ | exact ⟨(i + 1, D, E), ⟨by show i + 1 ≤ _; omega, by show BeInv D (J2 _ (((L.filter Au).take (i + 1)).map (·.vd))); rw [Jd hp]; exact hDI, by show BeInv E (Fa b (((L.filter Au).take (i + 1)).map (·.vd))); rw [Jd hp, X8 hn]; exact hEI, by exact hS.take 6⟩, ⟨rfl, rfl, rfl, rfl, rfl, rfl, rfl, trivial⟩, by show (L.filter Au).length - (i + 1) < (L.filter Au).length - i; omega⟩
  skip
  have zw16 := hNx.size
  replace hS := hS.Di 7 rfl (Mk.Iq hNx)
  change Wx.Sep _ _ _ [_, _, _, _, _, _, _, _] at hS
  have hk0c : k0 ∈ Hf (b.Processes) p.vd.why := by have h5 := List.mem_map_of_mem (f := Prod.fst) hNx.mem; rw [Ni] at h5; exact h5
  have hk0V := hNx.fresh
  have hV2 : (V ++ [k0]).Nodup ∧ ∀ k ∈ V ++ [k0], k ∈ Hf (b.Processes) p.vd.why := ⟨List.nodup_append.2 ⟨hV.1, by simp, fun a ha c hc => by simp at hc; subst hc; exact fun e => hk0V (e ▸ ha)⟩, fun k hk => (List.mem_append.1 hk).elim (hV.2 k) (fun h => by cases List.mem_singleton.1 h; exact hk0c)⟩
  have hVl := hV2.1.length_le_of_subset hV2.2
  rw [List.length_append, List.length_singleton] at hVl
  have hko := cD (fun f hf => kN (hT f hf)) k0 hk0c
  refine LW.pp (.extract (.t rfl) rfl) (LW.S ?_)
  refine CW.cond_true (.t rfl) ?_
  refine CW.skip (KW.then (CW.block (CW.seq ?_)))
  have hbl := kG b.Processes (((L.filter Au).take i).map (·.vd)) p.vd V k0
  rw [List.length_map, List.length_take] at hbl
  refine CW.region ?_
  refine Ai (.entry (.t rfl) hNx.entry) rfl ?_
  rintro _ _ ⟨rfl, rfl⟩
  refine LW.pp (.extract (.t rfl) rfl) ?_
  refine Ai (.A6 zeroValue99) rfl ?_
  rintro _ w21 ⟨B12, rfl, MB12⟩
  refine LW.E (.A3 sizeOf99 rfl (.t rfl) (.t rfl) (Ar2.one _) MB12.blk rfl) ?_
  intro w22 LB12
  have NB12 := MB12.set LB12
  clear LB12 MB12
  have eB12 := NB12.at_
  have zB12 := NB12.size
  replace hS := hS.C6 NB12
  change Wx.Sep _ _ _ [_, _, _, _, _, _, _, _, _] at hS
  refine LW.T ?_
  have zB20 := (show Mk.IMap Sq _ _ _ from hS.get 1 rfl).lt
  refine CW.region (LW.M rfl ?_)
  refine LW.pp (.la isAgg99 sizeOf99 rfl ((hS.blk 8 rfl).agg)) ?_
  refine LW.pp (.fA 0 underlying32 rfl sizeOf3 rfl) ?_
  refine LW.pp (.ld isAgg3 rfl (Blk.Ak (v := vi p.vd.w) (hS.blk 6 rfl) rfl)) ?_
  refine Ai (.buildSlice (xs := [p.vd.w]) (enc := A8) (mk := vi) underlying30 sizeOf3 zeroValue3 rfl cQ (fun _ => rfl) (fun _ => rfl) (.cons (.t rfl) .nil) rfl) rfl ?_
  rintro _ w23 ⟨B60, cB60, rfl, NB60, yB60, xB60⟩
  have eB60 := NB60.at_
  have zB60 := NB60.size
  replace hS := hS.up NB60.up
  have hE60 := xB60
  refine Ai (Mk.REv.mapEntry underlying95 jW hko zeroValue30 (.t rfl) (.t rfl) (hS.get 1 rfl)) rfl ?_
  rintro _ w24 ⟨v0, st0, rfl, hv0, hMd, Ks, zs⟩
  replace hE60 := hE60.sto Ks oQ
  replace hS := hS.Di 1 rfl (nT hMd Ks)
  change Wx.Sep _ _ _ [_, _, _, _, _, _, _, _, _] at hS
  clear hMd Ks
  obtain ⟨D1, j1, e1, hD1, hj1, rfl, hl1, hput⟩ := X4 hDI p.vd.w hv0
  replace hS := hS.Di 4 rfl (kA hD1 (hS.get 4 rfl))
  change Wx.Sep _ _ _ [_, _, _, _, _, _, _, _, _] at hS
  refine LW.pp (.extract (.t rfl) rfl) ?_
  refine Ai (.Cy (enc := A8) (bytes := 8) (i := Tryz.t3) underlying30 kQ rfl rfl rfl rfl cQ (fun _ => rfl) Ig (.t rfl) (.t rfl) (Pg (hS.get 4 rfl) (List.mem_of_getElem? hj1)) (Aj hE60) (by rw [hl1]; simp only [maxLen, List.length_cons, List.length_nil]; omega) (by rw [hl1]; simp only [List.length_cons, List.length_nil]; omega)) rfl ?_
  intro v62 w25 Gw25
  have zw25 := Gw25.fr.size
  replace hS := hS.Di 4 rfl (kB (g := k0) (v := v62) (l := Pk b.Processes (((L.filter Au).take i).map (·.vd)) p.vd V k0 ++ [p.vd.w]) (hS.get 4 rfl) hj1 (by rw [← hl1]; exact Gw25))
  change Wx.Sep _ _ _ [_, _, _, _, _, _, _, _, _] at hS
  refine LW.pp (.extract (.t rfl) rfl) ?_
  refine LW.E (Mk.SEv.entryStore (.t rfl) (.t rfl) (.t rfl) (hS.get 1 rfl)) ?_
  rintro w26 ⟨Mu, Ku, zu⟩
  rw [(hput v62).1] at Mu
  replace hS := hS.Di 1 rfl (fK Mu Ku)
  change Wx.Sep _ _ _ [_, _, _, _, _, _, _, _, _] at hS
  clear Mu Ku
  refine LW.nil (KW.inBlock (KW.round ?_))
  exact ⟨(V ++ [k0], D1.set j1 ⟨k0, v62, Pk b.Processes (((L.filter Au).take i).map (·.vd)) p.vd V k0 ++ [p.vd.w]⟩), ⟨hV2, by show BeInv _ (Pk _ _ _ (V ++ [k0])); rw [kE hk0V]; exact (hput v62).2, hS.take 8⟩, ⟨rfl, rfl, rfl, rfl, rfl, rfl, rfl, rfl, rfl, trivial⟩, by show _ - (V ++ [k0]).length < _ - V.length; rw [List.length_append, List.length_singleton]; omega⟩
 replace h26 := dQ h26
 refine CW.exit (Aa (Aa (Ad (KW.then (CW.seq ?_)))))
 have hil : i = (L.filter Au).length := by omega
 rw [hil, List.take_length] at hDI hEI
 have hDl := nR hDI
 have hEl := nS hEI
 rw [List.length_map] at hEl
 have zB20 := (show Mk.IMap Sq _ _ _ from hS.get 1 rfl).lt
 have zB21 := (show IMap _ _ _ from hS.get 2 rfl).lt
 refine CW.region ?_
 refine LW.pp (.assign (.func _)) ?_
 refine LW.S (CW.region (LW.C (LW.S (CW.S (LW.M rfl ?_)))))
 refine LW.K (eC (.o rfl) (vH)) rfl (fC _ _) ?_
 rintro _ w27 ⟨⟨BK, rfl, hBK, zK⟩, uw27⟩
 have zw27 := uw27.size
 replace hS := hS.up uw27
 have zBK := hBK.lt
 have zz := hS.Cn.size
 refine LW.M rfl ?_
 refine LW.K (eC (.u rfl rfl) (vF)) rfl (Yc _ _ _ _ _ _ rT (fun W X Y u hX hY => Z7 X Y BK B20 _ W (fun i h => (hY i h).2) (fun h => by have := hX _ h; omega) (fun h => by have := (hY _ h).1; omega) (hBK.up u) ((show Mk.IMap Sq _ _ _ from hS.get 1 rfl).up u)) (by rw [List.length_map]; omega) (fun ks h => by have := h.length_eq; rw [Kr, List.length_map] at this; omega)) ?_
 rintro v82 w28 ⟨ks, hPk, hO82, hf82, uw28⟩
 have zw28 := uw28.size
 replace hBK := hBK.up uw28
 replace hS := hS.add uw28 (A' := Ah 99 2 Ar2.cells v82 (ks.mergeSort S7)) (hO82) (hf82)
 change Wx.Sep _ _ _ [_, _, _, _, _, _, _] at hS
 clear hO82
 rw [Kr] at hPk
 rw [Ya hDI hPk] at hS
 obtain ⟨ad82, cp82, rfl, _⟩ := (hS.own 6 rfl).sl (fun _ => rfl)
 change Wx.Sep _ _ _ [_, _, _, _, _, _, _] at hS
 refine LW.pp (.Dl underlying103 (.t rfl)) ?_
 refine LW.pp (.move (.const _)) ?_
 refine LW.nil ?_
 have hTkl : (F8 b.Processes ((L.filter Au).map (·.vd))).length ≤ 100000 := by rw [← Ya hDI hPk, List.length_mergeSort, hPk.length_eq, List.length_map]; omega
 replace hS := hS.mR (OwnS.nil _ 0 64 1 TP.cells)
 change Wx.Sep _ _ _ [_, _, _, _, _, _, _, _] at hS
 refine KW.then (CW.block ?_)
 refine Am (σ := Nat × Go.Value × List TP) (fun s w => (s.1 ≤ (F8 b.Processes ((L.filter Au).map (·.vd))).length) ∧ (s.2.2.map TP.l = ((F8 b.Processes ((L.filter Au).map (·.vd))).take s.1).map (J2 b.Processes ((L.filter Au).map (·.vd)))) ∧ (∀ t ∈ s.2.2, ∃ e ∈ D, e.v = t.v ∧ e.l = t.l) ∧ (Wx.Sep no w0 w [Cp B2 bc 38, Mk.Cc Sq B20 ((D).map BE.kv), Cc B21 ((E).map BE.kv), Ah 32 3 VP.cells (.slice ad7 (L.filter Au).length cp7) (L.filter Au), S6 3 (D), S6 3 (E), Ah 99 2 Ar2.cells (.slice ad82 (F8 b.Processes ((L.filter Au).map (·.vd))).length cp82) (F8 b.Processes ((L.filter Au).map (·.vd))), Ah 64 1 TP.cells s.2.1 s.2.2])) (fun s => [(84, .eq (vi (s.1 : Int))), (15, .eq (s.2.1))]) ([(4, .eq _), (5, .eq _), (6, .eq _), (82, .eq _), (83, .eq _)]) (fun s => (F8 b.Processes ((L.filter Au).map (·.vd))).length - s.1) (0, .slice none 0 0, []) ?_ ⟨rfl, rfl, rfl, rfl, rfl, rfl, rfl, trivial⟩ ?_
 ·exact ⟨Nat.zero_le _, rfl, (fun _ h => (by cases h)), hS⟩
 rintro ⟨k, v, Ts⟩ w29 ⟨hk, hTs, hTe, hS⟩
 dsimp only at hk hTs hTe hS
 change Wx.Sep _ _ _ [_, _, _, _, _, _, _, _] at hS
 change CW _ _ _ _ _ _ _ ([(84, .eq (vi (k : Int))), (15, .eq (v))] ++ _) _
 refine CW.S ?_
 refine LW.pp (.lss (.t rfl) (.t rfl)) ?_
 refine LW.S ?_
 refine CW.cond (.t rfl) (fun h85 => ?_) (fun h85 => ?_)
 ·replace h85 := dQ h85
  refine CW.skip (KW.then (CW.seq (CW.block (CW.seq ?_))))
  obtain ⟨g, hg⟩ := Ac (xs := (F8 b.Processes ((L.filter Au).map (·.vd)))) (i := k) oQ
  obtain ⟨Bg, og, ag, hcg⟩ := (D9 (hS.own 6 rfl) (fun _ => rfl)) k g hg
  obtain ⟨e, he, heg⟩ := fG hDI (List.mem_of_getElem? hg)
  obtain ⟨ade, cpe, hev, _⟩ := (Pg (hS.get 4 rfl) he).sl (fun _ => rfl)
  have hko := kJ (fun f hf => kN (hT f hf)) g (List.mem_of_getElem? hg)
  have hTl := congrArg List.length hTs
  simp only [List.length_map, List.length_take] at hTl
  refine CW.region ?_
  refine LW.pp (.Al underlying103 sizeOf99 (j := k) (.t rfl) (.t rfl) oQ ag) ?_
  refine LW.pp (.la isAgg99 sizeOf99 rfl (hcg)) ?_
  refine Ai (.A6 zeroValue99) rfl ?_
  rintro _ w30 ⟨B17, rfl, MB17⟩
  refine LW.E (.A3 sizeOf99 rfl (.t rfl) (.t rfl) (Ar2.one _) MB17.blk rfl) ?_
  intro w31 LB17
  have NB17 := MB17.set LB17
  clear LB17 MB17
  have eB17 := NB17.at_
  have zB17 := NB17.size
  replace hS := hS.C6 NB17
  change Wx.Sep _ _ _ [_, _, _, _, _, _, _, _, _] at hS
  refine LW.T (CW.region (LW.M rfl (LW.M rfl ?_)))
  refine LW.pp (.la isAgg99 sizeOf99 rfl ((hS.blk 8 rfl).agg)) ?_
  refine LW.pp (Mk.PEv.C0 (ok := false) underlying95 jW hko (.t rfl) (.t rfl) (hS.get 1 rfl) (List.mem_map.2 ⟨e, he, by show (e.g, e.v) = _; rw [heg, hev]⟩)) ?_
  refine LW.pp (.build (cs := (TP.mk ade e.l cpe).cells) underlying64 zeroValue64 Ft (.cons (.t rfl) .nil) rfl) ?_
  refine Ai (.buildSlice (xs := [TP.mk ade e.l cpe]) (enc := TP.cells) (mk := fun t : TP => .agg t.cells) underlying51 sizeOf64 zeroValue64 rfl cQ (fun _ => rfl) (fun _ => rfl) (.cons (.t rfl) .nil) rfl) rfl ?_
  rintro _ w32 ⟨B93, cB93, rfl, NB93, yB93, xB93⟩
  have eB93 := NB93.at_
  have zB93 := NB93.size
  replace hS := hS.up NB93.up
  have hE93 := xB93
  refine Ai (.Cy (enc := TP.cells) (bytes := 24) (i := Tryz.t64) underlying51 kQ rfl rfl rfl rfl cQ (fun _ => rfl) TP.one (.t rfl) (.t rfl) (hS.own 7 rfl) (Aj hE93) (by simp only [maxLen, List.length_cons, List.length_nil]; omega) (by simp only [List.length_cons, List.length_nil]; omega)) rfl ?_
  intro v94 w33 Gw33
  have zw33 := Gw33.fr.size
  replace hS := hS.Di 7 rfl Gw33
  change Wx.Sep _ _ _ [_, _, _, _, _, _, _, _, _] at hS
  refine LW.A rfl (LW.nil (KW.inBlock (KW.then (CW.region ?_))))
  refine LW.pp (.inc (.t rfl) oQ) ?_
  refine LW.M rfl (LW.nil (KW.round ?_))
  exact ⟨(k + 1, v94, Ts ++ [TP.mk ade e.l cpe]), ⟨by show k + 1 ≤ _; omega, by show (Ts ++ [_]).map TP.l = _; rw [List.map_append, hTs, G4 hg, ← heg, ← hDI.val e he]; rfl, fun t ht => (List.mem_append.1 ht).elim (hTe t) (fun h => ⟨e, he, by rw [List.mem_singleton.1 h]; exact ⟨hev, rfl⟩⟩), hS.take 8⟩, ⟨rfl, rfl, rfl, rfl, rfl, rfl, rfl, trivial⟩, by show (F8 b.Processes ((L.filter Au).map (·.vd))).length - (k + 1) < (F8 b.Processes ((L.filter Au).map (·.vd))).length - k; omega⟩
 replace h85 := dQ h85
 refine CW.exit (Aa (Aa (Ad (KW.then (CW.seq (CW.seq ?_))))))
 have hkl : k = (F8 b.Processes ((L.filter Au).map (·.vd))).length := by omega
 rw [hkl, List.take_length] at hTs
 refine CW.region (LW.M rfl ?_)
 refine LW.K (eC (.o rfl) (vI)) rfl (Hk.Kl _ _) ?_
 rintro _ w34 ⟨⟨BJ, rfl, hBJ, zJ⟩, uw34⟩
 have zw34 := uw34.size
 replace hS := hS.up uw34
 have zBJ := hBJ.lt
 have zz2 := hS.Cn.size
 refine LW.K (eC (.o rfl) (rG)) rfl (Hs.Ki _ _ _ _ _ _ rV (fun W X u hX => Hk.Jl X _ BJ B21 _ W (fun i h => h.elim) (fun h => by have := hX _ h; omega) (fun h => h.elim) (hBJ.up u) ((show IMap _ _ _ from hS.get 2 rfl).up u)) (by rw [List.length_map]; omega) (fun ks h => by have := h.length_eq; rw [Kr, List.length_map] at this; omega)) ?_
 rintro v98 w35 ⟨ks2, hPj, hO98, uw35⟩
 have zw35 := uw35.size
 replace hBJ := hBJ.up uw35
 replace hS := hS.add uw35 (A' := Ah 3 1 A8 v98 (ks2.mergeSort fun x y => decide (x ≤ y))) (hO98.mono (Nat.zero_le _)) (fun i h => hO98.base i h)
 change Wx.Sep _ _ _ [_, _, _, _, _, _, _, _, _] at hS
 clear hO98
 rw [Kr] at hPj
 rw [Yb hEI hPj] at hS
 obtain ⟨ad98, cp98, rfl, _⟩ := (hS.own 8 rfl).sl (fun _ => rfl)
 change Wx.Sep _ _ _ [_, _, _, _, _, _, _, _, _] at hS
 refine LW.pp (.Dl underlying30 (.t rfl)) ?_
 refine LW.pp (.move (.const _)) ?_
 refine LW.nil ?_
 have hLkl : (Iv b ((L.filter Au).map (·.vd))).length ≤ 100000 := by rw [← Yb hEI hPj, List.length_mergeSort, hPj.length_eq, List.length_map]; omega
 refine KW.then (CW.block ?_)
 refine Am (σ := Nat × Go.Value × List TP) (fun s w => (s.1 ≤ (Iv b ((L.filter Au).map (·.vd))).length) ∧ (s.2.2.map TP.l = (F8 b.Processes ((L.filter Au).map (·.vd))).map (J2 b.Processes ((L.filter Au).map (·.vd))) ++ ((Iv b ((L.filter Au).map (·.vd))).take s.1).map (Fa b ((L.filter Au).map (·.vd)))) ∧ (∀ t ∈ s.2.2, (∃ e ∈ D, e.v = t.v ∧ e.l = t.l) ∨ ∃ e ∈ E, e.v = t.v ∧ e.l = t.l) ∧ (Wx.Sep no w0 w [Cp B2 bc 38, Mk.Cc Sq B20 ((D).map BE.kv), Cc B21 ((E).map BE.kv), Ah 32 3 VP.cells (.slice ad7 (L.filter Au).length cp7) (L.filter Au), S6 3 (D), S6 3 (E), Ah 99 2 Ar2.cells (.slice ad82 (F8 b.Processes ((L.filter Au).map (·.vd))).length cp82) (F8 b.Processes ((L.filter Au).map (·.vd))), Ah 64 1 TP.cells s.2.1 s.2.2, Ah 3 1 A8 (.slice ad98 (Iv b ((L.filter Au).map (·.vd))).length cp98) (Iv b ((L.filter Au).map (·.vd)))])) (fun s => [(100, .eq (vi (s.1 : Int))), (15, .eq (s.2.1))]) ([(4, .eq _), (6, .eq _), (98, .eq _), (99, .eq _)]) (fun s => (Iv b ((L.filter Au).map (·.vd))).length - s.1) (0, v, Ts) ?_ ⟨rfl, rfl, rfl, rfl, rfl, rfl, trivial⟩ ?_
 ·exact ⟨Nat.zero_le _, by show Ts.map TP.l = _ ++ []; rw [hTs, List.append_nil], fun t ht => .inl (hTe t ht), hS⟩
 rintro ⟨j, v, Ts⟩ w36 ⟨hj, hTs2, hTe2, hS⟩
 dsimp only at hj hTs2 hTe2 hS
 change Wx.Sep _ _ _ [_, _, _, _, _, _, _, _, _] at hS
 change CW _ _ _ _ _ _ _ ([(100, .eq (vi (j : Int))), (15, .eq (v))] ++ _) _
 refine CW.S ?_
 refine LW.pp (.lss (.t rfl) (.t rfl)) ?_
 refine LW.S ?_
 refine CW.cond (.t rfl) (fun h101 => ?_) (fun h101 => ?_)
 ·replace h101 := dQ h101
  refine CW.skip (KW.then (CW.seq (CW.block (CW.seq ?_))))
  obtain ⟨m, hm⟩ := Ac (xs := (Iv b ((L.filter Au).map (·.vd)))) (i := j) oQ
  obtain ⟨Bm, om, am, hcm⟩ := (D9 (hS.own 8 rfl) (fun _ => rfl)) j m hm
  obtain ⟨e, he, heg⟩ := fH hEI (List.mem_of_getElem? hm)
  obtain ⟨ade, cpe, hev, _⟩ := (Pg (hS.get 5 rfl) he).sl (fun _ => rfl)
  have hTl := congrArg List.length hTs2
  simp only [List.length_append, List.length_map, List.length_take] at hTl
  refine CW.region ?_
  refine LW.pp (.Al underlying30 sizeOf3 (j := j) (.t rfl) (.t rfl) oQ am) ?_
  refine LW.pp (.ld isAgg3 rfl (hcm.nth (j := 0) rfl)) ?_
  refine LW.A rfl (LW.T (CW.region (LW.M rfl (LW.M rfl (LW.M rfl ?_)))))
  refine LW.pp (.C0 (ok := false) underlying96 underlying3 (.t rfl) (.t rfl) (hS.get 2 rfl) (List.mem_map.2 ⟨e, he, by show (e.g, e.v) = _; rw [heg, hev]⟩)) ?_
  refine LW.pp (.build (cs := (TP.mk ade e.l cpe).cells) underlying64 zeroValue64 Ft (.cons (.t rfl) .nil) rfl) ?_
  refine Ai (.buildSlice (xs := [TP.mk ade e.l cpe]) (enc := TP.cells) (mk := fun t : TP => .agg t.cells) underlying51 sizeOf64 zeroValue64 rfl cQ (fun _ => rfl) (fun _ => rfl) (.cons (.t rfl) .nil) rfl) rfl ?_
  rintro _ w37 ⟨B109, cB109, rfl, NB109, yB109, xB109⟩
  have eB109 := NB109.at_
  have zB109 := NB109.size
  replace hS := hS.up NB109.up
  have hE109 := xB109
  refine Ai (.Cy (enc := TP.cells) (bytes := 24) (i := Tryz.t64) underlying51 kQ rfl rfl rfl rfl cQ (fun _ => rfl) TP.one (.t rfl) (.t rfl) (hS.own 7 rfl) (Aj hE109) (by simp only [maxLen, List.length_cons, List.length_nil]; omega) (by simp only [List.length_cons, List.length_nil]; omega)) rfl ?_
  intro v110 w38 Gw38
  have zw38 := Gw38.fr.size
  replace hS := hS.Di 7 rfl Gw38
  change Wx.Sep _ _ _ [_, _, _, _, _, _, _, _, _] at hS
  refine LW.A rfl (LW.nil (KW.inBlock (KW.then (CW.region ?_))))
  refine LW.pp (.inc (.t rfl) oQ) ?_
  refine LW.M rfl (LW.nil (KW.round ?_))
  exact ⟨(j + 1, v110, Ts ++ [TP.mk ade e.l cpe]), ⟨by show j + 1 ≤ _; omega, by show (Ts ++ [_]).map TP.l = _; rw [List.map_append, hTs2, G4 hm, List.append_assoc, ← heg, ← hEI.val e he]; rfl, fun t ht => (List.mem_append.1 ht).elim (hTe2 t) (fun h => .inr ⟨e, he, by rw [List.mem_singleton.1 h]; exact ⟨hev, rfl⟩⟩), hS.take 9⟩, ⟨rfl, rfl, rfl, rfl, rfl, rfl, trivial⟩, by show (Iv b ((L.filter Au).map (·.vd))).length - (j + 1) < (Iv b ((L.filter Au).map (·.vd))).length - j; omega⟩
 replace h101 := dQ h101
 refine CW.exit (Aa (Aa (Ad (KW.then (CW.seq ?_)))))
 have hjl : j = (Iv b ((L.filter Au).map (·.vd))).length := by omega
 rw [hjl, List.take_length] at hTs2
 obtain ⟨ado, cpo, rfl, hEo⟩ := (hS.own 7 rfl).sl (fun _ => rfl)
 have hco := (hS.own 7 rfl).cap
 refine CW.region (LW.M rfl (LW.M rfl ?_))
 refine LW.pp (.Dl underlying51 (.t rfl)) ?_
 refine LW.pp (.tM (i := Ts.length) (j := 16) (.t rfl) (.const _)) ?_
 refine LW.pp (.aR underlying51 sizeOf64 (.t rfl) (.t rfl) (by have := hco.1; omega)) ?_
 refine LW.A rfl (LW.T (CW.ret ?_))
 refine Af rfl rfl ⟨_, rfl, ?_⟩
 refine ⟨Ts.take 16, ?_, ?_, fun t ht => ?_, hS.Cn⟩
 ·rw [List.map_take, hTs2]; unfold Vl Vk; rw [← cE]
 ·exact kM hEo
 rcases hTe2 t (List.mem_of_mem_take ht) with ⟨e, he, h1, h2⟩ | ⟨e, he, h1, h2⟩
 · rw [← h1, ← h2]; exact (Pg (hS.get 4 rfl) he).sl (fun _ => rfl)
 rw [← h1, ← h2]; exact (Pg (hS.get 5 rfl) he).sl (fun _ => rfl)
end Go.Proofs.YtmimclgihlhaeaaGreat
end
section
namespace Go.Wx
def fM {α : Type} (le : α → α → Bool) (x : α) : List α → List α
 | [] => [x]
 | y :: l => if le x y then x :: y :: l else y :: fM le x l
def Ta {α : Type} (le : α → α → Bool) (l : List α) : List α := l.foldr (fM le) []
theorem Po {α : Type} (le : α → α → Bool) (x : α) : ∀ l : List α, (fM le x l).Perm (x :: l)
 | [] => List.Perm.refl _
 | y :: l => by
   unfold fM
   split
   · exact List.Perm.refl _
   exact ((Po le x l).cons y).trans (List.Perm.swap _ _ _)
theorem Uf {α : Type} (le : α → α → Bool) : ∀ l : List α, (Ta le l).Perm l
 | [] => List.Perm.refl _
 | y :: l => (Po le y (Ta le l)).trans ((Uf le l).cons y)
theorem P4 {α : Type} {le : α → α → Bool} (ht : ∀ a b c, le a b = true → le b c = true → le a c = true) (hb : ∀ a b, (le a b || le b a) = true) (x : α) : ∀ l : List α, l.Pairwise (fun a b => le a b = true) → (fM le x l).Pairwise fun a b => le a b = true
 | [], _ => List.pairwise_singleton _ _
 | y :: l, h => by
   have h1 := List.pairwise_cons.1 h
   unfold fM
   split
   · rename_i hxy
     exact List.pairwise_cons.2 ⟨fun z hz => (List.mem_cons.1 hz).elim (fun e => e ▸ hxy) fun hz => ht _ _ _ hxy (h1.1 z hz), h⟩
   rename_i hxy
   refine List.pairwise_cons.2 ⟨fun z hz => ?_, P4 ht hb x l h1.2⟩
   rcases List.mem_cons.1 ((Po le x l).mem_iff.1 hz) with rfl | hz
   · have := hb z y
     simp [hxy] at this
     exact this
   exact h1.1 z hz
theorem P5 {α : Type} {le : α → α → Bool} (ht : ∀ a b c, le a b = true → le b c = true → le a c = true) (hb : ∀ a b, (le a b || le b a) = true) : ∀ l : List α, (Ta le l).Pairwise fun a b => le a b = true
 | [] => List.Pairwise.nil
 | y :: l => P4 ht hb y _ (P5 ht hb l)
theorem cG {α : Type} {le : α → α → Bool} (ht : ∀ a b c, le a b = true → le b c = true → le a c = true) (hb : ∀ a b, (le a b || le b a) = true) (ha : ∀ a b, le a b = true → le b a = true → a = b) (l : List α) : l.mergeSort le = Ta le l :=
 List.Perm.eq_of_pairwise (le := fun x y => le x y = true) (fun x y _ _ h1 h2 => ha x y h1 h2) (List.pairwise_mergeSort ht hb l) (P5 ht hb l) ((List.mergeSort_perm l _).trans (Uf le l).symm)
def rA (x y : Int) : Bool := decide (x ≤ y)
theorem Pp (l : List Int) : Fp l = Ta rA l :=
 cG (le := rA) (fun a b c h k => by have h3 := of_decide_eq_true h; have h4 := of_decide_eq_true k; exact decide_eq_true oQ) (fun a b => by unfold rA; simp; omega) (fun a b h k => by have h3 := of_decide_eq_true h; have h4 := of_decide_eq_true k; omega) l
theorem fN (l : List Ar2) : l.mergeSort S7 = Ta S7 l := cG Pm Pn (fun a b h k => Vh ((Kt b a).1 k) ((Kt a b).1 h)) l
def kO (w : Int) (L : List (Int × Bool)) : Vd := ⟨w, (Cf L).1, Ta rA (Cf L).2⟩
def oR (b : Base) (x : Exc) : List Vd := if G8 x = true then (Ta rA ((Xh b.Swaps (Qb b.Lots) b.Processes).filter Eb)).map fun w => kO w (lookW (Mj b.Swaps b.Gaps x b.Processes) w) else []
theorem qT (b : Base) (x : Exc) : Gy b x = oR b x := by
 have h : R6 = kO := funext fun w => funext fun L => by unfold R6 kO; rw [Pp]
 unfold Gy oR A9
 rw [Pp, h]
def cH (b : Base) (O : List Vd) : List (List Int) := (Ta S7 (Qg (O.flatMap fun p => Hf b.Processes p.why))).map (J2 b.Processes O) ++ (Ta rA (Qg ((O.map (Gm b)).filter fun n => decide (n ≠ 0)))).map (Fa b O)
theorem kP (b : Base) (O : List Vd) : Vk b O = cH b O := by
 unfold Vk cH F8 Iv
 rw [fN, show (Qg ((O.map (Gm b)).filter fun n => decide (n ≠ 0))).mergeSort (fun x y => decide (x ≤ y)) = Fp _ from rfl, Pp]
def uG : Exc := ⟨2, 0, 100, 120, 5⟩
def kR : Fact := { Hi with Kind := 11, Version := 1, ID := 1, Tool := 2, Time := 24, Until := 30 }
def kS : Fact := { Hi with Kind := 4, Version := 1, Wafer := 2, Lot := 6, Product := 1 }
def kT : List Fact := [E6 11 1 90 105, E6 12 2 90 104, E6 13 3 126 130, E6 14 4 10 20, E6 15 5 10 18, kR, kS]
def v22 : List Vd := [⟨1, 2, [11]⟩, ⟨2, 1, [12]⟩, ⟨3, 0, []⟩, ⟨4, 1, [14]⟩, ⟨5, 0, []⟩]
theorem xF : Gy (H5 kT 0) uG = v22 := by rw [qT]; kernel_rfl
theorem wU : Vl (H5 kT 0) v22 = [[4], [2], [2]] := by unfold Vl; rw [kP]; kernel_rfl
theorem uM : (H5 kT 0).Processes = [E6 11 1 90 105, E6 12 2 90 104, E6 13 3 126 130, E6 14 4 10 20, E6 15 5 10 18] := by kernel_rfl
theorem aH : ∀ p ∈ (H5 kT 0).Processes, Lr p := by
 rw [uM]
 intro p hp
 simp only [List.mem_cons, List.not_mem_nil, or_false] at hp
 rcases hp with rfl | rfl | rfl | rfl | rfl <;> simp [Lr, E6]
theorem cI : (H5 kT 0).Gaps.length = 1 := by kernel_rfl
theorem cJ : (H5 kT 0).Swaps.length = 0 := by kernel_rfl
theorem Sj : (H5 kT 0).Lots.length = 1 := by kernel_rfl
theorem kU (L : List VP) : jR L = ((L.map (·.vd)).filter fun v => decide (v.t = 1)).map (·.w) := by
 rw [← cE, List.map_map]
 rfl
def TsOk (w : World) (Ts : List TP) : Prop := ∀ t ∈ Ts, Sl w t.v 1 A8 t.l
theorem TsOk.up {w w' : World} {Ts : List TP} (h : TsOk w Ts) (u : Up w w') : TsOk w' Ts := fun t ht => Sl.up (h t ht) u
theorem oS {α : Type} (w : World) (k : Nat) (enc : α → Array Go.Value) : Sl w (.slice none 0 0) k enc [] := ⟨none, 0, rfl, fun i x hx => by simp at hx⟩
end Go.Wx
namespace Go.Proofs.YtmimclgihlhaeaaGreat
open Go.Proofs.Tryz
open Go.Wx Go.RowKit
set_option maxHeartbeats 4000000 in
theorem aI (w : World) : Ret Tryz.prog 10 #[] w fun r w' => r = .bool true ∧ Up w w' := by
 obtain ⟨w0, rfl⟩ : ∃ w0, w0 = w := ⟨_, rfl⟩
 have hS := Sep.start no w0
 refine cS (n := 69) (m := 9) func10 rfl rfl rfl ?_
 refine CW.S (LW.C (LW.S (CW.region ?_)))
 refine LW.pp (.build (cs := uG.cells) underlying25 zeroValue25 G0 (.cons (.const _) (.cons (.const _) (.cons (.const _) (.cons (.const _) .nil)))) kQ) ?_
 refine Ai (.A6 zeroValue25) rfl ?_
 rintro _ w1 ⟨B1, rfl, MB1⟩
 refine LW.E (.A3 sizeOf25 rfl (.t rfl) (.t rfl) (Exc.one _) MB1.blk rfl) ?_
 intro w2 LB1
 have NB1 := MB1.set LB1
 clear LB1 MB1
 have eB1 := NB1.at_
 have zB1 := NB1.size
 replace hS := hS.C6 NB1
 change Wx.Sep _ _ _ [_] at hS
 refine LW.S (CW.region ?_)
 refine LW.K (eC (.cons (.const _) (.cons (.const _) (.cons (.const _) (.cons (.const _) .nil)))) (gB)) rfl (Fy _ _ _ _ _) ?_
 rintro _ w3 ⟨rfl, uw3⟩
 have zw3 := uw3.size
 replace hS := hS.up uw3
 refine LW.K (eC (.cons (.const _) (.cons (.const _) (.cons (.const _) (.cons (.const _) .nil)))) (gB)) rfl (Fy _ _ _ _ _) ?_
 rintro _ w4 ⟨rfl, uw4⟩
 have zw4 := uw4.size
 replace hS := hS.up uw4
 refine LW.K (eC (.cons (.const _) (.cons (.const _) (.cons (.const _) (.cons (.const _) .nil)))) (gB)) rfl (Fy _ _ _ _ _) ?_
 rintro _ w5 ⟨rfl, uw5⟩
 have zw5 := uw5.size
 replace hS := hS.up uw5
 refine LW.K (eC (.cons (.const _) (.cons (.const _) (.cons (.const _) (.cons (.const _) .nil)))) (gB)) rfl (Fy _ _ _ _ _) ?_
 rintro _ w6 ⟨rfl, uw6⟩
 have zw6 := uw6.size
 replace hS := hS.up uw6
 refine LW.K (eC (.cons (.const _) (.cons (.const _) (.cons (.const _) (.cons (.const _) .nil)))) (gB)) rfl (Fy _ _ _ _ _) ?_
 rintro _ w7 ⟨rfl, uw7⟩
 have zw7 := uw7.size
 replace hS := hS.up uw7
 refine LW.pp (.build (cs := kR.cells) underlying36 zeroValue36 C1 (.cons (.const _) (.cons (.const _) (.cons (.const _) (.cons (.const _) (.cons (.const _) (.cons (.const _) .nil)))))) kQ) ?_
 refine LW.pp (.build (cs := kS.cells) underlying36 zeroValue36 C1 (.cons (.const _) (.cons (.const _) (.cons (.const _) (.cons (.const _) (.cons (.const _) .nil))))) kQ) ?_
 refine Ai (.buildSlice (xs := [E6 11 1 90 105, E6 12 2 90 104, E6 13 3 126 130, E6 14 4 10 20, E6 15 5 10 18, kR, kS]) (enc := Fact.cells) (mk := fun f : Fact => .agg f.cells) underlying23 sizeOf36 zeroValue36 rfl cQ (fun _ => rfl) (fun _ => rfl) (.cons (.t rfl) (.cons (.t rfl) (.cons (.t rfl) (.cons (.t rfl) (.cons (.t rfl) (.cons (.t rfl) (.cons (.t rfl) .nil))))))) rfl) rfl ?_
 rintro _ w8 ⟨B15, cB15, rfl, NB15, yB15, xB15⟩
 have eB15 := NB15.at_
 have zB15 := NB15.size
 replace hS := hS.up NB15.up
 have hE15 := xB15
 refine LW.K (eC (.cons (.t rfl) (.cons (.const _) .nil)) (oW)) rfl (Zh _ _ kT 0 _ hE15 cQ) ?_
 rintro _ w9 ⟨bc, rfl, hC, uw9⟩
 have zw9 := uw9.size
 replace hS := hS.up uw9
 refine Ai (.A6 zeroValue38) rfl ?_
 rintro _ w10 ⟨B2, rfl, MB2⟩
 refine LW.E (.A3 sizeOf38 hC.size (.t rfl) (.t rfl) hC.one MB2.blk rfl) ?_
 intro w11 LB2
 have NB2 := MB2.set LB2
 clear LB2 MB2
 have eB2 := NB2.at_
 have zB2 := NB2.size
 replace hC := hC.up NB2.up
 replace hS := hS.C6 NB2
 change Wx.Sep _ _ _ [_, _] at hS
 refine LW.S (CW.region ?_)
 refine LW.pp (.K5 isAgg38 sizeOf38 (hC.size) (.t rfl) ((hS.blk 1 rfl).agg)) ?_
 refine LW.pp (.la isAgg25 sizeOf25 rfl ((hS.blk 0 rfl).agg)) ?_
 refine LW.K (eC (.u rfl rfl) (gA)) rfl (J1 bc (H5 kT 0) uG _ hC aH (by rw [uM]; decide) (by rw [cI]; decide) (by rw [Sj]; decide) (by rw [cJ]; decide)) ?_
 rintro _ w12 ⟨v19, L19, rfl, hm19, hT19⟩
 rw [xF] at hm19
 have hl19 : L19.length = 5 := by have h5 := congrArg List.length hm19; rw [List.length_map] at h5; exact h5
 have hy19 : ∀ p ∈ L19, p.vd.why.length ≤ 1 := fun p hp => by
  have h5 : p.vd ∈ v22 := by rw [← hm19]; exact List.mem_map.2 ⟨p, hp, rfl⟩
  simp only [v22, List.mem_cons, List.not_mem_nil, or_false] at h5
  rcases h5 with h | h | h | h | h <;> rw [h] <;> decide
 replace hC := hC.up hT19.Cn
 replace hS := hS.join hT19
 change Wx.Sep _ _ _ [_, _, _, _] at hS
 clear hT19
 obtain ⟨ad19, cp19, rfl, _⟩ := (hS.own 2 rfl).sl (fun _ => rfl)
 refine LW.A rfl (LW.S (CW.region ?_))
 refine Ai (.buildSlice (xs := [11]) (enc := A8) (mk := vi) underlying30 sizeOf3 zeroValue3 rfl cQ (fun _ => rfl) (fun _ => rfl) (.cons (.const _) .nil) rfl) rfl ?_
 rintro _ w13 ⟨B20, cB20, rfl, NB20, yB20, xB20⟩
 have eB20 := NB20.at_
 have zB20 := NB20.size
 replace hC := hC.up NB20.up
 replace hS := hS.up NB20.up
 have hE20 := xB20
 refine LW.pp (.build (cs := (VP.mk ⟨1, 2, [11]⟩ (some ⟨B20, 0, none⟩) 1).cells) underlying32 zeroValue32 Ej (.cons (.const _) (.cons (.const _) (.cons (.t rfl) .nil))) rfl) ?_
 refine Ai (.buildSlice (xs := [12]) (enc := A8) (mk := vi) underlying30 sizeOf3 zeroValue3 rfl cQ (fun _ => rfl) (fun _ => rfl) (.cons (.const _) .nil) rfl) rfl ?_
 rintro _ w14 ⟨B22, cB22, rfl, NB22, yB22, xB22⟩
 have eB22 := NB22.at_
 have zB22 := NB22.size
 replace hC := hC.up NB22.up
 replace hS := hS.up NB22.up
 replace hE20 := hE20.up NB22.up
 have hE22 := xB22
 refine LW.pp (.build (cs := (VP.mk ⟨2, 1, [12]⟩ (some ⟨B22, 0, none⟩) 1).cells) underlying32 zeroValue32 Ej (.cons (.const _) (.cons (.const _) (.cons (.t rfl) .nil))) rfl) ?_
 refine LW.pp (.build (cs := (VP.mk ⟨3, 0, []⟩ none 0).cells) underlying32 zeroValue32 Ej (.cons (.const _) .nil) rfl) ?_
 refine Ai (.buildSlice (xs := [14]) (enc := A8) (mk := vi) underlying30 sizeOf3 zeroValue3 rfl cQ (fun _ => rfl) (fun _ => rfl) (.cons (.const _) .nil) rfl) rfl ?_
 rintro _ w15 ⟨B25, cB25, rfl, NB25, yB25, xB25⟩
 have eB25 := NB25.at_
 have zB25 := NB25.size
 replace hC := hC.up NB25.up
 replace hS := hS.up NB25.up
 replace hE20 := hE20.up NB25.up
 replace hE22 := hE22.up NB25.up
 have hE25 := xB25
 refine LW.pp (.build (cs := (VP.mk ⟨4, 1, [14]⟩ (some ⟨B25, 0, none⟩) 1).cells) underlying32 zeroValue32 Ej (.cons (.const _) (.cons (.const _) (.cons (.t rfl) .nil))) rfl) ?_
 refine LW.pp (.build (cs := (VP.mk ⟨5, 0, []⟩ none 0).cells) underlying32 zeroValue32 Ej (.cons (.const _) .nil) rfl) ?_
 refine Ai (.buildSlice (xs := [(VP.mk ⟨1, 2, [11]⟩ (some ⟨B20, 0, none⟩) 1), (VP.mk ⟨2, 1, [12]⟩ (some ⟨B22, 0, none⟩) 1), (VP.mk ⟨3, 0, []⟩ none 0), (VP.mk ⟨4, 1, [14]⟩ (some ⟨B25, 0, none⟩) 1), (VP.mk ⟨5, 0, []⟩ none 0)]) (enc := VP.cells) (mk := fun p : VP => .agg p.cells) underlying27 sizeOf32 zeroValue32 rfl cQ (fun _ => rfl) (fun _ => rfl) (.cons (.t rfl) (.cons (.t rfl) (.cons (.t rfl) (.cons (.t rfl) (.cons (.t rfl) .nil))))) rfl) rfl ?_
 rintro _ w16 ⟨B28, cB28, rfl, NB28, yB28, xB28⟩
 have eB28 := NB28.at_
 have zB28 := NB28.size
 replace hC := hC.up NB28.up
 replace hS := hS.up NB28.up
 replace hE20 := hE20.up NB28.up
 replace hE22 := hE22.up NB28.up
 replace hE25 := hE25.up NB28.up
 have hE28 := xB28
 refine LW.A rfl (LW.S (CW.region (LW.M rfl ?_)))
 refine LW.K (eC (.o rfl) (uU)) rfl (jS ad19 cp19 L19 _ (D9 (hS.own 2 rfl) (fun _ => rfl)) (by rw [hl19]; decide)) ?_
 rintro v30 w17 ⟨hO30, uw17⟩
 have zw17 := uw17.size
 replace hC := hC.up uw17
 replace hE20 := hE20.up uw17
 replace hE22 := hE22.up uw17
 replace hE25 := hE25.up uw17
 replace hE28 := hE28.up uw17
 replace hS := hS.add uw17 (A' := Ah 3 1 A8 v30 (jR L19)) (hO30.mono (Nat.zero_le _)) (fun i h => hO30.base i h)
 change Wx.Sep _ _ _ [_, _, _, _, _] at hS
 clear hO30
 rw [kU, hm19] at hS
 change Wx.Sep _ _ _ [_, _, _, _, _] at hS
 refine LW.A rfl (LW.S (CW.region ?_))
 refine LW.pp (.K5 isAgg38 sizeOf38 (hC.size) (.t rfl) ((hS.blk 1 rfl).agg)) ?_
 refine LW.M rfl ?_
 refine LW.K (eC (.u rfl rfl) (uW)) rfl (fL bc (H5 kT 0) ad19 cp19 L19 _ hC aH (D9 (hS.own 2 rfl) (fun _ => rfl)) (Lu (hS.get 3 rfl)) (fun p hp => Nat.le_trans (hy19 p hp) cQ) (by rw [hl19]; decide) (by rw [uM]; decide) (by rw [Sj]; decide)) ?_
 rintro v33 w18 ⟨Ts, hTl, hTs, hTw, uw18⟩
 have zw18 := uw18.size
 replace hC := hC.up uw18
 replace hS := hS.up uw18
 replace hE20 := hE20.up uw18
 replace hE22 := hE22.up uw18
 replace hE25 := hE25.up uw18
 replace hE28 := hE28.up uw18
 rw [hm19, wU] at hTl
 obtain ⟨ad33, cp33, rfl, hE33⟩ := hTs
 replace hE33 : Els w18 ad33 1 TP.cells Ts := hE33
 replace hTw : TsOk w18 Ts := hTw
 refine LW.A rfl (LW.S (CW.region (LW.M rfl (LW.M rfl ?_))))
 refine LW.K (eC (.u rfl rfl) (rD)) rfl (Si ad19 cp19 _ _ L19 [(VP.mk ⟨1, 2, [11]⟩ (some ⟨B20, 0, none⟩) 1), (VP.mk ⟨2, 1, [12]⟩ (some ⟨B22, 0, none⟩) 1), (VP.mk ⟨3, 0, []⟩ none 0), (VP.mk ⟨4, 1, [14]⟩ (some ⟨B25, 0, none⟩) 1), (VP.mk ⟨5, 0, []⟩ none 0)] _ (D9 (hS.own 2 rfl) (fun _ => rfl)) hE28 (Lu (hS.get 3 rfl)) (fun p hp => (by simp only [List.mem_cons, List.not_mem_nil, or_false] at hp; rcases hp with rfl | rfl | rfl | rfl | rfl <;> first | exact Aj hE20 | exact Aj hE22 | exact Aj hE25 | exact oS _ _ _)) (fun p hp => Nat.le_trans (hy19 p hp) cQ) (fun p hp => (by simp only [List.mem_cons, List.not_mem_nil, or_false] at hp; rcases hp with rfl | rfl | rfl | rfl | rfl <;> exact Nat.le_of_ble_eq_true rfl)) (by rw [hl19]; decide)) ?_
 rintro _ w19 ⟨rfl, uw19⟩
 have zw19 := uw19.size
 replace hC := hC.up uw19
 replace hS := hS.up uw19
 replace hE20 := hE20.up uw19
 replace hE22 := hE22.up uw19
 replace hE25 := hE25.up uw19
 replace hE28 := hE28.up uw19
 replace hE33 := hE33.up uw19
 replace hTw := hTw.up uw19
 rw [show decide (L19.map (·.vd) = ([(VP.mk ⟨1, 2, [11]⟩ (some ⟨B20, 0, none⟩) 1), (VP.mk ⟨2, 1, [12]⟩ (some ⟨B22, 0, none⟩) 1), (VP.mk ⟨3, 0, []⟩ none 0), (VP.mk ⟨4, 1, [14]⟩ (some ⟨B25, 0, none⟩) 1), (VP.mk ⟨5, 0, []⟩ none 0)] : List VP).map (·.vd)) = true from decide_eq_true hm19]
 refine LW.M rfl ?_
 refine LW.Y ?_
 refine LW.M rfl ?_
 refine LW.Y ?_
 refine Ai (.buildSlice (xs := [2, 4]) (enc := A8) (mk := vi) underlying30 sizeOf3 zeroValue3 rfl cQ (fun _ => rfl) (fun _ => rfl) (.cons (.const _) (.cons (.const _) .nil)) rfl) rfl ?_
 rintro _ w20 ⟨B39, cB39, rfl, NB39, yB39, xB39⟩
 have eB39 := NB39.at_
 have zB39 := NB39.size
 replace hC := hC.up NB39.up
 replace hS := hS.up NB39.up
 replace hE20 := hE20.up NB39.up
 replace hE22 := hE22.up NB39.up
 replace hE25 := hE25.up NB39.up
 replace hE28 := hE28.up NB39.up
 replace hE33 := hE33.up NB39.up
 replace hTw := hTw.up NB39.up
 have hE39 := xB39
 refine LW.Y ?_
 refine LW.K (eC (.u rfl rfl) (lI)) rfl (Hz _ _ _ [2, 4] _ ((hS.own 4 rfl).sl (fun _ => rfl)) (Aj hE39) cQ cQ) ?_
 rintro _ w21 ⟨rfl, uw21⟩
 have zw21 := uw21.size
 replace hC := hC.up uw21
 replace hS := hS.up uw21
 replace hE20 := hE20.up uw21
 replace hE22 := hE22.up uw21
 replace hE25 := hE25.up uw21
 replace hE28 := hE28.up uw21
 replace hE33 := hE33.up uw21
 replace hTw := hTw.up uw21
 replace hE39 := hE39.up uw21
 rw [show decide ((v22.filter fun v => decide (v.t = 1)).map (·.w) = [2, 4]) = true from by kernel_rfl]
 refine LW.pp (.A5 (.t rfl) (fun hp => (by first | exact .const _ | exact .tmp rfl | exact .cond rfl (by first | assumption | (rw [hp]; rfl) | (rw [hc, hp]; rfl) | simp_all)))) ?_
 refine LW.M rfl ?_
 refine LW.Y ?_
 refine LW.M rfl ?_
 refine LW.Y ?_
 refine Ai (.buildSlice (xs := [4]) (enc := A8) (mk := vi) underlying30 sizeOf3 zeroValue3 rfl cQ (fun _ => rfl) (fun _ => rfl) (.cons (.const _) .nil) rfl) rfl ?_
 rintro _ w22 ⟨B44, cB44, rfl, NB44, yB44, xB44⟩
 have eB44 := NB44.at_
 have zB44 := NB44.size
 replace hC := hC.up NB44.up
 replace hS := hS.up NB44.up
 replace hE20 := hE20.up NB44.up
 replace hE22 := hE22.up NB44.up
 replace hE25 := hE25.up NB44.up
 replace hE28 := hE28.up NB44.up
 replace hE33 := hE33.up NB44.up
 replace hTw := hTw.up NB44.up
 replace hE39 := hE39.up NB44.up
 have hE44 := xB44
 refine LW.Y ?_
 refine LW.pp (.build (cs := (TP.mk (some ⟨B44, 0, none⟩) [4] 1).cells) underlying64 zeroValue64 Ft (.cons (.t rfl) .nil) rfl) ?_
 refine LW.Y ?_
 refine Ai (.buildSlice (xs := [2]) (enc := A8) (mk := vi) underlying30 sizeOf3 zeroValue3 rfl cQ (fun _ => rfl) (fun _ => rfl) (.cons (.const _) .nil) rfl) rfl ?_
 rintro _ w23 ⟨B46, cB46, rfl, NB46, yB46, xB46⟩
 have eB46 := NB46.at_
 have zB46 := NB46.size
 replace hC := hC.up NB46.up
 replace hS := hS.up NB46.up
 replace hE20 := hE20.up NB46.up
 replace hE22 := hE22.up NB46.up
 replace hE25 := hE25.up NB46.up
 replace hE28 := hE28.up NB46.up
 replace hE33 := hE33.up NB46.up
 replace hTw := hTw.up NB46.up
 replace hE39 := hE39.up NB46.up
 replace hE44 := hE44.up NB46.up
 have hE46 := xB46
 refine LW.Y ?_
 refine LW.pp (.build (cs := (TP.mk (some ⟨B46, 0, none⟩) [2] 1).cells) underlying64 zeroValue64 Ft (.cons (.t rfl) .nil) rfl) ?_
 refine LW.Y ?_
 refine Ai (.buildSlice (xs := [2]) (enc := A8) (mk := vi) underlying30 sizeOf3 zeroValue3 rfl cQ (fun _ => rfl) (fun _ => rfl) (.cons (.const _) .nil) rfl) rfl ?_
 rintro _ w24 ⟨B48, cB48, rfl, NB48, yB48, xB48⟩
 have eB48 := NB48.at_
 have zB48 := NB48.size
 replace hC := hC.up NB48.up
 replace hS := hS.up NB48.up
 replace hE20 := hE20.up NB48.up
 replace hE22 := hE22.up NB48.up
 replace hE25 := hE25.up NB48.up
 replace hE28 := hE28.up NB48.up
 replace hE33 := hE33.up NB48.up
 replace hTw := hTw.up NB48.up
 replace hE39 := hE39.up NB48.up
 replace hE44 := hE44.up NB48.up
 replace hE46 := hE46.up NB48.up
 have hE48 := xB48
 refine LW.Y ?_
 refine LW.pp (.build (cs := (TP.mk (some ⟨B48, 0, none⟩) [2] 1).cells) underlying64 zeroValue64 Ft (.cons (.t rfl) .nil) rfl) ?_
 refine LW.Y ?_
 refine Ai (.buildSlice (xs := [(TP.mk (some ⟨B44, 0, none⟩) [4] 1), (TP.mk (some ⟨B46, 0, none⟩) [2] 1), (TP.mk (some ⟨B48, 0, none⟩) [2] 1)]) (enc := TP.cells) (mk := fun t : TP => .agg t.cells) underlying51 sizeOf64 zeroValue64 rfl cQ (fun _ => rfl) (fun _ => rfl) (.cons (.t rfl) (.cons (.t rfl) (.cons (.t rfl) .nil))) rfl) rfl ?_
 rintro _ w25 ⟨B50, cB50, rfl, NB50, yB50, xB50⟩
 have eB50 := NB50.at_
 have zB50 := NB50.size
 replace hC := hC.up NB50.up
 replace hS := hS.up NB50.up
 replace hE20 := hE20.up NB50.up
 replace hE22 := hE22.up NB50.up
 replace hE25 := hE25.up NB50.up
 replace hE28 := hE28.up NB50.up
 replace hE33 := hE33.up NB50.up
 replace hTw := hTw.up NB50.up
 replace hE39 := hE39.up NB50.up
 replace hE44 := hE44.up NB50.up
 replace hE46 := hE46.up NB50.up
 replace hE48 := hE48.up NB50.up
 have hE50 := xB50
 refine LW.Y ?_
 refine LW.K (eC (.u rfl rfl) (uV)) rfl (Yd ad33 cp33 _ _ Ts [(TP.mk (some ⟨B44, 0, none⟩) [4] 1), (TP.mk (some ⟨B46, 0, none⟩) [2] 1), (TP.mk (some ⟨B48, 0, none⟩) [2] 1)] _ hE33 hE50 hTw (fun p hp => (by simp only [List.mem_cons, List.not_mem_nil, or_false] at hp; rcases hp with rfl | rfl | rfl <;> first | exact Aj hE44 | exact Aj hE46 | exact Aj hE48)) (fun p hp => (by have h5 : p.l ∈ ([[4], [2], [2]] : List (List Int)) := (by rw [← hTl]; exact List.mem_map.2 ⟨p, hp, rfl⟩); simp only [List.mem_cons, List.not_mem_nil, or_false] at h5; rcases h5 with h | h | h <;> rw [h] <;> decide)) (fun p hp => (by simp only [List.mem_cons, List.not_mem_nil, or_false] at hp; rcases hp with rfl | rfl | rfl <;> exact Nat.le_of_ble_eq_true rfl)) (by have h5 := congrArg List.length hTl; rw [List.length_map] at h5; rw [h5]; decide)) ?_
 rintro _ w26 ⟨rfl, uw26⟩
 have zw26 := uw26.size
 replace hC := hC.up uw26
 replace hS := hS.up uw26
 replace hE20 := hE20.up uw26
 replace hE22 := hE22.up uw26
 replace hE25 := hE25.up uw26
 replace hE28 := hE28.up uw26
 replace hE33 := hE33.up uw26
 replace hTw := hTw.up uw26
 replace hE39 := hE39.up uw26
 replace hE44 := hE44.up uw26
 replace hE46 := hE46.up uw26
 replace hE48 := hE48.up uw26
 rw [show decide (Ts.map (·.l) = ([(TP.mk (some ⟨B44, 0, none⟩) [4] 1), (TP.mk (some ⟨B46, 0, none⟩) [2] 1), (TP.mk (some ⟨B48, 0, none⟩) [2] 1)] : List TP).map (·.l)) = true from decide_eq_true hTl]
 refine LW.pp (.A5 (.t rfl) (fun hp => (by first | exact .const _ | exact .tmp rfl | exact .cond rfl (by first | assumption | (rw [hp]; rfl) | (rw [hc, hp]; rfl) | simp_all)))) ?_
 refine LW.M rfl ?_
 refine LW.Y ?_
 refine LW.pp (.la isAgg25 sizeOf25 rfl ((hS.blk 0 rfl).agg)) ?_
 refine LW.Y ?_
 refine LW.K (eC (.o rfl) (oX)) rfl (Nc uG _) ?_
 rintro _ w27 ⟨rfl, uw27⟩
 have zw27 := uw27.size
 replace hC := hC.up uw27
 replace hS := hS.up uw27
 replace hE20 := hE20.up uw27
 replace hE22 := hE22.up uw27
 replace hE25 := hE25.up uw27
 replace hE28 := hE28.up uw27
 replace hE33 := hE33.up uw27
 replace hTw := hTw.up uw27
 replace hE39 := hE39.up uw27
 replace hE44 := hE44.up uw27
 replace hE46 := hE46.up uw27
 replace hE48 := hE48.up uw27
 rw [show G8 uG = true from by kernel_rfl]
 refine LW.pp (.A5 (.t rfl) (fun hp => (by first | exact .const _ | exact .tmp rfl | exact .cond rfl (by first | assumption | (rw [hp]; rfl) | (rw [hc, hp]; rfl) | simp_all)))) ?_
 refine LW.M rfl ?_
 refine LW.Y ?_
 refine LW.pp (.build (cs := (Exc.mk 0 0 5 0 0).cells) underlying25 zeroValue25 G0 (.cons (.const _) .nil) kQ) ?_
 refine LW.Y ?_
 refine LW.K (eC (.o rfl) (oX)) rfl (Nc (Exc.mk 0 0 5 0 0) _) ?_
 rintro _ w28 ⟨rfl, uw28⟩
 have zw28 := uw28.size
 replace hC := hC.up uw28
 replace hS := hS.up uw28
 replace hE20 := hE20.up uw28
 replace hE22 := hE22.up uw28
 replace hE25 := hE25.up uw28
 replace hE28 := hE28.up uw28
 replace hE33 := hE33.up uw28
 replace hTw := hTw.up uw28
 replace hE39 := hE39.up uw28
 replace hE44 := hE44.up uw28
 replace hE46 := hE46.up uw28
 replace hE48 := hE48.up uw28
 rw [show G8 (Exc.mk 0 0 5 0 0) = false from by kernel_rfl]
 refine LW.Y ?_
 refine LW.pp (.tr (PEv.not (.t rfl)) (rfl)) ?_
 refine LW.pp (.A5 (.t rfl) (fun hp => (by first | exact .const _ | exact .tmp rfl | exact .cond rfl (by first | assumption | (rw [hp]; rfl) | (rw [hc, hp]; rfl) | simp_all)))) ?_
 refine LW.M rfl ?_
 refine LW.Y ?_
 refine LW.pp (.K5 isAgg38 sizeOf38 (hC.size) (.t rfl) ((hS.blk 1 rfl).agg)) ?_
 refine LW.Y ?_
 refine LW.pp (.build (cs := (Exc.mk 0 0 5 0 0).cells) underlying25 zeroValue25 G0 (.cons (.const _) .nil) kQ) ?_
 refine LW.Y ?_
 refine LW.K (eC (.u rfl rfl) (gA)) rfl (J1 bc (H5 kT 0) (Exc.mk 0 0 5 0 0) _ hC aH (by rw [uM]; decide) (by rw [cI]; decide) (by rw [Sj]; decide) (by rw [cJ]; decide)) ?_
 rintro _ w29 ⟨v65, L65, rfl, hm65, hT65⟩
 have hn65 : L65 = [] := List.map_eq_nil_iff.1 (hm65.trans kQ)
 subst hn65
 replace hS := hS.join hT65
 change Wx.Sep _ _ _ [_, _, _, _, _, _, _] at hS
 clear hT65 hm65
 obtain ⟨ad65, cp65, rfl, _⟩ := (hS.own 5 rfl).sl (fun _ => rfl)
 refine LW.Y ?_
 refine LW.pp (.Dl underlying27 (.t rfl)) ?_
 refine LW.Y ?_
 refine LW.pp (.tr (PEv.eql (.t rfl) (.const _)) (rfl)) ?_
 refine LW.pp (.A5 (.t rfl) (fun hp => (by first | exact .const _ | exact .tmp rfl | exact .cond rfl (by first | assumption | (rw [hp]; rfl) | (rw [hc, hp]; rfl) | simp_all)))) ?_
 refine LW.A rfl (LW.T (CW.ret ?_))
 refine Af rfl rfl ⟨_, rfl, ?_⟩
 exact ⟨rfl, hS.Cn⟩
end Go.Proofs.YtmimclgihlhaeaaGreat
end
section
namespace Go.Wx
theorem aJ (D : List (Int × List (Int × Bool))) (w id : Int) (s : Bool) (v : Int) : lookW (R5 D w id s) v = if v = w then Gd (lookW D w) id s else lookW D v := by
 unfold R5
 split
 · rename_i hm
   unfold lookW
   rw [List.find?_map]
   have hp : ((fun e : Int × List (Int × Bool) => decide (e.1 = v)) ∘ fun e => if e.1 = w then (w, Gd e.2 id s) else e) = fun e => decide (e.1 = v) := funext fun e => by
     simp only [Function.comp]
     split
     · rename_i h; rw [h]
     rfl
   rw [hp]
   by_cases hv : v = w
   · rw [if_pos hv, hv]
     cases hf : D.find? fun e => decide (e.1 = w) with
     | none =>
       obtain ⟨e, he, ew⟩ := List.mem_map.1 hm
       exact absurd (List.find?_eq_none.1 hf e he) (by simp [ew])
     | some e =>
       have he : e.1 = w := of_decide_eq_true (List.find?_some (p := fun e : Int × List (Int × Bool) => decide (e.1 = w)) hf)
       simp [he]
   rw [if_neg hv]
   cases hf : D.find? fun e => decide (e.1 = v) with
   | none => rfl
   | some e =>
     have he : e.1 = v := of_decide_eq_true (List.find?_some (p := fun e : Int × List (Int × Bool) => decide (e.1 = v)) hf)
     have hn : ¬ e.1 = w := by rw [he]; exact hv
     simp [hn]
 rename_i hm
 have hf : D.find? (fun e => decide (e.1 = w)) = none := List.find?_eq_none.2 fun e he h => hm (List.mem_map.2 ⟨e, he, of_decide_eq_true h⟩)
 unfold lookW
 rw [List.find?_append]
 by_cases hv : v = w
 · rw [if_pos hv, hv, hf]; simp
 rw [if_neg hv]
 have : [(w, Gd [] id s)].find? (fun e => decide (e.1 = v)) = none := by
   rw [List.find?_cons, decide_eq_false (fun h => hv h.symm)]; rfl
 rw [this, Option.or_none]
theorem kV (L : List (Int × Bool)) (id : Int) (s : Bool) : (Gd L id s).any (·.2) = (L.any (·.2) || s) := by
 unfold Gd
 split
 · rename_i hm
   obtain ⟨q, hq, hi⟩ := List.mem_map.1 hm
   rw [Bool.eq_iff_iff, List.any_map, List.any_eq_true, Bool.or_eq_true, List.any_eq_true]
   constructor
   · rintro ⟨x, hx, h⟩
     simp only [Function.comp] at h
     split at h
     · rw [Bool.or_eq_true] at h
       exact h.imp (fun h => ⟨x, hx, h⟩) _root_.id
     exact .inl ⟨x, hx, h⟩
   rintro (⟨x, hx, h⟩ | h)
   · refine ⟨x, hx, ?_⟩
     simp only [Function.comp]
     split
     · simp [h]
     exact h
   refine ⟨q, hq, ?_⟩
   simp only [Function.comp]
   rw [if_pos hi]
   simp [h]
 simp
theorem fO (L : List (Int × Bool)) (id : Int) (s : Bool) (k : Int) : (k, true) ∈ Gd L id s ↔ (k, true) ∈ L ∨ (k = id ∧ s = true) := by
 unfold Gd
 split
 · rename_i hm
   obtain ⟨q, hq, hi⟩ := List.mem_map.1 hm
   rw [List.mem_map]
   constructor
   · rintro ⟨x, hx, h⟩
     split at h
     · rename_i h1
       simp only [Prod.mk.injEq, Bool.or_eq_true] at h
       obtain ⟨h2, h3⟩ := h
       rcases h3 with h3 | h3
       · refine .inl ?_
         rw [← h2, ← h1, ← h3]
         exact hx
       exact .inr ⟨h2.symm, h3⟩
     exact .inl (h ▸ hx)
   rintro (h | ⟨rfl, rfl⟩)
   · refine ⟨(k, true), h, ?_⟩
     by_cases e : k = id
     · simp [e]
     simp [e]
   exact ⟨q, hq, by rw [if_pos hi, Bool.or_true]⟩
 simp
def Ev (ss gs : List Fact) (x : Exc) (w : Int) (p : Fact) : Bool := Gj x p && Ls gs x p && decide (K1 ss p.Time p.Wafer = w)
def Sk (ss gs : List Fact) (x : Exc) (w : Int) (l : List Fact) : List (Int × Bool) := l.foldl (fun L p => if Ev ss gs x w p then Gd L p.ID (Ec x p) else L) []
theorem J3 (ss gs : List Fact) (x : Exc) (w : Int) (l : List Fact) (p : Fact) : Sk ss gs x w (l ++ [p]) = if Ev ss gs x w p then Gd (Sk ss gs x w l) p.ID (Ec x p) else Sk ss gs x w l := by
 unfold Sk
 rw [List.foldl_append]
 rfl
theorem fP (ss gs : List Fact) (x : Exc) (l : List Fact) (p : Fact) : Mj ss gs x (l ++ [p]) = if Gj x p && Ls gs x p then R5 (Mj ss gs x l) (K1 ss p.Time p.Wafer) p.ID (Ec x p) else Mj ss gs x l := by
 unfold Mj
 rw [List.foldl_append]
 rfl
theorem Ug (ss gs : List Fact) (x : Exc) (w : Int) (l : List Fact) : lookW (Mj ss gs x l) w = Sk ss gs x w l := by
 refine Hy (p := fun l => lookW (Mj ss gs x l) w = Sk ss gs x w l) rfl (fun l p h => ?_) l
 rw [fP, J3]
 unfold Ev
 cases h1 : Gj x p && Ls gs x p with
 | false => simpa using h
 | true =>
   rw [if_pos rfl, aJ, Bool.true_and]
   by_cases e : w = K1 ss p.Time p.Wafer
   · rw [if_pos e, ← e, h]; simp
   rw [if_neg e, h, if_neg]
   simpa using fun h' : K1 ss p.Time p.Wafer = w => e h'.symm
theorem nU (ss gs : List Fact) (x : Exc) (w : Int) (l : List Fact) : (Sk ss gs x w l).any (·.2) = l.any fun p => Ev ss gs x w p && Ec x p := by
 refine Hy (p := fun l => (Sk ss gs x w l).any (·.2) = l.any fun p => Ev ss gs x w p && Ec x p) rfl (fun l p h => ?_) l
 rw [J3, List.any_append, ← h]
 cases h1 : Ev ss gs x w p with
 | false => simp [h1]
 | true => rw [if_pos rfl, kV]; simp [h1]
theorem Qs (ss gs : List Fact) (x : Exc) (w : Int) (l : List Fact) (k : Int) : k ∈ (Sk ss gs x w l).map (·.1) ↔ ∃ p ∈ l, Ev ss gs x w p = true ∧ p.ID = k := by
 refine Hy (p := fun l => k ∈ (Sk ss gs x w l).map (·.1) ↔ ∃ p ∈ l, Ev ss gs x w p = true ∧ p.ID = k) (by simp [Sk]) (fun l p h => ?_) l
 rw [J3]
 have e : (∃ q ∈ l ++ [p], Ev ss gs x w q = true ∧ q.ID = k) ↔ (∃ q ∈ l, Ev ss gs x w q = true ∧ q.ID = k) ∨ (Ev ss gs x w p = true ∧ p.ID = k) := by
   simp only [List.mem_append, List.mem_singleton]
   constructor
   · rintro ⟨f, hf | rfl, h2⟩
     · exact .inl ⟨f, hf, h2⟩
     exact .inr h2
   rintro (⟨f, hf, h2⟩ | h2)
   · exact ⟨f, .inl hf, h2⟩
   exact ⟨p, .inr rfl, h2⟩
 rw [e]
 cases h1 : Ev ss gs x w p with
 | false => rw [if_neg Bool.false_ne_true, h]; simp
 | true => rw [if_pos rfl, eT, h]; exact or_congr Iff.rfl ⟨fun e => ⟨rfl, e.symm⟩, fun e => e.2.symm⟩
theorem Oo (ss gs : List Fact) (x : Exc) (w : Int) (l : List Fact) (k : Int) : (k, true) ∈ Sk ss gs x w l ↔ ∃ p ∈ l, (Ev ss gs x w p && Ec x p) = true ∧ p.ID = k := by
 refine Hy (p := fun l => (k, true) ∈ Sk ss gs x w l ↔ ∃ p ∈ l, (Ev ss gs x w p && Ec x p) = true ∧ p.ID = k) (by simp [Sk]) (fun l p h => ?_) l
 rw [J3]
 have e : (∃ q ∈ l ++ [p], (Ev ss gs x w q && Ec x q) = true ∧ q.ID = k) ↔ (∃ q ∈ l, (Ev ss gs x w q && Ec x q) = true ∧ q.ID = k) ∨ ((Ev ss gs x w p && Ec x p) = true ∧ p.ID = k) := by
   simp only [List.mem_append, List.mem_singleton]
   constructor
   · rintro ⟨f, hf | rfl, h2⟩
     · exact .inl ⟨f, hf, h2⟩
     exact .inr h2
   rintro (⟨f, hf, h2⟩ | h2)
   · exact ⟨f, .inl hf, h2⟩
   exact ⟨p, .inr rfl, h2⟩
 rw [e]
 cases h1 : Ev ss gs x w p with
 | false => rw [if_neg Bool.false_ne_true, h]; simp
 | true => rw [if_pos rfl, fO, h, Bool.true_and]; exact or_congr Iff.rfl ⟨fun e => ⟨e.2, e.1.symm⟩, fun e => ⟨e.2.symm, e.1⟩⟩
def K3 (b : Base) (x : Exc) (w : Int) : Int := if b.Processes.any (fun p => Ev b.Swaps b.Gaps x w p && Ec x p) then 2 else if b.Processes.any (Ev b.Swaps b.Gaps x w) then 1 else 0
theorem cK {ss gs : List Fact} {x : Exc} {w : Int} {l : List Fact} : Sk ss gs x w l = [] ↔ l.any (Ev ss gs x w) = false := by
 rw [List.any_eq_false]
 constructor
 · intro h p hp h1
   have := (Qs ss gs x w l p.ID).2 ⟨p, hp, h1, rfl⟩
   rw [h] at this
   cases this
 intro h
 cases e : Sk ss gs x w l with
 | nil => rfl
 | cons q r =>
   have h1 : q.1 ∈ (Sk ss gs x w l).map (·.1) := by rw [e]; exact List.mem_map.2 ⟨q, List.mem_cons_self, rfl⟩
   obtain ⟨p, hp, h2, _⟩ := (Qs ss gs x w l q.1).1 h1
   exact absurd h2 (h p hp)
theorem Pq (b : Base) (x : Exc) (w : Int) : (Cf (Sk b.Swaps b.Gaps x w b.Processes)).1 = K3 b x w := by
 unfold Cf K3
 rw [nU]
 split
 · rfl
 cases h : b.Processes.any (Ev b.Swaps b.Gaps x w) with
 | false => rw [if_pos (cK.2 h)]; rfl
 | true => rw [if_neg (fun e => by rw [cK.1 e] at h; cases h)]; rfl
theorem Sm {b : Base} {x : Exc} (hx : G8 x = true) : (Gy b x).length = (A9 b.Lots b.Processes b.Swaps).length := by
 unfold Gy
 rw [if_pos hx, List.length_map]
theorem Yh {n : Int} (h0 : -9223372036854775808 ≤ n) (h1 : n < 9223372036854775808) : wI n = n := Dj h0 oQ
theorem qU {k : Nat} {y : I5} (h : V6 y) : Lr (Vn k y) := by
 obtain ⟨ha, hb, hc, hd, he⟩ := h
 have p1 := E0 (c := y.c) (n := 200) hc cQ
 have p2 := E0 (c := y.d) (n := 20) hd cQ
 have p3 := E0 (c := y.d) (n := 9) hd cQ
 have q1 := Yh (n := An y.c 200 + An y.d 20) oQ oQ
 have q2 := Yh (n := An y.c 200 + An y.d 9) oQ oQ
 have q3 := Yh (n := (An y.c 200).tdiv 4) (by rw [Int.tdiv_eq_ediv_of_nonneg p1.1]; omega) (by rw [Int.tdiv_eq_ediv_of_nonneg p1.1]; omega)
 have q4 := Int.tdiv_eq_ediv_of_nonneg (b := 4) p1.1
 unfold Vn
 split
 · unfold Lr fJ; dsimp only; rw [q2]; omega
 split
 · unfold Lr S9; dsimp only [Hi, Te]; omega
 split
 · unfold Lr aF; dsimp only [Hi, Te]; rw [q3, q4]; omega
 unfold Lr Ye; dsimp only; rw [q1]; omega
theorem Yi {xs : List I5} {f : Fact} (h : f ∈ E7 xs) : ∃ k y, y ∈ xs ∧ k < 30 ∧ f = Vn k y := by
 unfold E7 at h
 obtain ⟨k, hk, e⟩ := List.mem_mapIdx.1 h
 rw [List.length_take] at hk
 exact ⟨k, _, List.mem_of_mem_take (List.getElem_mem (by rw [List.length_take]; exact hk)), by omega, e.symm⟩
theorem uH {xs : List I5} (hx : ∀ x ∈ xs, V6 x) (d : Int) : ∀ p ∈ (H5 (E7 xs) d).Processes, Lr p := fun p hp => by
 have h := ((Jc (l := E7 xs) (d := d) (j := 0) cQ).1 hp).1.1
 obtain ⟨k, y, hy, _, rfl⟩ := Yi h
 exact qU (hx y hy)
theorem Vo (l : List Fact) (d : Int) {j : Nat} (hj : j < 11) : (Mn (H5 l d) j).length ≤ l.length :=
 (Pc l d hj).length_le_of_subset fun _ hx => ((Jc hj).1 hx).1.1
theorem cL {l : List Fact} (h : l.length ≤ 100) (d : Int) : (H5 l d).Processes.length ≤ 100 ∧ (H5 l d).Gaps.length ≤ 100 ∧ (H5 l d).Lots.length ≤ 100 ∧ (H5 l d).Swaps.length ≤ 100 :=
 ⟨Nat.le_trans (Vo l d (j := 0) cQ) h, Nat.le_trans (Vo l d (j := 10) cQ) h, Nat.le_trans (Vo l d (j := 3) cQ) h, Nat.le_trans (Vo l d (j := 2) cQ) h⟩
theorem nV {y : I5} (h : V6 y) : (Iw y).tool = 2 ∧ (0 ≤ (Iw y).chamber ∧ (Iw y).chamber ≤ 1) ∧ (0 ≤ (Iw y).frm ∧ (Iw y).frm ≤ 199) ∧ ((Iw y).frm ≤ (Iw y).to ∧ (Iw y).to ≤ (Iw y).frm + 49) ∧ 0 ≤ (Iw y).err ∧ (Iw y).err ≤ 11 := by
 obtain ⟨ha, hb, hc, hd, he⟩ := h
 have p1 := E0 (c := y.a) (n := 2) ha cQ
 have p2 := E0 (c := y.b) (n := 200) hb cQ
 have p3 := E0 (c := y.c) (n := 50) hc cQ
 have p4 := E0 (c := y.d) (n := 12) hd cQ
 have q1 := Yh (n := An y.b 200 + An y.c 50) oQ oQ
 unfold Iw
 dsimp only
 rw [q1]
 omega
end Go.Wx
namespace Go.Proofs.YtmimclgihlhaeaaGreat
open Go.Proofs.Tryz
open Go.Wx Go.RowKit
end Go.Proofs.YtmimclgihlhaeaaGreat
end
section
namespace Go.Wx
theorem aK {ks : List Int} {k : Int} (h : ks.Nodup) : (Lp ks k).Nodup := by
 unfold Lp
 split
 · exact h
 rename_i e
 exact List.nodup_append.2 ⟨h, by simp, fun a ha c hc => by rw [List.mem_singleton] at hc; subst hc; exact fun e2 => e (e2 ▸ ha)⟩
theorem Vp {α : Type} (g : α → Int) : ∀ (l : List α) (ks : List Int), (ks.Nodup → (l.foldl (fun ks x => Lp ks (g x)) ks).Nodup) ∧ ∀ k, k ∈ l.foldl (fun ks x => Lp ks (g x)) ks ↔ k ∈ ks ∨ ∃ x ∈ l, g x = k
 | [], ks => ⟨fun h => h, fun k => by simp⟩
 | x :: l, ks => by
   have ih := Vp g l (Lp ks (g x))
   rw [List.foldl_cons]
   refine ⟨fun h => ih.1 (aK h), fun k => ?_⟩
   rw [ih.2 k, jB]
   constructor
   · rintro ((h | h) | ⟨y, hy, e⟩)
     · exact .inl h
     · exact .inr ⟨x, List.mem_cons_self, h.symm⟩
     exact .inr ⟨y, List.mem_cons_of_mem _ hy, e⟩
   rintro (h | ⟨y, hy, e⟩)
   · exact .inl (.inl h)
   rcases List.mem_cons.1 hy with rfl | hy
   · exact .inl (.inr e.symm)
   exact .inr ⟨y, hy, e⟩
theorem fQ {ks : List Int} {k : Int} : k ∈ Fp ks ↔ k ∈ ks := (List.mergeSort_perm ks _).mem_iff
theorem Je {lots ps ss : List Fact} {k : Int} : k ∈ A9 lots ps ss ↔ Eb k = true ∧ ((∃ f ∈ lots, f.Wafer = k) ∨ ∃ f ∈ ps, K1 ss f.Time f.Wafer = k) := by
 unfold A9 Xh Qb
 rw [fQ, List.mem_filter, (Vp (fun f : Fact => K1 ss f.Time f.Wafer) ps _).2, (Vp (fun f : Fact => f.Wafer) lots _).2]
 constructor
 · rintro ⟨(h | h) | h, hi⟩
   · cases h
   · exact ⟨hi, .inl h⟩
   exact ⟨hi, .inr h⟩
 rintro ⟨hi, h | h⟩
 · exact ⟨.inl (.inr h), hi⟩
 exact ⟨.inr h, hi⟩
def Yk (b : Base) (x : Exc) (w : Int) : Vd := R6 w (Sk b.Swaps b.Gaps x w b.Processes)
theorem Oq {b : Base} {x : Exc} (hx : G8 x = true) : Gy b x = (A9 b.Lots b.Processes b.Swaps).map (Yk b x) := by
 unfold Gy Yk
 rw [if_pos hx]
 exact List.map_congr_left fun w _ => by rw [Ug]
theorem Yj {b : Base} {x : Exc} (hx : G8 x = true) {w : Int} (hw : w ∈ A9 b.Lots b.Processes b.Swaps) : Gq (Gy b x) w = Yk b x w := by
 unfold Gq
 rw [Oq hx]
 cases e : ((A9 b.Lots b.Processes b.Swaps).map (Yk b x)).find? fun v => decide (v.w = w) with
 | none => exact absurd (List.find?_eq_none.1 e _ (List.mem_map.2 ⟨w, hw, rfl⟩)) (by simp [Yk, R6])
 | some v =>
   have h1 : v.w = w := of_decide_eq_true (List.find?_some (p := fun v : Vd => decide (v.w = w)) e)
   obtain ⟨u, _, h2⟩ := List.mem_map.1 (List.mem_of_find?_eq_some e)
   rw [← h2] at h1 ⊢
   exact congrArg (Yk b x) h1
theorem cM (b : Base) (x : Exc) (w : Int) : (Yk b x w).t = K3 b x w := Pq b x w
theorem Pr (b : Base) (x : Exc) (w : Int) : 0 ≤ K3 b x w ∧ K3 b x w ≤ 2 := by
 unfold K3
 split
 · decide
 split <;> decide
theorem Mh (ss gs : List Fact) (x : Exc) (w : Int) (l : List Fact) : ((Sk ss gs x w l).map (·.1)).Nodup := by
 refine Hy (p := fun l => ((Sk ss gs x w l).map (·.1)).Nodup) List.nodup_nil (fun l p h => ?_) l
 rw [J3]
 split
 · exact Km h _ _
 exact h
theorem cN {V : List (Int × Bool)} {k : Int} : k ∈ (V.filter (·.2)).map (·.1) ↔ (k, true) ∈ V := by
 rw [List.mem_map]
 constructor
 · rintro ⟨⟨a, c⟩, hq, rfl⟩
   obtain ⟨h1, h2⟩ := List.mem_filter.1 hq
   have h3 : c = true := h2
   rwa [h3] at h1
 exact fun h => ⟨_, List.mem_filter.2 ⟨h, rfl⟩, rfl⟩
theorem Jf {V : List (Int × Bool)} (h : (V.map (·.1)).Nodup) : ((V.filter (·.2)).map (·.1)).Nodup := h.sublist (List.Sublist.map _ List.filter_sublist)
theorem fR {V L : List (Int × Bool)} (hV : (V.map (·.1)).Nodup) (hL : (L.map (·.1)).Nodup) (h1 : ∀ k, k ∈ V.map (·.1) ↔ k ∈ L.map (·.1)) (h2 : ∀ k, (k, true) ∈ V ↔ (k, true) ∈ L) : (Cf V).1 = (Cf L).1 ∧ Fp (Cf V).2 = Fp (Cf L).2 := by
 have ha : V.any (·.2) = L.any (·.2) := by
   rw [Bool.eq_iff_iff, List.any_eq_true, List.any_eq_true]
   constructor
   · rintro ⟨⟨a, c⟩, hq, rfl⟩; exact ⟨_, (h2 a).1 hq, rfl⟩
   rintro ⟨⟨a, c⟩, hq, rfl⟩; exact ⟨_, (h2 a).2 hq, rfl⟩
 unfold Cf
 rw [ha]
 split
 · exact ⟨rfl, H6 (G7 (Jf hV) (Jf hL) fun k => by rw [cN, cN, h2])⟩
 by_cases e : L = []
 · subst e
   have hv : V = [] := List.eq_nil_iff_forall_not_mem.2 fun q hq => by
     have := (h1 q.1).1 (List.mem_map.2 ⟨q, hq, rfl⟩)
     cases this
   subst hv
   exact ⟨rfl, rfl⟩
 have hv : V ≠ [] := fun hv => by
   subst hv
   exact e (List.eq_nil_iff_forall_not_mem.2 fun q hq => by
     have := (h1 q.1).2 (List.mem_map.2 ⟨q, hq, rfl⟩)
     cases this)
 rw [if_neg e, if_neg hv]
 exact ⟨rfl, H6 (G7 hV hL h1)⟩
theorem kW {b c : Base} {x : Exc} {w : Int} (h1 : ∀ p, Ev b.Swaps b.Gaps x w p = Ev c.Swaps c.Gaps x w p) (h2 : ∀ p, Ev b.Swaps b.Gaps x w p = true → (p ∈ b.Processes ↔ p ∈ c.Processes)) : Yk b x w = Yk c x w := by
 have h3 := fR (Mh b.Swaps b.Gaps x w b.Processes) (Mh c.Swaps c.Gaps x w c.Processes)
   (fun k => by
     rw [Qs, Qs]
     exact ⟨fun ⟨p, hp, h, e⟩ => ⟨p, (h2 p h).1 hp, by rw [← h1]; exact h, e⟩, fun ⟨p, hp, h, e⟩ => ⟨p, (h2 p (by rw [h1]; exact h)).2 hp, by rw [h1]; exact h, e⟩⟩)
   (fun k => by
     rw [Oo, Oo]
     constructor
     · rintro ⟨p, hp, h, e⟩
       rw [Bool.and_eq_true] at h
       exact ⟨p, (h2 p h.1).1 hp, by rw [← h1, h.1, h.2]; rfl, e⟩
     rintro ⟨p, hp, h, e⟩
     rw [Bool.and_eq_true] at h
     exact ⟨p, (h2 p (by rw [h1]; exact h.1)).2 hp, by rw [h1, h.1, h.2]; rfl, e⟩)
 unfold Yk R6
 rw [h3.1, h3.2]
theorem cO {b : Base} {x : Exc} {w : Int} : K3 b x w ≠ 0 ↔ ∃ p ∈ b.Processes, Ev b.Swaps b.Gaps x w p = true := by
 unfold K3
 constructor
 · intro h
   split at h
   · rename_i h1
     obtain ⟨p, hp, h2⟩ := List.any_eq_true.1 h1
     exact ⟨p, hp, (Bool.and_eq_true _ _ ▸ h2).1⟩
   split at h
   · rename_i h1
     obtain ⟨p, hp, h2⟩ := List.any_eq_true.1 h1
     exact ⟨p, hp, h2⟩
   exact absurd rfl h
 rintro ⟨p, hp, h⟩
 split
 · decide
 rw [if_pos (List.any_eq_true.2 ⟨p, hp, h⟩)]; decide
theorem nW {b : Base} {x : Exc} {w : Int} : K3 b x w = 2 ↔ ∃ p ∈ b.Processes, (Ev b.Swaps b.Gaps x w p && Ec x p) = true := by
 unfold K3
 rw [← List.any_eq_true]
 constructor
 · intro h
   split at h
   · assumption
   split at h
   · exact absurd (show (1 : Int) = 2 from h) cQ
   exact absurd (show (0 : Int) = 2 from h) cQ
 intro h; rw [if_pos h]
theorem kX {ss gs : List Fact} {x : Exc} {w : Int} {p : Fact} (h : Ev ss gs x w p = true) : p.Chamber = x.chamber := by
 unfold Ev Gj at h
 simp only [Bool.and_eq_true, decide_eq_true_eq] at h
 exact h.1.1.2.symm
theorem nX {ss gs : List Fact} {x : Exc} {w : Int} {p : Fact} (h : Ev ss gs x w p = true) : K1 ss p.Time p.Wafer = w := by
 unfold Ev at h
 simp only [Bool.and_eq_true, decide_eq_true_eq] at h
 exact h.2
end Go.Wx
namespace Go.Proofs.YtmimclgihlhaeaaGreat
open Go.Proofs.Tryz
open Go.Wx Go.RowKit
end Go.Proofs.YtmimclgihlhaeaaGreat
end
section
namespace Go.Wx
def VdsE (w : World) (v : Go.Value) (Lv : List Vd) : Prop := ∃ ad cp L, v = .slice ad L.length cp ∧ L.map VP.vd = Lv ∧ Els w ad 3 VP.cells L ∧ ∀ p ∈ L, Sl w p.uv 1 A8 p.vd.why
theorem VdsE.up {w w' : World} {v : Go.Value} {Lv : List Vd} (h : VdsE w v Lv) (u : Up w w') : VdsE w' v Lv := let ⟨ad, cp, L, e, hm, hE, hw⟩ := h; ⟨ad, cp, L, e, hm, Els.up hE u, fun p hp => Sl.up (hw p hp) u⟩
theorem nY (ss gs : List Fact) (x : Exc) (w : Int) (l : List Fact) : (Sk ss gs x w l).length ≤ l.length := by
 refine Hy (p := fun l => (Sk ss gs x w l).length ≤ l.length) (Nat.le_refl _) (fun l p h => ?_) l
 rw [J3, List.length_append]
 split
 · exact Nat.le_trans (Ol _ _ _) (Nat.succ_le_succ h)
 exact Nat.le_succ_of_le h
theorem Vq {b : Base} {x : Exc} {v : Vd} (h : v ∈ Gy b x) : v.why.length ≤ b.Processes.length := by
 unfold Gy at h
 split at h
 · obtain ⟨w, _, rfl⟩ := List.mem_map.1 h
   show (Fp (Cf (lookW _ _)).2).length ≤ _
   rw [H8, Ug]
   exact Nat.le_trans (Oj _) (nY _ _ _ _ _)
 cases h
def WhyS (w : World) (L : List VP) : Prop := ∀ p ∈ L, Sl w p.uv 1 A8 p.vd.why
theorem WhyS.up {w w' : World} {L : List VP} (h : WhyS w L) (u : Up w w') : WhyS w' L := fun p hp => Sl.up (h p hp) u
end Go.Wx
namespace Go.Proofs.YtmimclgihlhaeaaGreat
open Go.Proofs.Tryz
open Go.Wx Go.RowKit
end Go.Proofs.YtmimclgihlhaeaaGreat
end
