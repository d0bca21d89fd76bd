import Derived.Test.YtmimclgihlhaeaaGreatKR620
import Derived.Shelf.SlLaysF0
section
namespace Go.Proofs
open Go.Proofs.Tryz
open Go.Shelf
def Se : Go.Shelf.Ren := ⟨fun | 6 => 108 | 15 => 95 | 14 => 159 | 28 => 154 | 29 => 155 | 20 => 181 | 21 => 182 | 22 => 183 | 23 => 184 | 24 => 185 | 25 => 186 | 26 => 187 | 27 => 188 | 46 => 194 | 47 => 176 | 48 => 177 | 49 => 195 | 50 => 196 | 57 => 200 | n => n, fun | 22 => 103 | 24 => 99 | 25 => 102 | 3 => 3 | 39 => 147 | 0 => 0 | 53 => 188 | 55 => 190 | 4 => 4 | 46 => 182 | 45 => 181 | 50 => 159 | 5 => 5 | 9 => 9 | 66 => 212 | 70 => 164 | 76 => 226 | 77 => 33 | n => n, fun | n => n⟩
theorem Sf : Go.Proofs.SlLaysF0.n6 Tryz.prog Se := {
 mixed := by kernel_rfl
 f6 := ⟨Tryz.f108.name, by decide, func108.trans (congrArg some kQ)⟩
 f14 := ⟨Tryz.f159.name, by decide, func159.trans (congrArg some kQ)⟩
 f15 := func95.trans (congrArg some kQ)
 f20 := ⟨Tryz.f181.name, by decide, func181.trans (congrArg some kQ)⟩
 f21 := ⟨Tryz.f182.name, by decide, func182.trans (congrArg some kQ)⟩
 f22 := ⟨Tryz.f183.name, by decide, func183.trans (congrArg some kQ)⟩
 f23 := ⟨Tryz.f184.name, by decide, func184.trans (congrArg some kQ)⟩
 f24 := ⟨Tryz.f185.name, by decide, func185.trans (congrArg some kQ)⟩
 f25 := ⟨Tryz.f186.name, by decide, func186.trans (congrArg some kQ)⟩
 f26 := ⟨Tryz.f187.name, by decide, func187.trans (congrArg some kQ)⟩
 f27 := ⟨Tryz.f188.name, by decide, func188.trans (congrArg some kQ)⟩
 f28 := func154.trans (congrArg some kQ)
 f29 := func155.trans (congrArg some kQ)
 f46 := ⟨Tryz.f194.name, by decide, func194.trans (congrArg some kQ)⟩
 f47 := func176.trans (congrArg some kQ)
 f48 := func177.trans (congrArg some kQ)
 f49 := ⟨Tryz.f195.name, by decide, func195.trans (congrArg some kQ)⟩
 f50 := ⟨Tryz.f196.name, by decide, func196.trans (congrArg some kQ)⟩
 f57 := ⟨Tryz.f200.name, by decide, func200.trans (congrArg some kQ)⟩
 t0 := underlying0
 a0 := isAgg0
 z0 := sizeOf0
 v0 := zeroValue0
 t3 := underlying3
 a3 := isAgg3
 z3 := sizeOf3
 v3 := zeroValue3
 t4 := underlying4
 a4 := isAgg4
 z4 := sizeOf4
 v4 := zeroValue4
 t5 := underlying5
 a5 := isAgg5
 z5 := sizeOf5
 v5 := zeroValue5
 t9 := underlying9
 a9 := isAgg9
 z9 := sizeOf9
 v9 := zeroValue9
 t22 := underlying103
 a22 := isAgg103
 z22 := sizeOf103
 v22 := zeroValue103
 t25 := underlying102
 a25 := isAgg102
 z25 := sizeOf102
 v25 := zeroValue102
 t39 := underlying147
 a39 := isAgg147
 z39 := sizeOf147
 v39 := zeroValue147
 t45 := underlying181
 a45 := isAgg181
 z45 := sizeOf181
 v45 := zeroValue181
 t46 := underlying182
 a46 := isAgg182
 z46 := sizeOf182
 v46 := zeroValue182
 t50 := underlying159
 a50 := isAgg159
 z50 := sizeOf159
 v50 := zeroValue159
 t53 := underlying188
 a53 := isAgg188
 z53 := sizeOf188
 v53 := zeroValue188
 t55 := underlying190
 a55 := isAgg190
 z55 := sizeOf190
 v55 := zeroValue190
 t66 := underlying212
 a66 := isAgg212
 z66 := sizeOf212
 v66 := zeroValue212
 t70 := underlying164
 a70 := isAgg164
 z70 := sizeOf164
 v70 := zeroValue164
 t76 := underlying226
 a76 := isAgg226
 z76 := sizeOf226
 v76 := zeroValue226
 t77 := underlying33
 a77 := isAgg33
 z77 := sizeOf33
 v77 := zeroValue33 }
end Go.Proofs
end
section
namespace Go.Wx
structure TP where
 ad : Option Addr
 l : List Int
 cp : Nat
def TP.v (t : TP) : Go.Value := .slice t.ad t.l.length t.cp
def TP.cells (t : TP) : Array Go.Value := #[t.v]
theorem TP.one (t : TP) : t.cells.all (·.oneCell') = true := by simp [TP.cells, TP.v, Value.oneCell']
def S6 (x y : Ar2) : Bool := !(Go.Proofs.ltOf M7) y x
theorem Kn (x y : Ar2) : S6 x y = true ↔ ¬ Vw y x := by
 unfold S6
 rw [← Mg]
 simp
theorem Pb (a b c : Ar2) (h : S6 a b = true) (k : S6 b c = true) : S6 a c = true := by
 rw [Kn] at *
 exact cH k h
theorem Pc (a b : Ar2) : (S6 a b || S6 b a) = true := by
 rw [Bool.or_eq_true, Kn, Kn]
 unfold Vw
 omega
theorem aH {a b : List Ar2} (h : a.Perm b) : a.mergeSort S6 = b.mergeSort S6 :=
 List.Perm.eq_of_pairwise (le := fun x y => S6 x y = true) (fun x y _ _ h1 h2 => Vi ((Kn y x).1 h2) ((Kn x y).1 h1))
   (List.pairwise_mergeSort Pb Pc a) (List.pairwise_mergeSort Pb Pc b)
   ((List.mergeSort_perm a _).trans (h.trans (List.mergeSort_perm b _).symm))
def Qa {α : Type} [DecidableEq α] (l : List α) : List α := l.foldl Sb []
theorem Ua {α : Type} [DecidableEq α] (l : List α) (x : α) : Qa (l ++ [x]) = Sb (Qa l) x := by
 unfold Qa
 rw [List.foldl_append]
 rfl
theorem Lp {α : Type} [DecidableEq α] (l : List α) (x : α) : x ∈ Qa l ↔ x ∈ l := by
 refine I0 (p := fun l => x ∈ Qa l ↔ x ∈ l) Iff.rfl (fun l y h => ?_) l
 rw [Ua, X6, h]
 simp
theorem Sg {α : Type} [DecidableEq α] (l : List α) : (Qa l).Nodup := by
 refine I0 (p := fun l => (Qa l).Nodup) List.nodup_nil (fun l y h => ?_) l
 rw [Ua]
 exact aE h
def Ga (P : List Fact) (O : List Vd) : List Ar2 := (Qa (O.flatMap fun p => He P p.why)).mergeSort S6
def Im (b : Base) (O : List Vd) : List Int := (Qa ((O.map (Gq b)).filter fun n => decide (n ≠ 0))).mergeSort fun x y => decide (x ≤ y)
def Vl (b : Base) (O : List Vd) : List (List Int) := (Ga b.Processes O).map (Jt b.Processes O) ++ (Im b O).map (Fc b O)
def Vm (b : Base) (L : List Vd) : List (List Int) := (Vl b (L.filter fun v => decide (v.t = 1))).take 16
theorem Vn {P : List Fact} {O : List Vd} {g : Ar2} : Jt P O g ≠ [] ↔ g ∈ O.flatMap fun p => He P p.why := by
 unfold Jt
 rw [List.mem_flatMap]
 constructor
 · intro h
   obtain ⟨x, hx⟩ := List.exists_mem_of_ne_nil _ h
   obtain ⟨p, hp, _⟩ := List.mem_map.1 hx
   obtain ⟨h1, h2⟩ := List.mem_filter.1 hp
   exact ⟨p, h1, of_decide_eq_true h2⟩
 rintro ⟨p, h1, h2⟩ e
 have h3 : p.w ∈ (O.filter fun p => decide (g ∈ He P p.why)).map (·.w) := List.mem_map.2 ⟨p, List.mem_filter.2 ⟨h1, decide_eq_true h2⟩, rfl⟩
 rw [e] at h3
 cases h3
theorem Sh {b : Base} {O : List Vd} {n : Int} : Fc b O n ≠ [] ↔ n ∈ (O.map (Gq b)).filter fun n => decide (n ≠ 0) := by
 unfold Fc
 rw [List.mem_filter, List.mem_map]
 constructor
 · intro h
   obtain ⟨x, hx⟩ := List.exists_mem_of_ne_nil _ h
   obtain ⟨p, hp, _⟩ := List.mem_map.1 hx
   obtain ⟨h1, h2⟩ := List.mem_filter.1 hp
   have h3 := of_decide_eq_true h2
   exact ⟨⟨p, h1, h3.1⟩, decide_eq_true h3.2⟩
 rintro ⟨⟨p, h1, h2⟩, h3⟩ e
 have h4 : p.w ∈ (O.filter fun p => decide (Gq b p = n ∧ n ≠ 0)).map (·.w) := List.mem_map.2 ⟨p, List.mem_filter.2 ⟨h1, decide_eq_true ⟨h2, of_decide_eq_true h3⟩⟩, rfl⟩
 rw [e] at h4
 cases h4
theorem Yb {P : List Fact} {O : List Vd} {D : List (BE Ar2)} {ks : List Ar2} (h : BeInv D (Jt P O)) (hk : ks.Perm (D.map (·.g))) : ks.mergeSort S6 = Ga P O :=
 aH (hk.trans ((List.perm_ext_iff_of_nodup h.nd (Sg _)).2 fun g => by rw [h.key, Vn, Lp]))
theorem Yc {b : Base} {O : List Vd} {E : List (BE Int)} {ks : List Int} (h : BeInv E (Fc b O)) (hk : ks.Perm (E.map (·.g))) : (ks.mergeSort fun x y => decide (x ≤ y)) = Im b O :=
 Jq (hk.trans ((List.perm_ext_iff_of_nodup h.nd (Sg _)).2 fun g => by rw [h.key, Sh, Lp]))
theorem fN {P : List Fact} {O : List Vd} {D : List (BE Ar2)} (h : BeInv D (Jt P O)) {g : Ar2} (hg : g ∈ Ga P O) : ∃ e ∈ D, e.g = g := by
 unfold Ga at hg
 rw [List.mem_mergeSort, Lp, ← Vn, ← h.key] at hg
 exact List.mem_map.1 hg
theorem fO {b : Base} {O : List Vd} {E : List (BE Int)} (h : BeInv E (Fc b O)) {g : Int} (hg : g ∈ Im b O) : ∃ e ∈ E, e.g = g := by
 unfold Im at hg
 rw [List.mem_mergeSort, Lp, ← Sh, ← h.key] at hg
 exact List.mem_map.1 hg
theorem nT {P : List Fact} {O : List Vd} {D : List (BE Ar2)} (h : BeInv D (Jt P O)) : D.length ≤ P.length := by
 have := h.nd.length_le_of_subset (l₂ := P.map kG) fun g hg => by
   rw [h.key, Vn, List.mem_flatMap] at hg
   obtain ⟨p, _, h2⟩ := hg
   obtain ⟨f, hf, _, e⟩ := X8.1 h2
   exact List.mem_map.2 ⟨f, hf, e⟩
 simpa using this
theorem nU {b : Base} {O : List Vd} {E : List (BE Int)} (h : BeInv E (Fc b O)) : E.length ≤ O.length := by
 have := h.nd.length_le_of_subset (l₂ := O.map (Gq b)) fun g hg => by
   rw [h.key, Sh] at hg
   exact (List.mem_filter.1 hg).1
 simpa using this
theorem kN {P : List Fact} {O : List Vd} (h : ∀ f ∈ P, Qb f.Time ∧ Qb f.Until) : ∀ g ∈ Ga P O, g.ok := fun g hg => by
 unfold Ga at hg
 rw [List.mem_mergeSort, Lp, List.mem_flatMap] at hg
 obtain ⟨p, _, h2⟩ := hg
 exact cJ h g h2
theorem G6 {α β : Type} {f : α → β} {l : List α} {k : Nat} {x : α} (h : l[k]? = some x) : (l.take (k + 1)).map f = (l.take k).map f ++ [f x] := by
 rw [List.take_add_one, h, List.map_append]; rfl
theorem cK (L : List VP) : (L.filter Av).map (·.vd) = (L.map (·.vd)).filter fun v => decide (v.t = 1) := by
 rw [List.filter_map]
 congr 1
end Go.Wx
namespace Go.Proofs.YtmimclgihlhaeaaGreat
open Go.Proofs.Tryz
open Go.Wx Go.RowKit
theorem fP (v : Go.Value) (l : List Ar2) (w : World) (h : OwnS w 0 99 2 Ar2.cells v l) (hlen : l.length < 4611686018427387904) : Ret Tryz.prog 108 #[v, .func (.func 48) #[] #[]] w fun r w' => r = .tuple #[] ∧ Stp (Ai 99 2 Ar2.cells v l) (Ai 99 2 Ar2.cells v (l.mergeSort S6)) w w' := by
 have hc := h
 obtain ⟨h1, ⟨rfl, hn⟩ | ⟨g, cap, cur, rfl, _, hb, _⟩⟩ := h
 · have hks : l = [] := List.eq_nil_of_length_eq_zero hn
   subst hks
   refine Calls.mono (AnyF.slices_SortFunc_none Sf none 0 _ w) ?_
   rintro e' w' ⟨rfl, rfl⟩
   refine ⟨_, rfl, rfl, ?_⟩
   rw [List.mergeSort_nil]
   exact Stp.refl hc
 have hcmp : CmpLays Tryz.prog 48 #[] (fun x : Ar2 => x.cells.toList) 2 M7 g 0 l.toArray.size w := fun m os dk _ x y => by
   refine Calls.mono (Vj x y _) ?_
   rintro e' w' ⟨v, rfl, rfl, hD⟩
   exact ⟨rfl, hD.grow⟩
 have hK := aG (enc := Ar2.cells) (k := 2) (fun _ => rfl) hc
 refine Calls.mono (AnyQ.slices_SortFunc_total Sf 2 isAgg99 sizeOf99 (fun x : Ar2 => x.cells.toList) (fun _ => rfl) (fun x v hv => by simp [Ar2.cells] at hv; rcases hv with rfl | rfl <;> rfl) M7 wP 48 #[] g 0 cap l.toArray w vE hcmp hK (lt_of_block hb) (by simpa using hlen) wQ) ?_
 rintro e' w' ⟨rfl, n, os, rfl⟩
 refine ⟨_, rfl, rfl, ?_⟩
 have h2 := kM (enc := Ar2.cells) (k := 2) (n := n) (os := os) (ts := (l.mergeSort S6)) (fun _ => rfl) (by rw [List.length_mergeSort]) hc
 simpa [show (fun x y => !Go.Proofs.ltOf M7 y x) = S6 from rfl] using h2
theorem Yd (g : Nat) (lb : Array Go.Value) (S Sp : List Ar2 → Prop) (N : Nat) (w : World) (en : ∀ args w, (callFunc g args).run Tryz.prog w = .ok (.enter g args) w) (hit : ∀ W (X Y : Nat → Prop), Up w W → (∀ i, X i → w.heap.size ≤ i) → (∀ i, Y i → w.heap.size ≤ i ∧ i < W.heap.size) → IterS Tryz.prog g lb nO X Y S Sp N W) (hN0 : N ≤ 1000000000) (hS0 : ∀ ks, S ks → ks.length ≤ 1000000000) : Ret Tryz.prog 51 #[.func (.func g) #[] lb, .func (.func 48) #[] #[]] w fun r w' => ∃ ks, S ks ∧ (Ai 99 2 Ar2.cells r (ks.mergeSort S6)).holds w' ∧ (∀ i, (Ai 99 2 Ar2.cells r (ks.mergeSort S6)).foot i → w.heap.size ≤ i) ∧ Up w w' := by
 obtain ⟨w0, rfl⟩ : ∃ w0, w0 = w := ⟨_, rfl⟩
 have hS := Sep.start no w0
 refine cS (n := 12) (m := 9) func51 rfl rfl rfl ?_
 refine CW.S (LW.C (LW.S (CW.region (LW.M rfl ?_))))
 refine LW.K (eC (.o rfl) (rP)) rfl (Vh _ _ _ _ _ _ en hit hN0) ?_
 rintro v w1 ⟨ks, hP, hO_, hF_, uw1⟩
 have zw1 := uw1.size
 replace hS := hS.add uw1 (A' := Ai 99 2 Ar2.cells v ks) (hO_) (hF_)
 change Wx.Sep _ _ _ [_] at hS
 clear hO_ hF_
 refine LW.A rfl (LW.S (CW.region (LW.M rfl (LW.M rfl ?_))))
 refine LW.K (eC (.u rfl rfl) (rQ)) rfl (fP v ks _ (hS.own 0 rfl) (by have := hS0 ks hP; omega)) ?_
 rintro _ w2 ⟨rfl, uw2⟩
 have zw2 := uw2.fr.size
 replace hS := hS.Dj 0 rfl uw2
 change Wx.Sep _ _ _ [_] at hS
 refine LW.S (CW.region (LW.M rfl (LW.A rfl (LW.T (CW.ret ?_)))))
 refine Af rfl rfl ⟨_, rfl, ?_⟩
 exact ⟨ks, hP, hS.get 0 rfl, fun i hi => (hS.foot 0 rfl i hi).resolve_left (fun h => h), hS.Cu⟩
end Go.Proofs.YtmimclgihlhaeaaGreat
end
section
namespace Go.Wx
def wI (n : Int) : Int := IntKind.i64.wrap n
deriving instance DecidableEq for Vd
theorem kO {x y : Vd} (h1 : x.w = y.w) (h2 : x.t = y.t) (h3 : x.why = y.why) : x = y := by
 cases x; cases y; cases h1; cases h2; cases h3; rfl
theorem Od {α β γ : Type} {f : α → γ} {g : β → γ} {xs : List α} {ys : List β} {k : Nat} {x : α} {y : β} (h : (xs.take k).map f = (ys.take k).map g) (hx : xs[k]? = some x) (hy : ys[k]? = some y) (e : f x = g y) : (xs.take (k + 1)).map f = (ys.take (k + 1)).map g := by
 rw [G6 hx, G6 hy, h, e]
theorem Oe {α β γ : Type} {f : α → γ} {g : β → γ} {xs : List α} {ys : List β} {k : Nat} {x : α} {y : β} (hx : xs[k]? = some x) (hy : ys[k]? = some y) (e : ¬ f x = g y) : ¬ xs.map f = ys.map g := fun h => e (by
 have h1 : (xs.map f)[k]? = some (f x) := by rw [List.getElem?_map, hx]; rfl
 have h2 : (ys.map g)[k]? = some (g y) := by rw [List.getElem?_map, hy]; rfl
 rw [h, h2] at h1
 exact (Option.some.inj h1).symm)
def E9 (id wafer time til : Int) : Fact := { Ij with Kind := 1, Version := 1, ID := id, Wafer := wafer, Tool := 2, Recipe := 1, Revision := 1, Time := time, Until := til }
def Io (y : I5) : Exc := ⟨2, Ar y.a 2, Ar y.b 200, wI (Ar y.b 200 + Ar y.c 50), Ar y.d 12⟩
def Ye : Vd := ⟨0, -1, []⟩
def Ju (L : List Vd) (w : Int) : Vd := (L.find? fun v => decide (v.w = w)).getD Ye
end Go.Wx
namespace Go.Proofs.YtmimclgihlhaeaaGreat
open Go.Proofs.Tryz
open Go.Wx Go.RowKit
theorem Kp (v1 v2 : Value) (xs ys : List Int) (w : World) (h1 : Sl w v1 1 A8 xs) (h2 : Sl w v2 1 A8 ys) (hx0 : xs.length ≤ 1000000000) (hy0 : ys.length ≤ 1000000000) : Ret Tryz.prog 21 #[v1, v2] w fun r w' => r = .bool (decide (xs = ys)) ∧ Up w w' := by
 have hW := Up.refl w
 obtain ⟨w0, rfl⟩ : ∃ w0, w0 = w := ⟨_, rfl⟩
 obtain ⟨ad, cp, rfl, hE1⟩ := h1
 obtain ⟨ad', cp', rfl, hE2⟩ := h2
 refine cS (n := 26) (m := 9) func21 rfl rfl rfl ?_
 refine CW.S (LW.C (LW.S (CW.S (LW.M rfl ?_))))
 refine LW.pp (.Dq underlying30 (.t rfl)) ?_
 refine LW.M rfl ?_
 refine LW.pp (.Dq underlying30 (.t rfl)) ?_
 refine LW.pp (.neq (.t rfl) (.t rfl)) ?_
 refine LW.T ?_
 refine CW.cond (.t rfl) (fun h10 => ?_) (fun h10 => ?_)
 ·replace h10 := dQ h10
  have hr : decide (xs = ys) = false := decide_eq_false (fun h => by subst h; simp at h10)
  refine CW.S (LW.C (LW.T (CW.ret (Ae ?_))))
  refine Af rfl rfl ⟨_, rfl, ?_⟩
  exact ⟨by rw [hr], hW⟩
 replace h10 := dQ h10
 have hlen : xs.length = ys.length := Int.ofNat.inj (show Int.ofNat _ = Int.ofNat _ from (by simpa using h10 : (xs.length : Int) = ys.length))
 refine CW.skip (KW.then (CW.seq (CW.S (LW.C (LW.T (CW.block ?_))))))
 refine CW.loop (σ := Nat) (fun s w => (s ≤ xs.length ∧ xs.take s = ys.take s) ∧ Els w ad 1 A8 xs ∧ Els w ad' 1 A8 ys ∧ Up w0 w) (fun s => [(0, .eq (.slice ad xs.length cp)), (1, .eq (.slice ad' ys.length cp')), (5, .eq (vi (s : Int)))]) (fun s => xs.length - s) 0 ?_ ?_ ?_
 ·exact ⟨⟨Nat.zero_le _, rfl⟩, hE1, hE2, hW⟩
 ·exact ⟨rfl, rfl, rfl, trivial⟩
 rintro k w1 ⟨⟨hk, hT⟩, hE1, hE2, hW⟩
 refine CW.seq (CW.S (LW.M rfl (LW.M rfl ?_)))
 refine LW.pp (.Dq underlying30 (.t rfl)) ?_
 refine LW.pp (.lss (.t rfl) (.t rfl)) ?_
 refine LW.T ?_
 refine CW.cond (.t rfl) (fun h14 => ?_) (fun h14 => ?_)
 ·replace h14 := dQ h14
  refine CW.skip (KW.then (CW.seq (CW.block (CW.seq ?_))))
  obtain ⟨x, hx⟩ := Ac (xs := xs) (i := k) oQ
  obtain ⟨y, hy⟩ := Ac (xs := ys) (i := k) oQ
  obtain ⟨B, o, had, hcell⟩ := hE1 k x hx
  obtain ⟨B', o', had', hcell'⟩ := hE2 k y hy
  refine Ct kQ kQ rfl rfl ?_
  refine HW.pp (.move (.t rfl)) ?_
  refine HW.pp (.move (.t rfl)) ?_
  refine HW.pp (.An underlying30 sizeOf3 (.t rfl) (.t rfl) oQ had) ?_
  refine HW.pp (.ld isAgg3 rfl (hcell.nth (j := 0) rfl)) ?_
  refine HW.pp (.move (.t rfl)) ?_
  refine HW.pp (.move (.t rfl)) ?_
  refine HW.pp (.An underlying30 sizeOf3 (.t rfl) (.t rfl) oQ had') ?_
  refine HW.pp (.ld isAgg3 rfl (hcell'.nth (j := 0) rfl)) ?_
  refine HW.pp (.neq (.t rfl) (.t rfl)) ?_
  refine HW.nil ?_
  intro w2 uw2
  have zw2 := uw2.size
  replace hE1 := hE1.up uw2
  replace hE2 := hE2.up uw2
  replace hW := hW.up uw2
  refine KW.then ?_
  refine CW.cond (.t rfl) (fun h25 => ?_) (fun h25 => ?_)
  ·replace h25 := dQ h25
   have hr : decide (xs = ys) = false := decide_eq_false (jF hx hy (by simpa using h25))
   refine CW.S (LW.C (LW.T (CW.ret (Ao (Ae (Ae (Ao (Ae ?_))))))))
   refine Af rfl rfl ⟨_, rfl, ?_⟩
   exact ⟨by rw [hr], hW⟩
  replace h25 := dQ h25
  refine CW.skip (KW.inBlock (KW.then (CW.region (LW.M rfl ?_))))
  refine LW.pp (.inc (.t rfl) oQ) ?_
  refine LW.A rfl (LW.nil (KW.round ?_))
  exact ⟨k + 1, ⟨⟨by omega, Vb hT hx hy (by simpa using h25)⟩, hE1, hE2, hW⟩, ⟨rfl, rfl, rfl, trivial⟩, by omega⟩
 replace h14 := dQ h14
 have hr : decide (xs = ys) = true := decide_eq_true (by have := hT; rw [show k = xs.length by omega, List.take_length, hlen, List.take_length] at this; exact this)
 refine CW.exit (Aa (Aa (Ad (KW.then (CW.S (LW.C (LW.T (CW.ret ?_))))))))
 refine Af rfl rfl ⟨_, rfl, ?_⟩
 exact ⟨by rw [hr], hW⟩
theorem Cg (c n : Int) (w : World) (hn : n ≠ 0) : Ret Tryz.prog 27 #[vi c, vi n] w fun r w' => r = vi (Ar c n) ∧ Up w w' := by
 have hW := Up.refl w
 refine cS (n := 13) (m := 9) func27 rfl rfl rfl ?_
 refine CW.S (LW.C (LW.S (CW.S (LW.M rfl ?_))))
 refine LW.pp (.lss (.t rfl) (.const _)) ?_
 refine LW.T ?_
 refine CW.cond (.t rfl) (fun h6 => ?_) (fun h6 => ?_)
 ·replace h6 := dQ h6
  refine CW.region (LW.M rfl ?_)
  refine LW.pp (.H3 (.t rfl) (.const _)) ?_
  refine LW.pp (.neg underlying3 (.t rfl)) ?_
  refine LW.A rfl (LW.S (CW.region (LW.M rfl (LW.M rfl ?_))))
  refine LW.pp (.rem (.t rfl) (.t rfl) oQ) ?_
  refine LW.A rfl (LW.T (CW.ret ?_))
  refine Af rfl rfl ⟨_, rfl, ?_⟩
  exact ⟨by first | (rw [Ar, if_pos h6]) | (rw [Ar, if_neg (by omega)]), hW⟩
 replace h6 := dQ h6
 refine CW.skip (KW.then (CW.S (LW.M rfl (LW.M rfl ?_))))
 refine LW.pp (.rem (.t rfl) (.t rfl) oQ) ?_
 refine LW.A rfl (LW.T (CW.ret ?_))
 refine Af rfl rfl ⟨_, rfl, ?_⟩
 exact ⟨by first | (rw [Ar, if_pos h6]) | (rw [Ar, if_neg (by omega)]), hW⟩
theorem Fz (a b c d : Int) (w : World) : Ret Tryz.prog 30 #[vi a, vi b, vi c, vi d] w fun r w' => r = .agg (E9 a b c d).cells ∧ Up w w' := by
 obtain ⟨w0, rfl⟩ : ∃ w0, w0 = w := ⟨_, rfl⟩
 have hS := Sep.start no w0
 refine cS (n := 14) (m := 9) func30 rfl rfl rfl ?_
 refine CW.S ?_
 refine Ah (.A7 zeroValue36) rfl ?_
 rintro _ w1 ⟨B8, rfl, NB8⟩
 have eB8 := NB8.at_
 have zB8 := NB8.size
 replace hS := hS.C7 NB8
 change Wx.Sep _ _ _ [_] at hS
 refine LW.S (CW.region (LW.M rfl (LW.M rfl (LW.M rfl (LW.M rfl ?_)))))
 refine LW.pp (.build (cs := (E9 a b c d).cells) underlying36 zeroValue36 C8 (.cons (.const _) (.cons (.const _) (.cons (.t rfl) (.cons (.t rfl) (.cons (.const _) (.cons (.const _) (.cons (.const _) (.cons (.t rfl) (.cons (.t rfl) .nil))))))))) kQ) ?_
 refine LW.E (.A3 sizeOf36 rfl (.t rfl) (.t rfl) (Fact.one _) (hS.blk 0 rfl) rfl) ?_
 intro w2 Nw2
 have zw2 := Nw2.size
 replace hS := hS.Gf 0 rfl Nw2
 change Wx.Sep _ _ _ [_] at hS
 refine LW.T (CW.ret ?_)
 refine Fa rfl rfl isAgg36 sizeOf36 rfl ((hS.blk 0 rfl).agg) ⟨_, rfl, ?_⟩
 exact ⟨rfl, hS.Cu⟩
theorem Si (ad1 : Option Addr) (cp1 : Nat) (ad2 : Option Addr) (cp2 : Nat) (La Lb : List VP) (w : World) (hE10 : Els w ad1 3 VP.cells La) (hE20 : Els w ad2 3 VP.cells Lb) (hw1 : ∀ p ∈ La, Sl w p.uv 1 A8 p.vd.why) (hw2 : ∀ p ∈ Lb, Sl w p.uv 1 A8 p.vd.why) (hl1 : ∀ p ∈ La, p.vd.why.length ≤ 1000000000) (hl2 : ∀ p ∈ Lb, p.vd.why.length ≤ 1000000000) (hl : La.length ≤ 1000000000) : Ret Tryz.prog 20 #[.slice ad1 La.length cp1, .slice ad2 Lb.length cp2] w fun r w' => r = .bool (decide (La.map (·.vd) = Lb.map (·.vd))) ∧ Up w w' := by
 have hW := Up.refl w
 obtain ⟨w0, rfl⟩ : ∃ w0, w0 = w := ⟨_, rfl⟩
 refine cS (n := 57) (m := 9) func20 rfl rfl rfl ?_
 refine CW.S (LW.C (LW.S (CW.S (LW.M rfl ?_))))
 refine LW.pp (.Dq underlying27 (.t rfl)) ?_
 refine LW.M rfl ?_
 refine LW.pp (.Dq underlying27 (.t rfl)) ?_
 refine LW.pp (.neq (.t rfl) (.t rfl)) ?_
 refine LW.T ?_
 refine CW.cond (.t rfl) (fun h11 => ?_) (fun h11 => ?_)
 ·replace h11 := dQ h11
  have hr : decide (La.map (·.vd) = Lb.map (·.vd)) = false := decide_eq_false (fun h => by have h5 := congrArg List.length h; simp only [List.length_map] at h5; simp [h5] at h11)
  refine CW.S (LW.C (LW.T (CW.ret (Ae ?_))))
  refine Af rfl rfl ⟨_, rfl, ?_⟩
  exact ⟨by rw [hr], hW⟩
 replace h11 := dQ h11
 have hlen : La.length = Lb.length := Int.ofNat.inj (show Int.ofNat _ = Int.ofNat _ from (by simpa using h11 : (La.length : Int) = Lb.length))
 refine CW.skip (KW.then (CW.seq (CW.S (LW.C (LW.T (CW.block ?_))))))
 refine Am (σ := Nat) (fun s w => (s ≤ La.length) ∧ ((La.take s).map (·.vd) = (Lb.take s).map (·.vd)) ∧ (Up w0 w)) (fun s => [(5, .eq (vi (s : Int)))]) ([(0, .eq _), (1, .eq _)]) (fun s => La.length - s) 0 ?_ ⟨rfl, rfl, rfl, trivial⟩ ?_
 ·exact ⟨Nat.zero_le _, rfl, hW⟩
 rintro k w1 ⟨hk, hT, hW⟩
 refine CW.seq (CW.S (LW.M rfl (LW.M rfl ?_)))
 refine LW.pp (.Dq underlying27 (.t rfl)) ?_
 refine LW.pp (.lss (.t rfl) (.t rfl)) ?_
 refine LW.T ?_
 refine CW.cond (.t rfl) (fun h15 => ?_) (fun h15 => ?_)
 ·replace h15 := dQ h15
  refine CW.skip (KW.then (CW.seq (CW.block (CW.seq ?_))))
  obtain ⟨x, hx⟩ := Ac (xs := La) (i := k) oQ
  obtain ⟨Bx, ox, ax, hcx⟩ := (Els.up hE10 hW) k x hx
  obtain ⟨y, hy⟩ := Ac (xs := Lb) (i := k) oQ
  obtain ⟨By, oy, ay, hcy⟩ := (Els.up hE20 hW) k y hy
  refine Ct kQ kQ rfl rfl ?_
  refine HW.pp (.move (.t rfl)) ?_
  refine HW.pp (.move (.t rfl)) ?_
  refine HW.pp (.An underlying27 sizeOf32 (j := k) (.t rfl) (.t rfl) oQ ax) ?_
  refine HW.pp (.fA 2 underlying32 rfl sizeOf30 rfl) ?_
  refine HW.pp (.ld isAgg30 rfl (hcx.nth (j := 2) rfl)) ?_
  refine HW.pp (.move (.t rfl)) ?_
  refine HW.pp (.move (.t rfl)) ?_
  refine HW.pp (.An underlying27 sizeOf32 (j := k) (.t rfl) (.t rfl) oQ ay) ?_
  refine HW.pp (.fA 2 underlying32 rfl sizeOf30 rfl) ?_
  refine HW.pp (.ld isAgg30 rfl (hcy.nth (j := 2) rfl)) ?_
  refine HW.c (fun a w _ ha => Ch (.cons (.t rfl) (.cons (.t rfl) .nil)) (oW) a ha) rfl rfl (fun w hu => Kp _ _ x.vd.why y.vd.why w (Sl.up (Sl.up (hw1 x (List.mem_of_getElem? hx)) hW) hu) (Sl.up (Sl.up (hw2 y (List.mem_of_getElem? hy)) hW) hu) (hl1 x (List.mem_of_getElem? hx)) (hl2 y (List.mem_of_getElem? hy))) ?_
  refine HW.pp (.assign (.t rfl)) ?_
  refine HW.nil ?_
  intro w2 uw2
  have zw2 := uw2.size
  replace hW := hW.up uw2
  replace hcx := hcx.up uw2
  replace hcy := hcy.up uw2
  refine KW.then (CW.seq ?_)
  refine Ct kQ kQ rfl rfl ?_
  refine HW.pp (.move (.t rfl)) ?_
  refine HW.pp (.move (.t rfl)) ?_
  refine HW.pp (.An underlying27 sizeOf32 (j := k) (.t rfl) (.t rfl) oQ ax) ?_
  refine HW.pp (.fA 0 underlying32 rfl sizeOf3 rfl) ?_
  refine HW.pp (.ld isAgg3 rfl (hcx.nth (j := 0) rfl)) ?_
  refine HW.pp (.move (.t rfl)) ?_
  refine HW.pp (.move (.t rfl)) ?_
  refine HW.pp (.An underlying27 sizeOf32 (j := k) (.t rfl) (.t rfl) oQ ay) ?_
  refine HW.pp (.fA 0 underlying32 rfl sizeOf3 rfl) ?_
  refine HW.pp (.ld isAgg3 rfl (hcy.nth (j := 0) rfl)) ?_
  refine HW.pp (.neq (.t rfl) (.t rfl)) ?_
  refine HW.pp (.move (.t rfl)) ?_
  refine HW.g rfl rfl rfl rfl rfl rfl (fun hc => PEv.move (.t rfl)) ?_
  refine HW.g rfl rfl rfl rfl rfl rfl (fun hc => PEv.move (.t rfl)) ?_
  refine HW.g rfl rfl rfl rfl rfl rfl (fun hc => PEv.An underlying27 sizeOf32 (j := k) vQ vQ oQ ax) ?_
  refine HW.g rfl rfl rfl rfl rfl rfl (fun hc => PEv.fieldAddr (off := 1) underlying32 rfl rfl sizeOf3 rfl vQ) ?_
  refine HW.g rfl rfl rfl rfl rfl rfl (fun hc => PEv.load isAgg3 vQ (hcx.nth (j := 1) rfl)) ?_
  refine HW.g rfl rfl rfl rfl rfl rfl (fun hc => PEv.move (.t rfl)) ?_
  refine HW.g rfl rfl rfl rfl rfl rfl (fun hc => PEv.move (.t rfl)) ?_
  refine HW.g rfl rfl rfl rfl rfl rfl (fun hc => PEv.An underlying27 sizeOf32 (j := k) vQ vQ oQ ay) ?_
  refine HW.g rfl rfl rfl rfl rfl rfl (fun hc => PEv.fieldAddr (off := 1) underlying32 rfl rfl sizeOf3 rfl vQ) ?_
  refine HW.g rfl rfl rfl rfl rfl rfl (fun hc => PEv.load isAgg3 vQ (hcy.nth (j := 1) rfl)) ?_
  refine HW.g rfl rfl rfl rfl rfl rfl (fun hc => PEv.neq vQ vQ) ?_
  refine HW.pp (.Cd (.t rfl) (fun hp => (by first | exact .const _ | exact .tmp rfl | exact .cond rfl (by first | assumption | (rw [hp]; rfl) | (rw [hc, hp]; rfl) | simp_all)))) ?_
  refine HW.pp (.move (.t rfl)) ?_
  refine HW.g rfl rfl rfl rfl rfl rfl (fun hc => PEv.move (.t rfl)) ?_
  refine HW.g rfl rfl rfl rfl rfl rfl (fun hc => PEv.not vQ) ?_
  refine HW.pp (.Cd (.t rfl) (fun hp => (by first | exact .const _ | exact .tmp rfl | exact .cond rfl (by first | assumption | (rw [hp]; rfl) | (rw [hc, hp]; rfl) | simp_all)))) ?_
  refine HW.nil ?_
  intro w3 uw3
  have zw3 := uw3.size
  replace hW := hW.up uw3
  replace hcx := hcx.up uw3
  replace hcy := hcy.up uw3
  refine KW.then ?_
  refine CW.cond (.t rfl) (fun h56 => ?_) (fun h56 => ?_)
  ·replace h56 := dQ h56
   have hne : ¬ x.vd = y.vd := fun e => by rw [e] at h56; simp at h56
   have hr : decide (La.map (·.vd) = Lb.map (·.vd)) = false := decide_eq_false (Oe (f := VP.vd) (g := VP.vd) hx hy hne)
   refine CW.S (LW.C (LW.T (CW.ret (Ao (Ae (Ae (Ao (Ae ?_))))))))
   refine Af rfl rfl ⟨_, rfl, ?_⟩
   exact ⟨by rw [hr], hW⟩
  replace h56 := dQ h56
  have heq : x.vd = y.vd := by have h5 := h56; simp at h5; first | exact kO h5.1 h5.2.1 h5.2.2 | exact kO h5.1.1 h5.1.2 h5.2
  refine CW.skip (KW.inBlock (KW.then (CW.region (LW.M rfl ?_))))
  refine LW.pp (.inc (.t rfl) oQ) ?_
  refine LW.A rfl (LW.nil (KW.round ?_))
  exact ⟨k + 1, ⟨by omega, Od hT hx hy heq, hW⟩, ⟨rfl, rfl, rfl, trivial⟩, by first | omega | (dsimp only; omega)⟩
 replace h15 := dQ h15
 have hr : decide (La.map (·.vd) = Lb.map (·.vd)) = true := decide_eq_true (by have h5 := hT; rw [show k = La.length by omega, List.take_length, hlen, List.take_length] at h5; exact h5)
 refine CW.exit (Aa (Aa (Ad (KW.then (CW.S (LW.C (LW.T (CW.ret ?_))))))))
 refine Af rfl rfl ⟨_, rfl, ?_⟩
 exact ⟨by rw [hr], hW⟩
theorem Yf (ad1 : Option Addr) (cp1 : Nat) (ad2 : Option Addr) (cp2 : Nat) (La Lb : List TP) (w : World) (hE10 : Els w ad1 1 TP.cells La) (hE20 : Els w ad2 1 TP.cells Lb) (hw1 : ∀ p ∈ La, Sl w p.v 1 A8 p.l) (hw2 : ∀ p ∈ Lb, Sl w p.v 1 A8 p.l) (hl1 : ∀ p ∈ La, p.l.length ≤ 1000000000) (hl2 : ∀ p ∈ Lb, p.l.length ≤ 1000000000) (hl : La.length ≤ 1000000000) : Ret Tryz.prog 24 #[.slice ad1 La.length cp1, .slice ad2 Lb.length cp2] w fun r w' => r = .bool (decide (La.map (·.l) = Lb.map (·.l))) ∧ Up w w' := by
 have hW := Up.refl w
 obtain ⟨w0, rfl⟩ : ∃ w0, w0 = w := ⟨_, rfl⟩
 refine cS (n := 31) (m := 9) func24 rfl rfl rfl ?_
 refine CW.S (LW.C (LW.S (CW.S (LW.M rfl ?_))))
 refine LW.pp (.Dq underlying51 (.t rfl)) ?_
 refine LW.M rfl ?_
 refine LW.pp (.Dq underlying51 (.t rfl)) ?_
 refine LW.pp (.neq (.t rfl) (.t rfl)) ?_
 refine LW.T ?_
 refine CW.cond (.t rfl) (fun h11 => ?_) (fun h11 => ?_)
 ·replace h11 := dQ h11
  have hr : decide (La.map (·.l) = Lb.map (·.l)) = false := decide_eq_false (fun h => by have h5 := congrArg List.length h; simp only [List.length_map] at h5; simp [h5] at h11)
  refine CW.S (LW.C (LW.T (CW.ret (Ae ?_))))
  refine Af rfl rfl ⟨_, rfl, ?_⟩
  exact ⟨by rw [hr], hW⟩
 replace h11 := dQ h11
 have hlen : La.length = Lb.length := Int.ofNat.inj (show Int.ofNat _ = Int.ofNat _ from (by simpa using h11 : (La.length : Int) = Lb.length))
 refine CW.skip (KW.then (CW.seq (CW.S (LW.C (LW.T (CW.block ?_))))))
 refine Am (σ := Nat) (fun s w => (s ≤ La.length) ∧ ((La.take s).map (·.l) = (Lb.take s).map (·.l)) ∧ (Up w0 w)) (fun s => [(5, .eq (vi (s : Int)))]) ([(0, .eq _), (1, .eq _)]) (fun s => La.length - s) 0 ?_ ⟨rfl, rfl, rfl, trivial⟩ ?_
 ·exact ⟨Nat.zero_le _, rfl, hW⟩
 rintro k w1 ⟨hk, hT, hW⟩
 refine CW.seq (CW.S (LW.M rfl (LW.M rfl ?_)))
 refine LW.pp (.Dq underlying51 (.t rfl)) ?_
 refine LW.pp (.lss (.t rfl) (.t rfl)) ?_
 refine LW.T ?_
 refine CW.cond (.t rfl) (fun h15 => ?_) (fun h15 => ?_)
 ·replace h15 := dQ h15
  refine CW.skip (KW.then (CW.seq (CW.block (CW.seq ?_))))
  obtain ⟨x, hx⟩ := Ac (xs := La) (i := k) oQ
  obtain ⟨Bx, ox, ax, hcx⟩ := (Els.up hE10 hW) k x hx
  obtain ⟨y, hy⟩ := Ac (xs := Lb) (i := k) oQ
  obtain ⟨By, oy, ay, hcy⟩ := (Els.up hE20 hW) k y hy
  refine Ct kQ kQ rfl rfl ?_
  refine HW.pp (.move (.t rfl)) ?_
  refine HW.pp (.move (.t rfl)) ?_
  refine HW.pp (.An underlying51 sizeOf64 (j := k) (.t rfl) (.t rfl) oQ ax) ?_
  refine HW.pp (.fA 0 underlying64 rfl sizeOf30 rfl) ?_
  refine HW.pp (.ld isAgg30 rfl (hcx.nth (j := 0) rfl)) ?_
  refine HW.pp (.move (.t rfl)) ?_
  refine HW.pp (.move (.t rfl)) ?_
  refine HW.pp (.An underlying51 sizeOf64 (j := k) (.t rfl) (.t rfl) oQ ay) ?_
  refine HW.pp (.fA 0 underlying64 rfl sizeOf30 rfl) ?_
  refine HW.pp (.ld isAgg30 rfl (hcy.nth (j := 0) rfl)) ?_
  refine HW.c (fun a w _ ha => Ch (.cons (.t rfl) (.cons (.t rfl) .nil)) (oW) a ha) rfl rfl (fun w hu => Kp _ _ x.l y.l w (Sl.up (Sl.up (hw1 x (List.mem_of_getElem? hx)) hW) hu) (Sl.up (Sl.up (hw2 y (List.mem_of_getElem? hy)) hW) hu) (hl1 x (List.mem_of_getElem? hx)) (hl2 y (List.mem_of_getElem? hy))) ?_
  refine HW.pp (.assign (.t rfl)) ?_
  refine HW.nil ?_
  intro w2 uw2
  have zw2 := uw2.size
  replace hW := hW.up uw2
  refine KW.then (CW.S (LW.M rfl ?_))
  refine LW.pp (.not (.t rfl)) ?_
  refine LW.T ?_
  refine CW.cond (.t rfl) (fun h30 => ?_) (fun h30 => ?_)
  ·replace h30 := dQ h30
   have hne : ¬ x.l = y.l := by simpa using h30
   have hr : decide (La.map (·.l) = Lb.map (·.l)) = false := decide_eq_false (Oe (f := TP.l) (g := TP.l) hx hy hne)
   refine CW.S (LW.C (LW.T (CW.ret (Ao (Ae (Ae (Ao (Ae ?_))))))))
   refine Af rfl rfl ⟨_, rfl, ?_⟩
   exact ⟨by rw [hr], hW⟩
  replace h30 := dQ h30
  have heq : x.l = y.l := by simpa using h30
  refine CW.skip (KW.inBlock (KW.then (CW.region (LW.M rfl ?_))))
  refine LW.pp (.inc (.t rfl) oQ) ?_
  refine LW.A rfl (LW.nil (KW.round ?_))
  exact ⟨k + 1, ⟨by omega, Od hT hx hy heq, hW⟩, ⟨rfl, rfl, rfl, trivial⟩, by first | omega | (dsimp only; omega)⟩
 replace h15 := dQ h15
 have hr : decide (La.map (·.l) = Lb.map (·.l)) = true := decide_eq_true (by have h5 := hT; rw [show k = La.length by omega, List.take_length, hlen, List.take_length] at h5; exact h5)
 refine CW.exit (Aa (Aa (Ad (KW.then (CW.S (LW.C (LW.T (CW.ret ?_))))))))
 refine Af rfl rfl ⟨_, rfl, ?_⟩
 exact ⟨by rw [hr], hW⟩
end Go.Proofs.YtmimclgihlhaeaaGreat
end
section
namespace Go.Wx
def aI (k : Nat) (y : I5) : Fact := { Ij with Kind := 1, Version := 1, ID := wI (1 + (k : Int)), Wafer := wI (1 + Ar y.b 8), Tool := 2, Chamber := Ar y.e 2, Recipe := 1, Revision := 1, Time := Ar y.c 200, Until := wI (Ar y.c 200 + Ar y.d 20) }
def kP (k : Nat) (y : I5) : Fact := { Ij with Kind := 11, Version := 1, ID := wI (1 + (k : Int)), Tool := 2, Chamber := Ar y.e 2, Time := Ar y.c 200, Until := wI (Ar y.c 200 + Ar y.d 9) }
def Vo (k : Nat) (y : I5) : Fact := { Ij with Kind := 3, Version := 1, ID := wI (1 + (k : Int)), Wafer := wI (1 + Ar y.b 7), Time := Ar y.c 200 }
def aJ (y : I5) : Fact := { Ij with Kind := 4, Version := 1, Wafer := wI (1 + Ar y.b 8), Lot := wI (1 + Ar y.d 4), Product := 1, Time := wI ((Ar y.c 200).tdiv 4) }
def Vp (k : Nat) (y : I5) : Fact := if Ar y.a 10 = 0 then kP k y else if Ar y.a 10 = 1 then { Vo k y with Other := wI ((Vo k y).Wafer + 1) } else if Ar y.a 10 = 2 ∨ Ar y.a 10 = 3 then aJ y else aI k y
theorem Ub {k : Nat} {y : I5} (h : Ar y.a 10 = 0) : Vp k y = kP k y := if_pos h
theorem Uc {k : Nat} {y : I5} (h : Ar y.a 10 = 1) : Vp k y = { Vo k y with Other := wI ((Vo k y).Wafer + 1) } := by unfold Vp; rw [if_neg oQ, if_pos h]
theorem Ud {k : Nat} {y : I5} (h : Ar y.a 10 = 2 ∨ Ar y.a 10 = 3) : Vp k y = aJ y := by unfold Vp; rw [if_neg oQ, if_neg oQ, if_pos h]
theorem Ue {k : Nat} {y : I5} (h0 : ¬ Ar y.a 10 = 0) (h1 : ¬ Ar y.a 10 = 1) (h2 : ¬ Ar y.a 10 = 2) (h3 : ¬ Ar y.a 10 = 3) : Vp k y = aI k y := by unfold Vp; rw [if_neg h0, if_neg h1, if_neg (by omega)]
def D4 (xs : List I5) : List Fact := (xs.take 30).mapIdx Vp
theorem Ip (xs : List I5) : (D4 xs).length ≤ 30 := by unfold D4; rw [List.length_mapIdx, List.length_take]; omega
theorem H2 {xs : List I5} {k : Nat} {y : I5} (hy : xs[k]? = some y) (hk : k < 30) : D4 (xs.take (k + 1)) = D4 (xs.take k) ++ [Vp k y] := by
 have hl := (List.getElem?_eq_some_iff.1 hy).1
 unfold D4
 rw [List.take_take, List.take_take, Nat.min_eq_right oQ, Nat.min_eq_right oQ, List.take_add_one, hy, Option.toList_some, List.mapIdx_append, List.length_take, Nat.min_eq_left (by omega)]
 simp
theorem kR {xs : List I5} {k : Nat} (h : ¬ (k < xs.length ∧ k < 30)) : D4 (xs.take k) = D4 xs := by
 unfold D4
 rw [List.take_take]
 congr 1
 by_cases h1 : k < 30
 · rw [Nat.min_eq_right oQ, List.take_of_length_le oQ, List.take_of_length_le (by omega)]
 rw [Nat.min_eq_left (by omega)]
theorem Yg {La : List VP} {k : Nat} {x : VP} {wf : Int} (hx : La[k]? = some x) (h : decide (x.vd.w = wf) = true) (hn : ∀ y ∈ La.take k, decide (y.vd.w = wf) = false) : x.vd = Ju (La.map (·.vd)) wf := by
 unfold Ju
 rw [M6 (p := fun v : Vd => decide (v.w = wf)) (k := k) (x := x.vd) (by rw [List.getElem?_map, hx]; rfl) h fun v hv => by
   rw [← List.map_take] at hv
   obtain ⟨p, hp, rfl⟩ := List.mem_map.1 hv
   exact hn p hp]
 rfl
theorem cL {La : List VP} {wf : Int} (hn : ∀ y ∈ La, decide (y.vd.w = wf) = false) : Ju (La.map (·.vd)) wf = Ye := by
 unfold Ju
 rw [List.find?_eq_none.2 fun v hv => by
   obtain ⟨p, hp, rfl⟩ := List.mem_map.1 hv
   rw [hn p hp]; exact Bool.false_ne_true]
 rfl
end Go.Wx
namespace Go.Proofs.YtmimclgihlhaeaaGreat
open Go.Proofs.Tryz
open Go.Wx Go.RowKit
theorem aK (y : I5) (w : World) : Ret Tryz.prog 15 #[.agg y.cells] w fun r w' => r = .agg (Io y).cells ∧ Up w w' := by
 obtain ⟨w0, rfl⟩ : ∃ w0, w0 = w := ⟨_, rfl⟩
 have hS := Sep.start no w0
 refine cS (n := 22) (m := 9) func15 rfl rfl rfl ?_
 refine CW.S ?_
 refine Ah (.Eu (.t rfl)) rfl ?_
 rintro _ w1 ⟨B1, rfl, NB1⟩
 have eB1 := NB1.at_
 have zB1 := NB1.size
 replace hS := hS.C7 NB1
 change Wx.Sep _ _ _ [_] at hS
 refine Ah (.A7 zeroValue25) rfl ?_
 rintro _ w2 ⟨B2, rfl, NB2⟩
 have eB2 := NB2.at_
 have zB2 := NB2.size
 replace hS := hS.C7 NB2
 change Wx.Sep _ _ _ [_, _] at hS
 refine LW.S ?_
 refine Hm 11 [.eq (.pointer (some ⟨B1, 0, none⟩)), .eq (vi (y.a)), .eq (vi (Ar y.a 2)), .eq (.pointer (some ⟨B1, 1, none⟩)), .eq (vi (y.b)), .eq (vi (Ar y.b 200)), .eq (.pointer (some ⟨B1, 3, none⟩)), .eq (vi (y.d)), .eq (vi (Ar y.d 12)), .eq (.agg (Exc.mk 2 (Ar y.a 2) (Ar y.b 200) 0 (Ar y.d 12)).cells), .pred fun v W => ∃ B, v = .pointer (some ⟨B, 0, none⟩) ∧ w2.drew.heap.size ≤ B ∧ Blk W B (Exc.mk 0 0 0 0 0).cells 25] [3, 13] kQ rfl kQ kQ kQ kQ kQ kQ kQ ⟨PhU.eq _, PhU.eq _, PhU.eq _, PhU.eq _, PhU.eq _, PhU.eq _, PhU.eq _, PhU.eq _, PhU.eq _, PhU.eq _, PhU.pred fun _ _ _ h u => let ⟨B, e, hz, hb⟩ := h; ⟨B, e, hz, hb.up u⟩, trivial⟩ ?_ ?_
 ·intro W hU0
  have hU := (Up.drew w2).trans hU0
  have zU0 := hU0.size
  refine aC ⟨rfl, TU.p (.Cl (j := 0) underlying26 sizeOf3 (.t rfl) (.const _) cQ) rfl⟩ ?_
  refine aC ⟨rfl, TU.p (.ld isAgg3 rfl (((hS.blk 0 rfl).up hU).Ak rfl)) rfl⟩ ?_
  refine aC ⟨rfl, TU.c (eC (.cons (.t rfl) (.cons (.const _) .nil)) (Jf)) (Cg _ _ _ cQ) sQ⟩ ?_
  refine aC ⟨rfl, TU.p (.Cl (j := 1) underlying26 sizeOf3 (.t rfl) (.const _) cQ) rfl⟩ ?_
  refine aC ⟨rfl, TU.p (.ld isAgg3 rfl (((hS.blk 0 rfl).up hU).Ak rfl)) rfl⟩ ?_
  refine aC ⟨rfl, TU.c (eC (.cons (.t rfl) (.cons (.const _) .nil)) (Jf)) (Cg _ _ _ cQ) sQ⟩ ?_
  refine aC ⟨rfl, TU.p (.Cl (j := 3) underlying26 sizeOf3 (.t rfl) (.const _) cQ) rfl⟩ ?_
  refine aC ⟨rfl, TU.p (.ld isAgg3 rfl (((hS.blk 0 rfl).up hU).Ak rfl)) rfl⟩ ?_
  refine aC ⟨rfl, TU.c (eC (.cons (.t rfl) (.cons (.const _) .nil)) (Jf)) (Cg _ _ _ cQ) sQ⟩ ?_
  refine aC ⟨rfl, TU.p (.build (cs := (Exc.mk 2 (Ar y.a 2) (Ar y.b 200) 0 (Ar y.d 12)).cells) underlying25 zeroValue25 G2 (.cons (.const _) (.cons (.t rfl) (.cons (.t rfl) (.cons (.t rfl) .nil)))) rfl) rfl⟩ ?_
  refine aC ⟨rfl, TU.r (REv.A7 zeroValue25) (fun v W' h => let ⟨B, e, N⟩ := h; ⟨N.up, B, e, by rw [N.at_]; exact zU0, N.blk⟩)⟩ ?_
  exact allL.nil
 intro w3 g hU0 hg
 have hU := (Up.drew w2).trans hU0
 have zw3 := hU.size
 obtain ⟨B3, e6, z6, hB3⟩ : ∃ B, g 3 = .pointer (some ⟨B, 0, none⟩) ∧ w2.drew.heap.size ≤ B ∧ Blk w3 B (Exc.mk 0 0 0 0 0).cells 25 := hg 10 _ 3 cQ rfl rfl
 have e45 : g 13 = .agg (Exc.mk 2 (Ar y.a 2) (Ar y.b 200) 0 (Ar y.d 12)).cells := hg 9 _ 13 cQ rfl rfl
 change LW _ _ _ _ _ _ _ _ ((3, .eq (g 3)) :: (13, .eq (g 13)) :: _) _
 rw [e6, e45]
 clear hg e6 e45
 replace hS := (hS.up (Up.drew _)).add hU0 (A' := Cq B3 (Exc.mk 0 0 0 0 0).cells 25) hB3 (fun i (e : i = B3) => by omega)
 change Wx.Sep no w0 _ [_, _, _] at hS
 refine LW.E (.A3 sizeOf25 rfl (.t rfl) (.t rfl) (Exc.one _) (hS.blk 2 rfl) rfl) ?_
 intro w4 Nw4
 have zw4 := Nw4.size
 replace hS := hS.Gf 2 rfl (show Set_ _ w4 _ ((Exc.mk 2 (Ar y.a 2) (Ar y.b 200) 0 (Ar y.d 12)).cells) _ from Nw4)
 change Wx.Sep _ _ _ [_, _, _] at hS
 refine LW.S ?_
 refine Ek 6 kQ kQ kQ kQ kQ rfl rfl ?_
 refine HW.pp (.fA 2 underlying25 rfl sizeOf3 rfl) ?_
 refine HW.pp (.ld isAgg3 rfl ((hS.blk 2 rfl).Ak rfl)) ?_
 refine HW.pp (.Cl (j := 2) underlying26 sizeOf3 (.t rfl) (.const _) cQ) ?_
 refine HW.pp (.ld isAgg3 rfl ((hS.blk 0 rfl).Ak rfl)) ?_
 refine HW.c (fun a w _ ha => Ch (.cons (.t rfl) (.cons (.const _) .nil)) (Jf) a ha) rfl rfl (fun w hu => Cg _ _ w cQ) ?_
 refine HW.pp (.H3 (.t rfl) (.t rfl)) ?_
 refine HW.nil ?_
 intro w5 uw5
 have zw5 := uw5.size
 replace hS := hS.up uw5
 refine LW.pp (.fA 3 underlying25 rfl sizeOf3 rfl) ?_
 refine LW.E (.store sizeOf3 (.t rfl) (.t rfl) rfl (hS.blk 2 rfl) (Nat.le_of_ble_eq_true rfl)) ?_
 intro w6 Nw6
 have zw6 := Nw6.size
 replace hS := hS.Gf 2 rfl (show Set_ _ w6 _ ((Io y).cells) _ from Nw6)
 change Wx.Sep _ _ _ [_, _, _] at hS
 refine LW.S (CW.region ?_)
 refine LW.pp (.la isAgg25 sizeOf25 rfl ((hS.blk 2 rfl).agg)) ?_
 refine LW.E (.A3 sizeOf25 rfl (.t rfl) (.t rfl) (Exc.one _) (hS.blk 1 rfl) rfl) ?_
 intro w7 Nw7
 have zw7 := Nw7.size
 replace hS := hS.Gf 1 rfl Nw7
 change Wx.Sep _ _ _ [_, _, _] at hS
 refine LW.T (CW.ret ?_)
 refine Fa rfl rfl isAgg25 sizeOf25 rfl ((hS.blk 1 rfl).agg) ⟨_, rfl, ?_⟩
 exact ⟨rfl, hS.Cu⟩
theorem S7 (ad : Option Addr) (cp : Nat) (La : List VP) (wf : Int) (w : World) (hE0 : Els w ad 3 VP.cells La) (hl : La.length ≤ 1000000000) : Ret Tryz.prog 29 #[.slice ad La.length cp, vi wf] w fun r w' => ((∃ p ∈ La, r = .agg p.cells ∧ p.vd = Ju (La.map (·.vd)) wf) ∨ (r = .agg (VP.mk Ye none 0).cells ∧ Ju (La.map (·.vd)) wf = Ye ∧ ∀ p ∈ La, ¬ p.vd.w = wf)) ∧ Up w w' := by
 obtain ⟨w0, rfl⟩ : ∃ w0, w0 = w := ⟨_, rfl⟩
 have hS := Sep.start no w0
 refine cS (n := 24) (m := 9) func29 rfl rfl rfl ?_
 refine CW.S ?_
 refine Ah (.A7 zeroValue32) rfl ?_
 rintro _ w1 ⟨B4, rfl, NB4⟩
 have eB4 := NB4.at_
 have zB4 := NB4.size
 replace hS := hS.C7 NB4
 change Wx.Sep _ _ _ [_] at hS
 refine LW.S (CW.S (LW.C (LW.T (CW.block ?_))))
 refine Am (σ := Nat) (fun s w => (s ≤ La.length) ∧ (∀ y ∈ La.take s, decide (y.vd.w = wf) = false) ∧ (Wx.Sep no w0 w [Cq B4 (VP.mk ⟨0, 0, []⟩ none 0).cells 32])) (fun s => [(5, .eq (vi (s : Int)))]) ([(0, .eq _), (1, .eq _), (4, .eq _)]) (fun s => La.length - s) 0 ?_ ⟨rfl, rfl, rfl, rfl, trivial⟩ ?_
 ·exact ⟨Nat.zero_le _, by simp, hS⟩
 rintro k w2 ⟨hk, hn, hS⟩
 refine CW.seq (CW.S (LW.M rfl (LW.M rfl ?_)))
 refine LW.pp (.Dq underlying27 (.t rfl)) ?_
 refine LW.pp (.lss (.t rfl) (.t rfl)) ?_
 refine LW.T ?_
 refine CW.cond (.t rfl) (fun h9 => ?_) (fun h9 => ?_)
 ·replace h9 := dQ h9
  refine CW.skip (KW.then (CW.seq (CW.block (CW.seq ?_))))
  obtain ⟨x, hx⟩ := Ac (xs := La) (i := k) oQ
  obtain ⟨Bx, ox, ax, hcx⟩ := (Els.up hE0 hS.Cu) k x hx
  refine CW.region (LW.M rfl (LW.M rfl ?_))
  refine LW.pp (.An underlying27 sizeOf32 (j := k) (.t rfl) (.t rfl) oQ ax) ?_
  refine LW.pp (.fA 0 underlying32 rfl sizeOf3 rfl) ?_
  refine LW.pp (.ld isAgg3 rfl (hcx.nth (j := 0) rfl)) ?_
  refine LW.M rfl ?_
  refine LW.pp (.eql (.t rfl) (.t rfl)) ?_
  refine LW.T ?_
  refine CW.cond (.t rfl) (fun h18 => ?_) (fun h18 => ?_)
  ·replace h18 := dQ h18
   have hxw : decide (x.vd.w = wf) = true := by simpa using h18
   refine CW.S (LW.M rfl (LW.M rfl ?_))
   refine LW.pp (.An underlying27 sizeOf32 (j := k) (.t rfl) (.t rfl) oQ ax) ?_
   refine LW.pp (.la isAgg32 sizeOf32 rfl (hcx)) ?_
   refine LW.E (.A3 sizeOf32 rfl (.t rfl) (.t rfl) (VP.one _) (hS.blk 0 rfl) rfl) ?_
   intro w3 Nw3
   have zw3 := Nw3.size
   replace hS := hS.Gf 0 rfl Nw3
   change Wx.Sep _ _ _ [_] at hS
   refine LW.T (CW.ret (Ao (Ae (Ae (Ao (Ae ?_))))))
   refine Fa rfl rfl isAgg32 sizeOf32 rfl ((hS.blk 0 rfl).agg) ⟨_, rfl, ?_⟩
   first | exact ⟨.inl ⟨x, List.mem_of_getElem? hx, rfl, Yg hx hxw hn⟩, hS.Cu⟩ | (rw [show k = La.length by omega, List.take_length] at hn; exact ⟨.inr ⟨rfl, cL hn, fun p hp => of_decide_eq_false (hn p hp)⟩, hS.Cu⟩)
  replace h18 := dQ h18
  have hxw : decide (x.vd.w = wf) = false := by simpa using h18
  refine CW.skip (KW.inBlock (KW.then (CW.region (LW.M rfl ?_))))
  refine LW.pp (.inc (.t rfl) oQ) ?_
  refine LW.A rfl (LW.nil (KW.round ?_))
  exact ⟨k + 1, ⟨by omega, Il (p := fun y : VP => decide (y.vd.w = wf)) hx hn hxw, hS.take 1⟩, ⟨rfl, rfl, rfl, rfl, trivial⟩, by first | omega | (dsimp only; omega)⟩
 replace h9 := dQ h9
 refine CW.exit (Aa (Aa (Ad (KW.then (CW.S ?_)))))
 refine LW.pp (.build (cs := (VP.mk Ye none 0).cells) underlying32 zeroValue32 El (.cons (.const _) .nil) (rfl)) ?_
 refine LW.E (.A3 sizeOf32 rfl (.t rfl) (.t rfl) (VP.one _) (hS.blk 0 rfl) rfl) ?_
 intro w4 Nw4
 have zw4 := Nw4.size
 replace hS := hS.Gf 0 rfl Nw4
 change Wx.Sep _ _ _ [_] at hS
 refine LW.T (CW.ret ?_)
 refine Fa rfl rfl isAgg32 sizeOf32 rfl ((hS.blk 0 rfl).agg) ⟨_, rfl, ?_⟩
 first | exact ⟨.inl ⟨x, List.mem_of_getElem? hx, rfl, Yg hx hxw hn⟩, hS.Cu⟩ | (rw [show k = La.length by omega, List.take_length] at hn; exact ⟨.inr ⟨rfl, cL hn, fun p hp => of_decide_eq_false (hn p hp)⟩, hS.Cu⟩)
set_option maxHeartbeats 2000000 in
theorem Yh (ad : Option Addr) (cp : Nat) (xs : List I5) (w : World) (hE0 : Els w ad 5 I5.cells xs) : Ret Tryz.prog 14 #[.slice ad xs.length cp] w fun r w' => OwnS w' w.heap.size 36 19 Fact.cells r (D4 xs) ∧ Up w w' := by
 obtain ⟨w0, rfl⟩ : ∃ w0, w0 = w := ⟨_, rfl⟩
 have hS := Sep.start no w0
 refine cS (n := 91) (m := 9) func14 rfl rfl rfl ?_
 refine CW.S (LW.C (LW.S (CW.region (LW.C (LW.S (CW.seq ?_))))))
 replace hS := hS.add (Up.refl _) (A' := Ai 36 19 Fact.cells (.slice none 0 0) ([] : List Fact)) (OwnS.nil _ _ _ _ _) (fun i h => by cases h)
 change Wx.Sep _ _ _ [_] at hS
 refine CW.region (LW.C (LW.T (CW.block ?_)))
 refine Am (σ := Nat × Go.Value) (fun s w => (s.1 ≤ xs.length ∧ s.1 ≤ 30) ∧ (Wx.Sep no w0 w [Ai 36 19 Fact.cells s.2 (D4 (xs.take s.1))])) (fun s => [(4, .eq (vi (s.1 : Int))), (3, .eq (s.2))]) ([(0, .eq _), (2, .eq _)]) (fun s => xs.length - s.1) (0, .slice none 0 0) ?_ ⟨rfl, rfl, rfl, rfl, trivial⟩ ?_
 ·exact ⟨⟨Nat.zero_le _, Nat.zero_le _⟩, hS⟩
 rintro ⟨k, v⟩ w1 ⟨hk, hS⟩
 dsimp only at hk hS
 change CW _ _ _ _ _ _ _ ([(4, .eq (vi (k : Int))), (3, .eq (v))] ++ _) _
 refine CW.seq (CW.S (LW.M rfl (LW.M rfl ?_)))
 refine LW.pp (.Dq underlying22 (.t rfl)) ?_
 refine LW.pp (.lss (.t rfl) (.t rfl)) ?_
 refine LW.M rfl ?_
 refine LW.g rfl rfl rfl rfl rfl rfl rfl (fun hc => PEv.move (.t rfl)) ?_
 refine LW.g rfl rfl rfl rfl rfl rfl rfl (fun hc => PEv.lss vQ (.const _)) ?_
 refine LW.pp (.Az (.t rfl) (fun hp => (by first | exact .const _ | exact .tmp rfl | exact .cond rfl (by first | assumption | simp_all)))) ?_
 refine LW.T ?_
 refine CW.cond (.t rfl) (fun h15 => ?_) (fun h15 => ?_)
 ·replace h15 := dQ h15
  refine CW.skip (KW.then (CW.seq (CW.block (CW.seq ?_))))
  have hE := hE0.up hS.Cu
  have hkl : k < xs.length ∧ k < 30 := by simp at h15; omega
  refine CW.region (LW.M rfl (LW.M rfl ?_))
  obtain ⟨y, hy⟩ := Ac (xs := xs) (i := k) oQ
  obtain ⟨By, oy, ay, hcy⟩ := hE _ y hy
  refine LW.pp (.An underlying22 sizeOf26 (.t rfl) (.t rfl) oQ ay) ?_
  refine LW.pp (.la isAgg26 sizeOf26 rfl (hcy)) ?_
  refine Ah (.A7 zeroValue26) rfl ?_
  rintro _ w2 ⟨B5, rfl, MB5⟩
  refine LW.E (.A3 sizeOf26 rfl (.t rfl) (.t rfl) (I5.one _) MB5.blk rfl) ?_
  intro w3 LB5
  have NB5 := MB5.set LB5
  clear LB5 MB5
  have eB5 := NB5.at_
  have zB5 := NB5.size
  replace hcy := hcy.up NB5.up
  replace hS := hS.C7 NB5
  change Wx.Sep _ _ _ [_, _] at hS
  refine LW.S (CW.region ?_)
  refine LW.pp (.Cl (j := 2) underlying26 sizeOf3 (.t rfl) (.const _) cQ) ?_
  refine LW.pp (.ld isAgg3 rfl ((hS.blk 1 rfl).Ak rfl)) ?_
  refine LW.K (eC (.cons (.t rfl) (.cons (.const _) .nil)) (Jf)) rfl (Cg _ _ _ cQ) ?_
  rintro _ w4 ⟨rfl, uw4⟩
  have zw4 := uw4.size
  replace hS := hS.up uw4
  refine LW.A rfl (LW.S ?_)
  refine Hm 17 [.eq (vi ((k : Int))), .eq (vi (wI (1 + (k : Int)))), .eq (.pointer (some ⟨B5, 1, none⟩)), .eq (vi (y.b)), .eq (vi (Ar y.b 8)), .eq (vi (wI (1 + Ar y.b 8))), .eq (.pointer (some ⟨B5, 4, none⟩)), .eq (vi (y.e)), .eq (vi (Ar y.e 2)), .eq (vi (Ar y.c 200)), .eq (vi (Ar y.c 200)), .eq (.pointer (some ⟨B5, 3, none⟩)), .eq (vi (y.d)), .eq (vi (Ar y.d 20)), .eq (vi (wI (Ar y.c 200 + Ar y.d 20))), .eq (.agg (aI k y).cells), .pred fun v W => ∃ B, v = .pointer (some ⟨B, 0, none⟩) ∧ w4.drew.heap.size ≤ B ∧ Blk W B Ij.cells 36] [7, 40] kQ rfl kQ kQ kQ kQ kQ kQ kQ ⟨PhU.eq _, PhU.eq _, PhU.eq _, PhU.eq _, PhU.eq _, PhU.eq _, PhU.eq _, PhU.eq _, PhU.eq _, PhU.eq _, PhU.eq _, PhU.eq _, PhU.eq _, PhU.eq _, PhU.eq _, PhU.eq _, PhU.pred fun _ _ _ h u => let ⟨B, e, hz, hb⟩ := h; ⟨B, e, hz, hb.up u⟩, trivial⟩ ?_ ?_
  ·intro W hU0
   have hU := (Up.drew w4).trans hU0
   have zU0 := hU0.size
   refine aC ⟨rfl, TU.p (.move (.t rfl)) rfl⟩ ?_
   refine aC ⟨rfl, TU.p (.H3 (.const _) (.t rfl)) rfl⟩ ?_
   refine aC ⟨rfl, TU.p (.Cl (j := 1) underlying26 sizeOf3 (.t rfl) (.const _) cQ) rfl⟩ ?_
   refine aC ⟨rfl, TU.p (.ld isAgg3 rfl (((hS.blk 1 rfl).up hU).Ak rfl)) rfl⟩ ?_
   refine aC ⟨rfl, TU.c (eC (.cons (.t rfl) (.cons (.const _) .nil)) (Jf)) (Cg _ _ _ cQ) sQ⟩ ?_
   refine aC ⟨rfl, TU.p (.H3 (.const _) (.t rfl)) rfl⟩ ?_
   refine aC ⟨rfl, TU.p (.Cl (j := 4) underlying26 sizeOf3 (.t rfl) (.const _) cQ) rfl⟩ ?_
   refine aC ⟨rfl, TU.p (.ld isAgg3 rfl (((hS.blk 1 rfl).up hU).Ak rfl)) rfl⟩ ?_
   refine aC ⟨rfl, TU.c (eC (.cons (.t rfl) (.cons (.const _) .nil)) (Jf)) (Cg _ _ _ cQ) sQ⟩ ?_
   refine aC ⟨rfl, TU.p (.move (.t rfl)) rfl⟩ ?_
   refine aC ⟨rfl, TU.p (.move (.t rfl)) rfl⟩ ?_
   refine aC ⟨rfl, TU.p (.Cl (j := 3) underlying26 sizeOf3 (.t rfl) (.const _) cQ) rfl⟩ ?_
   refine aC ⟨rfl, TU.p (.ld isAgg3 rfl (((hS.blk 1 rfl).up hU).Ak rfl)) rfl⟩ ?_
   refine aC ⟨rfl, TU.c (eC (.cons (.t rfl) (.cons (.const _) .nil)) (Jf)) (Cg _ _ _ cQ) sQ⟩ ?_
   refine aC ⟨rfl, TU.p (.H3 (.t rfl) (.t rfl)) rfl⟩ ?_
   refine aC ⟨rfl, TU.p (.build (cs := (aI k y).cells) underlying36 zeroValue36 C8 (.cons (.const _) (.cons (.const _) (.cons (.t rfl) (.cons (.t rfl) (.cons (.const _) (.cons (.t rfl) (.cons (.const _) (.cons (.const _) (.cons (.t rfl) (.cons (.t rfl) .nil)))))))))) kQ) rfl⟩ ?_
   refine aC ⟨rfl, TU.r (REv.A7 zeroValue36) (fun v W' h => let ⟨B, e, N⟩ := h; ⟨N.up, B, e, by rw [N.at_]; exact zU0, N.blk⟩)⟩ ?_
   exact allL.nil
  intro w5 g hU0 hg
  have hU := (Up.drew w4).trans hU0
  have zw5 := hU.size
  obtain ⟨B7, e6, z6, hB7⟩ : ∃ B, g 7 = .pointer (some ⟨B, 0, none⟩) ∧ w4.drew.heap.size ≤ B ∧ Blk w5 B Ij.cells 36 := hg 16 _ 7 cQ rfl rfl
  have e45 : g 40 = .agg (aI k y).cells := hg 15 _ 40 cQ rfl rfl
  change LW _ _ _ _ _ _ _ _ ((7, .eq (g 7)) :: (40, .eq (g 40)) :: _) _
  rw [e6, e45]
  clear hg e6 e45
  replace hS := (hS.up (Up.drew _)).add hU0 (A' := Cq B7 Ij.cells 36) hB7 (fun i (e : i = B7) => by omega)
  change Wx.Sep no w0 _ [_, _, _] at hS
  refine LW.E (.A3 sizeOf36 rfl (.t rfl) (.t rfl) (Fact.one _) (hS.blk 2 rfl) rfl) ?_
  intro w6 Nw6
  have zw6 := Nw6.size
  replace hS := hS.Gf 2 rfl (show Set_ _ w6 _ ((aI k y).cells) _ from Nw6)
  change Wx.Sep _ _ _ [_, _, _] at hS
  refine LW.S (CW.S ?_)
  refine LW.pp (.Cl (j := 0) underlying26 sizeOf3 (.t rfl) (.const _) cQ) ?_
  refine LW.pp (.ld isAgg3 rfl ((hS.blk 1 rfl).Ak rfl)) ?_
  refine LW.K (eC (.cons (.t rfl) (.cons (.const _) .nil)) (Jf)) rfl (Cg _ _ _ cQ) ?_
  rintro _ w7 ⟨rfl, uw7⟩
  have zw7 := uw7.size
  replace hS := hS.up uw7
  refine LW.T (CW.block (CW.S ?_))
  refine LW.pp (.eql (.t rfl) (.const _)) ?_
  refine LW.A rfl (LW.T ?_)
  refine CW.cond (.t rfl) (fun h44 => ?_) (fun h44 => ?_)
  ·replace h44 := dQ h44
   refine Ek 12 kQ kQ kQ kQ kQ rfl rfl ?_
   refine HW.pp (.move (.t rfl)) ?_
   refine HW.pp (.H3 (.const _) (.t rfl)) ?_
   refine HW.pp (.Cl (j := 4) underlying26 sizeOf3 (.t rfl) (.const _) cQ) ?_
   refine HW.pp (.ld isAgg3 rfl ((hS.blk 1 rfl).Ak rfl)) ?_
   refine HW.c (fun a w _ ha => Ch (.cons (.t rfl) (.cons (.const _) .nil)) (Jf) a ha) rfl rfl (fun w hu => Cg _ _ w cQ) ?_
   refine HW.pp (.move (.t rfl)) ?_
   refine HW.pp (.move (.t rfl)) ?_
   refine HW.pp (.Cl (j := 3) underlying26 sizeOf3 (.t rfl) (.const _) cQ) ?_
   refine HW.pp (.ld isAgg3 rfl ((hS.blk 1 rfl).Ak rfl)) ?_
   refine HW.c (fun a w _ ha => Ch (.cons (.t rfl) (.cons (.const _) .nil)) (Jf) a ha) rfl rfl (fun w hu => Cg _ _ w cQ) ?_
   refine HW.pp (.H3 (.t rfl) (.t rfl)) ?_
   refine HW.pp (.build (cs := (kP k y).cells) underlying36 zeroValue36 C8 (.cons (.const _) (.cons (.const _) (.cons (.t rfl) (.cons (.const _) (.cons (.t rfl) (.cons (.t rfl) (.cons (.t rfl) .nil))))))) kQ) ?_
   refine HW.nil ?_
   intro w8 uw8
   have zw8 := uw8.size
   replace hS := hS.up uw8
   refine LW.E (.A3 sizeOf36 rfl (.t rfl) (.t rfl) (Fact.one _) (hS.blk 2 rfl) rfl) ?_
   intro w9 Nw9
   have zw9 := Nw9.size
   replace hS := hS.Gf 2 rfl (show Set_ _ w9 _ ((kP k y).cells) _ from Nw9)
   change Wx.Sep _ _ _ [_, _, _] at hS
   refine LW.nil (KW.inBlock (KW.then ?_))
   first | rw [← Ub (by omega)] at hS | rw [← Uc (by omega)] at hS | rw [← Ud (by omega)] at hS | rw [← Ue oQ oQ oQ (by omega)] at hS
   have hsl := Ip (xs.take k)
   refine CW.region (LW.M rfl ?_)
   refine LW.pp (.la isAgg36 sizeOf36 rfl ((hS.blk 2 rfl).agg)) ?_
   refine Ah (.buildSlice (xs := [Vp k y]) (enc := Fact.cells) (mk := fun f : Fact => .agg f.cells) underlying23 sizeOf36 zeroValue36 rfl cQ (fun _ => rfl) (fun _ => rfl) (.cons (.t rfl) .nil) rfl) rfl ?_
   rintro _ w10 ⟨B88, cB88, rfl, NB88, yB88, xB88⟩
   have eB88 := NB88.at_
   have zB88 := NB88.size
   replace hS := hS.up NB88.up
   have hE88 := xB88
   refine Ah (.C3 (enc := Fact.cells) (bytes := 160) (i := Tryz.t36) underlying23 kQ rfl rfl rfl rfl cQ (fun _ => rfl) Fact.one (.t rfl) (.t rfl) (hS.own 0 rfl) (Aj hE88) (by have := hsl; simp [maxLen]; omega) (by have := hsl; simp; omega)) rfl ?_
   intro v89 w11 Gw11
   have zw11 := Gw11.fr.size
   replace hS := hS.Dj 0 rfl Gw11
   change Wx.Sep _ _ _ [_, _, _] at hS
   refine LW.A rfl (LW.nil (KW.inBlock (KW.then (CW.region (LW.M rfl ?_)))))
   refine LW.pp (.inc (.t rfl) oQ) ?_
   refine LW.A rfl (LW.nil (KW.round ?_))
   exact ⟨(k + 1, v89), ⟨⟨by show k + 1 ≤ _; omega, by show k + 1 ≤ _; omega⟩, by rw [H2 hy hkl.2]; exact hS.take 1⟩, ⟨rfl, rfl, rfl, rfl, trivial⟩, by show xs.length - (k + 1) < xs.length - k; omega⟩
  replace h44 := dQ h44
  refine CW.S ?_
  refine LW.pp (.eql (.t rfl) (.const _)) ?_
  refine LW.A rfl (LW.T ?_)
  refine CW.cond (.t rfl) (fun h58 => ?_) (fun h58 => ?_)
  ·replace h58 := dQ h58
   refine CW.S (LW.M rfl ?_)
   refine LW.pp (.H3 (.const _) (.t rfl)) ?_
   refine LW.pp (.Cl (j := 1) underlying26 sizeOf3 (.t rfl) (.const _) cQ) ?_
   refine LW.pp (.ld isAgg3 rfl ((hS.blk 1 rfl).Ak rfl)) ?_
   refine LW.K (eC (.cons (.t rfl) (.cons (.const _) .nil)) (Jf)) rfl (Cg _ _ _ cQ) ?_
   rintro _ w12 ⟨rfl, uw12⟩
   have zw12 := uw12.size
   replace hS := hS.up uw12
   refine LW.pp (.H3 (.const _) (.t rfl)) ?_
   refine LW.M rfl ?_
   refine LW.pp (.build (cs := (Vo k y).cells) underlying36 zeroValue36 C8 (.cons (.const _) (.cons (.const _) (.cons (.t rfl) (.cons (.t rfl) (.cons (.t rfl) .nil))))) kQ) ?_
   refine LW.E (.A3 sizeOf36 rfl (.t rfl) (.t rfl) (Fact.one _) (hS.blk 2 rfl) rfl) ?_
   intro w13 Nw13
   have zw13 := Nw13.size
   replace hS := hS.Gf 2 rfl (show Set_ _ w13 _ ((Vo k y).cells) _ from Nw13)
   change Wx.Sep _ _ _ [_, _, _] at hS
   refine LW.T (CW.region ?_)
   refine LW.pp (.fA 7 underlying36 rfl sizeOf3 rfl) ?_
   refine LW.pp (.ld isAgg3 rfl ((hS.blk 2 rfl).Ak rfl)) ?_
   refine LW.pp (.H3 (.t rfl) (.const _)) ?_
   refine LW.pp (.fA 8 underlying36 rfl sizeOf3 rfl) ?_
   refine LW.E (.store sizeOf3 (.t rfl) (.t rfl) rfl (hS.blk 2 rfl) (Nat.le_of_ble_eq_true rfl)) ?_
   intro w14 Nw14
   have zw14 := Nw14.size
   replace hS := hS.Gf 2 rfl (show Set_ _ w14 _ (({ Vo k y with Other := wI ((Vo k y).Wafer + 1) } : Fact).cells) _ from Nw14)
   change Wx.Sep _ _ _ [_, _, _] at hS
   refine LW.nil (KW.inBlock (KW.then ?_))
   first | rw [← Ub (by omega)] at hS | rw [← Uc (by omega)] at hS | rw [← Ud (by omega)] at hS | rw [← Ue oQ oQ oQ (by omega)] at hS
   have hsl := Ip (xs.take k)
   refine CW.region (LW.M rfl ?_)
   refine LW.pp (.la isAgg36 sizeOf36 rfl ((hS.blk 2 rfl).agg)) ?_
   refine Ah (.buildSlice (xs := [Vp k y]) (enc := Fact.cells) (mk := fun f : Fact => .agg f.cells) underlying23 sizeOf36 zeroValue36 rfl cQ (fun _ => rfl) (fun _ => rfl) (.cons (.t rfl) .nil) rfl) rfl ?_
   rintro _ w15 ⟨B88, cB88, rfl, NB88, yB88, xB88⟩
   have eB88 := NB88.at_
   have zB88 := NB88.size
   replace hS := hS.up NB88.up
   have hE88 := xB88
   refine Ah (.C3 (enc := Fact.cells) (bytes := 160) (i := Tryz.t36) underlying23 kQ rfl rfl rfl rfl cQ (fun _ => rfl) Fact.one (.t rfl) (.t rfl) (hS.own 0 rfl) (Aj hE88) (by have := hsl; simp [maxLen]; omega) (by have := hsl; simp; omega)) rfl ?_
   intro v89 w16 Gw16
   have zw16 := Gw16.fr.size
   replace hS := hS.Dj 0 rfl Gw16
   change Wx.Sep _ _ _ [_, _, _] at hS
   refine LW.A rfl (LW.nil (KW.inBlock (KW.then (CW.region (LW.M rfl ?_)))))
   refine LW.pp (.inc (.t rfl) oQ) ?_
   refine LW.A rfl (LW.nil (KW.round ?_))
   exact ⟨(k + 1, v89), ⟨⟨by show k + 1 ≤ _; omega, by show k + 1 ≤ _; omega⟩, by rw [H2 hy hkl.2]; exact hS.take 1⟩, ⟨rfl, rfl, rfl, rfl, trivial⟩, by show xs.length - (k + 1) < xs.length - k; omega⟩
  replace h58 := dQ h58
  refine CW.seq (CW.S ?_)
  refine LW.pp (.eql (.t rfl) (.const _)) ?_
  refine LW.A rfl (LW.T ?_)
  refine CW.cond (.t rfl) (fun h72 => ?_) (fun h72 => ?_)
  ·replace h72 := dQ h72
   refine CW.skip (KW.then ?_)
   refine CW.cond (.t rfl) (fun h72 => ?_) (fun h72 => ?_)
   ·replace h72 := dQ h72
    refine Ek 11 kQ kQ kQ kQ kQ rfl rfl ?_
    refine HW.pp (.Cl (j := 1) underlying26 sizeOf3 (.t rfl) (.const _) cQ) ?_
    refine HW.pp (.ld isAgg3 rfl ((hS.blk 1 rfl).Ak rfl)) ?_
    refine HW.c (fun a w _ ha => Ch (.cons (.t rfl) (.cons (.const _) .nil)) (Jf) a ha) rfl rfl (fun w hu => Cg _ _ w cQ) ?_
    refine HW.pp (.H3 (.const _) (.t rfl)) ?_
    refine HW.pp (.Cl (j := 3) underlying26 sizeOf3 (.t rfl) (.const _) cQ) ?_
    refine HW.pp (.ld isAgg3 rfl ((hS.blk 1 rfl).Ak rfl)) ?_
    refine HW.c (fun a w _ ha => Ch (.cons (.t rfl) (.cons (.const _) .nil)) (Jf) a ha) rfl rfl (fun w hu => Cg _ _ w cQ) ?_
    refine HW.pp (.H3 (.const _) (.t rfl)) ?_
    refine HW.pp (.move (.t rfl)) ?_
    refine HW.pp (.quo (.t rfl) (.const _) cQ) ?_
    refine HW.pp (.build (cs := (aJ y).cells) underlying36 zeroValue36 C8 (.cons (.const _) (.cons (.const _) (.cons (.t rfl) (.cons (.t rfl) (.cons (.const _) (.cons (.t rfl) .nil)))))) kQ) ?_
    refine HW.nil ?_
    intro w17 uw17
    have zw17 := uw17.size
    replace hS := hS.up uw17
    refine LW.E (.A3 sizeOf36 rfl (.t rfl) (.t rfl) (Fact.one _) (hS.blk 2 rfl) rfl) ?_
    intro w18 Nw18
    have zw18 := Nw18.size
    replace hS := hS.Gf 2 rfl (show Set_ _ w18 _ ((aJ y).cells) _ from Nw18)
    change Wx.Sep _ _ _ [_, _, _] at hS
    refine LW.nil (KW.inBlock (KW.then ?_))
    first | rw [← Ub (by omega)] at hS | rw [← Uc (by omega)] at hS | rw [← Ud (by omega)] at hS | rw [← Ue oQ oQ oQ (by omega)] at hS
    have hsl := Ip (xs.take k)
    refine CW.region (LW.M rfl ?_)
    refine LW.pp (.la isAgg36 sizeOf36 rfl ((hS.blk 2 rfl).agg)) ?_
    refine Ah (.buildSlice (xs := [Vp k y]) (enc := Fact.cells) (mk := fun f : Fact => .agg f.cells) underlying23 sizeOf36 zeroValue36 rfl cQ (fun _ => rfl) (fun _ => rfl) (.cons (.t rfl) .nil) rfl) rfl ?_
    rintro _ w19 ⟨B88, cB88, rfl, NB88, yB88, xB88⟩
    have eB88 := NB88.at_
    have zB88 := NB88.size
    replace hS := hS.up NB88.up
    have hE88 := xB88
    refine Ah (.C3 (enc := Fact.cells) (bytes := 160) (i := Tryz.t36) underlying23 kQ rfl rfl rfl rfl cQ (fun _ => rfl) Fact.one (.t rfl) (.t rfl) (hS.own 0 rfl) (Aj hE88) (by have := hsl; simp [maxLen]; omega) (by have := hsl; simp; omega)) rfl ?_
    intro v89 w20 Gw20
    have zw20 := Gw20.fr.size
    replace hS := hS.Dj 0 rfl Gw20
    change Wx.Sep _ _ _ [_, _, _] at hS
    refine LW.A rfl (LW.nil (KW.inBlock (KW.then (CW.region (LW.M rfl ?_)))))
    refine LW.pp (.inc (.t rfl) oQ) ?_
    refine LW.A rfl (LW.nil (KW.round ?_))
    exact ⟨(k + 1, v89), ⟨⟨by show k + 1 ≤ _; omega, by show k + 1 ≤ _; omega⟩, by rw [H2 hy hkl.2]; exact hS.take 1⟩, ⟨rfl, rfl, rfl, rfl, trivial⟩, by show xs.length - (k + 1) < xs.length - k; omega⟩
   replace h72 := dQ h72
   refine CW.skip (KW.inBlock (KW.then ?_))
   first | rw [← Ub (by omega)] at hS | rw [← Uc (by omega)] at hS | rw [← Ud (by omega)] at hS | rw [← Ue oQ oQ oQ (by omega)] at hS
   have hsl := Ip (xs.take k)
   refine CW.region (LW.M rfl ?_)
   refine LW.pp (.la isAgg36 sizeOf36 rfl ((hS.blk 2 rfl).agg)) ?_
   refine Ah (.buildSlice (xs := [Vp k y]) (enc := Fact.cells) (mk := fun f : Fact => .agg f.cells) underlying23 sizeOf36 zeroValue36 rfl cQ (fun _ => rfl) (fun _ => rfl) (.cons (.t rfl) .nil) rfl) rfl ?_
   rintro _ w21 ⟨B88, cB88, rfl, NB88, yB88, xB88⟩
   have eB88 := NB88.at_
   have zB88 := NB88.size
   replace hS := hS.up NB88.up
   have hE88 := xB88
   refine Ah (.C3 (enc := Fact.cells) (bytes := 160) (i := Tryz.t36) underlying23 kQ rfl rfl rfl rfl cQ (fun _ => rfl) Fact.one (.t rfl) (.t rfl) (hS.own 0 rfl) (Aj hE88) (by have := hsl; simp [maxLen]; omega) (by have := hsl; simp; omega)) rfl ?_
   intro v89 w22 Gw22
   have zw22 := Gw22.fr.size
   replace hS := hS.Dj 0 rfl Gw22
   change Wx.Sep _ _ _ [_, _, _] at hS
   refine LW.A rfl (LW.nil (KW.inBlock (KW.then (CW.region (LW.M rfl ?_)))))
   refine LW.pp (.inc (.t rfl) oQ) ?_
   refine LW.A rfl (LW.nil (KW.round ?_))
   exact ⟨(k + 1, v89), ⟨⟨by show k + 1 ≤ _; omega, by show k + 1 ≤ _; omega⟩, by rw [H2 hy hkl.2]; exact hS.take 1⟩, ⟨rfl, rfl, rfl, rfl, trivial⟩, by show xs.length - (k + 1) < xs.length - k; omega⟩
  replace h72 := dQ h72
  refine CW.region ?_
  refine LW.pp (.eql (.t rfl) (.const _)) ?_
  refine LW.A rfl (LW.T ?_)
  refine CW.cond (.t rfl) (fun h72 => ?_) (fun h72 => ?_)
  ·replace h72 := dQ h72
   refine Ek 11 kQ kQ kQ kQ kQ rfl rfl ?_
   refine HW.pp (.Cl (j := 1) underlying26 sizeOf3 (.t rfl) (.const _) cQ) ?_
   refine HW.pp (.ld isAgg3 rfl ((hS.blk 1 rfl).Ak rfl)) ?_
   refine HW.c (fun a w _ ha => Ch (.cons (.t rfl) (.cons (.const _) .nil)) (Jf) a ha) rfl rfl (fun w hu => Cg _ _ w cQ) ?_
   refine HW.pp (.H3 (.const _) (.t rfl)) ?_
   refine HW.pp (.Cl (j := 3) underlying26 sizeOf3 (.t rfl) (.const _) cQ) ?_
   refine HW.pp (.ld isAgg3 rfl ((hS.blk 1 rfl).Ak rfl)) ?_
   refine HW.c (fun a w _ ha => Ch (.cons (.t rfl) (.cons (.const _) .nil)) (Jf) a ha) rfl rfl (fun w hu => Cg _ _ w cQ) ?_
   refine HW.pp (.H3 (.const _) (.t rfl)) ?_
   refine HW.pp (.move (.t rfl)) ?_
   refine HW.pp (.quo (.t rfl) (.const _) cQ) ?_
   refine HW.pp (.build (cs := (aJ y).cells) underlying36 zeroValue36 C8 (.cons (.const _) (.cons (.const _) (.cons (.t rfl) (.cons (.t rfl) (.cons (.const _) (.cons (.t rfl) .nil)))))) kQ) ?_
   refine HW.nil ?_
   intro w23 uw23
   have zw23 := uw23.size
   replace hS := hS.up uw23
   refine LW.E (.A3 sizeOf36 rfl (.t rfl) (.t rfl) (Fact.one _) (hS.blk 2 rfl) rfl) ?_
   intro w24 Nw24
   have zw24 := Nw24.size
   replace hS := hS.Gf 2 rfl (show Set_ _ w24 _ ((aJ y).cells) _ from Nw24)
   change Wx.Sep _ _ _ [_, _, _] at hS
   refine LW.nil (KW.inBlock (KW.then ?_))
   first | rw [← Ub (by omega)] at hS | rw [← Uc (by omega)] at hS | rw [← Ud (by omega)] at hS | rw [← Ue oQ oQ oQ (by omega)] at hS
   have hsl := Ip (xs.take k)
   refine CW.region (LW.M rfl ?_)
   refine LW.pp (.la isAgg36 sizeOf36 rfl ((hS.blk 2 rfl).agg)) ?_
   refine Ah (.buildSlice (xs := [Vp k y]) (enc := Fact.cells) (mk := fun f : Fact => .agg f.cells) underlying23 sizeOf36 zeroValue36 rfl cQ (fun _ => rfl) (fun _ => rfl) (.cons (.t rfl) .nil) rfl) rfl ?_
   rintro _ w25 ⟨B88, cB88, rfl, NB88, yB88, xB88⟩
   have eB88 := NB88.at_
   have zB88 := NB88.size
   replace hS := hS.up NB88.up
   have hE88 := xB88
   refine Ah (.C3 (enc := Fact.cells) (bytes := 160) (i := Tryz.t36) underlying23 kQ rfl rfl rfl rfl cQ (fun _ => rfl) Fact.one (.t rfl) (.t rfl) (hS.own 0 rfl) (Aj hE88) (by have := hsl; simp [maxLen]; omega) (by have := hsl; simp; omega)) rfl ?_
   intro v89 w26 Gw26
   have zw26 := Gw26.fr.size
   replace hS := hS.Dj 0 rfl Gw26
   change Wx.Sep _ _ _ [_, _, _] at hS
   refine LW.A rfl (LW.nil (KW.inBlock (KW.then (CW.region (LW.M rfl ?_)))))
   refine LW.pp (.inc (.t rfl) oQ) ?_
   refine LW.A rfl (LW.nil (KW.round ?_))
   exact ⟨(k + 1, v89), ⟨⟨by show k + 1 ≤ _; omega, by show k + 1 ≤ _; omega⟩, by rw [H2 hy hkl.2]; exact hS.take 1⟩, ⟨rfl, rfl, rfl, rfl, trivial⟩, by show xs.length - (k + 1) < xs.length - k; omega⟩
  replace h72 := dQ h72
  refine CW.skip (KW.inBlock (KW.then ?_))
  first | rw [← Ub (by omega)] at hS | rw [← Uc (by omega)] at hS | rw [← Ud (by omega)] at hS | rw [← Ue oQ oQ oQ (by omega)] at hS
  have hsl := Ip (xs.take k)
  refine CW.region (LW.M rfl ?_)
  refine LW.pp (.la isAgg36 sizeOf36 rfl ((hS.blk 2 rfl).agg)) ?_
  refine Ah (.buildSlice (xs := [Vp k y]) (enc := Fact.cells) (mk := fun f : Fact => .agg f.cells) underlying23 sizeOf36 zeroValue36 rfl cQ (fun _ => rfl) (fun _ => rfl) (.cons (.t rfl) .nil) rfl) rfl ?_
  rintro _ w27 ⟨B88, cB88, rfl, NB88, yB88, xB88⟩
  have eB88 := NB88.at_
  have zB88 := NB88.size
  replace hS := hS.up NB88.up
  have hE88 := xB88
  refine Ah (.C3 (enc := Fact.cells) (bytes := 160) (i := Tryz.t36) underlying23 kQ rfl rfl rfl rfl cQ (fun _ => rfl) Fact.one (.t rfl) (.t rfl) (hS.own 0 rfl) (Aj hE88) (by have := hsl; simp [maxLen]; omega) (by have := hsl; simp; omega)) rfl ?_
  intro v89 w28 Gw28
  have zw28 := Gw28.fr.size
  replace hS := hS.Dj 0 rfl Gw28
  change Wx.Sep _ _ _ [_, _, _] at hS
  refine LW.A rfl (LW.nil (KW.inBlock (KW.then (CW.region (LW.M rfl ?_)))))
  refine LW.pp (.inc (.t rfl) oQ) ?_
  refine LW.A rfl (LW.nil (KW.round ?_))
  exact ⟨(k + 1, v89), ⟨⟨by show k + 1 ≤ _; omega, by show k + 1 ≤ _; omega⟩, by rw [H2 hy hkl.2]; exact hS.take 1⟩, ⟨rfl, rfl, rfl, rfl, trivial⟩, by show xs.length - (k + 1) < xs.length - k; omega⟩
 replace h15 := dQ h15
 refine CW.exit (Aa (Aa (Ad (KW.then (CW.S (LW.M rfl (LW.A rfl (LW.T (CW.ret ?_)))))))))
 refine Af rfl rfl ⟨_, rfl, ?_⟩
 rw [kR (by simp at h15; omega)] at hS
 exact ⟨M0 hS, hS.Cu⟩
end Go.Proofs.YtmimclgihlhaeaaGreat
end
section
namespace Go.Wx
theorem kS {w : World} {ad : Option Addr} {cp : Nat} {Ts : List TP} (h : Els w ad 1 TP.cells Ts) : Sl w (.slice ad (min Ts.length 16) cp) 1 TP.cells (Ts.take 16) := ⟨ad, cp, by rw [List.length_take, Nat.min_comm], h.take⟩
theorem kT {x : Fact} (h : Js x) : Qb x.Time ∧ Qb x.Until := by unfold Js at h; unfold Qb; omega
theorem nV {κ : Type} [DecidableEq κ] {Q : Mk.KT κ} {P : Program} {T : TypeId} {b : Nat} {kv : List (κ × Go.Value)} {k : κ} {st : Nat} {w w' : World} (h : Mk.MidM Q P T w' b kv k st) (K : Sto b w w') : Stp (Mk.Cc Q b kv) (Mk.uB Q P T b kv k st) w w' := ⟨K.fr, h, fun _ h => .inl h⟩
theorem fQ {κ : Type} [DecidableEq κ] {Q : Mk.KT κ} {P : Program} {T : TypeId} {b : Nat} {kv kv' : List (κ × Go.Value)} {k : κ} {st : Nat} {w w' : World} (h : Mk.IMap Q w' b kv') (K : Sto b w w') : Stp (Mk.uB Q P T b kv k st) (Mk.Cc Q b kv') w w' := ⟨K.fr, h, fun _ h => .inl h⟩
section
variable {P : Program} {n : Nat} {ds : List Deferred} {l : Env} {w : World} {d : Option Tmp} {ty : TypeId} {ps : String} {af : Array Edge} {g : Option (Nat × Bool)}
theorem PEv.qT {T E : TypeId} {m x : Operand} {b : Nat} {k : Int} {z : Go.Value} {kv : List (Int × Go.Value)} {v0 : Go.Value} {K : TypeId} (hT : P.underlying T = some (.map K E)) (hI : P.underlying K = some (.int .i64)) (hz : ∀ w, (zeroValue E).run P w = .ok z w) (hm : Val l m (.map (some b))) (hx : Val l x (vi k)) (h : IMap w b kv) (h0 : (k ∉ kv.map (·.1) ∧ v0 = z) ∨ (k, v0) ∈ kv) : PEv P n ds l w ⟨d, .lookup T m x false, ty, ps, af, g⟩ v0 := by
 rcases h0 with ⟨h1, rfl⟩ | h1
 · exact PEv.G7 (ok := false) hT hI hz hm hx h h1
 exact PEv.C1 (ok := false) hT hI hm hx h h1
end
end Go.Wx
namespace Go.Proofs.YtmimclgihlhaeaaGreat
open Go.Proofs.Tryz
open Go.Wx Go.RowKit
set_option maxHeartbeats 2000000 in
set_option maxRecDepth 4000 in
theorem fR (bc : Array Go.Value) (b : Base) (ad : Option Addr) (cp : Nat) (L : List VP) (w : World) (hC : BaseC w bc b) (hT : ∀ p ∈ b.Processes, Js p) (hE0 : Els w ad 3 VP.cells L) (hw : ∀ p ∈ L, Sl w p.uv 1 A8 p.vd.why) (hlw : ∀ p ∈ L, p.vd.why.length ≤ 100000) (hl : L.length ≤ 100000) (hlP : b.Processes.length ≤ 100000) (hlL : b.Lots.length ≤ 1000000000) : Ret Tryz.prog 25 #[.agg bc, .slice ad L.length cp] w fun r0 w' => ∃ Ts : List TP, Ts.map TP.l = Vm b (L.map (·.vd)) ∧ Sl w' r0 1 TP.cells Ts ∧ (∀ t ∈ Ts, Sl w' t.v 1 A8 t.l) ∧ Up w w' := by
 obtain ⟨w0, rfl⟩ : ∃ w0, w0 = w := ⟨_, rfl⟩
 have hS := Sep.start no w0
 refine cS (n := 117) (m := 9) func25 rfl rfl rfl ?_
 refine CW.S ?_
 refine Ah (.Eu (.t rfl)) rfl ?_
 rintro _ w1 ⟨B2, rfl, NB2⟩
 have eB2 := NB2.at_
 have zB2 := NB2.size
 replace hS := hS.C7 NB2
 change Wx.Sep _ _ _ [_] at hS
 refine LW.C (LW.S (CW.region ?_))
 refine Ah (Mk.REv.makeMap (Q := Sq)) rfl ?_
 rintro _ w2 ⟨B20, rfl, M_, u_, e_, z_⟩
 replace hS := hS.add u_ (A' := Mk.Cc Sq B20 []) M_ (fun i (e : i = B20) => by omega)
 change Wx.Sep _ _ _ [_, _] at hS
 clear M_ u_
 refine LW.r REv.makeMap rfl rfl rfl rfl ?_
 rintro _ w3 ⟨B21, rfl, M_, u_, e_, z_⟩
 replace hS := hS.add u_ (A' := Cc B21 []) M_ (fun i (e : i = B21) => by omega)
 change Wx.Sep _ _ _ [_, _, _] at hS
 clear M_ u_
 refine LW.A rfl (LW.A rfl (LW.S (CW.S (LW.M rfl ?_))))
 refine LW.K (eC (.o rfl) (rD)) rfl (T8 ad cp L _ (Els.up hE0 hS.Cu) hl) ?_
 rintro v7 w4 ⟨hO7, uw4⟩
 have zw4 := uw4.size
 replace hS := hS.add uw4 (A' := Ai 32 3 VP.cells v7 (L.filter Av)) (hO7.mono (Nat.zero_le _)) (fun i h => hO7.base i h)
 change Wx.Sep _ _ _ [_, _, _, _] at hS
 clear hO7
 obtain ⟨ad7, cp7, rfl, _⟩ := (hS.own 3 rfl).sl (fun _ => rfl)
 have hfl := List.length_filter_le Av L
 refine LW.pp (.Dq underlying27 (.t rfl)) ?_
 refine LW.pp (.move (.const _)) ?_
 refine LW.nil ?_
 replace hS := hS.add (Up.refl _) (A' := S5 3 ([] : List (BE Ar2))) ⟨by simp, by simp⟩ (by rintro i ⟨A, hA, _⟩; simp at hA)
 change Wx.Sep _ _ _ [_, _, _, _, _] at hS
 replace hS := hS.add (Up.refl _) (A' := S5 3 ([] : List (BE Int))) ⟨by simp, by simp⟩ (by rintro i ⟨A, hA, _⟩; simp at hA)
 change Wx.Sep _ _ _ [_, _, _, _, _, _] at hS
 refine KW.then (CW.block ?_)
 refine Am (σ := Nat × List (BE Ar2) × List (BE Int)) (fun s w => (s.1 ≤ (L.filter Av).length) ∧ (BeInv s.2.1 (Jt b.Processes (((L.filter Av).take s.1).map (·.vd)))) ∧ (BeInv s.2.2 (Fc b (((L.filter Av).take s.1).map (·.vd)))) ∧ (Wx.Sep no w0 w [Cq B2 bc 38, Mk.Cc Sq B20 ((s.2.1).map BE.kv), Cc B21 ((s.2.2).map BE.kv), Ai 32 3 VP.cells (.slice ad7 (L.filter Av).length cp7) (L.filter Av), S5 3 (s.2.1), S5 3 (s.2.2)])) (fun s => [(25, .eq (vi (s.1 : Int)))]) ([(2, .eq _), (4, .eq _), (5, .eq _), (6, .eq _), (23, .eq _), (24, .eq _)]) (fun s => (L.filter Av).length - s.1) (0, [], []) ?_ ⟨rfl, rfl, rfl, rfl, rfl, rfl, rfl, trivial⟩ ?_
 ·exact ⟨Nat.zero_le _, BeInv.nil fun _ => rfl, BeInv.nil fun _ => rfl, hS⟩
 rintro ⟨i, D, E⟩ w5 ⟨hi, hDI, hEI, hS⟩
 dsimp only at hi hDI hEI hS
 change Wx.Sep _ _ _ [_, _, _, _, _, _] at hS
 change CW _ _ _ _ _ _ _ ([(25, .eq (vi (i : Int)))] ++ _) _
 refine CW.S ?_
 refine LW.pp (.lss (.t rfl) (.t rfl)) ?_
 refine LW.S ?_
 refine CW.cond (.t rfl) (fun h26 => ?_) (fun h26 => ?_)
 ·replace h26 := dQ h26
  refine CW.skip (KW.then (CW.seq (CW.block (CW.seq ?_))))
  obtain ⟨p, hp⟩ := Ac (xs := (L.filter Av)) (i := i) oQ
  have hpL : p ∈ L := (List.mem_filter.1 (List.mem_of_getElem? hp)).1
  obtain ⟨Bp, op_, ap, hcp⟩ := (Ed (hS.own 3 rfl) (fun _ => rfl)) i p hp
  have hEw := oN (hw p hpL)
  refine CW.region ?_
  refine LW.pp (.An underlying27 sizeOf32 (j := i) (.t rfl) (.t rfl) oQ ap) ?_
  refine LW.pp (.la isAgg32 sizeOf32 rfl (hcp)) ?_
  refine Ah (.A7 zeroValue32) rfl ?_
  rintro _ w6 ⟨B8, rfl, MB8⟩
  refine LW.E (.A3 sizeOf32 rfl (.t rfl) (.t rfl) (VP.one _) MB8.blk rfl) ?_
  intro w7 LB8
  have NB8 := MB8.set LB8
  clear LB8 MB8
  have eB8 := NB8.at_
  have zB8 := NB8.size
  replace hS := hS.C7 NB8
  change Wx.Sep _ _ _ [_, _, _, _, _, _, _] at hS
  refine LW.S (CW.region ?_)
  refine Ah (Mk.REv.makeMap (Q := Sq)) rfl ?_
  rintro _ w8 ⟨B29, rfl, M_, u_, e_, z_⟩
  replace hS := hS.add u_ (A' := Mk.Cc Sq B29 []) M_ (fun i (e : i = B29) => by omega)
  change Wx.Sep _ _ _ [_, _, _, _, _, _, _, _] at hS
  clear M_ u_
  refine LW.A rfl (LW.S (CW.seq ?_))
  obtain ⟨v00, h00, hs00⟩ := hC.at_ (j := 0) cQ
  obtain ⟨adP, cpP, rfl, hEP⟩ := (show Sl w0 v00 19 Fact.cells b.Processes from hs00)
  refine CW.region ?_
  refine LW.pp (.fA 0 underlying38 rfl sizeOf23 rfl) ?_
  refine LW.pp (.ld isAgg23 rfl ((hS.blk 0 rfl).cell h00)) ?_
  refine LW.pp (.Dq underlying23 (.t rfl)) ?_
  refine LW.pp (.move (.const _)) ?_
  refine LW.T (CW.block ?_)
  refine Am (σ := Nat) (fun s w => (s ≤ b.Processes.length) ∧ (Wx.Sep no w0 w [Cq B2 bc 38, Mk.Cc Sq B20 ((D).map BE.kv), Cc B21 ((E).map BE.kv), Ai 32 3 VP.cells (.slice ad7 (L.filter Av).length cp7) (L.filter Av), S5 3 (D), S5 3 (E), Cq B8 p.cells 32, Mk.Cc Sq B29 ((He (b.Processes.take s) p.vd.why).map Sc)])) (fun s => [(33, .eq (vi (s : Int)))]) ([(2, .eq _), (4, .eq _), (5, .eq _), (6, .eq _), (8, .eq _), (9, .eq _), (23, .eq _), (24, .eq _), (25, .eq _), (31, .eq _), (32, .eq _)]) (fun s => b.Processes.length - s) 0 ?_ ⟨rfl, rfl, rfl, rfl, rfl, rfl, rfl, rfl, rfl, rfl, rfl, rfl, trivial⟩ ?_
  ·exact ⟨Nat.zero_le _, hS⟩
  rintro j w9 ⟨hj, hS⟩
  refine CW.S ?_
  refine LW.pp (.lss (.t rfl) (.t rfl)) ?_
  refine LW.S ?_
  refine CW.cond (.t rfl) (fun h34 => ?_) (fun h34 => ?_)
  ·replace h34 := dQ h34
   refine CW.skip (KW.then (CW.seq (CW.block (CW.seq ?_))))
   obtain ⟨y, hy⟩ := Ac (xs := b.Processes) (i := j) oQ
   obtain ⟨By, oy, ay, hcy⟩ := (Els.up hEP hS.Cu) j y hy
   refine CW.region ?_
   refine LW.pp (.An underlying23 sizeOf36 (j := j) (.t rfl) (.t rfl) oQ ay) ?_
   refine LW.pp (.la isAgg36 sizeOf36 rfl (hcy)) ?_
   refine Ah (.A7 zeroValue36) rfl ?_
   rintro _ w10 ⟨B11, rfl, MB11⟩
   refine LW.E (.A3 sizeOf36 rfl (.t rfl) (.t rfl) (Fact.one _) MB11.blk rfl) ?_
   intro w11 LB11
   have NB11 := MB11.set LB11
   clear LB11 MB11
   have eB11 := NB11.at_
   have zB11 := NB11.size
   replace hS := hS.C7 NB11
   change Wx.Sep _ _ _ [_, _, _, _, _, _, _, _, _] at hS
   refine LW.S (CW.region ?_)
   refine LW.pp (.fA 2 underlying32 rfl sizeOf30 rfl) ?_
   refine LW.pp (.ld isAgg30 rfl (Blk.Ak (v := p.uv) (hS.blk 6 rfl) rfl)) ?_
   refine LW.pp (.fA 1 underlying36 rfl sizeOf3 rfl) ?_
   refine LW.pp (.ld isAgg3 rfl ((hS.blk 8 rfl).Ak rfl)) ?_
   refine LW.K (eC (.u rfl rfl) (vC)) rfl (S4 p.ad p.cp p.vd.why y.ID _ (Els.up hEw hS.Cu) (hlw p hpL)) ?_
   rintro _ w12 ⟨rfl, uw12⟩
   have zw12 := uw12.size
   replace hS := hS.up uw12
   refine LW.T ?_
   refine CW.cond (.t rfl) (fun h41 => ?_) (fun h41 => ?_)
   ·replace h41 := dQ h41
    have hin : y.ID ∈ p.vd.why := by simpa using h41
    refine CW.region (LW.M rfl ?_)
    refine LW.pp (.fA 5 underlying36 rfl sizeOf3 rfl) ?_
    refine LW.pp (.ld isAgg3 rfl ((hS.blk 8 rfl).Ak rfl)) ?_
    refine LW.pp (.fA 6 underlying36 rfl sizeOf3 rfl) ?_
    refine LW.pp (.ld isAgg3 rfl ((hS.blk 8 rfl).Ak rfl)) ?_
    refine LW.pp (.Jj (cs := (Ar2.mk y.Time y.Until).cells) underlying99 zeroValue99 sizeOf3 (.cons (.t rfl) (.cons (.t rfl) .nil)) rfl) ?_
    refine LW.E (Mk.SEv.mapUpdate (k := kG y) underlying97 kA (show Sq.ok (kG y) from kT (hT y (List.mem_of_getElem? hy))) (.t rfl) (.t rfl) (.const _) (hS.get 7 rfl)) ?_
    rintro w13 ⟨Mu, Ku, zu⟩
    rw [aF] at Mu
    replace hS := hS.Dj 7 rfl (Mk.Kb Mu Ku)
    change Wx.Sep _ _ _ [_, _, _, _, _, _, _, _, _] at hS
    clear Mu Ku
    refine LW.nil (KW.inBlock (KW.then (CW.region ?_)))
    refine LW.pp (.inc (.t rfl) oQ) ?_
    refine LW.M rfl (LW.nil (KW.round ?_))
    exact ⟨j + 1, ⟨by omega, by first | (rw [X7 hy hin]; exact hS.take 8) | (rw [cI hy hin]; exact hS.take 8)⟩, ⟨rfl, rfl, rfl, rfl, rfl, rfl, rfl, rfl, rfl, rfl, rfl, rfl, trivial⟩, by first | omega | (dsimp only; omega)⟩
   replace h41 := dQ h41
   have hin : ¬ y.ID ∈ p.vd.why := by simpa using h41
   refine CW.skip (KW.inBlock (KW.then (CW.region ?_)))
   refine LW.pp (.inc (.t rfl) oQ) ?_
   refine LW.M rfl (LW.nil (KW.round ?_))
   exact ⟨j + 1, ⟨by omega, by first | (rw [X7 hy hin]; exact hS.take 8) | (rw [cI hy hin]; exact hS.take 8)⟩, ⟨rfl, rfl, rfl, rfl, rfl, rfl, rfl, rfl, rfl, rfl, rfl, rfl, trivial⟩, by first | omega | (dsimp only; omega)⟩
  replace h34 := dQ h34
  refine CW.exit (Aa (Aa (Ad (KW.then (CW.seq (CW.seq ?_))))))
  have hjl : j = b.Processes.length := by omega
  rw [hjl, List.take_length] at hS
  refine CW.region (LW.M rfl ?_)
  refine Ah (Mk.REv.range underlying97 (.t rfl) (hS.get 7 rfl)) rfl ?_
  rintro _ w14 ⟨r50, rfl, hR_, u_, e_, z_⟩
  replace hS := hS.Dj 7 rfl (Mk.Gz hR_ u_ e_)
  change Wx.Sep _ _ _ [_, _, _, _, _, _, _, _] at hS
  clear hR_ u_
  refine LW.T (CW.block ?_)
  refine Am (σ := List Ar2 × List (BE Ar2)) (fun s w => (s.1.Nodup ∧ ∀ k ∈ s.1, k ∈ He (b.Processes) p.vd.why) ∧ (BeInv s.2 (Pa b.Processes (((L.filter Av).take i).map (·.vd)) p.vd s.1)) ∧ (Wx.Sep no w0 w [Cq B2 bc 38, Mk.Cc Sq B20 ((s.2).map BE.kv), Cc B21 ((E).map BE.kv), Ai 32 3 VP.cells (.slice ad7 (L.filter Av).length cp7) (L.filter Av), S5 3 (s.2), S5 3 (E), Cq B8 p.cells 32, Mk.Fp Sq B29 r50 ((He (b.Processes) p.vd.why).map Sc) s.1])) (fun s => []) ([(2, .eq _), (4, .eq _), (5, .eq _), (6, .eq _), (8, .eq _), (23, .eq _), (24, .eq _), (25, .eq _), (50, .eq _)]) (fun s => (He (b.Processes) p.vd.why).length - s.1.length) ([], D) ?_ ⟨rfl, rfl, rfl, rfl, rfl, rfl, rfl, rfl, rfl, trivial⟩ ?_
  ·exact ⟨⟨List.nodup_nil, fun _ h => (by cases h)⟩, by rw [kH]; exact hDI, hS⟩
  rintro ⟨V, D⟩ w15 ⟨hV, hDI, hS⟩
  dsimp only at hV hDI hS
  change Wx.Sep _ _ _ [_, _, _, _, _, _, _, _] at hS
  change CW _ _ _ _ _ _ _ ([] ++ _) _
  refine CW.S ?_
  refine Ah (Mk.REv.next (.t rfl) (hS.get 7 rfl)) rfl ?_
  rintro _ w16 (⟨rfl, rfl, hPm⟩ | ⟨k0, u0, rfl, hNx⟩)
  ·skip
   refine LW.pp (.extract (.t rfl) rfl) (LW.S ?_)
   refine CW.cond_false (.t rfl) ?_
   refine CW.exit (Aa (Aa (Ad (KW.then (CW.seq ?_)))))
   rw [fL (by rw [Na] at hPm; exact hPm)] at hDI
   refine CW.region ?_
   refine LW.pp (.Ky isAgg38 sizeOf38 (hC.size) (.t rfl) ((hS.blk 0 rfl).agg)) ?_
   refine LW.pp (.la isAgg32 sizeOf32 rfl ((hS.blk 6 rfl).agg)) ?_
   refine LW.K (eC (.u rfl rfl) (vD)) rfl (Z9 bc b p _ (hC.up hS.Cu) (Sl.up (hw p hpL) hS.Cu) (hlw p hpL) hlP hlL) ?_
   rintro _ w17 ⟨rfl, uw17⟩
   have zw17 := uw17.size
   replace hS := hS.up uw17
   refine LW.A rfl (LW.S (CW.region (LW.M rfl ?_)))
   refine LW.pp (.neq (.t rfl) (.const _)) ?_
   refine LW.T ?_
   refine CW.cond (.t rfl) (fun h68 => ?_) (fun h68 => ?_)
   ·replace h68 := dQ h68
    have hn : ¬ Gq b p.vd = 0 := by simpa using h68
    obtain ⟨v0, hv0⟩ := qR (E.map BE.kv) (Gq b p.vd)
    obtain ⟨E1, j1, e1, hE1, hj1, rfl, hl1, hputE⟩ := X5 hEI p.vd.w hv0
    replace hS := hS.Dj 5 rfl (kE hE1 (hS.get 5 rfl))
    change Wx.Sep _ _ _ [_, _, _, _, _, _, _, _] at hS
    have hbl := fM b (((L.filter Av).take i).map (·.vd)) (Gq b p.vd)
    rw [List.length_map, List.length_take] at hbl
    refine CW.region (LW.M rfl (LW.M rfl (LW.M rfl (LW.M rfl ?_))))
    refine LW.pp (.qT underlying96 underlying3 zeroValue30 (.t rfl) (.t rfl) (hS.get 2 rfl) hv0) ?_
    refine LW.pp (.fA 0 underlying32 rfl sizeOf3 rfl) ?_
    refine LW.pp (.ld isAgg3 rfl (Blk.Ak (v := vi p.vd.w) (hS.blk 6 rfl) rfl)) ?_
    refine Ah (.buildSlice (xs := [p.vd.w]) (enc := A8) (mk := vi) underlying30 sizeOf3 zeroValue3 rfl cQ (fun _ => rfl) (fun _ => rfl) (.cons (.t rfl) .nil) rfl) rfl ?_
    rintro _ w18 ⟨B76, cB76, rfl, NB76, yB76, xB76⟩
    have eB76 := NB76.at_
    have zB76 := NB76.size
    replace hS := hS.up NB76.up
    have hE76 := xB76
    refine Ah (.C3 (enc := A8) (bytes := 8) (i := Tryz.t3) underlying30 kQ rfl rfl rfl rfl cQ (fun _ => rfl) H7 (.t rfl) (.t rfl) (O8 (hS.get 5 rfl) (List.mem_of_getElem? hj1)) (Aj hE76) (by rw [hl1]; simp only [maxLen, List.length_cons, List.length_nil]; omega) (by rw [hl1]; simp only [List.length_cons, List.length_nil]; omega)) rfl ?_
    intro v77 w19 Gw19
    have zw19 := Gw19.fr.size
    replace hS := hS.Dj 5 rfl (kF (g := (Gq b p.vd)) (v := v77) (l := Fc b (((L.filter Av).take i).map (·.vd)) (Gq b p.vd) ++ [p.vd.w]) (hS.get 5 rfl) hj1 (by rw [← hl1]; exact Gw19))
    change Wx.Sep _ _ _ [_, _, _, _, _, _, _, _] at hS
    refine LW.E (.mapUpdate underlying96 underlying3 (.t rfl) (.t rfl) (.t rfl) (hS.get 2 rfl)) ?_
    rintro w20 ⟨Mu, Ku, zu⟩
    rw [nS, (hputE v77).1] at Mu
    replace hS := hS.Dj 2 rfl (R3 Mu Ku)
    change Wx.Sep _ _ _ [_, _, _, _, _, _, _, _] at hS
    clear Mu Ku
    refine LW.nil (KW.inBlock (KW.then (CW.region ?_)))
    refine LW.pp (.inc (.t rfl) oQ) ?_
    refine LW.M rfl (LW.nil (KW.round ?_))
    first | exact ⟨(i + 1, D, E1.set j1 ⟨Gq b p.vd, v77, Fc b (((L.filter Av).take i).map (·.vd)) (Gq b p.vd) ++ [p.vd.w]⟩), ⟨by show i + 1 ≤ _; omega, by show BeInv D (Jt _ (((L.filter Av).take (i + 1)).map (·.vd))); rw [I6 hp]; exact hDI, by show BeInv _ (Fc b (((L.filter Av).take (i + 1)).map (·.vd))); rw [I6 hp, T9 hn]; exact (hputE v77).2, by exact hS.take 6⟩, ⟨rfl, rfl, rfl, rfl, rfl, rfl, rfl, trivial⟩, by show (L.filter Av).length - (i + 1) < (L.filter Av).length - i; omega⟩ | exact ⟨(i + 1, D, E), ⟨by show i + 1 ≤ _; omega, by show BeInv D (Jt _ (((L.filter Av).take (i + 1)).map (·.vd))); rw [I6 hp]; exact hDI, by show BeInv E (Fc b (((L.filter Av).take (i + 1)).map (·.vd))); rw [I6 hp, X9 hn]; exact hEI, by exact hS.take 6⟩, ⟨rfl, rfl, rfl, rfl, rfl, rfl, rfl, trivial⟩, by show (L.filter Av).length - (i + 1) < (L.filter Av).length - i; omega⟩
   replace h68 := dQ h68
   have hn : Gq b p.vd = 0 := by simpa using h68
   refine CW.skip (KW.inBlock (KW.then (CW.region ?_)))
   refine LW.pp (.inc (.t rfl) oQ) ?_
   refine LW.M rfl (LW.nil (KW.round ?_))
   first | exact ⟨(i + 1, D, E1.set j1 ⟨Gq b p.vd, v77, Fc b (((L.filter Av).take i).map (·.vd)) (Gq b p.vd) ++ [p.vd.w]⟩), ⟨by show i + 1 ≤ _; omega, by show BeInv D (Jt _ (((L.filter Av).take (i + 1)).map (·.vd))); rw [I6 hp]; exact hDI, by show BeInv _ (Fc b (((L.filter Av).take (i + 1)).map (·.vd))); rw [I6 hp, T9 hn]; exact (hputE v77).2, by exact hS.take 6⟩, ⟨rfl, rfl, rfl, rfl, rfl, rfl, rfl, trivial⟩, by show (L.filter Av).length - (i + 1) < (L.filter Av).length - i; omega⟩ | exact ⟨(i + 1, D, E), ⟨by show i + 1 ≤ _; omega, by show BeInv D (Jt _ (((L.filter Av).take (i + 1)).map (·.vd))); rw [I6 hp]; exact hDI, by show BeInv E (Fc b (((L.filter Av).take (i + 1)).map (·.vd))); rw [I6 hp, X9 hn]; exact hEI, by exact hS.take 6⟩, ⟨rfl, rfl, rfl, rfl, rfl, rfl, rfl, trivial⟩, by show (L.filter Av).length - (i + 1) < (L.filter Av).length - i; omega⟩
  skip
  have zw16 := hNx.size
  replace hS := hS.Dj 7 rfl (Mk.Ih hNx)
  change Wx.Sep _ _ _ [_, _, _, _, _, _, _, _] at hS
  have hk0c : k0 ∈ He (b.Processes) p.vd.why := by have h5 := List.mem_map_of_mem (f := Prod.fst) hNx.mem; rw [Na] at h5; exact h5
  have hk0V := hNx.fresh
  have hV2 : (V ++ [k0]).Nodup ∧ ∀ k ∈ V ++ [k0], k ∈ He (b.Processes) p.vd.why := ⟨List.nodup_append.2 ⟨hV.1, by simp, fun a ha c hc => by simp at hc; subst hc; exact fun e => hk0V (e ▸ ha)⟩, fun k hk => (List.mem_append.1 hk).elim (hV.2 k) (fun h => by cases List.mem_singleton.1 h; exact hk0c)⟩
  have hVl := hV2.1.length_le_of_subset hV2.2
  rw [List.length_append, List.length_singleton] at hVl
  have hko := cJ (fun f hf => kT (hT f hf)) k0 hk0c
  refine LW.pp (.extract (.t rfl) rfl) (LW.S ?_)
  refine CW.cond_true (.t rfl) ?_
  refine CW.skip (KW.then (CW.block (CW.seq ?_)))
  have hbl := kL b.Processes (((L.filter Av).take i).map (·.vd)) p.vd V k0
  rw [List.length_map, List.length_take] at hbl
  refine CW.region ?_
  refine Ah (.entry (.t rfl) hNx.entry) rfl ?_
  rintro _ _ ⟨rfl, rfl⟩
  refine LW.pp (.extract (.t rfl) rfl) ?_
  refine Ah (.A7 zeroValue99) rfl ?_
  rintro _ w21 ⟨B12, rfl, MB12⟩
  refine LW.E (.A3 sizeOf99 rfl (.t rfl) (.t rfl) (Ar2.one _) MB12.blk rfl) ?_
  intro w22 LB12
  have NB12 := MB12.set LB12
  clear LB12 MB12
  have eB12 := NB12.at_
  have zB12 := NB12.size
  replace hS := hS.C7 NB12
  change Wx.Sep _ _ _ [_, _, _, _, _, _, _, _, _] at hS
  refine LW.T ?_
  have zB20 := (show Mk.IMap Sq _ _ _ from hS.get 1 rfl).lt
  refine CW.region (LW.M rfl ?_)
  refine LW.pp (.la isAgg99 sizeOf99 rfl ((hS.blk 8 rfl).agg)) ?_
  refine LW.pp (.fA 0 underlying32 rfl sizeOf3 rfl) ?_
  refine LW.pp (.ld isAgg3 rfl (Blk.Ak (v := vi p.vd.w) (hS.blk 6 rfl) rfl)) ?_
  refine Ah (.buildSlice (xs := [p.vd.w]) (enc := A8) (mk := vi) underlying30 sizeOf3 zeroValue3 rfl cQ (fun _ => rfl) (fun _ => rfl) (.cons (.t rfl) .nil) rfl) rfl ?_
  rintro _ w23 ⟨B60, cB60, rfl, NB60, yB60, xB60⟩
  have eB60 := NB60.at_
  have zB60 := NB60.size
  replace hS := hS.up NB60.up
  have hE60 := xB60
  refine Ah (Mk.REv.mapEntry underlying95 kA hko zeroValue30 (.t rfl) (.t rfl) (hS.get 1 rfl)) rfl ?_
  rintro _ w24 ⟨v0, st0, rfl, hv0, hMd, Ks, zs⟩
  replace hE60 := hE60.sto Ks oQ
  replace hS := hS.Dj 1 rfl (nV hMd Ks)
  change Wx.Sep _ _ _ [_, _, _, _, _, _, _, _, _] at hS
  clear hMd Ks
  obtain ⟨D1, j1, e1, hD1, hj1, rfl, hl1, hput⟩ := X5 hDI p.vd.w hv0
  replace hS := hS.Dj 4 rfl (kE hD1 (hS.get 4 rfl))
  change Wx.Sep _ _ _ [_, _, _, _, _, _, _, _, _] at hS
  refine LW.pp (.extract (.t rfl) rfl) ?_
  refine Ah (.C3 (enc := A8) (bytes := 8) (i := Tryz.t3) underlying30 kQ rfl rfl rfl rfl cQ (fun _ => rfl) H7 (.t rfl) (.t rfl) (O8 (hS.get 4 rfl) (List.mem_of_getElem? hj1)) (Aj hE60) (by rw [hl1]; simp only [maxLen, List.length_cons, List.length_nil]; omega) (by rw [hl1]; simp only [List.length_cons, List.length_nil]; omega)) rfl ?_
  intro v62 w25 Gw25
  have zw25 := Gw25.fr.size
  replace hS := hS.Dj 4 rfl (kF (g := k0) (v := v62) (l := Pa b.Processes (((L.filter Av).take i).map (·.vd)) p.vd V k0 ++ [p.vd.w]) (hS.get 4 rfl) hj1 (by rw [← hl1]; exact Gw25))
  change Wx.Sep _ _ _ [_, _, _, _, _, _, _, _, _] at hS
  refine LW.pp (.extract (.t rfl) rfl) ?_
  refine LW.E (Mk.SEv.entryStore (.t rfl) (.t rfl) (.t rfl) (hS.get 1 rfl)) ?_
  rintro w26 ⟨Mu, Ku, zu⟩
  rw [(hput v62).1] at Mu
  replace hS := hS.Dj 1 rfl (fQ Mu Ku)
  change Wx.Sep _ _ _ [_, _, _, _, _, _, _, _, _] at hS
  clear Mu Ku
  refine LW.nil (KW.inBlock (KW.round ?_))
  exact ⟨(V ++ [k0], D1.set j1 ⟨k0, v62, Pa b.Processes (((L.filter Av).take i).map (·.vd)) p.vd V k0 ++ [p.vd.w]⟩), ⟨hV2, by show BeInv _ (Pa _ _ _ (V ++ [k0])); rw [kJ hk0V]; exact (hput v62).2, hS.take 8⟩, ⟨rfl, rfl, rfl, rfl, rfl, rfl, rfl, rfl, rfl, trivial⟩, by show _ - (V ++ [k0]).length < _ - V.length; rw [List.length_append, List.length_singleton]; omega⟩
 replace h26 := dQ h26
 refine CW.exit (Aa (Aa (Ad (KW.then (CW.seq ?_)))))
 have hil : i = (L.filter Av).length := by omega
 rw [hil, List.take_length] at hDI hEI
 have hDl := nT hDI
 have hEl := nU hEI
 rw [List.length_map] at hEl
 have zB20 := (show Mk.IMap Sq _ _ _ from hS.get 1 rfl).lt
 have zB21 := (show IMap _ _ _ from hS.get 2 rfl).lt
 refine CW.region ?_
 refine LW.pp (.assign (.func _)) ?_
 refine LW.S (CW.region (LW.C (LW.S (CW.S (LW.M rfl ?_)))))
 refine LW.K (eC (.o rfl) (vG)) rfl (fJ _ _) ?_
 rintro _ w27 ⟨⟨BK, rfl, hBK, zK⟩, uw27⟩
 have zw27 := uw27.size
 replace hS := hS.up uw27
 have zBK := hBK.lt
 have zz := hS.Cu.size
 refine LW.M rfl ?_
 refine LW.K (eC (.u rfl rfl) (vF)) rfl (Yd _ _ _ _ _ _ rR (fun W X Y u hX hY => aA X Y BK B20 _ W (fun i h => (hY i h).2) (fun h => by have := hX _ h; omega) (fun h => by have := (hY _ h).1; omega) (hBK.up u) ((show Mk.IMap Sq _ _ _ from hS.get 1 rfl).up u)) (by rw [List.length_map]; omega) (fun ks h => by have := h.length_eq; rw [Km, List.length_map] at this; omega)) ?_
 rintro v82 w28 ⟨ks, hPk, hO82, hf82, uw28⟩
 have zw28 := uw28.size
 replace hBK := hBK.up uw28
 replace hS := hS.add uw28 (A' := Ai 99 2 Ar2.cells v82 (ks.mergeSort S6)) (hO82) (hf82)
 change Wx.Sep _ _ _ [_, _, _, _, _, _, _] at hS
 clear hO82
 rw [Km] at hPk
 rw [Yb hDI hPk] at hS
 obtain ⟨ad82, cp82, rfl, _⟩ := (hS.own 6 rfl).sl (fun _ => rfl)
 change Wx.Sep _ _ _ [_, _, _, _, _, _, _] at hS
 refine LW.pp (.Dq underlying103 (.t rfl)) ?_
 refine LW.pp (.move (.const _)) ?_
 refine LW.nil ?_
 have hTkl : (Ga b.Processes ((L.filter Av).map (·.vd))).length ≤ 100000 := by rw [← Yb hDI hPk, List.length_mergeSort, hPk.length_eq, List.length_map]; omega
 replace hS := hS.mT (OwnS.nil _ 0 64 1 TP.cells)
 change Wx.Sep _ _ _ [_, _, _, _, _, _, _, _] at hS
 refine KW.then (CW.block ?_)
 refine Am (σ := Nat × Go.Value × List TP) (fun s w => (s.1 ≤ (Ga b.Processes ((L.filter Av).map (·.vd))).length) ∧ (s.2.2.map TP.l = ((Ga b.Processes ((L.filter Av).map (·.vd))).take s.1).map (Jt b.Processes ((L.filter Av).map (·.vd)))) ∧ (∀ t ∈ s.2.2, ∃ e ∈ D, e.v = t.v ∧ e.l = t.l) ∧ (Wx.Sep no w0 w [Cq B2 bc 38, Mk.Cc Sq B20 ((D).map BE.kv), Cc B21 ((E).map BE.kv), Ai 32 3 VP.cells (.slice ad7 (L.filter Av).length cp7) (L.filter Av), S5 3 (D), S5 3 (E), Ai 99 2 Ar2.cells (.slice ad82 (Ga b.Processes ((L.filter Av).map (·.vd))).length cp82) (Ga b.Processes ((L.filter Av).map (·.vd))), Ai 64 1 TP.cells s.2.1 s.2.2])) (fun s => [(84, .eq (vi (s.1 : Int))), (15, .eq (s.2.1))]) ([(4, .eq _), (5, .eq _), (6, .eq _), (82, .eq _), (83, .eq _)]) (fun s => (Ga b.Processes ((L.filter Av).map (·.vd))).length - s.1) (0, .slice none 0 0, []) ?_ ⟨rfl, rfl, rfl, rfl, rfl, rfl, rfl, trivial⟩ ?_
 ·exact ⟨Nat.zero_le _, rfl, (fun _ h => (by cases h)), hS⟩
 rintro ⟨k, v, Ts⟩ w29 ⟨hk, hTs, hTe, hS⟩
 dsimp only at hk hTs hTe hS
 change Wx.Sep _ _ _ [_, _, _, _, _, _, _, _] at hS
 change CW _ _ _ _ _ _ _ ([(84, .eq (vi (k : Int))), (15, .eq (v))] ++ _) _
 refine CW.S ?_
 refine LW.pp (.lss (.t rfl) (.t rfl)) ?_
 refine LW.S ?_
 refine CW.cond (.t rfl) (fun h85 => ?_) (fun h85 => ?_)
 ·replace h85 := dQ h85
  refine CW.skip (KW.then (CW.seq (CW.block (CW.seq ?_))))
  obtain ⟨g, hg⟩ := Ac (xs := (Ga b.Processes ((L.filter Av).map (·.vd)))) (i := k) oQ
  obtain ⟨Bg, og, ag, hcg⟩ := (Ed (hS.own 6 rfl) (fun _ => rfl)) k g hg
  obtain ⟨e, he, heg⟩ := fN hDI (List.mem_of_getElem? hg)
  obtain ⟨ade, cpe, hev, _⟩ := (O8 (hS.get 4 rfl) he).sl (fun _ => rfl)
  have hko := kN (fun f hf => kT (hT f hf)) g (List.mem_of_getElem? hg)
  have hTl := congrArg List.length hTs
  simp only [List.length_map, List.length_take] at hTl
  refine CW.region ?_
  refine LW.pp (.An underlying103 sizeOf99 (j := k) (.t rfl) (.t rfl) oQ ag) ?_
  refine LW.pp (.la isAgg99 sizeOf99 rfl (hcg)) ?_
  refine Ah (.A7 zeroValue99) rfl ?_
  rintro _ w30 ⟨B17, rfl, MB17⟩
  refine LW.E (.A3 sizeOf99 rfl (.t rfl) (.t rfl) (Ar2.one _) MB17.blk rfl) ?_
  intro w31 LB17
  have NB17 := MB17.set LB17
  clear LB17 MB17
  have eB17 := NB17.at_
  have zB17 := NB17.size
  replace hS := hS.C7 NB17
  change Wx.Sep _ _ _ [_, _, _, _, _, _, _, _, _] at hS
  refine LW.T (CW.region (LW.M rfl (LW.M rfl ?_)))
  refine LW.pp (.la isAgg99 sizeOf99 rfl ((hS.blk 8 rfl).agg)) ?_
  refine LW.pp (Mk.PEv.C1 (ok := false) underlying95 kA hko (.t rfl) (.t rfl) (hS.get 1 rfl) (List.mem_map.2 ⟨e, he, by show (e.g, e.v) = _; rw [heg, hev]⟩)) ?_
  refine LW.pp (.build (cs := (TP.mk ade e.l cpe).cells) underlying64 zeroValue64 Ft (.cons (.t rfl) .nil) rfl) ?_
  refine Ah (.buildSlice (xs := [TP.mk ade e.l cpe]) (enc := TP.cells) (mk := fun t : TP => .agg t.cells) underlying51 sizeOf64 zeroValue64 rfl cQ (fun _ => rfl) (fun _ => rfl) (.cons (.t rfl) .nil) rfl) rfl ?_
  rintro _ w32 ⟨B93, cB93, rfl, NB93, yB93, xB93⟩
  have eB93 := NB93.at_
  have zB93 := NB93.size
  replace hS := hS.up NB93.up
  have hE93 := xB93
  refine Ah (.C3 (enc := TP.cells) (bytes := 24) (i := Tryz.t64) underlying51 kQ rfl rfl rfl rfl cQ (fun _ => rfl) TP.one (.t rfl) (.t rfl) (hS.own 7 rfl) (Aj hE93) (by simp only [maxLen, List.length_cons, List.length_nil]; omega) (by simp only [List.length_cons, List.length_nil]; omega)) rfl ?_
  intro v94 w33 Gw33
  have zw33 := Gw33.fr.size
  replace hS := hS.Dj 7 rfl Gw33
  change Wx.Sep _ _ _ [_, _, _, _, _, _, _, _, _] at hS
  refine LW.A rfl (LW.nil (KW.inBlock (KW.then (CW.region ?_))))
  refine LW.pp (.inc (.t rfl) oQ) ?_
  refine LW.M rfl (LW.nil (KW.round ?_))
  exact ⟨(k + 1, v94, Ts ++ [TP.mk ade e.l cpe]), ⟨by show k + 1 ≤ _; omega, by show (Ts ++ [_]).map TP.l = _; rw [List.map_append, hTs, G6 hg, ← heg, ← hDI.val e he]; rfl, fun t ht => (List.mem_append.1 ht).elim (hTe t) (fun h => ⟨e, he, by rw [List.mem_singleton.1 h]; exact ⟨hev, rfl⟩⟩), hS.take 8⟩, ⟨rfl, rfl, rfl, rfl, rfl, rfl, rfl, trivial⟩, by show (Ga b.Processes ((L.filter Av).map (·.vd))).length - (k + 1) < (Ga b.Processes ((L.filter Av).map (·.vd))).length - k; omega⟩
 replace h85 := dQ h85
 refine CW.exit (Aa (Aa (Ad (KW.then (CW.seq (CW.seq ?_))))))
 have hkl : k = (Ga b.Processes ((L.filter Av).map (·.vd))).length := by omega
 rw [hkl, List.take_length] at hTs
 refine CW.region (LW.M rfl ?_)
 refine LW.K (eC (.o rfl) (vH)) rfl (Hk.Kh _ _) ?_
 rintro _ w34 ⟨⟨BJ, rfl, hBJ, zJ⟩, uw34⟩
 have zw34 := uw34.size
 replace hS := hS.up uw34
 have zBJ := hBJ.lt
 have zz2 := hS.Cu.size
 refine LW.K (eC (.o rfl) (rE)) rfl (Hs.Ka _ _ _ _ _ _ rT (fun W X u hX => Hk.Jd X _ BJ B21 _ W (fun i h => h.elim) (fun h => by have := hX _ h; omega) (fun h => h.elim) (hBJ.up u) ((show IMap _ _ _ from hS.get 2 rfl).up u)) (by rw [List.length_map]; omega) (fun ks h => by have := h.length_eq; rw [Km, List.length_map] at this; omega)) ?_
 rintro v98 w35 ⟨ks2, hPj, hO98, uw35⟩
 have zw35 := uw35.size
 replace hBJ := hBJ.up uw35
 replace hS := hS.add uw35 (A' := Ai 3 1 A8 v98 (ks2.mergeSort fun x y => decide (x ≤ y))) (hO98.mono (Nat.zero_le _)) (fun i h => hO98.base i h)
 change Wx.Sep _ _ _ [_, _, _, _, _, _, _, _, _] at hS
 clear hO98
 rw [Km] at hPj
 rw [Yc hEI hPj] at hS
 obtain ⟨ad98, cp98, rfl, _⟩ := (hS.own 8 rfl).sl (fun _ => rfl)
 change Wx.Sep _ _ _ [_, _, _, _, _, _, _, _, _] at hS
 refine LW.pp (.Dq underlying30 (.t rfl)) ?_
 refine LW.pp (.move (.const _)) ?_
 refine LW.nil ?_
 have hLkl : (Im b ((L.filter Av).map (·.vd))).length ≤ 100000 := by rw [← Yc hEI hPj, List.length_mergeSort, hPj.length_eq, List.length_map]; omega
 refine KW.then (CW.block ?_)
 refine Am (σ := Nat × Go.Value × List TP) (fun s w => (s.1 ≤ (Im b ((L.filter Av).map (·.vd))).length) ∧ (s.2.2.map TP.l = (Ga b.Processes ((L.filter Av).map (·.vd))).map (Jt b.Processes ((L.filter Av).map (·.vd))) ++ ((Im b ((L.filter Av).map (·.vd))).take s.1).map (Fc b ((L.filter Av).map (·.vd)))) ∧ (∀ t ∈ s.2.2, (∃ e ∈ D, e.v = t.v ∧ e.l = t.l) ∨ ∃ e ∈ E, e.v = t.v ∧ e.l = t.l) ∧ (Wx.Sep no w0 w [Cq B2 bc 38, Mk.Cc Sq B20 ((D).map BE.kv), Cc B21 ((E).map BE.kv), Ai 32 3 VP.cells (.slice ad7 (L.filter Av).length cp7) (L.filter Av), S5 3 (D), S5 3 (E), Ai 99 2 Ar2.cells (.slice ad82 (Ga b.Processes ((L.filter Av).map (·.vd))).length cp82) (Ga b.Processes ((L.filter Av).map (·.vd))), Ai 64 1 TP.cells s.2.1 s.2.2, Ai 3 1 A8 (.slice ad98 (Im b ((L.filter Av).map (·.vd))).length cp98) (Im b ((L.filter Av).map (·.vd)))])) (fun s => [(100, .eq (vi (s.1 : Int))), (15, .eq (s.2.1))]) ([(4, .eq _), (6, .eq _), (98, .eq _), (99, .eq _)]) (fun s => (Im b ((L.filter Av).map (·.vd))).length - s.1) (0, v, Ts) ?_ ⟨rfl, rfl, rfl, rfl, rfl, rfl, trivial⟩ ?_
 ·exact ⟨Nat.zero_le _, by show Ts.map TP.l = _ ++ []; rw [hTs, List.append_nil], fun t ht => .inl (hTe t ht), hS⟩
 rintro ⟨j, v, Ts⟩ w36 ⟨hj, hTs2, hTe2, hS⟩
 dsimp only at hj hTs2 hTe2 hS
 change Wx.Sep _ _ _ [_, _, _, _, _, _, _, _, _] at hS
 change CW _ _ _ _ _ _ _ ([(100, .eq (vi (j : Int))), (15, .eq (v))] ++ _) _
 refine CW.S ?_
 refine LW.pp (.lss (.t rfl) (.t rfl)) ?_
 refine LW.S ?_
 refine CW.cond (.t rfl) (fun h101 => ?_) (fun h101 => ?_)
 ·replace h101 := dQ h101
  refine CW.skip (KW.then (CW.seq (CW.block (CW.seq ?_))))
  obtain ⟨m, hm⟩ := Ac (xs := (Im b ((L.filter Av).map (·.vd)))) (i := j) oQ
  obtain ⟨Bm, om, am, hcm⟩ := (Ed (hS.own 8 rfl) (fun _ => rfl)) j m hm
  obtain ⟨e, he, heg⟩ := fO hEI (List.mem_of_getElem? hm)
  obtain ⟨ade, cpe, hev, _⟩ := (O8 (hS.get 5 rfl) he).sl (fun _ => rfl)
  have hTl := congrArg List.length hTs2
  simp only [List.length_append, List.length_map, List.length_take] at hTl
  refine CW.region ?_
  refine LW.pp (.An underlying30 sizeOf3 (j := j) (.t rfl) (.t rfl) oQ am) ?_
  refine LW.pp (.ld isAgg3 rfl (hcm.nth (j := 0) rfl)) ?_
  refine LW.A rfl (LW.T (CW.region (LW.M rfl (LW.M rfl (LW.M rfl ?_)))))
  refine LW.pp (.C1 (ok := false) underlying96 underlying3 (.t rfl) (.t rfl) (hS.get 2 rfl) (List.mem_map.2 ⟨e, he, by show (e.g, e.v) = _; rw [heg, hev]⟩)) ?_
  refine LW.pp (.build (cs := (TP.mk ade e.l cpe).cells) underlying64 zeroValue64 Ft (.cons (.t rfl) .nil) rfl) ?_
  refine Ah (.buildSlice (xs := [TP.mk ade e.l cpe]) (enc := TP.cells) (mk := fun t : TP => .agg t.cells) underlying51 sizeOf64 zeroValue64 rfl cQ (fun _ => rfl) (fun _ => rfl) (.cons (.t rfl) .nil) rfl) rfl ?_
  rintro _ w37 ⟨B109, cB109, rfl, NB109, yB109, xB109⟩
  have eB109 := NB109.at_
  have zB109 := NB109.size
  replace hS := hS.up NB109.up
  have hE109 := xB109
  refine Ah (.C3 (enc := TP.cells) (bytes := 24) (i := Tryz.t64) underlying51 kQ rfl rfl rfl rfl cQ (fun _ => rfl) TP.one (.t rfl) (.t rfl) (hS.own 7 rfl) (Aj hE109) (by simp only [maxLen, List.length_cons, List.length_nil]; omega) (by simp only [List.length_cons, List.length_nil]; omega)) rfl ?_
  intro v110 w38 Gw38
  have zw38 := Gw38.fr.size
  replace hS := hS.Dj 7 rfl Gw38
  change Wx.Sep _ _ _ [_, _, _, _, _, _, _, _, _] at hS
  refine LW.A rfl (LW.nil (KW.inBlock (KW.then (CW.region ?_))))
  refine LW.pp (.inc (.t rfl) oQ) ?_
  refine LW.M rfl (LW.nil (KW.round ?_))
  exact ⟨(j + 1, v110, Ts ++ [TP.mk ade e.l cpe]), ⟨by show j + 1 ≤ _; omega, by show (Ts ++ [_]).map TP.l = _; rw [List.map_append, hTs2, G6 hm, List.append_assoc, ← heg, ← hEI.val e he]; rfl, fun t ht => (List.mem_append.1 ht).elim (hTe2 t) (fun h => .inr ⟨e, he, by rw [List.mem_singleton.1 h]; exact ⟨hev, rfl⟩⟩), hS.take 9⟩, ⟨rfl, rfl, rfl, rfl, rfl, rfl, trivial⟩, by show (Im b ((L.filter Av).map (·.vd))).length - (j + 1) < (Im b ((L.filter Av).map (·.vd))).length - j; omega⟩
 replace h101 := dQ h101
 refine CW.exit (Aa (Aa (Ad (KW.then (CW.seq ?_)))))
 have hjl : j = (Im b ((L.filter Av).map (·.vd))).length := by omega
 rw [hjl, List.take_length] at hTs2
 obtain ⟨ado, cpo, rfl, hEo⟩ := (hS.own 7 rfl).sl (fun _ => rfl)
 have hco := (hS.own 7 rfl).cap
 refine CW.region (LW.M rfl (LW.M rfl ?_))
 refine LW.pp (.Dq underlying51 (.t rfl)) ?_
 refine LW.pp (.tK (i := Ts.length) (j := 16) (.t rfl) (.const _)) ?_
 refine LW.pp (.aV underlying51 sizeOf64 (.t rfl) (.t rfl) (by have := hco.1; omega)) ?_
 refine LW.A rfl (LW.T (CW.ret ?_))
 refine Af rfl rfl ⟨_, rfl, ?_⟩
 refine ⟨Ts.take 16, ?_, ?_, fun t ht => ?_, hS.Cu⟩
 ·rw [List.map_take, hTs2]; unfold Vm Vl; rw [← cK]
 ·exact kS hEo
 rcases hTe2 t (List.mem_of_mem_take ht) with ⟨e, he, h1, h2⟩ | ⟨e, he, h1, h2⟩
 · rw [← h1, ← h2]; exact (O8 (hS.get 4 rfl) he).sl (fun _ => rfl)
 rw [← h1, ← h2]; exact (O8 (hS.get 5 rfl) he).sl (fun _ => rfl)
end Go.Proofs.YtmimclgihlhaeaaGreat
end
section
namespace Go.Wx
def fS {α : Type} (le : α → α → Bool) (x : α) : List α → List α
 | [] => [x]
 | y :: l => if le x y then x :: y :: l else y :: fS le x l
def S8 {α : Type} (le : α → α → Bool) (l : List α) : List α := l.foldr (fS le) []
theorem Pd {α : Type} (le : α → α → Bool) (x : α) : ∀ l : List α, (fS le x l).Perm (x :: l)
 | [] => List.Perm.refl _
 | y :: l => by
   unfold fS
   split
   · exact List.Perm.refl _
   exact ((Pd le x l).cons y).trans (List.Perm.swap _ _ _)
theorem Uf {α : Type} (le : α → α → Bool) : ∀ l : List α, (S8 le l).Perm l
 | [] => List.Perm.refl _
 | y :: l => (Pd le y (S8 le l)).trans ((Uf le l).cons y)
theorem Py {α : Type} {le : α → α → Bool} (ht : ∀ a b c, le a b = true → le b c = true → le a c = true) (hb : ∀ a b, (le a b || le b a) = true) (x : α) : ∀ l : List α, l.Pairwise (fun a b => le a b = true) → (fS le x l).Pairwise fun a b => le a b = true
 | [], _ => List.pairwise_singleton _ _
 | y :: l, h => by
   have h1 := List.pairwise_cons.1 h
   unfold fS
   split
   · rename_i hxy
     exact List.pairwise_cons.2 ⟨fun z hz => (List.mem_cons.1 hz).elim (fun e => e ▸ hxy) fun hz => ht _ _ _ hxy (h1.1 z hz), h⟩
   rename_i hxy
   refine List.pairwise_cons.2 ⟨fun z hz => ?_, Py ht hb x l h1.2⟩
   rcases List.mem_cons.1 ((Pd le x l).mem_iff.1 hz) with rfl | hz
   · have := hb z y
     simp [hxy] at this
     exact this
   exact h1.1 z hz
theorem Pz {α : Type} {le : α → α → Bool} (ht : ∀ a b c, le a b = true → le b c = true → le a c = true) (hb : ∀ a b, (le a b || le b a) = true) : ∀ l : List α, (S8 le l).Pairwise fun a b => le a b = true
 | [] => List.Pairwise.nil
 | y :: l => Py ht hb y _ (Pz ht hb l)
theorem cM {α : Type} {le : α → α → Bool} (ht : ∀ a b c, le a b = true → le b c = true → le a c = true) (hb : ∀ a b, (le a b || le b a) = true) (ha : ∀ a b, le a b = true → le b a = true → a = b) (l : List α) : l.mergeSort le = S8 le l :=
 List.Perm.eq_of_pairwise (le := fun x y => le x y = true) (fun x y _ _ h1 h2 => ha x y h1 h2) (List.pairwise_mergeSort ht hb l) (Pz ht hb l) ((List.mergeSort_perm l _).trans (Uf le l).symm)
def qZ (x y : Int) : Bool := decide (x ≤ y)
theorem Pe (l : List Int) : F9 l = S8 qZ l :=
 cM (le := qZ) (fun a b c h k => by have h3 := of_decide_eq_true h; have h4 := of_decide_eq_true k; exact decide_eq_true oQ) (fun a b => by unfold qZ; simp; omega) (fun a b h k => by have h3 := of_decide_eq_true h; have h4 := of_decide_eq_true k; omega) l
theorem fT (l : List Ar2) : l.mergeSort S6 = S8 S6 l := cM Pb Pc (fun a b h k => Vi ((Kn b a).1 k) ((Kn a b).1 h)) l
def kU (w : Int) (L : List (Int × Bool)) : Vd := ⟨w, (Ck L).1, S8 qZ (Ck L).2⟩
def oO (b : Base) (x : Exc) : List Vd := if Ik x = true then (S8 qZ ((Xi b.Swaps (P5 b.Lots) b.Processes).filter Dv)).map fun w => kU w (lookW (Mc b.Swaps b.Gaps x b.Processes) w) else []
theorem qU (b : Base) (x : Exc) : G0 b x = oO b x := by
 have h : R6 = kU := funext fun w => funext fun L => by unfold R6 kU; rw [Pe]
 unfold G0 oO Ce
 rw [Pe, h]
def cN (b : Base) (O : List Vd) : List (List Int) := (S8 S6 (Qa (O.flatMap fun p => He b.Processes p.why))).map (Jt b.Processes O) ++ (S8 qZ (Qa ((O.map (Gq b)).filter fun n => decide (n ≠ 0)))).map (Fc b O)
theorem kV (b : Base) (O : List Vd) : Vl b O = cN b O := by
 unfold Vl cN Ga Im
 rw [fT, show (Qa ((O.map (Gq b)).filter fun n => decide (n ≠ 0))).mergeSort (fun x y => decide (x ≤ y)) = F9 _ from rfl, Pe]
def uF : Exc := ⟨2, 0, 100, 120, 5⟩
def kW : Fact := { Ij with Kind := 11, Version := 1, ID := 1, Tool := 2, Time := 24, Until := 30 }
def kX : Fact := { Ij with Kind := 4, Version := 1, Wafer := 2, Lot := 6, Product := 1 }
def kY : List Fact := [E9 11 1 90 105, E9 12 2 90 104, E9 13 3 126 130, E9 14 4 10 20, E9 15 5 10 18, kW, kX]
def v22 : List Vd := [⟨1, 2, [11]⟩, ⟨2, 1, [12]⟩, ⟨3, 0, []⟩, ⟨4, 1, [14]⟩, ⟨5, 0, []⟩]
theorem xD : G0 (F8 kY 0) uF = v22 := by rw [qU]; kernel_rfl
theorem wR : Vm (F8 kY 0) v22 = [[4], [2], [2]] := by unfold Vm; rw [kV]; kernel_rfl
theorem uL : (F8 kY 0).Processes = [E9 11 1 90 105, E9 12 2 90 104, E9 13 3 126 130, E9 14 4 10 20, E9 15 5 10 18] := by kernel_rfl
theorem aL : ∀ p ∈ (F8 kY 0).Processes, Js p := by
 rw [uL]
 intro p hp
 simp only [List.mem_cons, List.not_mem_nil, or_false] at hp
 rcases hp with rfl | rfl | rfl | rfl | rfl <;> simp [Js, E9]
theorem cO : (F8 kY 0).Gaps.length = 1 := by kernel_rfl
theorem cP : (F8 kY 0).Swaps.length = 0 := by kernel_rfl
theorem Sj : (F8 kY 0).Lots.length = 1 := by kernel_rfl
theorem kZ (L : List VP) : jV L = ((L.map (·.vd)).filter fun v => decide (v.t = 1)).map (·.w) := by
 rw [← cK, List.map_map]
 rfl
def TsOk (w : World) (Ts : List TP) : Prop := ∀ t ∈ Ts, Sl w t.v 1 A8 t.l
theorem TsOk.up {w w' : World} {Ts : List TP} (h : TsOk w Ts) (u : Up w w') : TsOk w' Ts := fun t ht => Sl.up (h t ht) u
theorem oP {α : Type} (w : World) (k : Nat) (enc : α → Array Go.Value) : Sl w (.slice none 0 0) k enc [] := ⟨none, 0, rfl, fun i x hx => by simp at hx⟩
end Go.Wx
namespace Go.Proofs.YtmimclgihlhaeaaGreat
open Go.Proofs.Tryz
open Go.Wx Go.RowKit
set_option maxHeartbeats 4000000 in
theorem aM (w : World) : Ret Tryz.prog 10 #[] w fun r w' => r = .bool true ∧ Up w w' := by
 obtain ⟨w0, rfl⟩ : ∃ w0, w0 = w := ⟨_, rfl⟩
 have hS := Sep.start no w0
 refine cS (n := 69) (m := 9) func10 rfl rfl rfl ?_
 refine CW.S (LW.C (LW.S (CW.region ?_)))
 refine LW.pp (.build (cs := uF.cells) underlying25 zeroValue25 G2 (.cons (.const _) (.cons (.const _) (.cons (.const _) (.cons (.const _) .nil)))) kQ) ?_
 refine Ah (.A7 zeroValue25) rfl ?_
 rintro _ w1 ⟨B1, rfl, MB1⟩
 refine LW.E (.A3 sizeOf25 rfl (.t rfl) (.t rfl) (Exc.one _) MB1.blk rfl) ?_
 intro w2 LB1
 have NB1 := MB1.set LB1
 clear LB1 MB1
 have eB1 := NB1.at_
 have zB1 := NB1.size
 replace hS := hS.C7 NB1
 change Wx.Sep _ _ _ [_] at hS
 refine LW.S (CW.region ?_)
 refine LW.K (eC (.cons (.const _) (.cons (.const _) (.cons (.const _) (.cons (.const _) .nil)))) (gH)) rfl (Fz _ _ _ _ _) ?_
 rintro _ w3 ⟨rfl, uw3⟩
 have zw3 := uw3.size
 replace hS := hS.up uw3
 refine LW.K (eC (.cons (.const _) (.cons (.const _) (.cons (.const _) (.cons (.const _) .nil)))) (gH)) rfl (Fz _ _ _ _ _) ?_
 rintro _ w4 ⟨rfl, uw4⟩
 have zw4 := uw4.size
 replace hS := hS.up uw4
 refine LW.K (eC (.cons (.const _) (.cons (.const _) (.cons (.const _) (.cons (.const _) .nil)))) (gH)) rfl (Fz _ _ _ _ _) ?_
 rintro _ w5 ⟨rfl, uw5⟩
 have zw5 := uw5.size
 replace hS := hS.up uw5
 refine LW.K (eC (.cons (.const _) (.cons (.const _) (.cons (.const _) (.cons (.const _) .nil)))) (gH)) rfl (Fz _ _ _ _ _) ?_
 rintro _ w6 ⟨rfl, uw6⟩
 have zw6 := uw6.size
 replace hS := hS.up uw6
 refine LW.K (eC (.cons (.const _) (.cons (.const _) (.cons (.const _) (.cons (.const _) .nil)))) (gH)) rfl (Fz _ _ _ _ _) ?_
 rintro _ w7 ⟨rfl, uw7⟩
 have zw7 := uw7.size
 replace hS := hS.up uw7
 refine LW.pp (.build (cs := kW.cells) underlying36 zeroValue36 C8 (.cons (.const _) (.cons (.const _) (.cons (.const _) (.cons (.const _) (.cons (.const _) (.cons (.const _) .nil)))))) kQ) ?_
 refine LW.pp (.build (cs := kX.cells) underlying36 zeroValue36 C8 (.cons (.const _) (.cons (.const _) (.cons (.const _) (.cons (.const _) (.cons (.const _) .nil))))) kQ) ?_
 refine Ah (.buildSlice (xs := [E9 11 1 90 105, E9 12 2 90 104, E9 13 3 126 130, E9 14 4 10 20, E9 15 5 10 18, kW, kX]) (enc := Fact.cells) (mk := fun f : Fact => .agg f.cells) underlying23 sizeOf36 zeroValue36 rfl cQ (fun _ => rfl) (fun _ => rfl) (.cons (.t rfl) (.cons (.t rfl) (.cons (.t rfl) (.cons (.t rfl) (.cons (.t rfl) (.cons (.t rfl) (.cons (.t rfl) .nil))))))) rfl) rfl ?_
 rintro _ w8 ⟨B15, cB15, rfl, NB15, yB15, xB15⟩
 have eB15 := NB15.at_
 have zB15 := NB15.size
 replace hS := hS.up NB15.up
 have hE15 := xB15
 refine LW.K (eC (.cons (.t rfl) (.cons (.const _) .nil)) (gG)) rfl (Zj _ _ kY 0 _ hE15 cQ) ?_
 rintro _ w9 ⟨bc, rfl, hC, uw9⟩
 have zw9 := uw9.size
 replace hS := hS.up uw9
 refine Ah (.A7 zeroValue38) rfl ?_
 rintro _ w10 ⟨B2, rfl, MB2⟩
 refine LW.E (.A3 sizeOf38 hC.size (.t rfl) (.t rfl) hC.one MB2.blk rfl) ?_
 intro w11 LB2
 have NB2 := MB2.set LB2
 clear LB2 MB2
 have eB2 := NB2.at_
 have zB2 := NB2.size
 replace hC := hC.up NB2.up
 replace hS := hS.C7 NB2
 change Wx.Sep _ _ _ [_, _] at hS
 refine LW.S (CW.region ?_)
 refine LW.pp (.Ky isAgg38 sizeOf38 (hC.size) (.t rfl) ((hS.blk 1 rfl).agg)) ?_
 refine LW.pp (.la isAgg25 sizeOf25 rfl ((hS.blk 0 rfl).agg)) ?_
 refine LW.K (eC (.u rfl rfl) (dA)) rfl (Ma bc (F8 kY 0) uF _ hC aL (by rw [uL]; decide) (by rw [cO]; decide) (by rw [Sj]; decide) (by rw [cP]; decide)) ?_
 rintro _ w12 ⟨v19, L19, rfl, hm19, hT19⟩
 rw [xD] at hm19
 have hl19 : L19.length = 5 := by have h5 := congrArg List.length hm19; rw [List.length_map] at h5; exact h5
 have hy19 : ∀ p ∈ L19, p.vd.why.length ≤ 1 := fun p hp => by
  have h5 : p.vd ∈ v22 := by rw [← hm19]; exact List.mem_map.2 ⟨p, hp, rfl⟩
  simp only [v22, List.mem_cons, List.not_mem_nil, or_false] at h5
  rcases h5 with h | h | h | h | h <;> rw [h] <;> decide
 replace hC := hC.up hT19.Cu
 replace hS := hS.join hT19
 change Wx.Sep _ _ _ [_, _, _, _] at hS
 clear hT19
 obtain ⟨ad19, cp19, rfl, _⟩ := (hS.own 2 rfl).sl (fun _ => rfl)
 refine LW.A rfl (LW.S (CW.region ?_))
 refine Ah (.buildSlice (xs := [11]) (enc := A8) (mk := vi) underlying30 sizeOf3 zeroValue3 rfl cQ (fun _ => rfl) (fun _ => rfl) (.cons (.const _) .nil) rfl) rfl ?_
 rintro _ w13 ⟨B20, cB20, rfl, NB20, yB20, xB20⟩
 have eB20 := NB20.at_
 have zB20 := NB20.size
 replace hC := hC.up NB20.up
 replace hS := hS.up NB20.up
 have hE20 := xB20
 refine LW.pp (.build (cs := (VP.mk ⟨1, 2, [11]⟩ (some ⟨B20, 0, none⟩) 1).cells) underlying32 zeroValue32 El (.cons (.const _) (.cons (.const _) (.cons (.t rfl) .nil))) rfl) ?_
 refine Ah (.buildSlice (xs := [12]) (enc := A8) (mk := vi) underlying30 sizeOf3 zeroValue3 rfl cQ (fun _ => rfl) (fun _ => rfl) (.cons (.const _) .nil) rfl) rfl ?_
 rintro _ w14 ⟨B22, cB22, rfl, NB22, yB22, xB22⟩
 have eB22 := NB22.at_
 have zB22 := NB22.size
 replace hC := hC.up NB22.up
 replace hS := hS.up NB22.up
 replace hE20 := hE20.up NB22.up
 have hE22 := xB22
 refine LW.pp (.build (cs := (VP.mk ⟨2, 1, [12]⟩ (some ⟨B22, 0, none⟩) 1).cells) underlying32 zeroValue32 El (.cons (.const _) (.cons (.const _) (.cons (.t rfl) .nil))) rfl) ?_
 refine LW.pp (.build (cs := (VP.mk ⟨3, 0, []⟩ none 0).cells) underlying32 zeroValue32 El (.cons (.const _) .nil) rfl) ?_
 refine Ah (.buildSlice (xs := [14]) (enc := A8) (mk := vi) underlying30 sizeOf3 zeroValue3 rfl cQ (fun _ => rfl) (fun _ => rfl) (.cons (.const _) .nil) rfl) rfl ?_
 rintro _ w15 ⟨B25, cB25, rfl, NB25, yB25, xB25⟩
 have eB25 := NB25.at_
 have zB25 := NB25.size
 replace hC := hC.up NB25.up
 replace hS := hS.up NB25.up
 replace hE20 := hE20.up NB25.up
 replace hE22 := hE22.up NB25.up
 have hE25 := xB25
 refine LW.pp (.build (cs := (VP.mk ⟨4, 1, [14]⟩ (some ⟨B25, 0, none⟩) 1).cells) underlying32 zeroValue32 El (.cons (.const _) (.cons (.const _) (.cons (.t rfl) .nil))) rfl) ?_
 refine LW.pp (.build (cs := (VP.mk ⟨5, 0, []⟩ none 0).cells) underlying32 zeroValue32 El (.cons (.const _) .nil) rfl) ?_
 refine Ah (.buildSlice (xs := [(VP.mk ⟨1, 2, [11]⟩ (some ⟨B20, 0, none⟩) 1), (VP.mk ⟨2, 1, [12]⟩ (some ⟨B22, 0, none⟩) 1), (VP.mk ⟨3, 0, []⟩ none 0), (VP.mk ⟨4, 1, [14]⟩ (some ⟨B25, 0, none⟩) 1), (VP.mk ⟨5, 0, []⟩ none 0)]) (enc := VP.cells) (mk := fun p : VP => .agg p.cells) underlying27 sizeOf32 zeroValue32 rfl cQ (fun _ => rfl) (fun _ => rfl) (.cons (.t rfl) (.cons (.t rfl) (.cons (.t rfl) (.cons (.t rfl) (.cons (.t rfl) .nil))))) rfl) rfl ?_
 rintro _ w16 ⟨B28, cB28, rfl, NB28, yB28, xB28⟩
 have eB28 := NB28.at_
 have zB28 := NB28.size
 replace hC := hC.up NB28.up
 replace hS := hS.up NB28.up
 replace hE20 := hE20.up NB28.up
 replace hE22 := hE22.up NB28.up
 replace hE25 := hE25.up NB28.up
 have hE28 := xB28
 refine LW.A rfl (LW.S (CW.region (LW.M rfl ?_)))
 refine LW.K (eC (.o rfl) (uT)) rfl (jW ad19 cp19 L19 _ (Ed (hS.own 2 rfl) (fun _ => rfl)) (by rw [hl19]; decide)) ?_
 rintro v30 w17 ⟨hO30, uw17⟩
 have zw17 := uw17.size
 replace hC := hC.up uw17
 replace hE20 := hE20.up uw17
 replace hE22 := hE22.up uw17
 replace hE25 := hE25.up uw17
 replace hE28 := hE28.up uw17
 replace hS := hS.add uw17 (A' := Ai 3 1 A8 v30 (jV L19)) (hO30.mono (Nat.zero_le _)) (fun i h => hO30.base i h)
 change Wx.Sep _ _ _ [_, _, _, _, _] at hS
 clear hO30
 rw [kZ, hm19] at hS
 change Wx.Sep _ _ _ [_, _, _, _, _] at hS
 refine LW.A rfl (LW.S (CW.region ?_))
 refine LW.pp (.Ky isAgg38 sizeOf38 (hC.size) (.t rfl) ((hS.blk 1 rfl).agg)) ?_
 refine LW.M rfl ?_
 refine LW.K (eC (.u rfl rfl) (uV)) rfl (fR bc (F8 kY 0) ad19 cp19 L19 _ hC aL (Ed (hS.own 2 rfl) (fun _ => rfl)) (N8 (hS.get 3 rfl)) (fun p hp => Nat.le_trans (hy19 p hp) cQ) (by rw [hl19]; decide) (by rw [uL]; decide) (by rw [Sj]; decide)) ?_
 rintro v33 w18 ⟨Ts, hTl, hTs, hTw, uw18⟩
 have zw18 := uw18.size
 replace hC := hC.up uw18
 replace hS := hS.up uw18
 replace hE20 := hE20.up uw18
 replace hE22 := hE22.up uw18
 replace hE25 := hE25.up uw18
 replace hE28 := hE28.up uw18
 rw [hm19, wR] at hTl
 obtain ⟨ad33, cp33, rfl, hE33⟩ := hTs
 replace hE33 : Els w18 ad33 1 TP.cells Ts := hE33
 replace hTw : TsOk w18 Ts := hTw
 refine LW.A rfl (LW.S (CW.region (LW.M rfl (LW.M rfl ?_))))
 refine LW.K (eC (.u rfl rfl) (lK)) rfl (Si ad19 cp19 _ _ L19 [(VP.mk ⟨1, 2, [11]⟩ (some ⟨B20, 0, none⟩) 1), (VP.mk ⟨2, 1, [12]⟩ (some ⟨B22, 0, none⟩) 1), (VP.mk ⟨3, 0, []⟩ none 0), (VP.mk ⟨4, 1, [14]⟩ (some ⟨B25, 0, none⟩) 1), (VP.mk ⟨5, 0, []⟩ none 0)] _ (Ed (hS.own 2 rfl) (fun _ => rfl)) hE28 (N8 (hS.get 3 rfl)) (fun p hp => (by simp only [List.mem_cons, List.not_mem_nil, or_false] at hp; rcases hp with rfl | rfl | rfl | rfl | rfl <;> first | exact Aj hE20 | exact Aj hE22 | exact Aj hE25 | exact oP _ _ _)) (fun p hp => Nat.le_trans (hy19 p hp) cQ) (fun p hp => (by simp only [List.mem_cons, List.not_mem_nil, or_false] at hp; rcases hp with rfl | rfl | rfl | rfl | rfl <;> exact Nat.le_of_ble_eq_true rfl)) (by rw [hl19]; decide)) ?_
 rintro _ w19 ⟨rfl, uw19⟩
 have zw19 := uw19.size
 replace hC := hC.up uw19
 replace hS := hS.up uw19
 replace hE20 := hE20.up uw19
 replace hE22 := hE22.up uw19
 replace hE25 := hE25.up uw19
 replace hE28 := hE28.up uw19
 replace hE33 := hE33.up uw19
 replace hTw := hTw.up uw19
 rw [show decide (L19.map (·.vd) = ([(VP.mk ⟨1, 2, [11]⟩ (some ⟨B20, 0, none⟩) 1), (VP.mk ⟨2, 1, [12]⟩ (some ⟨B22, 0, none⟩) 1), (VP.mk ⟨3, 0, []⟩ none 0), (VP.mk ⟨4, 1, [14]⟩ (some ⟨B25, 0, none⟩) 1), (VP.mk ⟨5, 0, []⟩ none 0)] : List VP).map (·.vd)) = true from decide_eq_true hm19]
 refine LW.M rfl ?_
 refine LW.Y ?_
 refine LW.M rfl ?_
 refine LW.Y ?_
 refine Ah (.buildSlice (xs := [2, 4]) (enc := A8) (mk := vi) underlying30 sizeOf3 zeroValue3 rfl cQ (fun _ => rfl) (fun _ => rfl) (.cons (.const _) (.cons (.const _) .nil)) rfl) rfl ?_
 rintro _ w20 ⟨B39, cB39, rfl, NB39, yB39, xB39⟩
 have eB39 := NB39.at_
 have zB39 := NB39.size
 replace hC := hC.up NB39.up
 replace hS := hS.up NB39.up
 replace hE20 := hE20.up NB39.up
 replace hE22 := hE22.up NB39.up
 replace hE25 := hE25.up NB39.up
 replace hE28 := hE28.up NB39.up
 replace hE33 := hE33.up NB39.up
 replace hTw := hTw.up NB39.up
 have hE39 := xB39
 refine LW.Y ?_
 refine LW.K (eC (.u rfl rfl) (oW)) rfl (Kp _ _ _ [2, 4] _ ((hS.own 4 rfl).sl (fun _ => rfl)) (Aj hE39) cQ cQ) ?_
 rintro _ w21 ⟨rfl, uw21⟩
 have zw21 := uw21.size
 replace hC := hC.up uw21
 replace hS := hS.up uw21
 replace hE20 := hE20.up uw21
 replace hE22 := hE22.up uw21
 replace hE25 := hE25.up uw21
 replace hE28 := hE28.up uw21
 replace hE33 := hE33.up uw21
 replace hTw := hTw.up uw21
 replace hE39 := hE39.up uw21
 rw [show decide ((v22.filter fun v => decide (v.t = 1)).map (·.w) = [2, 4]) = true from by kernel_rfl]
 refine LW.pp (.Az (.t rfl) (fun hp => (by first | exact .const _ | exact .tmp rfl | exact .cond rfl (by first | assumption | (rw [hp]; rfl) | (rw [hc, hp]; rfl) | simp_all)))) ?_
 refine LW.M rfl ?_
 refine LW.Y ?_
 refine LW.M rfl ?_
 refine LW.Y ?_
 refine Ah (.buildSlice (xs := [4]) (enc := A8) (mk := vi) underlying30 sizeOf3 zeroValue3 rfl cQ (fun _ => rfl) (fun _ => rfl) (.cons (.const _) .nil) rfl) rfl ?_
 rintro _ w22 ⟨B44, cB44, rfl, NB44, yB44, xB44⟩
 have eB44 := NB44.at_
 have zB44 := NB44.size
 replace hC := hC.up NB44.up
 replace hS := hS.up NB44.up
 replace hE20 := hE20.up NB44.up
 replace hE22 := hE22.up NB44.up
 replace hE25 := hE25.up NB44.up
 replace hE28 := hE28.up NB44.up
 replace hE33 := hE33.up NB44.up
 replace hTw := hTw.up NB44.up
 replace hE39 := hE39.up NB44.up
 have hE44 := xB44
 refine LW.Y ?_
 refine LW.pp (.build (cs := (TP.mk (some ⟨B44, 0, none⟩) [4] 1).cells) underlying64 zeroValue64 Ft (.cons (.t rfl) .nil) rfl) ?_
 refine LW.Y ?_
 refine Ah (.buildSlice (xs := [2]) (enc := A8) (mk := vi) underlying30 sizeOf3 zeroValue3 rfl cQ (fun _ => rfl) (fun _ => rfl) (.cons (.const _) .nil) rfl) rfl ?_
 rintro _ w23 ⟨B46, cB46, rfl, NB46, yB46, xB46⟩
 have eB46 := NB46.at_
 have zB46 := NB46.size
 replace hC := hC.up NB46.up
 replace hS := hS.up NB46.up
 replace hE20 := hE20.up NB46.up
 replace hE22 := hE22.up NB46.up
 replace hE25 := hE25.up NB46.up
 replace hE28 := hE28.up NB46.up
 replace hE33 := hE33.up NB46.up
 replace hTw := hTw.up NB46.up
 replace hE39 := hE39.up NB46.up
 replace hE44 := hE44.up NB46.up
 have hE46 := xB46
 refine LW.Y ?_
 refine LW.pp (.build (cs := (TP.mk (some ⟨B46, 0, none⟩) [2] 1).cells) underlying64 zeroValue64 Ft (.cons (.t rfl) .nil) rfl) ?_
 refine LW.Y ?_
 refine Ah (.buildSlice (xs := [2]) (enc := A8) (mk := vi) underlying30 sizeOf3 zeroValue3 rfl cQ (fun _ => rfl) (fun _ => rfl) (.cons (.const _) .nil) rfl) rfl ?_
 rintro _ w24 ⟨B48, cB48, rfl, NB48, yB48, xB48⟩
 have eB48 := NB48.at_
 have zB48 := NB48.size
 replace hC := hC.up NB48.up
 replace hS := hS.up NB48.up
 replace hE20 := hE20.up NB48.up
 replace hE22 := hE22.up NB48.up
 replace hE25 := hE25.up NB48.up
 replace hE28 := hE28.up NB48.up
 replace hE33 := hE33.up NB48.up
 replace hTw := hTw.up NB48.up
 replace hE39 := hE39.up NB48.up
 replace hE44 := hE44.up NB48.up
 replace hE46 := hE46.up NB48.up
 have hE48 := xB48
 refine LW.Y ?_
 refine LW.pp (.build (cs := (TP.mk (some ⟨B48, 0, none⟩) [2] 1).cells) underlying64 zeroValue64 Ft (.cons (.t rfl) .nil) rfl) ?_
 refine LW.Y ?_
 refine Ah (.buildSlice (xs := [(TP.mk (some ⟨B44, 0, none⟩) [4] 1), (TP.mk (some ⟨B46, 0, none⟩) [2] 1), (TP.mk (some ⟨B48, 0, none⟩) [2] 1)]) (enc := TP.cells) (mk := fun t : TP => .agg t.cells) underlying51 sizeOf64 zeroValue64 rfl cQ (fun _ => rfl) (fun _ => rfl) (.cons (.t rfl) (.cons (.t rfl) (.cons (.t rfl) .nil))) rfl) rfl ?_
 rintro _ w25 ⟨B50, cB50, rfl, NB50, yB50, xB50⟩
 have eB50 := NB50.at_
 have zB50 := NB50.size
 replace hC := hC.up NB50.up
 replace hS := hS.up NB50.up
 replace hE20 := hE20.up NB50.up
 replace hE22 := hE22.up NB50.up
 replace hE25 := hE25.up NB50.up
 replace hE28 := hE28.up NB50.up
 replace hE33 := hE33.up NB50.up
 replace hTw := hTw.up NB50.up
 replace hE39 := hE39.up NB50.up
 replace hE44 := hE44.up NB50.up
 replace hE46 := hE46.up NB50.up
 replace hE48 := hE48.up NB50.up
 have hE50 := xB50
 refine LW.Y ?_
 refine LW.K (eC (.u rfl rfl) (uU)) rfl (Yf ad33 cp33 _ _ Ts [(TP.mk (some ⟨B44, 0, none⟩) [4] 1), (TP.mk (some ⟨B46, 0, none⟩) [2] 1), (TP.mk (some ⟨B48, 0, none⟩) [2] 1)] _ hE33 hE50 hTw (fun p hp => (by simp only [List.mem_cons, List.not_mem_nil, or_false] at hp; rcases hp with rfl | rfl | rfl <;> first | exact Aj hE44 | exact Aj hE46 | exact Aj hE48)) (fun p hp => (by have h5 : p.l ∈ ([[4], [2], [2]] : List (List Int)) := (by rw [← hTl]; exact List.mem_map.2 ⟨p, hp, rfl⟩); simp only [List.mem_cons, List.not_mem_nil, or_false] at h5; rcases h5 with h | h | h <;> rw [h] <;> decide)) (fun p hp => (by simp only [List.mem_cons, List.not_mem_nil, or_false] at hp; rcases hp with rfl | rfl | rfl <;> exact Nat.le_of_ble_eq_true rfl)) (by have h5 := congrArg List.length hTl; rw [List.length_map] at h5; rw [h5]; decide)) ?_
 rintro _ w26 ⟨rfl, uw26⟩
 have zw26 := uw26.size
 replace hC := hC.up uw26
 replace hS := hS.up uw26
 replace hE20 := hE20.up uw26
 replace hE22 := hE22.up uw26
 replace hE25 := hE25.up uw26
 replace hE28 := hE28.up uw26
 replace hE33 := hE33.up uw26
 replace hTw := hTw.up uw26
 replace hE39 := hE39.up uw26
 replace hE44 := hE44.up uw26
 replace hE46 := hE46.up uw26
 replace hE48 := hE48.up uw26
 rw [show decide (Ts.map (·.l) = ([(TP.mk (some ⟨B44, 0, none⟩) [4] 1), (TP.mk (some ⟨B46, 0, none⟩) [2] 1), (TP.mk (some ⟨B48, 0, none⟩) [2] 1)] : List TP).map (·.l)) = true from decide_eq_true hTl]
 refine LW.pp (.Az (.t rfl) (fun hp => (by first | exact .const _ | exact .tmp rfl | exact .cond rfl (by first | assumption | (rw [hp]; rfl) | (rw [hc, hp]; rfl) | simp_all)))) ?_
 refine LW.M rfl ?_
 refine LW.Y ?_
 refine LW.pp (.la isAgg25 sizeOf25 rfl ((hS.blk 0 rfl).agg)) ?_
 refine LW.Y ?_
 refine LW.K (eC (.o rfl) (oV)) rfl (M3 uF _) ?_
 rintro _ w27 ⟨rfl, uw27⟩
 have zw27 := uw27.size
 replace hC := hC.up uw27
 replace hS := hS.up uw27
 replace hE20 := hE20.up uw27
 replace hE22 := hE22.up uw27
 replace hE25 := hE25.up uw27
 replace hE28 := hE28.up uw27
 replace hE33 := hE33.up uw27
 replace hTw := hTw.up uw27
 replace hE39 := hE39.up uw27
 replace hE44 := hE44.up uw27
 replace hE46 := hE46.up uw27
 replace hE48 := hE48.up uw27
 rw [show Ik uF = true from by kernel_rfl]
 refine LW.pp (.Az (.t rfl) (fun hp => (by first | exact .const _ | exact .tmp rfl | exact .cond rfl (by first | assumption | (rw [hp]; rfl) | (rw [hc, hp]; rfl) | simp_all)))) ?_
 refine LW.M rfl ?_
 refine LW.Y ?_
 refine LW.pp (.build (cs := (Exc.mk 0 0 5 0 0).cells) underlying25 zeroValue25 G2 (.cons (.const _) .nil) kQ) ?_
 refine LW.Y ?_
 refine LW.K (eC (.o rfl) (oV)) rfl (M3 (Exc.mk 0 0 5 0 0) _) ?_
 rintro _ w28 ⟨rfl, uw28⟩
 have zw28 := uw28.size
 replace hC := hC.up uw28
 replace hS := hS.up uw28
 replace hE20 := hE20.up uw28
 replace hE22 := hE22.up uw28
 replace hE25 := hE25.up uw28
 replace hE28 := hE28.up uw28
 replace hE33 := hE33.up uw28
 replace hTw := hTw.up uw28
 replace hE39 := hE39.up uw28
 replace hE44 := hE44.up uw28
 replace hE46 := hE46.up uw28
 replace hE48 := hE48.up uw28
 rw [show Ik (Exc.mk 0 0 5 0 0) = false from by kernel_rfl]
 refine LW.Y ?_
 refine LW.pp (.tr (PEv.not (.t rfl)) (rfl)) ?_
 refine LW.pp (.Az (.t rfl) (fun hp => (by first | exact .const _ | exact .tmp rfl | exact .cond rfl (by first | assumption | (rw [hp]; rfl) | (rw [hc, hp]; rfl) | simp_all)))) ?_
 refine LW.M rfl ?_
 refine LW.Y ?_
 refine LW.pp (.Ky isAgg38 sizeOf38 (hC.size) (.t rfl) ((hS.blk 1 rfl).agg)) ?_
 refine LW.Y ?_
 refine LW.pp (.build (cs := (Exc.mk 0 0 5 0 0).cells) underlying25 zeroValue25 G2 (.cons (.const _) .nil) kQ) ?_
 refine LW.Y ?_
 refine LW.K (eC (.u rfl rfl) (dA)) rfl (Ma bc (F8 kY 0) (Exc.mk 0 0 5 0 0) _ hC aL (by rw [uL]; decide) (by rw [cO]; decide) (by rw [Sj]; decide) (by rw [cP]; decide)) ?_
 rintro _ w29 ⟨v65, L65, rfl, hm65, hT65⟩
 have hn65 : L65 = [] := List.map_eq_nil_iff.1 (hm65.trans kQ)
 subst hn65
 replace hS := hS.join hT65
 change Wx.Sep _ _ _ [_, _, _, _, _, _, _] at hS
 clear hT65 hm65
 obtain ⟨ad65, cp65, rfl, _⟩ := (hS.own 5 rfl).sl (fun _ => rfl)
 refine LW.Y ?_
 refine LW.pp (.Dq underlying27 (.t rfl)) ?_
 refine LW.Y ?_
 refine LW.pp (.tr (PEv.eql (.t rfl) (.const _)) (rfl)) ?_
 refine LW.pp (.Az (.t rfl) (fun hp => (by first | exact .const _ | exact .tmp rfl | exact .cond rfl (by first | assumption | (rw [hp]; rfl) | (rw [hc, hp]; rfl) | simp_all)))) ?_
 refine LW.A rfl (LW.T (CW.ret ?_))
 refine Af rfl rfl ⟨_, rfl, ?_⟩
 exact ⟨rfl, hS.Cu⟩
end Go.Proofs.YtmimclgihlhaeaaGreat
end
section
namespace Go.Wx
theorem aN (D : List (Int × List (Int × Bool))) (w id : Int) (s : Bool) (v : Int) : lookW (R5 D w id s) v = if v = w then Gp (lookW D w) id s else lookW D v := by
 unfold R5
 split
 · rename_i hm
   unfold lookW
   rw [List.find?_map]
   have hp : ((fun e : Int × List (Int × Bool) => decide (e.1 = v)) ∘ fun e => if e.1 = w then (w, Gp e.2 id s) else e) = fun e => decide (e.1 = v) := funext fun e => by
     simp only [Function.comp]
     split
     · rename_i h; rw [h]
     rfl
   rw [hp]
   by_cases hv : v = w
   · rw [if_pos hv, hv]
     cases hf : D.find? fun e => decide (e.1 = w) with
     | none =>
       obtain ⟨e, he, ew⟩ := List.mem_map.1 hm
       exact absurd (List.find?_eq_none.1 hf e he) (by simp [ew])
     | some e =>
       have he : e.1 = w := of_decide_eq_true (List.find?_some (p := fun e : Int × List (Int × Bool) => decide (e.1 = w)) hf)
       simp [he]
   rw [if_neg hv]
   cases hf : D.find? fun e => decide (e.1 = v) with
   | none => rfl
   | some e =>
     have he : e.1 = v := of_decide_eq_true (List.find?_some (p := fun e : Int × List (Int × Bool) => decide (e.1 = v)) hf)
     have hn : ¬ e.1 = w := by rw [he]; exact hv
     simp [hn]
 rename_i hm
 have hf : D.find? (fun e => decide (e.1 = w)) = none := List.find?_eq_none.2 fun e he h => hm (List.mem_map.2 ⟨e, he, of_decide_eq_true h⟩)
 unfold lookW
 rw [List.find?_append]
 by_cases hv : v = w
 · rw [if_pos hv, hv, hf]; simp
 rw [if_neg hv]
 have : [(w, Gp [] id s)].find? (fun e => decide (e.1 = v)) = none := by
   rw [List.find?_cons, decide_eq_false (fun h => hv h.symm)]; rfl
 rw [this, Option.or_none]
theorem fU (L : List (Int × Bool)) (id : Int) (s : Bool) (k : Int) : (k, true) ∈ Gp L id s ↔ (k, true) ∈ L ∨ (k = id ∧ s = true) := by
 unfold Gp
 split
 · rename_i hm
   obtain ⟨q, hq, hi⟩ := List.mem_map.1 hm
   rw [List.mem_map]
   constructor
   · rintro ⟨x, hx, h⟩
     split at h
     · rename_i h1
       simp only [Prod.mk.injEq, Bool.or_eq_true] at h
       obtain ⟨h2, h3⟩ := h
       rcases h3 with h3 | h3
       · refine .inl ?_
         rw [← h2, ← h1, ← h3]
         exact hx
       exact .inr ⟨h2.symm, h3⟩
     exact .inl (h ▸ hx)
   rintro (h | ⟨rfl, rfl⟩)
   · refine ⟨(k, true), h, ?_⟩
     by_cases e : k = id
     · simp [e]
     simp [e]
   exact ⟨q, hq, by rw [if_pos hi, Bool.or_true]⟩
 simp
def Jv (ss gs : List Fact) (x : Exc) (w : Int) (p : Fact) : Bool := Ha x p && R0 gs x p && decide (Jc ss p.Time p.Wafer = w)
def Yi (ss gs : List Fact) (x : Exc) (w : Int) (l : List Fact) : List (Int × Bool) := l.foldl (fun L p => if Jv ss gs x w p then Gp L p.ID (Fi x p) else L) []
theorem Lq (ss gs : List Fact) (x : Exc) (w : Int) (l : List Fact) (p : Fact) : Yi ss gs x w (l ++ [p]) = if Jv ss gs x w p then Gp (Yi ss gs x w l) p.ID (Fi x p) else Yi ss gs x w l := by
 unfold Yi
 rw [List.foldl_append]
 rfl
theorem fV (ss gs : List Fact) (x : Exc) (l : List Fact) (p : Fact) : Mc ss gs x (l ++ [p]) = if Ha x p && R0 gs x p then R5 (Mc ss gs x l) (Jc ss p.Time p.Wafer) p.ID (Fi x p) else Mc ss gs x l := by
 unfold Mc
 rw [List.foldl_append]
 rfl
theorem Ug (ss gs : List Fact) (x : Exc) (w : Int) (l : List Fact) : lookW (Mc ss gs x l) w = Yi ss gs x w l := by
 refine I0 (p := fun l => lookW (Mc ss gs x l) w = Yi ss gs x w l) rfl (fun l p h => ?_) l
 rw [fV, Lq]
 unfold Jv
 cases h1 : Ha x p && R0 gs x p with
 | false => simpa using h
 | true =>
   rw [if_pos rfl, aN, Bool.true_and]
   by_cases e : w = Jc ss p.Time p.Wafer
   · rw [if_pos e, ← e, h]; simp
   rw [if_neg e, h, if_neg]
   simpa using fun h' : Jc ss p.Time p.Wafer = w => e h'.symm
theorem cR (ss gs : List Fact) (x : Exc) (w : Int) (l : List Fact) (k : Int) : k ∈ (Yi ss gs x w l).map (·.1) ↔ ∃ p ∈ l, Jv ss gs x w p = true ∧ p.ID = k := by
 refine I0 (p := fun l => k ∈ (Yi ss gs x w l).map (·.1) ↔ ∃ p ∈ l, Jv ss gs x w p = true ∧ p.ID = k) (by simp [Yi]) (fun l p h => ?_) l
 rw [Lq]
 have e : (∃ q ∈ l ++ [p], Jv ss gs x w q = true ∧ q.ID = k) ↔ (∃ q ∈ l, Jv ss gs x w q = true ∧ q.ID = k) ∨ (Jv ss gs x w p = true ∧ p.ID = k) := by
   simp only [List.mem_append, List.mem_singleton]
   constructor
   · rintro ⟨f, hf | rfl, h2⟩
     · exact .inl ⟨f, hf, h2⟩
     exact .inr h2
   rintro (⟨f, hf, h2⟩ | h2)
   · exact ⟨f, .inl hf, h2⟩
   exact ⟨p, .inr rfl, h2⟩
 rw [e]
 cases h1 : Jv ss gs x w p with
 | false => rw [if_neg Bool.false_ne_true, h]; simp
 | true => rw [if_pos rfl, fB, h]; exact or_congr Iff.rfl ⟨fun e => ⟨rfl, e.symm⟩, fun e => e.2.symm⟩
theorem Yj (ss gs : List Fact) (x : Exc) (w : Int) (l : List Fact) (k : Int) : (k, true) ∈ Yi ss gs x w l ↔ ∃ p ∈ l, (Jv ss gs x w p && Fi x p) = true ∧ p.ID = k := by
 refine I0 (p := fun l => (k, true) ∈ Yi ss gs x w l ↔ ∃ p ∈ l, (Jv ss gs x w p && Fi x p) = true ∧ p.ID = k) (by simp [Yi]) (fun l p h => ?_) l
 rw [Lq]
 have e : (∃ q ∈ l ++ [p], (Jv ss gs x w q && Fi x q) = true ∧ q.ID = k) ↔ (∃ q ∈ l, (Jv ss gs x w q && Fi x q) = true ∧ q.ID = k) ∨ ((Jv ss gs x w p && Fi x p) = true ∧ p.ID = k) := by
   simp only [List.mem_append, List.mem_singleton]
   constructor
   · rintro ⟨f, hf | rfl, h2⟩
     · exact .inl ⟨f, hf, h2⟩
     exact .inr h2
   rintro (⟨f, hf, h2⟩ | h2)
   · exact ⟨f, .inl hf, h2⟩
   exact ⟨p, .inr rfl, h2⟩
 rw [e]
 cases h1 : Jv ss gs x w p with
 | false => rw [if_neg Bool.false_ne_true, h]; simp
 | true => rw [if_pos rfl, fU, h, Bool.true_and]; exact or_congr Iff.rfl ⟨fun e => ⟨e.2, e.1.symm⟩, fun e => ⟨e.2.symm, e.1⟩⟩
theorem Of {b : Base} {x : Exc} (hx : Ik x = true) : (G0 b x).length = (Ce b.Lots b.Processes b.Swaps).length := by
 unfold G0
 rw [if_pos hx, List.length_map]
theorem cT {n : Int} (h0 : -9223372036854775808 ≤ n) (h1 : n < 9223372036854775808) : wI n = n := Da h0 oQ
theorem lA {k : Nat} {y : I5} (h : Um y) : Js (Vp k y) := by
 obtain ⟨ha, hb, hc, hd, he⟩ := h
 have p1 := Ea (c := y.c) (n := 200) hc cQ
 have p2 := Ea (c := y.d) (n := 20) hd cQ
 have p3 := Ea (c := y.d) (n := 9) hd cQ
 have q1 := cT (n := Ar y.c 200 + Ar y.d 20) oQ oQ
 have q2 := cT (n := Ar y.c 200 + Ar y.d 9) oQ oQ
 have q3 := cT (n := (Ar y.c 200).tdiv 4) (by rw [Int.tdiv_eq_ediv_of_nonneg p1.1]; omega) (by rw [Int.tdiv_eq_ediv_of_nonneg p1.1]; omega)
 have q4 := Int.tdiv_eq_ediv_of_nonneg (b := 4) p1.1
 unfold Vp
 split
 · unfold Js kP; dsimp only; rw [q2]; omega
 split
 · unfold Js Vo; dsimp only [Ij, Tc]; omega
 split
 · unfold Js aJ; dsimp only [Ij, Tc]; rw [q3, q4]; omega
 unfold Js aI; dsimp only; rw [q1]; omega
theorem Sk {xs : List I5} {f : Fact} (h : f ∈ D4 xs) : ∃ k y, y ∈ xs ∧ k < 30 ∧ f = Vp k y := by
 unfold D4 at h
 obtain ⟨k, hk, e⟩ := List.mem_mapIdx.1 h
 rw [List.length_take] at hk
 exact ⟨k, _, List.mem_of_mem_take (List.getElem_mem (by rw [List.length_take]; exact hk)), by omega, e.symm⟩
theorem uG {xs : List I5} (hx : ∀ x ∈ xs, Um x) (d : Int) : ∀ p ∈ (F8 (D4 xs) d).Processes, Js p := fun p hp => by
 have h := ((Gl (l := D4 xs) (d := d) (j := 0) cQ).1 hp).1.1
 obtain ⟨k, y, hy, _, rfl⟩ := Sk h
 exact lA (hx y hy)
theorem Vq (l : List Fact) (d : Int) {j : Nat} (hj : j < 11) : (Iz (F8 l d) j).length ≤ l.length :=
 (O4 l d hj).length_le_of_subset fun _ hx => ((Gl hj).1 hx).1.1
theorem cU {l : List Fact} (h : l.length ≤ 100) (d : Int) : (F8 l d).Processes.length ≤ 100 ∧ (F8 l d).Gaps.length ≤ 100 ∧ (F8 l d).Lots.length ≤ 100 ∧ (F8 l d).Swaps.length ≤ 100 :=
 ⟨Nat.le_trans (Vq l d (j := 0) cQ) h, Nat.le_trans (Vq l d (j := 10) cQ) h, Nat.le_trans (Vq l d (j := 3) cQ) h, Nat.le_trans (Vq l d (j := 2) cQ) h⟩
theorem nW {y : I5} (h : Um y) : (Io y).tool = 2 ∧ (0 ≤ (Io y).chamber ∧ (Io y).chamber ≤ 1) ∧ (0 ≤ (Io y).frm ∧ (Io y).frm ≤ 199) ∧ ((Io y).frm ≤ (Io y).to ∧ (Io y).to ≤ (Io y).frm + 49) ∧ 0 ≤ (Io y).err ∧ (Io y).err ≤ 11 := by
 obtain ⟨ha, hb, hc, hd, he⟩ := h
 have p1 := Ea (c := y.a) (n := 2) ha cQ
 have p2 := Ea (c := y.b) (n := 200) hb cQ
 have p3 := Ea (c := y.c) (n := 50) hc cQ
 have p4 := Ea (c := y.d) (n := 12) hd cQ
 have q1 := cT (n := Ar y.b 200 + Ar y.c 50) oQ oQ
 unfold Io
 dsimp only
 rw [q1]
 omega
end Go.Wx
namespace Go.Proofs.YtmimclgihlhaeaaGreat
open Go.Proofs.Tryz
open Go.Wx Go.RowKit
end Go.Proofs.YtmimclgihlhaeaaGreat
end
section
namespace Go.Wx
theorem aO {ks : List Int} {k : Int} (h : ks.Nodup) : (Lk ks k).Nodup := by
 unfold Lk
 split
 · exact h
 rename_i e
 exact List.nodup_append.2 ⟨h, by simp, fun a ha c hc => by rw [List.mem_singleton] at hc; subst hc; exact fun e2 => e (e2 ▸ ha)⟩
theorem Vr {α : Type} (g : α → Int) : ∀ (l : List α) (ks : List Int), (ks.Nodup → (l.foldl (fun ks x => Lk ks (g x)) ks).Nodup) ∧ ∀ k, k ∈ l.foldl (fun ks x => Lk ks (g x)) ks ↔ k ∈ ks ∨ ∃ x ∈ l, g x = k
 | [], ks => ⟨fun h => h, fun k => by simp⟩
 | x :: l, ks => by
   have ih := Vr g l (Lk ks (g x))
   rw [List.foldl_cons]
   refine ⟨fun h => ih.1 (aO h), fun k => ?_⟩
   rw [ih.2 k, jG]
   constructor
   · rintro ((h | h) | ⟨y, hy, e⟩)
     · exact .inl h
     · exact .inr ⟨x, List.mem_cons_self, h.symm⟩
     exact .inr ⟨y, List.mem_cons_of_mem _ hy, e⟩
   rintro (h | ⟨y, hy, e⟩)
   · exact .inl (.inl h)
   rcases List.mem_cons.1 hy with rfl | hy
   · exact .inl (.inr e.symm)
   exact .inr ⟨y, hy, e⟩
theorem fW {ks : List Int} {k : Int} : k ∈ F9 ks ↔ k ∈ ks := (List.mergeSort_perm ks _).mem_iff
theorem P0 {lots ps ss : List Fact} {k : Int} : k ∈ Ce lots ps ss ↔ Dv k = true ∧ ((∃ f ∈ lots, f.Wafer = k) ∨ ∃ f ∈ ps, Jc ss f.Time f.Wafer = k) := by
 unfold Ce Xi P5
 rw [fW, List.mem_filter, (Vr (fun f : Fact => Jc ss f.Time f.Wafer) ps _).2, (Vr (fun f : Fact => f.Wafer) lots _).2]
 constructor
 · rintro ⟨(h | h) | h, hi⟩
   · cases h
   · exact ⟨hi, .inl h⟩
   exact ⟨hi, .inr h⟩
 rintro ⟨hi, h | h⟩
 · exact ⟨.inl (.inr h), hi⟩
 exact ⟨.inr h, hi⟩
def lI (b : Base) (x : Exc) (w : Int) : Vd := R6 w (Yi b.Swaps b.Gaps x w b.Processes)
theorem Yk {b : Base} {x : Exc} (hx : Ik x = true) : G0 b x = (Ce b.Lots b.Processes b.Swaps).map (lI b x) := by
 unfold G0 lI
 rw [if_pos hx]
 exact List.map_congr_left fun w _ => by rw [Ug]
theorem lB {b : Base} {x : Exc} (hx : Ik x = true) {w : Int} (hw : w ∈ Ce b.Lots b.Processes b.Swaps) : Ju (G0 b x) w = lI b x w := by
 unfold Ju
 rw [Yk hx]
 cases e : ((Ce b.Lots b.Processes b.Swaps).map (lI b x)).find? fun v => decide (v.w = w) with
 | none => exact absurd (List.find?_eq_none.1 e _ (List.mem_map.2 ⟨w, hw, rfl⟩)) (by simp [lI, R6])
 | some v =>
   have h1 : v.w = w := of_decide_eq_true (List.find?_some (p := fun v : Vd => decide (v.w = w)) e)
   obtain ⟨u, _, h2⟩ := List.mem_map.1 (List.mem_of_find?_eq_some e)
   rw [← h2] at h1 ⊢
   exact congrArg (lI b x) h1
theorem Uh (ss gs : List Fact) (x : Exc) (w : Int) (l : List Fact) : ((Yi ss gs x w l).map (·.1)).Nodup := by
 refine I0 (p := fun l => ((Yi ss gs x w l).map (·.1)).Nodup) List.nodup_nil (fun l p h => ?_) l
 rw [Lq]
 split
 · exact Ki h _ _
 exact h
theorem oR {V : List (Int × Bool)} {k : Int} : k ∈ (V.filter (·.2)).map (·.1) ↔ (k, true) ∈ V := by
 rw [List.mem_map]
 constructor
 · rintro ⟨⟨a, c⟩, hq, rfl⟩
   obtain ⟨h1, h2⟩ := List.mem_filter.1 hq
   have h3 : c = true := h2
   rwa [h3] at h1
 exact fun h => ⟨_, List.mem_filter.2 ⟨h, rfl⟩, rfl⟩
theorem P1 {V : List (Int × Bool)} (h : (V.map (·.1)).Nodup) : ((V.filter (·.2)).map (·.1)).Nodup := h.sublist (List.Sublist.map _ List.filter_sublist)
theorem fX {V L : List (Int × Bool)} (hV : (V.map (·.1)).Nodup) (hL : (L.map (·.1)).Nodup) (h1 : ∀ k, k ∈ V.map (·.1) ↔ k ∈ L.map (·.1)) (h2 : ∀ k, (k, true) ∈ V ↔ (k, true) ∈ L) : (Ck V).1 = (Ck L).1 ∧ F9 (Ck V).2 = F9 (Ck L).2 := by
 have ha : V.any (·.2) = L.any (·.2) := by
   rw [Bool.eq_iff_iff, List.any_eq_true, List.any_eq_true]
   constructor
   · rintro ⟨⟨a, c⟩, hq, rfl⟩; exact ⟨_, (h2 a).1 hq, rfl⟩
   rintro ⟨⟨a, c⟩, hq, rfl⟩; exact ⟨_, (h2 a).2 hq, rfl⟩
 unfold Ck
 rw [ha]
 split
 · exact ⟨rfl, Jq (G9 (P1 hV) (P1 hL) fun k => by rw [oR, oR, h2])⟩
 by_cases e : L = []
 · subst e
   have hv : V = [] := List.eq_nil_iff_forall_not_mem.2 fun q hq => by
     have := (h1 q.1).1 (List.mem_map.2 ⟨q, hq, rfl⟩)
     cases this
   subst hv
   exact ⟨rfl, rfl⟩
 have hv : V ≠ [] := fun hv => by
   subst hv
   exact e (List.eq_nil_iff_forall_not_mem.2 fun q hq => by
     have := (h1 q.1).2 (List.mem_map.2 ⟨q, hq, rfl⟩)
     cases this)
 rw [if_neg e, if_neg hv]
 exact ⟨rfl, Jq (G9 hV hL h1)⟩
theorem lC {b c : Base} {x : Exc} {w : Int} (h1 : ∀ p, Jv b.Swaps b.Gaps x w p = Jv c.Swaps c.Gaps x w p) (h2 : ∀ p, Jv b.Swaps b.Gaps x w p = true → (p ∈ b.Processes ↔ p ∈ c.Processes)) : lI b x w = lI c x w := by
 have h3 := fX (Uh b.Swaps b.Gaps x w b.Processes) (Uh c.Swaps c.Gaps x w c.Processes)
   (fun k => by
     rw [cR, cR]
     exact ⟨fun ⟨p, hp, h, e⟩ => ⟨p, (h2 p h).1 hp, by rw [← h1]; exact h, e⟩, fun ⟨p, hp, h, e⟩ => ⟨p, (h2 p (by rw [h1]; exact h)).2 hp, by rw [h1]; exact h, e⟩⟩)
   (fun k => by
     rw [Yj, Yj]
     constructor
     · rintro ⟨p, hp, h, e⟩
       rw [Bool.and_eq_true] at h
       exact ⟨p, (h2 p h.1).1 hp, by rw [← h1, h.1, h.2]; rfl, e⟩
     rintro ⟨p, hp, h, e⟩
     rw [Bool.and_eq_true] at h
     exact ⟨p, (h2 p (by rw [h1]; exact h.1)).2 hp, by rw [h1, h.1, h.2]; rfl, e⟩)
 unfold lI R6
 rw [h3.1, h3.2]
theorem nX {ss gs : List Fact} {x : Exc} {w : Int} {p : Fact} (h : Jv ss gs x w p = true) : Jc ss p.Time p.Wafer = w := by
 unfold Jv at h
 simp only [Bool.and_eq_true, decide_eq_true_eq] at h
 exact h.2
end Go.Wx
namespace Go.Proofs.YtmimclgihlhaeaaGreat
open Go.Proofs.Tryz
open Go.Wx Go.RowKit
end Go.Proofs.YtmimclgihlhaeaaGreat
end
section
namespace Go.Wx
def VdsE (w : World) (v : Go.Value) (Lv : List Vd) : Prop := ∃ ad cp L, v = .slice ad L.length cp ∧ L.map VP.vd = Lv ∧ Els w ad 3 VP.cells L ∧ ∀ p ∈ L, Sl w p.uv 1 A8 p.vd.why
theorem VdsE.up {w w' : World} {v : Go.Value} {Lv : List Vd} (h : VdsE w v Lv) (u : Up w w') : VdsE w' v Lv := let ⟨ad, cp, L, e, hm, hE, hw⟩ := h; ⟨ad, cp, L, e, hm, Els.up hE u, fun p hp => Sl.up (hw p hp) u⟩
theorem nY (ss gs : List Fact) (x : Exc) (w : Int) (l : List Fact) : (Yi ss gs x w l).length ≤ l.length := by
 refine I0 (p := fun l => (Yi ss gs x w l).length ≤ l.length) (Nat.le_refl _) (fun l p h => ?_) l
 rw [Lq, List.length_append]
 split
 · exact Nat.le_trans (Oc _ _ _) (Nat.succ_le_succ h)
 exact Nat.le_succ_of_le h
theorem Og {b : Base} {x : Exc} {v : Vd} (h : v ∈ G0 b x) : v.why.length ≤ b.Processes.length := by
 unfold G0 at h
 split at h
 · obtain ⟨w, _, rfl⟩ := List.mem_map.1 h
   show (F9 (Ck (lookW _ _)).2).length ≤ _
   rw [H0, Ug]
   exact Nat.le_trans (Oa _) (nY _ _ _ _ _)
 cases h
def WhyS (w : World) (L : List VP) : Prop := ∀ p ∈ L, Sl w p.uv 1 A8 p.vd.why
theorem WhyS.up {w w' : World} {L : List VP} (h : WhyS w L) (u : Up w w') : WhyS w' L := fun p hp => Sl.up (h p hp) u
end Go.Wx
namespace Go.Proofs.YtmimclgihlhaeaaGreat
open Go.Proofs.Tryz
open Go.Wx Go.RowKit
end Go.Proofs.YtmimclgihlhaeaaGreat
end
section
namespace Go.Wx
theorem nZ {b : Base} {x : Exc} {L : List VP} (hm : L.map VP.vd = G0 b x) {k : Nat} {p : VP} (hp : L[k]? = some p) : p.vd ∈ G0 b x := by
 rw [← hm]
 exact List.mem_map.2 ⟨p, List.mem_of_getElem? hp, rfl⟩
def VerE (w : World) (v : Go.Value) (u : Vd) : Prop := ∃ q : VP, v = .agg q.cells ∧ q.vd = u ∧ Sl w q.uv 1 A8 q.vd.why
theorem VerE.up {w w' : World} {v : Go.Value} {u : Vd} (h : VerE w v u) (k : Up w w') : VerE w' v u := let ⟨q, e, h1, h2⟩ := h; ⟨q, e, h1, Sl.up h2 k⟩
def VerS (w : World) (v : Go.Value) (u : Vd) : Prop := ∃ ad cp, ∃ q : VP, v = .slice ad ([q] : List VP).length cp ∧ q.vd = u ∧ Els w ad 3 VP.cells [q] ∧ Sl w q.uv 1 A8 q.vd.why
theorem VerS.up {w w' : World} {v : Go.Value} {u : Vd} (h : VerS w v u) (k : Up w w') : VerS w' v u := let ⟨ad, cp, q, e, h1, h2, h3⟩ := h; ⟨ad, cp, q, e, h1, Els.up h2 k, Sl.up h3 k⟩
theorem fY {w w' : World} {v : Go.Value} {L : List VP} {wf : Int} {u : Vd} (hu : Ju (L.map (·.vd)) wf = u) (h : (∃ p ∈ L, v = .agg p.cells ∧ p.vd = Ju (L.map (·.vd)) wf) ∨ (v = .agg (VP.mk Ye none 0).cells ∧ Ju (L.map (·.vd)) wf = Ye ∧ ∀ p ∈ L, ¬ p.vd.w = wf)) (hw : WhyS w L) (k : Up w w') : VerE w' v u := by
 rw [hu] at h
 rcases h with ⟨p, hp, e, h1⟩ | ⟨e, h1, _⟩
 · exact ⟨p, e, h1, Sl.up (hw p hp) k⟩
 exact ⟨VP.mk Ye none 0, e, h1.symm, oP _ _ _⟩
def BasX (w : World) (v : Go.Value) (b : Base) : Prop := ∃ bc, v = .agg bc ∧ BaseC w bc b
theorem BasX.up {w w' : World} {v : Go.Value} {b : Base} (h : BasX w v b) (u : Up w w') : BasX w' v b := let ⟨bc, e, hC⟩ := h; ⟨bc, e, hC.up u⟩
end Go.Wx
namespace Go.Proofs.YtmimclgihlhaeaaGreat
open Go.Proofs.Tryz
open Go.Wx Go.RowKit
end Go.Proofs.YtmimclgihlhaeaaGreat
end
section
namespace Go.Wx
open Go.RowKit
section
variable {R : Option Nat} {m : Nat} {P : Program} {n : Nat} {ds : List Deferred} {Q : Exit → Go.Act → World → Prop} {l : Env} {w : World}
theorem lD {id : Nat} {opsL : List Oper} (G : Bool → World → Prop) (k h : Nat) (early late : List Nat) (Dc : List Ph) (keep : List Nat) (K : World → World → Prop) (hm : P.follows .mixedOrders = true) (hl : Bj l = true)
   (hA : Dd opsL.toArray = true) (hC : (Nat.beq k opsL.toArray.size || Ez opsL.toArray k) = true) (hF : H8 opsL.toArray k = true) (hks : Nat.ble k opsL.toArray.size = true) (hD : F5 n opsL.toArray 0 k = true) (hTl : F4 opsL.toArray k = true)
   (hfree : I9 l (opsL.take k) = true) (hla : Qm opsL.toArray [h] late = true) (hea : N5 opsL.toArray [h] early = true) (hus : qG opsL.toArray k h early = true) (hph : allU Dc) (hkp : keptL K (h :: (early ++ late)) 0 Dc)
   (hG0 : G false w.drew) (hGU : ∀ b W W', G b W → Up W W' → G b W')
   (hop : ∀ b W, G b W → allL (fun i o => o.guard = none ∧ (i ≠ h → TU P n ds (Je opsL.toArray (fun i => Dc.getD i (.eq undef)) 0 o ++ l) W o (Dc.getD i (.eq undef))) ∧
     (i = h → b = false → ∀ a, Ag n ds (Je opsL.toArray (fun i => Dc.getD i (.eq undef)) 0 o ++ l) a W → cY P o a W (fun v W' => (G true W' ∧ K W W') ∧ (Dc.getD i (.eq undef)).holds v W'))) 0 (opsL.take k))
   (hend : ∀ b W (g : Nat → Value), G b W → (∀ i o d, i < k → early.contains i = false → opsL[i]? = some o → o.dst = some d → (Dc.getD i (.eq undef)).holds (g d) W) → LW R m P n ds opsL.toArray Q (opsL.drop k) (keep.map (fun d => (d, .eq (g d))) ++ l) W) :
   CW R m P n ds (.region id opsL.toArray true) Q l w := by
 have hks' : k ≤ opsL.length := by have := Nat.le_of_ble_eq_true hks; simp at this; omega
 have sub : ∀ j o, j < k → opsL.toArray[j]? = some o → (opsL.take k)[j]? = some o := fun j o hjk ho => by
   rw [List.getElem?_take_of_lt hjk]; simpa using ho
 have hbd : ∀ i ph, lk l i = some ph → ∀ (j : Nat) (o : Oper), 0 ≤ j → j < k → opsL.toArray[j]? = some o → o.dst ≠ some i := fun i ph hi j o _ hjk ho => Fk hfree hi (List.mem_of_getElem? (sub j o hjk ho))
 refine Eg hm hl fun fuel listed a hf hu ha => ?_
 refine AWF.gen (k := k) (fun _ => .pred fun _ _ => True) (fun _ _ => True) (fun L f W => G (L h) W ∧ ∀ (j : Nat) (o : Oper) (d : Nat), j < k → L j = true → opsL.toArray[j]? = some o → o.dst = some d → (early.contains j = true → L h = false) → (Dc.getD j (.eq undef)).holds (f d) W) (f0 := fun t => a.tmps.getD t undef) (fun _ => trivial) (fun _ _ _ _ _ => trivial) (fun _ _ _ _ _ _ => trivial) hA hC hF hks (by simp) hD hl hbd ?_ ⟨hG0, fun j o d _ hj => by simp at hj⟩ ?_ fuel listed a hf hu ha (fun _ => rfl)
 · intro i o _ hi hio L f W _ hDn hLi hed hInv a ha hsl
   obtain ⟨hU, hI⟩ := hInv
   have ha2 : Ag n ds (Je opsL.toArray (fun i => Dc.getD i (.eq undef)) 0 o ++ l) a W := by
     refine ⟨ha.defers, ha.size, fun t q ht => ?_⟩
     rcases C0 ht with h1 | h1
     · obtain ⟨e, he, hb, _, p, hp, hpd, rfl⟩ := Yw h1
       rw [hsl]
       refine hI e.on p t (by have := Di hA hio e he hb; omega) (hed e he hb) hp hpd (fun hE => ?_)
       by_cases ih : i = h
       · rw [← ih]; exact hLi
       have h2 := List.all_eq_true.1 hus i (List.mem_range.2 hi)
       rw [Bool.or_eq_true, Bool.or_eq_true] at h2
       rcases h2 with (h2 | h2) | h2
       · exact absurd (Nat.eq_of_beq_eq_true h2) ih
       · cases hLh : L h with
         | false => rfl
         | true =>
           have := Xp hDn hea (fun m hm => by rw [List.mem_singleton.1 hm]; exact hLh) i (by simpa using h2)
           rw [hLi] at this; cases this
       rw [hio] at h2
       have h3 := Array.all_eq_true_iff_forall_mem.1 h2 e he
       rw [hb, hE] at h3
       cases h3
     refine ha.val t q ?_
     rw [Fe]
     · exact h1
     cases hq : lk (Je opsL.toArray (fun _ => Ph.pred fun _ _ => True) 0 o) t with
     | none => rfl
     | some q' =>
       obtain ⟨e, he, hb, _, p, hp, hpd, _⟩ := Yw hq
       exact absurd hpd (hbd t q h1 e.on p (Nat.zero_le _) (by have := Di hA hio e he hb; omega) hp)
   have h3 := (hop _ W hU).at (sub i o hi hio)
   rw [Nat.zero_add] at h3
   obtain ⟨hg, h3, h4⟩ := h3
   rw [if_pos (by simp [Region.wanted, hg])]
   by_cases ih : i = h
   · have done : ∀ v W', (G true W' ∧ K W W') ∧ (Dc.getD i (.eq undef)).holds v W' → True ∧ (∀ d, o.dst = some d → (Ph.pred fun _ _ => True).holds v W') ∧ G (Bk L i h) W' ∧ ∀ (j : Nat) (o' : Oper) (d : Nat), j < k → Bk L i j = true → opsL.toArray[j]? = some o' → o'.dst = some d → (early.contains j = true → Bk L i h = false) → (Dc.getD j (.eq undef)).holds (D5 f o.dst v d) W' := by
       rintro v W' ⟨⟨hu, hk⟩, hv⟩
       refine ⟨trivial, fun _ _ => trivial, by rw [show Bk L i h = true from by simp [Bk, ih]]; exact hu, fun j o' d hj hLj hj' hd hE => ?_⟩
       by_cases e : j = i
       · subst e
         rw [hio] at hj'; cases hj'
         simpa [D5, hd] using hv
       have h5 : L j = true := by simpa [Bk, e] using hLj
       have h6 : D5 f o.dst v d = f d := by
         have := (Cn hD (Nat.zero_le _) hj hj' hd).2 i o (Nat.zero_le _) hi (Ne.symm e) hio
         simp [D5, this]
       rw [h6]
       have h7 : early.contains j = false := by
         cases hc : early.contains j with
         | false => rfl
         | true => have := hE hc; simp [Bk, ih] at this
       have h8 : late.contains j = false := by
         cases hc : late.contains j with
         | false => rfl
         | true =>
           have := cA (h := h) hDn hla (fun m hm h2 => (List.mem_singleton.1 hm) ▸ h2) j (by simpa using hc) h5
           rw [← ih, hLi] at this; cases this
       refine hkp.at j ?_ _ W W' (hI j o' d hj h5 hj' hd (fun hc => by rw [h7] at hc; cases hc)) hk
       rw [Nat.zero_add, Bool.eq_false_iff]
       intro hc
       rw [List.contains_iff_mem, List.mem_cons, List.mem_append] at hc
       rcases hc with hc | hc | hc
       · exact e (hc.trans ih.symm)
       · rw [← List.contains_iff_mem, h7] at hc; cases hc
       rw [← List.contains_iff_mem, h8] at hc; cases hc
     rcases h4 ih (by rw [← ih]; exact hLi) a ha2 with ⟨v, W', hr, hp⟩ | ⟨fn, args, w1, hr, hc⟩
     · exact .inl (.inl ⟨v, W', hr, done v W' hp⟩)
     exact .inl (.inr ⟨fn, args, w1, hr, hc.mono done⟩)
   have done : ∀ v W', Up W W' ∧ (Dc.getD i (.eq undef)).holds v W' → True ∧ (∀ d, o.dst = some d → (Ph.pred fun _ _ => True).holds v W') ∧ G (Bk L i h) W' ∧ ∀ (j : Nat) (o' : Oper) (d : Nat), j < k → Bk L i j = true → opsL.toArray[j]? = some o' → o'.dst = some d → (early.contains j = true → Bk L i h = false) → (Dc.getD j (.eq undef)).holds (D5 f o.dst v d) W' := by
     rintro v W' ⟨hu, hv⟩
     refine ⟨trivial, fun _ _ => trivial, by rw [show Bk L i h = L h from by simp [Bk, Ne.symm ih]]; exact hGU _ _ _ hU hu, fun j o' d hj hLj hj' hd hE => ?_⟩
     by_cases e : j = i
     · subst e
       rw [hio] at hj'; cases hj'
       simpa [D5, hd] using hv
     have h5 : L j = true := by simpa [Bk, e] using hLj
     have h6 : D5 f o.dst v d = f d := by
       have := (Cn hD (Nat.zero_le _) hj hj' hd).2 i o (Nat.zero_le _) hi (Ne.symm e) hio
       simp [D5, this]
     rw [h6]
     exact hph.at j _ W W' (hI j o' d hj h5 hj' hd (fun hc => by have := hE hc; simpa [Bk, Ne.symm ih] using this)) hu
   rcases h3 ih a ha2 with ⟨v, W', hr, hp⟩ | ⟨fn, args, w1, hr, hc⟩
   · exact .inl (.inl ⟨v, W', hr, done v W' hp⟩)
   exact .inl (.inr ⟨fn, args, w1, hr, hc.mono done⟩)
 intro f W _ hInv fuel' listed' a' hf' hu' ha' hsl'
 obtain ⟨hUp, hI⟩ := hInv
 have key : ∀ i o d, i < k → early.contains i = false → opsL[i]? = some o → o.dst = some d → (Dc.getD i (.eq undef)).holds (f d) W := fun i o d hik hE ho hd => hI i o d hik (by simpa using hik) (by simpa using ho) hd (fun hc => by rw [hE] at hc; cases hc)
 refine Ej hTl hA (opsL.toArray.size - k) k fuel' listed' a' W rfl (by simp; omega) (Nat.le_refl _) hf' hu' ?_
 refine hend _ W f hUp key a' ⟨ha'.defers, ha'.size, fun t q ht => ?_⟩
 rcases C0 ht with h | h
 · obtain ⟨d, _, he⟩ := List.mem_map.1 (J0 h)
   cases he
   exact hsl' _
 refine ha'.val t q ?_
 rw [Fe]
 · exact h
 cases hq : lk (Gn opsL.toArray (fun _ => Ph.pred fun _ _ => True) 0 k) t with
 | none => rfl
 | some q' =>
   obtain ⟨j, p, _, hjk, hp, hpd, _⟩ := Et hq
   exact absurd hpd (hbd t q h j p (Nat.zero_le _) hjk hp)
end
end Go.Wx
end
section
namespace Go.Wx
theorem oS {o : Int} (h : Qb o) : Qb (o.tdiv 30) ∧ Go.Value.int .i64 (IntKind.i64.wrap (o.tdiv 30)) = vi (o.tdiv 30) := by
 have e : (o.tdiv 30).natAbs = o.natAbs / 30 := Int.natAbs_tdiv o 30
 obtain ⟨h1, h2⟩ := h
 have b : Qb (o.tdiv 30) := ⟨by omega, by omega⟩
 exact ⟨b, by rw [Da b.1 b.2]⟩
theorem lE {α : Type} {M : List α} {a b : Nat} {x y : α} (hx : M[a]? = some x) (hy : M[b]? = some y) (z : α) : z ∈ (M.set a y).set b x ↔ z ∈ M := by
 have la := (List.getElem?_eq_some_iff.1 hx).1
 have lb := (List.getElem?_eq_some_iff.1 hy).1
 rw [List.mem_iff_getElem?, List.mem_iff_getElem?]
 constructor
 · rintro ⟨i, hi⟩
   rw [List.getElem?_set, List.getElem?_set] at hi
   split at hi
   · rw [List.length_set, if_pos lb] at hi
     cases hi
     exact ⟨a, hx⟩
   split at hi
   · first | (rw [if_pos la] at hi; cases hi) | cases hi
     exact ⟨b, hy⟩
   exact ⟨i, hi⟩
 rintro ⟨i, hi⟩
 by_cases e1 : i = a
 · subst e1
   rw [hx] at hi
   cases hi
   exact ⟨b, by rw [List.getElem?_set, if_pos rfl, List.length_set, if_pos lb]⟩
 by_cases e2 : i = b
 · subst e2
   rw [hy] at hi
   cases hi
   exact ⟨a, by rw [List.getElem?_set, if_neg (fun e => e1 e), List.getElem?_set, if_pos rfl, if_pos la]⟩
 exact ⟨i, by rw [List.getElem?_set, if_neg (fun e => e2 e.symm), List.getElem?_set, if_neg (fun e => e1 e.symm)]; exact hi⟩
theorem fZ {L : List Fact} {f : Fact} {d : Int} (h : A6 f = [] ∨ d < f.Day) : F8 (L ++ [f]) d = F8 L d := by
 unfold F8
 rw [show E6 (L ++ [f]) d = E6 L d from by unfold E6; rw [List.foldl_append]; exact Dk h]
theorem lF {L : List Fact} {f : Fact} {d : Int} (hk : A6 f ≠ []) (hd : f.Day ≤ d) (hv : ∀ g ∈ L, g.Version < f.Version) (x : Fact) : Vu (L ++ [f]) d x ↔ if A6 x = A6 f then x = f else Vu L d x := by
 have vf := Ff hk
 have nof : ∀ g ∈ L, D9 g f = false := fun g hg => by
   rw [Bool.eq_false_iff]
   intro e
   have := (Fy.1 e).2.2.2
   have := hv g hg
   omega
 by_cases e : A6 x = A6 f
 · rw [if_pos e]
   constructor
   · rintro ⟨h1, h2, h3, h4⟩
     rcases List.mem_append.1 h1 with h1 | h1
     · have := h4 f (List.mem_append_right _ (List.mem_singleton.2 rfl)) hd
       rw [Fy.2 ⟨vf, Ff h2, e.symm, .inl (hv x h1)⟩] at this
       cases this
     exact List.mem_singleton.1 h1
   rintro rfl
   refine ⟨List.mem_append_right _ (List.mem_singleton.2 rfl), hk, hd, fun g hg _ => ?_⟩
   rcases List.mem_append.1 hg with hg | hg
   · exact nof g hg
   cases List.mem_singleton.1 hg; exact Pt _
 rw [if_neg e]
 have nox : D9 f x = false := by
   rw [Bool.eq_false_iff]
   intro h
   exact e (Fy.1 h).2.2.1.symm
 constructor
 · rintro ⟨h1, h2, h3, h4⟩
   rcases List.mem_append.1 h1 with h1 | h1
   · exact ⟨h1, h2, h3, fun g hg => h4 g (List.mem_append_left _ hg)⟩
   cases List.mem_singleton.1 h1; exact absurd rfl e
 rintro ⟨h1, h2, h3, h4⟩
 refine ⟨List.mem_append_left _ h1, h2, h3, fun g hg hgd => ?_⟩
 rcases List.mem_append.1 hg with hg | hg
 · exact h4 g hg hgd
 cases List.mem_singleton.1 hg; exact nox
def fixF (p : Fact) (gone : Bool) (t : Int) : Fact := { p with Version := 2, Gone := gone, Time := t, Until := t + 5 }
theorem oA {xs : List I5} : ∀ f ∈ D4 xs, f.Version < 2 := fun f hf => by
 obtain ⟨k, y, _, _, rfl⟩ := Sk hf
 unfold Vp
 split
 · exact (by decide : (1 : Int) < 2)
 split
 · exact (by decide : (1 : Int) < 2)
 split
 · exact (by decide : (1 : Int) < 2)
 exact (by decide : (1 : Int) < 2)
theorem cV {t k w : Int} (hw : Dv w = true) : Jc [] t k = w ↔ k = w := by
 rw [nC]
 split
 · exact Iff.rfl
 rename_i h
 have hw' := hw
 unfold Dv at hw'
 simp only [Bool.and_eq_true, decide_eq_true_eq] at hw'
 constructor
 · intro e; omega
 intro e; subst e; exact absurd hw h
theorem oB {p : Fact} {gone : Bool} {t : Int} (hk : p.Kind = 1) (h1 : A5 p = true) (h2 : A6 (fixF p gone t) ≠ []) : A6 p = A6 (fixF p gone t) := by
 have h3 := Ff h2
 unfold A6
 rw [if_pos h1, if_pos h3]
 congr 1
 unfold Re
 rw [show (fixF p gone t).Kind = p.Kind from rfl, hk]
 rfl
theorem Yl {l : List Fact} {d : Int} {p : Fact} {gone : Bool} {t : Int} (hv : ∀ g ∈ l, g.Version < 2) (hp : p ∈ (F8 l d).Processes) {f : Fact} (hf : f.Wafer ≠ p.Wafer) : f ∈ (F8 l d).Processes ↔ f ∈ (F8 (l ++ [fixF p gone t]) d).Processes := by
 obtain ⟨ep, _, kp⟩ := (Gl (l := l) (d := d) (j := 0) cQ).1 hp
 by_cases hs : A6 (fixF p gone t) = [] ∨ d < (fixF p gone t).Day
 · rw [fZ hs]
 obtain ⟨h1, h2⟩ := not_or.1 hs
 have e1 := lF (L := l) (f := fixF p gone t) (d := d) h1 oQ hv f
 show f ∈ Iz (F8 l d) 0 ↔ f ∈ Iz (F8 (l ++ [fixF p gone t]) d) 0
 rw [Gl cQ, Gl cQ, e1]
 split
 · rename_i hk
   constructor
   · rintro ⟨h3, _⟩
     have := bY h3 ep (hk.trans (oB kp (Jr ep) h1).symm)
     exact absurd (congrArg Fact.Wafer this) hf
   rintro ⟨h3, _⟩
   exact absurd (congrArg Fact.Wafer h3) hf
 exact Iff.rfl
theorem qV {l : List Fact} {d : Int} {p : Fact} {gone : Bool} {t : Int} {x : Exc} (hx : Ik x = true) (hv : ∀ g ∈ l, g.Version < 2) (hp : p ∈ (F8 l d).Processes) (hs : (F8 l d).Swaps = []) : ∀ v ∈ G0 (F8 l d) x, v.w ≠ p.Wafer → v = Ju (G0 (F8 (l ++ [fixF p gone t]) d) x) v.w := fun v hv2 hne => by
 rw [Yk hx] at hv2
 obtain ⟨w, hw, rfl⟩ := List.mem_map.1 hv2
 replace hne : w ≠ p.Wafer := hne
 show lI _ x w = Ju _ w
 have kp : p.Kind = 1 := ((Gl (l := l) (d := d) (j := 0) cQ).1 hp).2.2
 have hx3 : ∀ j : Nat, 0 < j → j < 11 → Iz (F8 (l ++ [fixF p gone t]) d) j = Iz (F8 l d) j := fun j h0 hj => jM hj fun y hy => by
   rw [List.mem_append, List.mem_singleton]
   refine ⟨fun h => h.resolve_right fun h => ?_, .inl⟩
   subst h
   rw [show (fixF p gone t).Kind = p.Kind from rfl, kp] at hy
   omega
 have es : (F8 (l ++ [fixF p gone t]) d).Swaps = [] := (hx3 2 cQ cQ).trans hs
 have eg : (F8 (l ++ [fixF p gone t]) d).Gaps = (F8 l d).Gaps := hx3 10 cQ cQ
 have el : (F8 (l ++ [fixF p gone t]) d).Lots = (F8 l d).Lots := hx3 3 cQ cQ
 obtain ⟨hid, hor⟩ := P0.1 hw
 have hin : w ∈ Ce (F8 (l ++ [fixF p gone t]) d).Lots (F8 (l ++ [fixF p gone t]) d).Processes (F8 (l ++ [fixF p gone t]) d).Swaps := by
   rw [P0, el, es]
   refine ⟨hid, hor.imp id ?_⟩
   rintro ⟨f, hf, e⟩
   rw [hs] at e
   have e2 := (cV hid).1 e
   exact ⟨f, (Yl hv hp (by rw [e2]; exact hne)).1 hf, e⟩
 rw [lB hx hin]
 refine lC (fun q => by rw [es, eg, hs]) fun q hq => Yl hv hp ?_
 have e := nX hq
 rw [hs] at e
 rw [(cV hid).1 e]
 exact hne
theorem qW {xs : List I5} (hx : ∀ x ∈ xs, Um x) {q : Fact} (hq : Js q) (d : Int) : ∀ f ∈ (F8 (D4 xs ++ [q]) d).Processes, Js f := fun f hf => by
 have h := ((Gl (l := D4 xs ++ [q]) (d := d) (j := 0) cQ).1 hf).1.1
 rcases List.mem_append.1 h with h | h
 · obtain ⟨k, y, hy, _, rfl⟩ := Sk h
   exact lA (hx y hy)
 rw [List.mem_singleton.1 h]; exact hq
theorem VdsE.own {w : World} {ad : Option Addr} {cp : Nat} {L : List VP} {l : List Vd} (hm : L.map VP.vd = l) (hE : Els w ad 3 VP.cells L) (hw : WhyS w L) : VdsE w (.slice ad L.length cp) l := ⟨ad, cp, L, rfl, hm, hE, hw⟩
end Go.Wx
namespace Go.Proofs.YtmimclgihlhaeaaGreat
open Go.Proofs.Tryz
open Go.Wx Go.RowKit
theorem Vs (v : Go.Value) (l : List Fact) (d : Int) (w : World) (h : Sl w v 19 Fact.cells l) (hl : l.length ≤ 100000) : Ret Tryz.prog 13 #[v, vi d] w fun r w' => BasX w' r (F8 l d) ∧ Up w w' := by
 obtain ⟨ad, cp, rfl, hE⟩ := h
 exact (Zj ad cp l d w hE hl).mono fun _ _ ⟨bc, e, hC, u⟩ => ⟨⟨bc, e, hC⟩, u⟩
theorem Nb (v u : Go.Value) (b : Base) (x : Exc) (w : World) (h : BasX w v b) (hu : u = .agg x.cells) (hT : ∀ p ∈ b.Processes, Js p) (hlP : b.Processes.length ≤ 10000) (hlG : b.Gaps.length ≤ 10000) (hlL : b.Lots.length ≤ 10000) (hls : b.Swaps.length ≤ 1000000000) : Ret Tryz.prog 16 #[v, u] w fun r w' => VdsE w' r (G0 b x) ∧ Up w w' := by
 obtain ⟨bc, rfl, hC⟩ := h
 subst hu
 refine (Ma bc b x w hC hT hlP hlG hlL hls).mono ?_
 rintro _ W1 ⟨v, L, rfl, hm, hS2⟩
 obtain ⟨a1, c1, rfl, _⟩ := (hS2.own 0 rfl).sl (fun _ => rfl)
 exact ⟨⟨a1, c1, L, rfl, hm, (hS2.own 0 rfl).els (fun _ => rfl), N8 (hS2.get 1 rfl)⟩, hS2.Cu⟩
theorem Pf (v1 v2 : Go.Value) (l1 l2 : List Vd) (w : World) (h1 : VdsE w v1 l1) (h2 : VdsE w v2 l2) (k1 : ∀ v ∈ l1, v.why.length ≤ 1000000000) (k2 : ∀ v ∈ l2, v.why.length ≤ 1000000000) (hl : l1.length ≤ 1000000000) : Ret Tryz.prog 20 #[v1, v2] w fun r w' => r = .bool (decide (l1 = l2)) ∧ Up w w' := by
 obtain ⟨a1, c1, L1, rfl, hm1, hE1, hw1⟩ := h1
 obtain ⟨a2, c2, L2, rfl, hm2, hE2, hw2⟩ := h2
 subst hm1 hm2
 exact Si a1 c1 a2 c2 L1 L2 w hE1 hE2 hw1 hw2 (fun p hp => k1 _ (List.mem_map.2 ⟨p, hp, rfl⟩)) (fun p hp => k2 _ (List.mem_map.2 ⟨p, hp, rfl⟩)) (by rw [List.length_map] at hl; exact hl)
theorem Ym {w : World} {v : Go.Value} {u : Vd} (h : VerS w v u) : VdsE w v [u] := by
 obtain ⟨ad, cp, q, rfl, hq, hE, hs⟩ := h
 exact ⟨ad, cp, [q], rfl, by rw [← hq]; rfl, hE, fun p hp => by rw [List.mem_singleton.1 hp]; exact hs⟩
set_option maxHeartbeats 4000000 in
theorem Sm (ad : Option Addr) (cp : Nat) (xs : List I5) (y : I5) (which at_ : Int) (gone : Bool) (ado : Option Addr) (cpo : Nat) (os : List Int) (w : World) (hE0 : Els w ad 5 I5.cells xs) (hxs : ∀ x ∈ xs, Um x) (hy : Um y) (hwh : Qb which) (hat : Qb at_) (hE1 : Els w ado 1 A8 os) (hos : ∀ i ∈ os, Qb i) : Ret Tryz.prog 8 #[.slice ad xs.length cp, .agg y.cells, vi which, vi at_, .bool gone, .slice ado os.length cpo] w fun r w' => r = .bool true ∧ Up w w' := by
 obtain ⟨w0, rfl⟩ : ∃ w0, w0 = w := ⟨_, rfl⟩
 have hS := Sep.start no w0
 refine cS (n := 168) (m := 9) func8 rfl rfl rfl ?_
 refine CW.S ?_
 refine Ah (.Eu (.t rfl)) rfl ?_
 rintro _ w1 ⟨B7, rfl, NB7⟩
 have eB7 := NB7.at_
 have zB7 := NB7.size
 replace hS := hS.C7 NB7
 change Wx.Sep _ _ _ [_] at hS
 refine LW.C (LW.S (CW.region ?_))
 refine LW.K (eC .nil (uP)) rfl (aM _) ?_
 rintro _ w2 ⟨rfl, uw2⟩
 have zw2 := uw2.size
 replace hS := hS.up uw2
 refine LW.A rfl (LW.S (CW.region (LW.M rfl ?_)))
 refine LW.K (eC (.o rfl) (uQ)) rfl (Yh ad cp xs _ (Els.up hE0 hS.Cu)) ?_
 rintro v27 w3 ⟨hO27, uw3⟩
 have zw3 := uw3.size
 replace hS := hS.add uw3 (A' := Ai 36 19 Fact.cells v27 (D4 xs)) (hO27.mono (Nat.zero_le _)) (fun i h => hO27.base i h)
 change Wx.Sep _ _ _ [_, _] at hS
 clear hO27
 obtain ⟨ad27, cp27, rfl, _⟩ := (hS.own 1 rfl).sl (fun _ => rfl)
 have hl27 := Ip xs
 refine LW.A rfl (LW.S (CW.region (LW.M rfl ?_)))
 refine LW.K (eC (.cons (.t rfl) (.cons (.const _) .nil)) (gG)) rfl (Zj ad27 cp27 (D4 xs) 100000 _ (Ed (hS.own 1 rfl) (fun _ => rfl)) oQ) ?_
 rintro _ w4 ⟨bc, rfl, hC, uw4⟩
 have zw4 := uw4.size
 replace hS := hS.up uw4
 obtain ⟨b, hb⟩ : ∃ b, b = F8 (D4 xs) 100000 := ⟨_, rfl⟩
 rw [← hb] at hC
 have hT : ∀ p ∈ b.Processes, Js p := by rw [hb]; exact uG hxs 100000
 obtain ⟨hlP, hlG, hlL, hls⟩ : b.Processes.length ≤ 100 ∧ b.Gaps.length ≤ 100 ∧ b.Lots.length ≤ 100 ∧ b.Swaps.length ≤ 100 := by rw [hb]; exact cU oQ 100000
 refine Ah (.A7 zeroValue38) rfl ?_
 rintro _ w5 ⟨B15, rfl, MB15⟩
 refine LW.E (.A3 sizeOf38 hC.size (.t rfl) (.t rfl) hC.one MB15.blk rfl) ?_
 intro w6 LB15
 have NB15 := MB15.set LB15
 clear LB15 MB15
 have eB15 := NB15.at_
 have zB15 := NB15.size
 replace hC := hC.up NB15.up
 replace hS := hS.C7 NB15
 change Wx.Sep _ _ _ [_, _, _] at hS
 refine LW.S (CW.region ?_)
 refine LW.pp (.la isAgg26 sizeOf26 rfl ((hS.blk 0 rfl).agg)) ?_
 refine LW.K (eC (.o rfl) (uS)) rfl (aK y _) ?_
 rintro _ w7 ⟨rfl, uw7⟩
 have zw7 := uw7.size
 replace hS := hS.up uw7
 replace hC := hC.up uw7
 have hx0 := nW hy
 obtain ⟨x, hx⟩ : ∃ x, x = Io y := ⟨_, rfl⟩
 rw [← hx] at hx0 ⊢
 clear hx
 have hxo : Ik x = true := (Ty x).2 oQ
 refine Ah (.A7 zeroValue25) rfl ?_
 rintro _ w8 ⟨B16, rfl, MB16⟩
 refine LW.E (.A3 sizeOf25 rfl (.t rfl) (.t rfl) (Exc.one _) MB16.blk rfl) ?_
 intro w9 LB16
 have NB16 := MB16.set LB16
 clear LB16 MB16
 have eB16 := NB16.at_
 have zB16 := NB16.size
 replace hC := hC.up NB16.up
 replace hS := hS.C7 NB16
 change Wx.Sep _ _ _ [_, _, _, _] at hS
 refine LW.S (CW.region ?_)
 refine LW.pp (.Ky isAgg38 sizeOf38 (hC.size) (.t rfl) ((hS.blk 2 rfl).agg)) ?_
 refine LW.pp (.la isAgg25 sizeOf25 rfl ((hS.blk 3 rfl).agg)) ?_
 refine LW.K (eC (.u rfl rfl) (dA)) rfl (Ma bc b x _ hC hT oQ oQ oQ oQ) ?_
 rintro _ w10 ⟨v34, L34, rfl, hm34, hT34⟩
 have hn34 : L34.length = (Ce b.Lots b.Processes b.Swaps).length := by rw [← Of hxo, ← hm34, List.length_map]
 replace hC := hC.up hT34.Cu
 replace hS := hS.join hT34
 change Wx.Sep _ _ _ [_, _, _, _, _, _] at hS
 clear hT34
 obtain ⟨ad34, cp34, rfl, _⟩ := (hS.own 4 rfl).sl (fun _ => rfl)
 refine LW.A rfl (LW.S ?_)
 have hUa := hS.Cu
 have hB15z := hS.blk 2 rfl
 have hB16z := hS.blk 3 rfl
 have hFz := Ed (hS.own 1 rfl) (fun _ => rfl)
 have hLz := Ed (hS.own 4 rfl) (fun _ => rfl)
 have hYz : WhyS w10 L34 := N8 (hS.get 5 rfl)
 obtain ⟨v00, h00, hs00⟩ := hC.at_ (j := 0) cQ
 obtain ⟨adP, cpP, rfl, hEP⟩ := (show Sl w10 v00 19 Fact.cells b.Processes from hs00)
 obtain ⟨v02, h02, hs02⟩ := hC.at_ (j := 2) cQ
 obtain ⟨adS, cpS, rfl, _⟩ := (show Sl w10 v02 19 Fact.cells b.Swaps from hs02)
 clear hS
 have hS := Sep.start no w10
 have hwl := Lo b.Lots b.Processes b.Swaps
 refine CW.region ?_
 refine Ah (.buildSlice (xs := ([] : List Fact)) (enc := Fact.cells) (mk := fun f : Fact => .agg f.cells) underlying23 sizeOf36 zeroValue36 rfl (Nat.le_of_ble_eq_true rfl) (fun _ => rfl) (fun _ => rfl) .nil rfl) rfl ?_
 intro v35 w11 hN_
 obtain ⟨u35, B35, rfl, hO35⟩ := Qy (base := w10.heap.size) hN_ (Nat.le_refl _)
 have zw11 := u35.size
 replace hS := hS.add u35 (A' := Ai 36 19 Fact.cells (.slice (some ⟨B35, 0, none⟩) 0 0) ([] : List Fact)) (hO35.mono (Nat.zero_le _)) (fun i h => hO35.base i h)
 change Wx.Sep _ _ _ [_] at hS
 clear hO35 hN_
 refine LW.M rfl ?_
 refine Ah (.C3 (enc := Fact.cells) (bytes := 160) (i := Tryz.t36) underlying23 kQ rfl rfl rfl rfl cQ (fun _ => rfl) Fact.one (.t rfl) (.t rfl) (hS.own 0 rfl) (Aj (Els.up hFz hS.Cu)) (by simp [maxLen]; omega) (by simp; omega)) rfl ?_
 intro v37 w12 Gw12
 have zw12 := Gw12.fr.size
 replace hS := hS.Dj 0 rfl Gw12
 change Wx.Sep _ _ _ [_] at hS
 rw [List.nil_append] at hS
 obtain ⟨ad37, cp37, rfl, _⟩ := (hS.own 0 rfl).sl (fun _ => rfl)
 refine LW.A rfl (LW.S (CW.S (LW.C (LW.T (CW.block ?_)))))
 refine Am (σ := Nat × List Fact) (fun s w => (s.1 ≤ 30) ∧ (∀ z, z ∈ s.2 ↔ z ∈ D4 xs) ∧ (s.2.length = (D4 xs).length) ∧ (Wx.Sep no w10 w [Ai 36 19 Fact.cells (.slice ad37 (D4 xs).length cp37) (s.2)])) (fun s => [(19, .eq (vi (s.1 : Int)))]) ([(2, .eq _), (3, .eq _), (4, .eq _), (5, .eq _), (12, .eq _), (13, .eq _), (15, .eq _), (16, .eq _), (17, .eq _), (18, .eq _)]) (fun s => 30 - s.1) (0, D4 xs) ?_ ⟨rfl, rfl, rfl, rfl, rfl, rfl, rfl, rfl, rfl, rfl, rfl, trivial⟩ ?_
 ·exact ⟨Nat.zero_le _, fun _ => Iff.rfl, rfl, hS⟩
 rintro ⟨i, M⟩ w13 ⟨hi, hM, hl, hS⟩
 dsimp only at hi hM hl hS
 change Wx.Sep _ _ _ [_] at hS
 change CW _ _ _ _ _ _ _ ([(19, .eq (vi (i : Int)))] ++ _) _
 refine CW.seq (CW.S (LW.M rfl (LW.M rfl ?_)))
 refine LW.pp (.Dq underlying30 (.t rfl)) ?_
 refine LW.pp (.lss (.t rfl) (.t rfl)) ?_
 refine LW.M rfl ?_
 refine LW.g rfl rfl rfl rfl rfl rfl rfl (fun hc => PEv.move (.t rfl)) ?_
 refine LW.g rfl rfl rfl rfl rfl rfl rfl (fun hc => PEv.lss vQ (.const _)) ?_
 refine LW.pp (.Az (.t rfl) (fun hp => (by first | exact .const _ | exact .tmp rfl | exact .cond rfl (by first | assumption | (rw [hp]; rfl) | (rw [hc, hp]; rfl) | simp_all)))) ?_
 refine LW.M rfl ?_
 refine LW.g rfl rfl rfl rfl rfl rfl rfl (fun hc => PEv.move (.t rfl)) ?_
 refine LW.g rfl rfl rfl rfl rfl rfl rfl (fun hc => PEv.Dq underlying23 vQ) ?_
 refine LW.g rfl rfl rfl rfl rfl rfl rfl (fun hc => PEv.gtr vQ (.const _)) ?_
 refine LW.pp (.Az (.t rfl) (fun hp => (by first | exact .const _ | exact .tmp rfl | exact .cond rfl (by first | assumption | (rw [hp]; rfl) | (rw [hc, hp]; rfl) | simp_all)))) ?_
 refine LW.T ?_
 refine CW.cond (.t rfl) (fun h50 => ?_) (fun h50 => ?_)
 ·replace h50 := dQ h50
  have hc : i < os.length ∧ i < 30 ∧ 0 < (D4 xs).length := by simp at h50; omega
  refine CW.skip (KW.then (CW.seq (CW.block (CW.seq ?_))))
  obtain ⟨o, hoi⟩ := Ac (xs := os) (i := i) oQ
  have hio := hos o (List.mem_of_getElem? hoi)
  obtain ⟨Bo, oo, ao, hco⟩ := (Els.up hE1 (hUa.trans hS.Cu)) i o hoi
  refine CW.region (LW.M rfl (LW.M rfl ?_))
  refine LW.pp (.An underlying30 sizeOf3 (j := i) (.t rfl) (.t rfl) oQ ao) ?_
  refine LW.pp (.ld isAgg3 rfl (hco.nth (j := 0) rfl)) ?_
  refine LW.M rfl ?_
  refine LW.pp (.Dq underlying23 (.t rfl)) ?_
  refine LW.K (eC (.u rfl rfl) (Jf)) rfl (Cg _ _ _ oQ) ?_
  rintro _ w14 ⟨rfl, uw14⟩
  have zw14 := uw14.size
  replace hS := hS.up uw14
  have hp_ := Ea (c := o) (n := ((D4 xs).length : Int)) hio oQ
  obtain ⟨p, ep⟩ : ∃ p : Nat, Ar (o) ((D4 xs).length : Int) = (p : Int) := ⟨(Ar (o) ((D4 xs).length : Int)).toNat, by omega⟩
  rw [ep] at hp_ ⊢
  refine LW.A rfl (LW.S ?_)
  obtain ⟨Bo, oo, ao, hco⟩ := (Els.up hE1 (hUa.trans hS.Cu)) i o hoi
  refine CW.region (LW.M rfl (LW.M rfl ?_))
  refine LW.pp (.An underlying30 sizeOf3 (j := i) (.t rfl) (.t rfl) oQ ao) ?_
  refine LW.pp (.ld isAgg3 rfl (hco.nth (j := 0) rfl)) ?_
  refine LW.pp (.val (v' := vi (o.tdiv 30)) (PEv.quo (.t rfl) (.const _) cQ) (oS hio).2) ?_
  refine LW.M rfl ?_
  refine LW.pp (.Dq underlying23 (.t rfl)) ?_
  refine LW.K (eC (.u rfl rfl) (Jf)) rfl (Cg _ _ _ oQ) ?_
  rintro _ w15 ⟨rfl, uw15⟩
  have zw15 := uw15.size
  replace hS := hS.up uw15
  have hq_ := Ea (c := o.tdiv 30) (n := ((D4 xs).length : Int)) (oS hio).1 oQ
  obtain ⟨q, eq⟩ : ∃ q : Nat, Ar (o.tdiv 30) ((D4 xs).length : Int) = (q : Int) := ⟨(Ar (o.tdiv 30) ((D4 xs).length : Int)).toNat, by omega⟩
  rw [eq] at hq_ ⊢
  refine LW.A rfl (LW.T ?_)
  obtain ⟨g, rfl⟩ := (hS.own 0 rfl).wW oQ
  obtain ⟨fp, hfp⟩ := Ac (xs := M) (i := p) oQ
  obtain ⟨fq, hfq⟩ := Ac (xs := M) (i := q) oQ
  refine E2 13 15 [.slice (some ⟨g, 0, none⟩) (D4 xs).length cp37, vi ((p : Nat) : Int), .slice (some ⟨g, 0, none⟩) (D4 xs).length cp37, vi ((q : Nat) : Int), .slice (some ⟨g, 0, none⟩) (D4 xs).length cp37, vi ((q : Nat) : Int), .pointer (some ⟨g, 0 + (q) * 19, none⟩), .agg (Fact.cells fq), .slice (some ⟨g, 0, none⟩) (D4 xs).length cp37, vi ((p : Nat) : Int), .pointer (some ⟨g, 0 + (p) * 19, none⟩), .agg (Fact.cells fp), .pointer (some ⟨g, 0 + (p) * 19, none⟩), undef, .pointer (some ⟨g, 0 + (q) * 19, none⟩), undef] (fun W => Wx.Sep no w10 W [Ai 36 19 Fact.cells (.slice (some ⟨g, 0, none⟩) (D4 xs).length cp37) (M)]) (fun W => Wx.Sep no w10 W [Ai 36 19 Fact.cells (.slice (some ⟨g, 0, none⟩) (D4 xs).length cp37) ((M).set (p) fq)]) (fun W => Wx.Sep no w10 W [Ai 36 19 Fact.cells (.slice (some ⟨g, 0, none⟩) (D4 xs).length cp37) (((M).set (p) fq).set (q) fp)]) kQ rfl kQ kQ kQ kQ kQ kQ (hS.up (Up.drew _)) ?_ _ _ rfl rfl ⟨rfl, rfl⟩ ⟨rfl, rfl⟩ ?_ ?_ ?_
  ·refine aC (.inr ⟨rfl, .inr fun W => PEv.move (.t rfl)⟩) ?_
   refine aC (.inr ⟨rfl, .inr fun W => PEv.move (.t rfl)⟩) ?_
   refine aC (.inr ⟨rfl, .inr fun W => PEv.move (.t rfl)⟩) ?_
   refine aC (.inr ⟨rfl, .inr fun W => PEv.move (.t rfl)⟩) ?_
   refine aC (.inr ⟨rfl, .inr fun W => PEv.move (.t rfl)⟩) ?_
   refine aC (.inr ⟨rfl, .inr fun W => PEv.move (.t rfl)⟩) ?_
   refine aC (.inr ⟨rfl, .inr fun W => PEv.indexAddr underlying23 sizeOf36 (.t rfl) (.t rfl) oQ⟩) ?_
   refine aC (.inr ⟨rfl, .inl ⟨by kernel_rfl, fun W hS => PEv.la isAgg36 sizeOf36 rfl ((hS.own 0 rfl).at (fun _ => rfl) hfq)⟩⟩) ?_
   refine aC (.inr ⟨rfl, .inr fun W => PEv.move (.t rfl)⟩) ?_
   refine aC (.inr ⟨rfl, .inr fun W => PEv.move (.t rfl)⟩) ?_
   refine aC (.inr ⟨rfl, .inr fun W => PEv.indexAddr underlying23 sizeOf36 (.t rfl) (.t rfl) oQ⟩) ?_
   refine aC (.inr ⟨rfl, .inl ⟨by kernel_rfl, fun W hS => PEv.la isAgg36 sizeOf36 rfl ((hS.own 0 rfl).at (fun _ => rfl) hfp)⟩⟩) ?_
   refine aC (.inr ⟨rfl, .inr fun W => PEv.indexAddr underlying23 sizeOf36 (.t rfl) (.t rfl) oQ⟩) ?_
   refine aC (.inl (by simp)) ?_
   refine aC (.inr ⟨rfl, .inr fun W => PEv.indexAddr underlying23 sizeOf36 (.t rfl) (.t rfl) oQ⟩) ?_
   refine aC (.inl (by simp)) ?_
   exact allL.nil
  ·intro W hS
   exact SEv.mono (SEv.Cs (i := p) (z := fq) sizeOf36 (fun _ => rfl) Fact.one (.t rfl) (.t rfl) (hS.own 0 rfl) oQ) (fun _ h => hS.Dj 0 rfl h)
  ·intro W hS
   exact SEv.mono (SEv.Cs (i := q) (z := fp) sizeOf36 (fun _ => rfl) Fact.one (.t rfl) (.t rfl) (hS.own 0 rfl) oQ) (fun _ h => hS.Dj 0 rfl h)
  intro w16 hS
  have hS : Wx.Sep no w10 w16 [Ai 36 19 Fact.cells (.slice (some ⟨g, 0, none⟩) (D4 xs).length cp37) (((M).set (p) fq).set (q) fp)] := hS
  obtain ⟨M2, eM2⟩ : ∃ M2, M2 = (M.set p fq).set q fp := ⟨_, rfl⟩
  have hM2 : ∀ z, z ∈ M2 ↔ z ∈ D4 xs := fun z => by rw [eM2, lE hfp hfq]; exact hM z
  have hl2 : M2.length = (D4 xs).length := by rw [eM2, List.length_set, List.length_set]; exact hl
  rw [← eM2] at hS
  refine KW.inBlock (KW.then (CW.region (LW.M rfl ?_)))
  refine LW.pp (.inc (.t rfl) oQ) ?_
  refine LW.A rfl (LW.nil (KW.round ?_))
  exact ⟨(i + 1, M2), ⟨by show i + 1 ≤ 30; omega, hM2, hl2, hS⟩, ⟨rfl, rfl, rfl, rfl, rfl, rfl, rfl, rfl, rfl, rfl, rfl, trivial⟩, by show 30 - (i + 1) < 30 - i; omega⟩
 replace h50 := dQ h50
 refine CW.exit (Aa (Aa (Ad (KW.then (CW.seq (CW.seq ?_))))))
 have hMb : F8 M 100000 = b := by rw [hb]; exact bS hM 100000
 refine Hm 7 [.eq (.slice ad34 L34.length cp34), .eq (.slice ad37 (D4 xs).length cp37), .pred fun v W => BasX W v b, .eq (.agg x.cells), .pred fun v W => VdsE W v (G0 b x), .eq (.bool true), .eq (.bool false)] [88] kQ rfl kQ kQ kQ kQ kQ kQ kQ ⟨PhU.eq _, PhU.eq _, PhU.pred fun _ _ _ h u => h.up u, PhU.eq _, PhU.pred fun _ _ _ h u => h.up u, PhU.eq _, PhU.eq _, trivial⟩ ?_ ?_
 ·intro W hU0
  have hU := (Up.drew w13).trans hU0
  have hSW := hS.up hU
  refine aC ⟨rfl, TU.p (.move (.t rfl)) rfl⟩ ?_
  refine aC ⟨rfl, TU.p (.move (.t rfl)) rfl⟩ ?_
  refine aC ⟨rfl, TU.c (eC (.cons (.t rfl) (.cons (.const _) .nil)) (gG)) (Vs _ M 100000 W (hl ▸ (hSW.own 0 rfl).sl (fun _ => rfl)) oQ) (by rintro _ W1 ⟨h, u⟩; rw [hMb] at h; exact ⟨u, h⟩)⟩ ?_
  refine aC ⟨rfl, TU.p (.la isAgg25 sizeOf25 rfl ((hB16z.up hSW.Cu).agg)) rfl⟩ ?_
  refine aC ⟨rfl, TU.open (d := 84) rfl (by intro v hv; exact TU.c (eC (.u rfl rfl) (dA)) (Nb _ _ b x W hv rfl hT oQ oQ oQ oQ) (by rintro _ W1 ⟨h, u⟩; exact ⟨u, h⟩))⟩ ?_
  refine aC ⟨rfl, TU.open (d := 86) rfl (by intro v hv; exact TU.c (eC (.u rfl rfl) (lK)) (Pf _ _ _ _ W (VdsE.own hm34 (Els.up hLz hSW.Cu) (WhyS.up hYz hSW.Cu)) hv (fun v hv => Nat.le_trans (Og hv) oQ) (fun v hv => Nat.le_trans (Og hv) oQ) (by rw [Of hxo]; omega)) (by rintro _ W1 ⟨rfl, u⟩; exact ⟨u, by simp [Ph.holds]⟩))⟩ ?_
  refine aC ⟨rfl, TU.p (.fa (PEv.not (.t rfl)) rfl) rfl⟩ ?_
  exact allL.nil
 intro w17 g hU0 hg
 have hU := (Up.drew w13).trans hU0
 have zw17 := hU.size
 replace hS := hS.up hU
 have e88 : g 88 = .bool false := hg 6 _ 88 cQ rfl rfl
 change LW _ _ _ _ _ _ _ _ ((88, .eq (g 88)) :: _) _
 rw [e88]
 clear hg e88
 refine LW.M rfl ?_
 refine LW.Y ?_
 refine LW.pp (.fA 0 underlying38 rfl sizeOf23 rfl) ?_
 refine LW.Y ?_
 refine LW.pp (.ld isAgg23 rfl ((hB15z.up hS.Cu).cell h00)) ?_
 refine LW.Y ?_
 refine LW.pp (.Dq underlying23 (.t rfl)) ?_
 refine LW.Y ?_
 refine LW.pp (.eql (.t rfl) (.const _)) ?_
 refine LW.pp (.Cd (.t rfl) (fun hp => (by first | exact .const _ | exact .tmp rfl | exact .cond rfl (by first | assumption | (rw [hp]; rfl) | (rw [hc, hp]; rfl) | simp_all)))) ?_
 refine LW.M rfl ?_
 refine LW.g rfl rfl rfl rfl rfl rfl rfl (fun hc => PEv.fA 2 underlying38 rfl sizeOf23 rfl) ?_
 refine LW.g rfl rfl rfl rfl rfl rfl rfl (fun hc => PEv.load isAgg23 vQ ((hB15z.up hS.Cu).cell h02)) ?_
 refine LW.g rfl rfl rfl rfl rfl rfl rfl (fun hc => PEv.Dq underlying23 vQ) ?_
 refine LW.g rfl rfl rfl rfl rfl rfl rfl (fun hc => PEv.gtr vQ (.const _)) ?_
 refine LW.pp (.Cd (.t rfl) (fun hp => (by first | exact .const _ | exact .tmp rfl | exact .cond rfl (by first | assumption | (rw [hp]; rfl) | (rw [hc, hp]; rfl) | simp_all)))) ?_
 refine LW.T ?_
 refine CW.cond (.t rfl) (fun h100 => ?_) (fun h100 => ?_)
 ·replace h100 := dQ h100
  refine CW.seq ?_
  refine Ct kQ kQ rfl rfl ?_
  refine HW.pp (.move (.t rfl)) ?_
  refine HW.pp (.move (.t rfl)) ?_
  refine Dl (.move (.t rfl)) ?_
  refine Dl (.move (.t rfl)) ?_
  refine Qu (ph := .pred fun v w => BasX w v b) (fun _ _ _ h u => h.up u) rfl rfl rfl rfl rfl (fun a w hu ha => ⟨_, _, Ch (.cons (.t rfl) (.cons (.const _) .nil)) (gG) a ha, (Vs _ M 100000 w (hl ▸ ((hS.up hu).own 0 rfl).sl (fun _ => rfl)) oQ).mono fun v w' h => ⟨h.2, by have h5 := h.1; rw [hMb] at h5; exact h5⟩⟩) rfl ?_
  refine Dl (.la isAgg25 sizeOf25 rfl ((hB16z.up hS.Cu).agg)) ?_
  refine Qu (ph := .pred fun v w => VdsE w v (G0 b x)) (fun _ _ _ h u => h.up u) rfl rfl rfl rfl rfl (fun a w hu ha => ⟨_, _, Mj dA a w, (Nb _ _ b x w (ha.known (p := fun v w => BasX w v b) rfl) (ha.ev (.t rfl)) hT oQ oQ oQ oQ).mono fun v w' h => ⟨h.2, h.1⟩⟩) rfl ?_
  refine Qu (ph := .eq (.bool true)) (phUp.eq _) rfl rfl rfl rfl rfl (fun a w hu ha => ⟨_, _, Mj lK a w, (Pf _ _ (G0 b x) (G0 b x) w (by rw [ha.ev (.t rfl)]; exact VdsE.own hm34 (Els.up hLz (hS.up hu).Cu) (WhyS.up hYz (hS.up hu).Cu)) (ha.known (p := fun v w => VdsE w v (G0 b x)) rfl) (fun v hv => Nat.le_trans (Og hv) oQ) (fun v hv => Nat.le_trans (Og hv) oQ) (by rw [Of hxo]; omega)).mono fun _ _ h => ⟨h.2, h.1.trans (by rw [decide_eq_true rfl])⟩⟩) rfl ?_
  refine HW.pp (.Az (.t rfl) (fun hp => (by first | exact .const _ | exact .tmp rfl | exact .cond rfl (by first | assumption | (rw [hp]; rfl) | (rw [hc, hp]; rfl) | simp_all)))) ?_
  refine HW.pp (.assign (.t rfl)) ?_
  refine HW.nil ?_
  intro w18 uw18
  have zw18 := uw18.size
  replace hS := hS.up uw18
  refine KW.then (CW.ret (Ae ?_))
  refine Af rfl rfl ⟨_, rfl, ?_⟩
  exact ⟨rfl, hUa.trans hS.Cu⟩
 replace h100 := dQ h100
 have hc0 : 0 < b.Processes.length ∧ b.Swaps.length = 0 := by simp at h100; exact ⟨List.length_pos_iff.2 h100.1, by rw [h100.2]; rfl⟩
 refine CW.skip (KW.then (CW.seq ?_))
 have hpw := Ea (c := which) (n := (b.Processes.length : Int)) hwh oQ
 obtain ⟨k, ek⟩ : ∃ k : Nat, Ar which (b.Processes.length : Int) = (k : Int) := ⟨(Ar which (b.Processes.length : Int)).toNat, by omega⟩
 rw [ek] at hpw
 obtain ⟨p, hp⟩ := Ac (xs := b.Processes) (i := k) oQ
 obtain ⟨Bp, op_, ap, hcp⟩ := (Els.up hEP hS.Cu) k p hp
 refine CW.qF 11 9 10 8 22 118 (Fact.cells Ij) [.eq (.pointer (some ⟨B15, 0, none⟩)), .eq (.slice adP b.Processes.length cpP), .eq (vi which), .eq (.pointer (some ⟨B15, 0, none⟩)), .eq (.slice adP b.Processes.length cpP), .eq (vi (b.Processes.length : Int)), .eq (vi (k : Int)), .eq (.pointer (some ⟨Bp, op_ + k * 19, none⟩)), .eq (.agg p.cells), .pred fun v _ => ∃ B, v = .pointer (some ⟨B, 0, none⟩), .eq (undef)] [] zeroValue36 sizeOf36 kQ rfl kQ kQ kQ kQ kQ kQ kQ rfl rfl ⟨_, _, _, rfl⟩ _ rfl ⟨_, _, _, rfl⟩ ⟨PhT.eq _ _, PhT.eq _ _, PhT.eq _ _, PhT.eq _ _, PhT.eq _ _, PhT.eq _ _, PhT.eq _ _, PhT.eq _ _, PhT.eq _ _, PhT.pred fun _ _ _ h _ => h, PhT.eq _ _, trivial⟩ rfl (fun v W h => ⟨_, h, rfl, Fact.one _⟩) (fun B W => ⟨B, rfl⟩) ?_ ?_
 ·intro W hU0
  have hU := (Up.drew w17).trans hU0
  have hSW := hS.up hU
  refine aC (.inr ⟨rfl, TU.p (.fA 0 underlying38 rfl sizeOf23 rfl) rfl⟩) ?_
  refine aC (.inr ⟨rfl, TU.p (.ld isAgg23 rfl ((hB15z.up hSW.Cu).cell h00)) rfl⟩) ?_
  refine aC (.inr ⟨rfl, TU.p (.move (.t rfl)) rfl⟩) ?_
  refine aC (.inr ⟨rfl, TU.p (.fA 0 underlying38 rfl sizeOf23 rfl) rfl⟩) ?_
  refine aC (.inr ⟨rfl, TU.p (.ld isAgg23 rfl ((hB15z.up hSW.Cu).cell h00)) rfl⟩) ?_
  refine aC (.inr ⟨rfl, TU.p (.Dq underlying23 (.t rfl)) rfl⟩) ?_
  refine aC (.inr ⟨rfl, TU.c (eC (.u rfl rfl) (Jf)) (Cg _ _ _ oQ) (by rintro _ W1 ⟨rfl, u⟩; exact ⟨u, congrArg vi ek⟩)⟩) ?_
  refine aC (.inr ⟨rfl, TU.p (.An underlying23 sizeOf36 (j := k) (.t rfl) (.t rfl) oQ ap) rfl⟩) ?_
  refine aC (.inr ⟨rfl, TU.p (.la isAgg36 sizeOf36 rfl (hcp.up hU)) rfl⟩) ?_
  refine aC (.inl (.inl rfl)) ?_
  refine aC (.inl (.inr rfl)) ?_
  exact allL.nil
 intro w19 B22 g hU0 zB22_ hB22 hg
 have hU := (Up.drew w17).trans hU0
 have zw19 := hU.size
 have zdr : w17.drew.heap.size = w17.heap.size := rfl
 have g118_ : g 118 = .agg p.cells := hg 8 _ 118 cQ rfl rfl
 rw [g118_] at hB22
 replace hB22 : Blk w19 B22 (p.cells) 36 := hB22
 change LW _ _ _ _ _ _ _ _ ((22, _) :: _) _
 clear hg
 replace hS := (hS.up (Up.drew _)).add hU0 (A' := Cq B22 (p.cells) 36) hB22 (fun i (e : i = B22) => by omega)
 change Wx.Sep _ _ _ [_, _] at hS
 clear hB22
 refine LW.S (CW.region ?_)
 refine LW.pp (.fA 2 underlying36 rfl sizeOf3 rfl) ?_
 refine LW.E (.store sizeOf3 (.t rfl) (.const _) rfl (hS.blk 1 rfl) (Nat.le_of_ble_eq_true rfl)) ?_
 intro w20 Nw20
 have zw20 := Nw20.size
 replace hS := hS.Gf 1 rfl (show Set_ _ w20 _ (({ p with Version := 2 } : Fact).cells) _ from Nw20)
 change Wx.Sep _ _ _ [_, _] at hS
 refine LW.S (CW.region (LW.M rfl ?_))
 refine LW.pp (.fA 4 underlying36 rfl sizeOf4 rfl) ?_
 refine LW.E (.store sizeOf4 (.t rfl) (.t rfl) rfl (hS.blk 1 rfl) (Nat.le_of_ble_eq_true rfl)) ?_
 intro w21 Nw21
 have zw21 := Nw21.size
 replace hS := hS.Gf 1 rfl (show Set_ _ w21 _ (({ p with Version := 2, Gone := gone } : Fact).cells) _ from Nw21)
 change Wx.Sep _ _ _ [_, _] at hS
 refine LW.S ?_
 have p1 := Ea (c := at_) (n := 200) hat cQ
 refine CW.region (LW.M rfl ?_)
 refine LW.K (eC (.cons (.t rfl) (.cons (.const _) .nil)) (Jf)) rfl (Cg _ _ _ cQ) ?_
 rintro _ w22 ⟨rfl, uw22⟩
 have zw22 := uw22.size
 replace hS := hS.up uw22
 refine LW.pp (.fA 5 underlying36 rfl sizeOf3 rfl) ?_
 refine LW.E (.store sizeOf3 (.t rfl) (.t rfl) rfl (hS.blk 1 rfl) (Nat.le_of_ble_eq_true rfl)) ?_
 intro w23 Nw23
 have zw23 := Nw23.size
 replace hS := hS.Gf 1 rfl (show Set_ _ w23 _ (({ p with Version := 2, Gone := gone, Time := Ar at_ 200 } : Fact).cells) _ from Nw23)
 change Wx.Sep _ _ _ [_, _] at hS
 refine LW.S (CW.region ?_)
 refine LW.pp (.fA 5 underlying36 rfl sizeOf3 rfl) ?_
 refine LW.pp (.val (v' := vi (Ar at_ 200)) (PEv.ld isAgg3 rfl ((hS.blk 1 rfl).Ak rfl)) rfl) ?_
 refine LW.pp (.add (.t rfl) (.const _) oQ oQ) ?_
 refine LW.pp (.fA 6 underlying36 rfl sizeOf3 rfl) ?_
 refine LW.E (.store sizeOf3 (.t rfl) (.t rfl) rfl (hS.blk 1 rfl) (Nat.le_of_ble_eq_true rfl)) ?_
 intro w24 Nw24
 have zw24 := Nw24.size
 replace hS := hS.Gf 1 rfl (show Set_ _ w24 _ ((fixF p gone (Ar at_ 200)).cells) _ from Nw24)
 change Wx.Sep _ _ _ [_, _] at hS
 refine LW.S ?_
 have hMq : F8 (M ++ [(fixF p gone (Ar at_ 200))]) 100000 = (F8 (D4 xs ++ [(fixF p gone (Ar at_ 200))]) 100000) := bS (fun z => by rw [List.mem_append, List.mem_append, hM z]) 100000
 have hTc := qW hxs (q := (fixF p gone (Ar at_ 200))) (by unfold Js fixF; dsimp only; omega) 100000
 obtain ⟨hc1, hc2, hc3, hc4⟩ := cU (l := (D4 xs ++ [(fixF p gone (Ar at_ 200))])) (by rw [List.length_append, List.length_singleton]; omega) 100000
 have hfx := qV (l := D4 xs) (d := 100000) (p := p) (gone := gone) (t := Ar at_ 200) (x := x) hxo oA (by rw [← hb]; exact List.mem_of_getElem? hp) (by rw [← hb]; exact List.eq_nil_of_length_eq_zero oQ)
 rw [← hb] at hfx
 refine lD (fun b W => match b with | false => Wx.Sep no w10 W [Ai 36 19 Fact.cells (.slice ad37 (D4 xs).length cp37) (M), Cq B22 (fixF p gone (Ar at_ 200)).cells 36] | true => ∃ v, Wx.Sep no w10 W [Ai 36 19 Fact.cells (v) (M ++ [(fixF p gone (Ar at_ 200))]), Cq B22 (fixF p gone (Ar at_ 200)).cells 36]) 7 3 [2] [4, 6] [.eq (.slice ad37 (D4 xs).length cp37), .eq (.agg (fixF p gone (Ar at_ 200)).cells), .pred fun v W => Sl W v 19 Fact.cells [(fixF p gone (Ar at_ 200))], .pred fun v W => OwnS W 0 36 19 Fact.cells v (M ++ [(fixF p gone (Ar at_ 200))]), .pred fun v W => BasX W v (F8 (D4 xs ++ [(fixF p gone (Ar at_ 200))]) 100000), .eq (.agg x.cells), .pred fun v W => VdsE W v (G0 (F8 (D4 xs ++ [(fixF p gone (Ar at_ 200))]) 100000) x)] [135] (fun _ _ => True) kQ rfl kQ kQ kQ kQ kQ kQ kQ kQ kQ kQ ⟨PhU.eq _, PhU.eq _, PhU.pred fun _ _ _ h u => Sl.up h u, PhU.pred fun _ _ _ h u => OwnS.up h u, PhU.pred fun _ _ _ h u => h.up u, PhU.eq _, PhU.pred fun _ _ _ h u => h.up u, trivial⟩ ⟨.inr (fun _ _ _ h _ => h), .inr (fun _ _ _ h _ => h), .inl rfl, .inl rfl, .inl rfl, .inr (fun _ _ _ h _ => h), .inl rfl, trivial⟩ (hS.up (Up.drew _)) (fun b W W' h u => by cases b; exact Sep.up h u; exact ⟨_, Sep.up h.choose_spec u⟩) ?_ ?_
 ·intro b_ W hG
  have hq_ : Up w10 W ∧ Blk W B22 (fixF p gone (Ar at_ 200)).cells 36 := by cases b_; exact ⟨Sep.Cu hG, Sep.blk hG 1 rfl⟩; exact ⟨Sep.Cu hG.choose_spec, Sep.blk hG.choose_spec 1 rfl⟩
  refine aC ⟨rfl, fun _ => TU.p (.move (.t rfl)) rfl, fun h => absurd h cQ⟩ ?_
  refine aC ⟨rfl, fun _ => TU.p (.la isAgg36 sizeOf36 rfl (hq_.2.agg)) rfl, fun h => absurd h cQ⟩ ?_
  refine aC ⟨rfl, fun _ => TU.r (REv.buildSlice (xs := [(fixF p gone (Ar at_ 200))]) (enc := Fact.cells) (mk := fun f : Fact => .agg f.cells) underlying23 sizeOf36 zeroValue36 rfl (Nat.le_of_ble_eq_true rfl) (fun _ => rfl) (fun _ => rfl) (.cons (.t rfl) .nil) rfl) (fun v W' h => h.q), fun h => absurd h cQ⟩ ?_
  refine aC ⟨rfl, fun h => absurd rfl h, fun _ hb a ha => ?_⟩ ?_
  ·subst hb
   have h2 := ha.known (p := fun v W => Sl W v 19 Fact.cells [(fixF p gone (Ar at_ 200))]) (t := 131) rfl
   obtain ⟨v, W', hr, hG2⟩ := REv.C3 (enc := Fact.cells) (bytes := 160) (i := Tryz.t36) underlying23 kQ rfl rfl rfl rfl cQ (fun _ => rfl) Fact.one (.tmp (t := 129) rfl) (.tmp (t := 131) rfl) (Sep.own hG 0 rfl) h2 (by rw [List.length_singleton]; unfold maxLen; omega) (by rw [List.length_singleton]; omega) a (ha.tW (t := 131) rfl)
   exact .inl ⟨v, W', hr, ⟨⟨v, Sep.Dj hG 0 rfl hG2⟩, trivial⟩, hG2.holds⟩
  refine aC ⟨rfl, fun _ => TU.open (d := 132) rfl fun v hv => by exact TU.c (eC (.cons (.t rfl) (.cons (.const _) .nil)) (gG)) (Vs v _ 100000 W (hv.sl (fun _ => rfl)) (by rw [List.length_append, List.length_singleton]; omega)) (fun v W' h => ⟨h.2, by have h5 := h.1; rw [hMq] at h5; exact h5⟩), fun h => absurd h cQ⟩ ?_
  refine aC ⟨rfl, fun _ => TU.p (.la isAgg25 sizeOf25 rfl ((hB16z.up hq_.1).agg)) rfl, fun h => absurd h cQ⟩ ?_
  refine aC ⟨rfl, fun _ => TU.open (d := 133) rfl fun v hv => by exact TU.c (eC (.u rfl rfl) (dA)) (Nb _ _ (F8 (D4 xs ++ [(fixF p gone (Ar at_ 200))]) 100000) x W hv rfl hTc oQ oQ oQ oQ) (fun v W' h => ⟨h.2, h.1⟩), fun h => absurd h cQ⟩ ?_
  exact allL.nil
 intro b_ w25 g hG hg
 have hq_ : Up w10 w25 ∧ Blk w25 B22 (fixF p gone (Ar at_ 200)).cells 36 := by cases b_; exact ⟨Sep.Cu hG, Sep.blk hG 1 rfl⟩; exact ⟨Sep.Cu hG.choose_spec, Sep.blk hG.choose_spec 1 rfl⟩
 obtain ⟨ad135, cp135, L135, e7, hm135, hE135, hw135⟩ : VdsE w25 (g 135) (G0 (F8 (D4 xs ++ [(fixF p gone (Ar at_ 200))]) 100000) x) := hg 6 _ 135 cQ rfl rfl rfl
 change LW _ _ _ _ _ _ _ _ ((135, .eq (g 135)) :: _) _
 rw [e7]
 clear hg e7 hG
 replace hw135 : WhyS w25 L135 := hw135
 have hW := hUa.trans hq_.1
 have hB22 := hq_.2
 have hE34 : Els w25 ad34 3 VP.cells L34 := Els.up hLz hq_.1
 have hw34 : WhyS w25 L34 := WhyS.up hYz hq_.1
 have hn135 : L135.length ≤ 10000 := by rw [← List.length_map (f := VP.vd), hm135, Of hxo]; exact Nat.le_trans (Lo _ _ _) oQ
 refine LW.A rfl (LW.S (CW.S (LW.C (LW.T (CW.block ?_)))))
 refine Am (σ := Nat) (fun s w => (s ≤ L34.length) ∧ (Up w25 w)) (fun s => [(24, .eq (vi (s : Int)))]) ([(13, .eq _), (17, .eq _), (22, .eq _), (23, .eq _)]) (fun s => L34.length - s) 0 ?_ ⟨rfl, rfl, rfl, rfl, rfl, trivial⟩ ?_
 ·exact ⟨Nat.zero_le _, Up.refl _⟩
 rintro i w26 ⟨hi, hL2⟩
 have zzw26 := hL2.size
 replace hW := hW.up hL2
 replace hB22 := hB22.up hL2
 replace hE34 := hE34.up hL2
 replace hw34 := hw34.up hL2
 replace hE135 := hE135.up hL2
 replace hw135 := hw135.up hL2
 refine CW.seq (CW.S (LW.M rfl (LW.M rfl ?_)))
 refine LW.pp (.Dq underlying27 (.t rfl)) ?_
 refine LW.pp (.lss (.t rfl) (.t rfl)) ?_
 refine LW.T ?_
 refine CW.cond (.t rfl) (fun h139 => ?_) (fun h139 => ?_)
 ·replace h139 := dQ h139
  refine CW.skip (KW.then (CW.seq (CW.block (CW.seq ?_))))
  obtain ⟨e, he⟩ := Ac (xs := L34) (i := i) oQ
  obtain ⟨Be, oe, ae, hce⟩ := hE34 i e he
  have hem := List.mem_of_getElem? he
  have hej := nZ hm34 he
  have hel : e.vd.why.length ≤ 1000000000 := Nat.le_trans (Og hej) oQ
  cases hq24 : decide (e.vd.w = p.Wafer) with
  | true =>
   have hq1 := of_decide_eq_true hq24
   refine Ct kQ kQ rfl rfl ?_
   refine HW.pp (.move (.t rfl)) ?_
   refine HW.pp (.move (.t rfl)) ?_
   refine HW.pp (.An underlying27 sizeOf32 (j := i) (.t rfl) (.t rfl) oQ ae) ?_
   refine HW.pp (.fA 0 underlying32 rfl sizeOf3 rfl) ?_
   refine HW.pp (.ld isAgg3 rfl (hce.nth (j := 0) rfl)) ?_
   refine HW.pp (.fA 7 underlying36 rfl sizeOf3 rfl) ?_
   refine HW.pp (.ld isAgg3 rfl (hB22.Ak rfl)) ?_
   refine HW.pp (.fa (PEv.neq (.t rfl) (.t rfl)) (by rw [show decide (e.vd.w = (fixF p gone (Ar at_ 200)).Wafer) = true from hq24]; rfl)) ?_
   refine HW.pp (.move (.t rfl)) ?_
   refine HW.N ?_
   refine HW.N ?_
   refine HW.N ?_
   refine HW.N ?_
   refine HW.N ?_
   refine HW.N ?_
   refine HW.N ?_
   refine HW.N ?_
   refine HW.N ?_
   refine HW.N ?_
   refine HW.N ?_
   refine HW.N ?_
   refine HW.N ?_
   refine HW.N ?_
   refine HW.N ?_
   refine HW.pp (.Az (b := false) (.t rfl) (fun hp => absurd (show false = true from hp) cQ)) ?_
   refine HW.nil ?_
   intro w27 uw27
   have zw27 := uw27.size
   replace hW := hW.up uw27
   replace hB22 := hB22.up uw27
   replace hE34 := hE34.up uw27
   replace hw34 := hw34.up uw27
   replace hE135 := hE135.up uw27
   replace hw135 := hw135.up uw27
   replace hL2 := hL2.up uw27
   refine KW.then ?_
   refine CW.cond_false (.t rfl) ?_
   refine CW.skip (KW.inBlock (KW.then (CW.region (LW.M rfl ?_))))
   refine LW.pp (.inc (.t rfl) oQ) ?_
   refine LW.A rfl (LW.nil (KW.round ?_))
   exact ⟨i + 1, ⟨by omega, hL2⟩, ⟨rfl, rfl, rfl, rfl, rfl, trivial⟩, by first | omega | (dsimp only; omega)⟩
  | false =>
   have hq1 := of_decide_eq_false hq24
   refine Ct kQ kQ rfl rfl ?_
   refine HW.pp (.move (.t rfl)) ?_
   refine HW.pp (.move (.t rfl)) ?_
   refine HW.pp (.An underlying27 sizeOf32 (j := i) (.t rfl) (.t rfl) oQ ae) ?_
   refine HW.pp (.fA 0 underlying32 rfl sizeOf3 rfl) ?_
   refine HW.pp (.ld isAgg3 rfl (hce.nth (j := 0) rfl)) ?_
   refine HW.pp (.fA 7 underlying36 rfl sizeOf3 rfl) ?_
   refine HW.pp (.ld isAgg3 rfl (hB22.Ak rfl)) ?_
   refine HW.pp (.tr (PEv.neq (.t rfl) (.t rfl)) (by rw [show decide (e.vd.w = (fixF p gone (Ar at_ 200)).Wafer) = false from hq24]; rfl)) ?_
   refine HW.pp (.move (.t rfl)) ?_
   refine Dl (.move (.t rfl)) ?_
   refine Dl (.move (.t rfl)) ?_
   refine Dl (.An underlying27 sizeOf32 (j := i) (.t rfl) (.t rfl) oQ ae) ?_
   refine Dl (.la isAgg32 sizeOf32 rfl (hce)) ?_
   refine gF (p := fun v w => VerS w v e.vd) (fun _ _ _ h u => h.up u) rfl rfl rfl rfl rfl (fun w hu a ha => let ⟨v, w', h1, B, c, e1, N, y, x⟩ := REv.buildSlice (xs := [e]) (enc := VP.cells) (mk := fun p : VP => .agg p.cells) underlying27 sizeOf32 zeroValue32 rfl (Nat.le_of_ble_eq_true rfl) (fun _ => rfl) (fun _ => rfl) (.cons (.t rfl) .nil) rfl a ha; ⟨v, w', h1, N.up, _, _, e, e1, rfl, x, Sl.up (hw34 e hem) (hu.trans N.up)⟩) rfl ?_
   refine Dl (.move (.t rfl)) ?_
   refine Dl (.move (.t rfl)) ?_
   refine Dl (.move (.t rfl)) ?_
   refine Dl (.An underlying27 sizeOf32 (j := i) (.t rfl) (.t rfl) oQ ae) ?_
   refine Dl (.fA 0 underlying32 rfl sizeOf3 rfl) ?_
   refine Dl (.ld isAgg3 rfl (hce.nth (j := 0) rfl)) ?_
   refine Qu (ph := .pred fun v w => VerE w v e.vd) (fun _ _ _ h u => h.up u) rfl rfl rfl rfl rfl (fun a w hu ha => ⟨_, _, Ch (.cons (.t rfl) (.cons (.t rfl) .nil)) (uW) a ha, (S7 ad135 cp135 L135 e.vd.w w (Els.up hE135 hu) oQ).mono fun v w' h => ⟨h.2, fY (by rw [show L135.map (·.vd) = _ from hm135]; exact (hfx e.vd hej hq1).symm) h.1 (WhyS.up hw135 hu) h.2⟩⟩) rfl ?_
   refine gF (p := fun v w => VerS w v e.vd) (fun _ _ _ h u => h.up u) rfl rfl rfl rfl rfl (fun w hu => REv.open (d := 162) (p := fun v w => VerE w v e.vd) rfl fun v hv => by obtain ⟨q_, rfl, hqv, hs_⟩ := hv; exact (REv.buildSlice (xs := [q_]) (enc := VP.cells) (mk := fun p : VP => .agg p.cells) underlying27 sizeOf32 zeroValue32 rfl (Nat.le_of_ble_eq_true rfl) (fun _ => rfl) (fun _ => rfl) (.cons (.t rfl) .nil) rfl).mono (by rintro _ W1 ⟨B, c, rfl, N, y, x⟩; exact ⟨N.up, _, _, q_, rfl, hqv, x, Sl.up hs_ N.up⟩)) rfl ?_
   refine Qu (ph := .eq (.bool true)) (phUp.eq _) rfl rfl rfl rfl rfl (fun a w hu ha => ⟨_, _, Mj lK a w, (Pf _ _ [e.vd] [e.vd] w (Ym (ha.known (p := fun v w => VerS w v e.vd) rfl)) (Ym (ha.known (p := fun v w => VerS w v e.vd) rfl)) (fun v hv => by rw [List.mem_singleton.1 hv]; exact hel) (fun v hv => by rw [List.mem_singleton.1 hv]; exact hel) (Nat.le_of_ble_eq_true rfl)).mono fun _ _ h => ⟨h.2, h.1.trans (by rw [decide_eq_true rfl])⟩⟩) rfl ?_
   refine Dl (.fa (PEv.not (.t rfl)) (rfl)) ?_
   refine HW.pp (.Az (.t rfl) (fun hp => (by first | exact .const _ | exact .tmp rfl | exact .cond rfl (by first | assumption | (rw [hp]; rfl) | (rw [hc, hp]; rfl) | simp_all)))) ?_
   refine HW.nil ?_
   intro w28 uw28
   have zw28 := uw28.size
   replace hW := hW.up uw28
   replace hB22 := hB22.up uw28
   replace hE34 := hE34.up uw28
   replace hw34 := hw34.up uw28
   replace hE135 := hE135.up uw28
   replace hw135 := hw135.up uw28
   replace hL2 := hL2.up uw28
   refine KW.then ?_
   refine CW.cond_false (.t rfl) ?_
   refine CW.skip (KW.inBlock (KW.then (CW.region (LW.M rfl ?_))))
   refine LW.pp (.inc (.t rfl) oQ) ?_
   refine LW.A rfl (LW.nil (KW.round ?_))
   exact ⟨i + 1, ⟨by omega, hL2⟩, ⟨rfl, rfl, rfl, rfl, rfl, trivial⟩, by first | omega | (dsimp only; omega)⟩
 replace h139 := dQ h139
 refine CW.exit (Aa (Aa (Ad (KW.then (CW.S (LW.M rfl (LW.A rfl (LW.T (CW.ret ?_)))))))))
 refine Af rfl rfl ⟨_, rfl, ?_⟩
 exact ⟨rfl, hW⟩
end Go.Proofs.YtmimclgihlhaeaaGreat
end
