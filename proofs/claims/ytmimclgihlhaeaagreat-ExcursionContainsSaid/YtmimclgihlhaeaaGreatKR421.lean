import Derived.Test.YtmimclgihlhaeaaGreatKR420
import Derived.Shelf.SlLaysF0
section
namespace Go.Proofs
open Go.Proofs.Tryz
open Go.Shelf
def Tryz.sortW_ren : Go.Shelf.Ren := ⟨fun | 6 => 108 | 15 => 95 | 14 => 159 | 28 => 154 | 29 => 155 | 20 => 181 | 21 => 182 | 22 => 183 | 23 => 184 | 24 => 185 | 25 => 186 | 26 => 187 | 27 => 188 | 46 => 194 | 47 => 176 | 48 => 177 | 49 => 195 | 50 => 196 | 57 => 200 | n => n, fun | 22 => 103 | 24 => 99 | 25 => 102 | 3 => 3 | 39 => 147 | 0 => 0 | 53 => 188 | 55 => 190 | 4 => 4 | 46 => 182 | 45 => 181 | 50 => 159 | 5 => 5 | 9 => 9 | 66 => 212 | 70 => 164 | 76 => 226 | 77 => 33 | n => n, fun | n => n⟩
theorem Tryz.sortW : Go.Proofs.SlLaysF0.n6 Tryz.prog Tryz.sortW_ren := {
 mixed := by kernel_rfl
 f6 := ⟨Tryz.f108.name, by decide, func108.trans (congrArg some kQ)⟩
 f14 := ⟨Tryz.f159.name, by decide, func159.trans (congrArg some kQ)⟩
 f15 := func95.trans (congrArg some kQ)
 f20 := ⟨Tryz.f181.name, by decide, func181.trans (congrArg some kQ)⟩
 f21 := ⟨Tryz.f182.name, by decide, func182.trans (congrArg some kQ)⟩
 f22 := ⟨Tryz.f183.name, by decide, func183.trans (congrArg some kQ)⟩
 f23 := ⟨Tryz.f184.name, by decide, func184.trans (congrArg some kQ)⟩
 f24 := ⟨Tryz.f185.name, by decide, func185.trans (congrArg some kQ)⟩
 f25 := ⟨Tryz.f186.name, by decide, func186.trans (congrArg some kQ)⟩
 f26 := ⟨Tryz.f187.name, by decide, func187.trans (congrArg some kQ)⟩
 f27 := ⟨Tryz.f188.name, by decide, func188.trans (congrArg some kQ)⟩
 f28 := func154.trans (congrArg some kQ)
 f29 := func155.trans (congrArg some kQ)
 f46 := ⟨Tryz.f194.name, by decide, func194.trans (congrArg some kQ)⟩
 f47 := func176.trans (congrArg some kQ)
 f48 := func177.trans (congrArg some kQ)
 f49 := ⟨Tryz.f195.name, by decide, func195.trans (congrArg some kQ)⟩
 f50 := ⟨Tryz.f196.name, by decide, func196.trans (congrArg some kQ)⟩
 f57 := ⟨Tryz.f200.name, by decide, func200.trans (congrArg some kQ)⟩
 t0 := underlying0
 a0 := isAgg0
 z0 := sizeOf0
 v0 := zeroValue0
 t3 := underlying3
 a3 := isAgg3
 z3 := sizeOf3
 v3 := zeroValue3
 t4 := underlying4
 a4 := isAgg4
 z4 := sizeOf4
 v4 := zeroValue4
 t5 := underlying5
 a5 := isAgg5
 z5 := sizeOf5
 v5 := zeroValue5
 t9 := underlying9
 a9 := isAgg9
 z9 := sizeOf9
 v9 := zeroValue9
 t22 := underlying103
 a22 := isAgg103
 z22 := sizeOf103
 v22 := zeroValue103
 t25 := underlying102
 a25 := isAgg102
 z25 := sizeOf102
 v25 := zeroValue102
 t39 := underlying147
 a39 := isAgg147
 z39 := sizeOf147
 v39 := zeroValue147
 t45 := underlying181
 a45 := isAgg181
 z45 := sizeOf181
 v45 := zeroValue181
 t46 := underlying182
 a46 := isAgg182
 z46 := sizeOf182
 v46 := zeroValue182
 t50 := underlying159
 a50 := isAgg159
 z50 := sizeOf159
 v50 := zeroValue159
 t53 := underlying188
 a53 := isAgg188
 z53 := sizeOf188
 v53 := zeroValue188
 t55 := underlying190
 a55 := isAgg190
 z55 := sizeOf190
 v55 := zeroValue190
 t66 := underlying212
 a66 := isAgg212
 z66 := sizeOf212
 v66 := zeroValue212
 t70 := underlying164
 a70 := isAgg164
 z70 := sizeOf164
 v70 := zeroValue164
 t76 := underlying226
 a76 := isAgg226
 z76 := sizeOf226
 v76 := zeroValue226
 t77 := underlying33
 a77 := isAgg33
 z77 := sizeOf33
 v77 := zeroValue33 }
end Go.Proofs
end
section
namespace Go.Wx
structure TP where
 ad : Option Addr
 l : List Int
 cp : Nat
def TP.v (t : TP) : Go.Value := .slice t.ad t.l.length t.cp
def TP.cells (t : TP) : Array Go.Value := #[t.v]
theorem TP.one (t : TP) : t.cells.all (·.oneCell') = true := by simp [TP.cells, TP.v, Value.oneCell']
def leA (x y : Ar2) : Bool := !(Go.Proofs.ltOf cmpA) y x
theorem leA_iff (x y : Ar2) : leA x y = true ↔ ¬ ltA y x := by
 unfold leA
 rw [← ltOfA]
 simp
theorem leA_trans (a b c : Ar2) (h : leA a b = true) (k : leA b c = true) : leA a c = true := by
 rw [leA_iff] at *
 exact ltA_neg k h
theorem leA_total (a b : Ar2) : (leA a b || leA b a) = true := by
 rw [Bool.or_eq_true, leA_iff, leA_iff]
 unfold ltA
 omega
theorem sort_permA {a b : List Ar2} (h : a.Perm b) : a.mergeSort leA = b.mergeSort leA :=
 List.Perm.eq_of_pairwise (le := fun x y => leA x y = true) (fun x y _ _ h1 h2 => ltA_tri ((leA_iff y x).1 h2) ((leA_iff x y).1 h1))
   (List.pairwise_mergeSort leA_trans leA_total a) (List.pairwise_mergeSort leA_trans leA_total b)
   ((List.mergeSort_perm a _).trans (h.trans (List.mergeSort_perm b _).symm))
def setK {α : Type} [DecidableEq α] (l : List α) : List α := l.foldl addK []
theorem setK_snoc {α : Type} [DecidableEq α] (l : List α) (x : α) : setK (l ++ [x]) = addK (setK l) x := by
 unfold setK
 rw [List.foldl_append]
 rfl
theorem setK_mem {α : Type} [DecidableEq α] (l : List α) (x : α) : x ∈ setK l ↔ x ∈ l := by
 refine rev_ind (p := fun l => x ∈ setK l ↔ x ∈ l) Iff.rfl (fun l y h => ?_) l
 rw [setK_snoc, addK_mem, h]
 simp
theorem setK_nodup {α : Type} [DecidableEq α] (l : List α) : (setK l).Nodup := by
 refine rev_ind (p := fun l => (setK l).Nodup) List.nodup_nil (fun l y h => ?_) l
 rw [setK_snoc]
 exact addK_nodup h
def tKeys (P : List Fact) (O : List Vd) : List Ar2 := (setK (O.flatMap fun p => ownL P p.why)).mergeSort leA
def lKeys (b : Base) (O : List Vd) : List Int := (setK ((O.map (lotV b)).filter fun n => decide (n ≠ 0))).mergeSort fun x y => decide (x ≤ y)
def testsA (b : Base) (O : List Vd) : List (List Int) := (tKeys b.Processes O).map (batF b.Processes O) ++ (lKeys b O).map (lotFx b O)
def testsF (b : Base) (L : List Vd) : List (List Int) := (testsA b (L.filter fun v => decide (v.t = 1))).take 16
theorem batF_ne {P : List Fact} {O : List Vd} {g : Ar2} : batF P O g ≠ [] ↔ g ∈ O.flatMap fun p => ownL P p.why := by
 unfold batF
 rw [List.mem_flatMap]
 constructor
 · intro h
   obtain ⟨x, hx⟩ := List.exists_mem_of_ne_nil _ h
   obtain ⟨p, hp, _⟩ := List.mem_map.1 hx
   obtain ⟨h1, h2⟩ := List.mem_filter.1 hp
   exact ⟨p, h1, of_decide_eq_true h2⟩
 rintro ⟨p, h1, h2⟩ e
 have h3 : p.w ∈ (O.filter fun p => decide (g ∈ ownL P p.why)).map (·.w) := List.mem_map.2 ⟨p, List.mem_filter.2 ⟨h1, decide_eq_true h2⟩, rfl⟩
 rw [e] at h3
 cases h3
theorem lotFx_ne {b : Base} {O : List Vd} {n : Int} : lotFx b O n ≠ [] ↔ n ∈ (O.map (lotV b)).filter fun n => decide (n ≠ 0) := by
 unfold lotFx
 rw [List.mem_filter, List.mem_map]
 constructor
 · intro h
   obtain ⟨x, hx⟩ := List.exists_mem_of_ne_nil _ h
   obtain ⟨p, hp, _⟩ := List.mem_map.1 hx
   obtain ⟨h1, h2⟩ := List.mem_filter.1 hp
   have h3 := of_decide_eq_true h2
   exact ⟨⟨p, h1, h3.1⟩, decide_eq_true h3.2⟩
 rintro ⟨⟨p, h1, h2⟩, h3⟩ e
 have h4 : p.w ∈ (O.filter fun p => decide (lotV b p = n ∧ n ≠ 0)).map (·.w) := List.mem_map.2 ⟨p, List.mem_filter.2 ⟨h1, decide_eq_true ⟨h2, of_decide_eq_true h3⟩⟩, rfl⟩
 rw [e] at h4
 cases h4
theorem tKeys_eq {P : List Fact} {O : List Vd} {D : List (BE Ar2)} {ks : List Ar2} (h : BeInv D (batF P O)) (hk : ks.Perm (D.map (·.g))) : ks.mergeSort leA = tKeys P O :=
 sort_permA (hk.trans ((List.perm_ext_iff_of_nodup h.nd (setK_nodup _)).2 fun g => by rw [h.key, batF_ne, setK_mem]))
theorem lKeys_eq {b : Base} {O : List Vd} {E : List (BE Int)} {ks : List Int} (h : BeInv E (lotFx b O)) (hk : ks.Perm (E.map (·.g))) : (ks.mergeSort fun x y => decide (x ≤ y)) = lKeys b O :=
 sort_perm (hk.trans ((List.perm_ext_iff_of_nodup h.nd (setK_nodup _)).2 fun g => by rw [h.key, lotFx_ne, setK_mem]))
theorem tKeys_mem {P : List Fact} {O : List Vd} {D : List (BE Ar2)} (h : BeInv D (batF P O)) {g : Ar2} (hg : g ∈ tKeys P O) : ∃ e ∈ D, e.g = g := by
 unfold tKeys at hg
 rw [List.mem_mergeSort, setK_mem, ← batF_ne, ← h.key] at hg
 exact List.mem_map.1 hg
theorem lKeys_mem {b : Base} {O : List Vd} {E : List (BE Int)} (h : BeInv E (lotFx b O)) {g : Int} (hg : g ∈ lKeys b O) : ∃ e ∈ E, e.g = g := by
 unfold lKeys at hg
 rw [List.mem_mergeSort, setK_mem, ← lotFx_ne, ← h.key] at hg
 exact List.mem_map.1 hg
theorem be_lenA {P : List Fact} {O : List Vd} {D : List (BE Ar2)} (h : BeInv D (batF P O)) : D.length ≤ P.length := by
 have := h.nd.length_le_of_subset (l₂ := P.map kOf) fun g hg => by
   rw [h.key, batF_ne, List.mem_flatMap] at hg
   obtain ⟨p, _, h2⟩ := hg
   obtain ⟨f, hf, _, e⟩ := ownL_mem.1 h2
   exact List.mem_map.2 ⟨f, hf, e⟩
 simpa using this
theorem be_lenL {b : Base} {O : List Vd} {E : List (BE Int)} (h : BeInv E (lotFx b O)) : E.length ≤ O.length := by
 have := h.nd.length_le_of_subset (l₂ := O.map (lotV b)) fun g hg => by
   rw [h.key, lotFx_ne] at hg
   exact (List.mem_filter.1 hg).1
 simpa using this
theorem tKeys_ok {P : List Fact} {O : List Vd} (h : ∀ f ∈ P, inI f.Time ∧ inI f.Until) : ∀ g ∈ tKeys P O, g.ok := fun g hg => by
 unfold tKeys at hg
 rw [List.mem_mergeSort, setK_mem, List.mem_flatMap] at hg
 obtain ⟨p, _, h2⟩ := hg
 exact ownL_ok h g h2
theorem take_map_next {α β : Type} {f : α → β} {l : List α} {k : Nat} {x : α} (h : l[k]? = some x) : (l.take (k + 1)).map f = (l.take k).map f ++ [f x] := by
 rw [List.take_add_one, h, List.map_append]; rfl
theorem open_vd (L : List VP) : (L.filter openP).map (·.vd) = (L.map (·.vd)).filter fun v => decide (v.t = 1) := by
 rw [List.filter_map]
 congr 1
end Go.Wx
namespace Go.Proofs.YtmimclgihlhaeaaGreat
open Go.Proofs.Tryz
open Go.Wx Go.RowKit
theorem sortA_any (v : Go.Value) (l : List Ar2) (w : World) (h : OwnS w 0 99 2 Ar2.cells v l) (hlen : l.length < 4611686018427387904) : Ret Tryz.prog 108 #[v, .func (.func 48) #[] #[]] w fun r w' => r = .tuple #[] ∧ Stp (aOwn 99 2 Ar2.cells v l) (aOwn 99 2 Ar2.cells v (l.mergeSort leA)) w w' := by
 have hc := h
 obtain ⟨h1, ⟨rfl, hn⟩ | ⟨g, cap, cur, rfl, _, hb, _⟩⟩ := h
 · have hks : l = [] := List.eq_nil_of_length_eq_zero hn
   subst hks
   refine Calls.mono (AnyF.slices_SortFunc_none Tryz.sortW none 0 _ w) ?_
   rintro e' w' ⟨rfl, rfl⟩
   refine ⟨_, rfl, rfl, ?_⟩
   rw [List.mergeSort_nil]
   exact Stp.refl hc
 have hcmp : CmpLays Tryz.prog 48 #[] (fun x : Ar2 => x.cells.toList) 2 cmpA g 0 l.toArray.size w := fun m os dk _ x y => by
   refine Calls.mono (compareA_any x y _) ?_
   rintro e' w' ⟨v, rfl, rfl, hD⟩
   exact ⟨rfl, hD.grow⟩
 have hK := holdsK_own (enc := Ar2.cells) (k := 2) (fun _ => rfl) hc
 refine Calls.mono (AnyQ.slices_SortFunc_total Tryz.sortW 2 isAgg99 sizeOf99 (fun x : Ar2 => x.cells.toList) (fun _ => rfl) (fun x v hv => by simp [Ar2.cells] at hv; rcases hv with rfl | rfl <;> rfl) cmpA swoA 48 #[] g 0 cap l.toArray w en48 hcmp hK (lt_of_block hb) (by simpa using hlen) totA) ?_
 rintro e' w' ⟨rfl, n, os, rfl⟩
 refine ⟨_, rfl, rfl, ?_⟩
 have h2 := stp_sort (enc := Ar2.cells) (k := 2) (n := n) (os := os) (ts := (l.mergeSort leA)) (fun _ => rfl) (by rw [List.length_mergeSort]) hc
 simpa [show (fun x y => !Go.Proofs.ltOf cmpA y x) = leA from rfl] using h2
theorem sortedA_any (g : Nat) (lb : Array Go.Value) (S Sp : List Ar2 → Prop) (N : Nat) (w : World) (en : ∀ args w, (callFunc g args).run Tryz.prog w = .ok (.enter g args) w) (hit : ∀ W (X Y : Nat → Prop), Up w W → (∀ i, X i → w.heap.size ≤ i) → (∀ i, Y i → w.heap.size ≤ i ∧ i < W.heap.size) → IterS Tryz.prog g lb encA X Y S Sp N W) (hN0 : N ≤ 1000000000) (hS0 : ∀ ks, S ks → ks.length ≤ 1000000000) : Ret Tryz.prog 51 #[.func (.func g) #[] lb, .func (.func 48) #[] #[]] w fun r w' => ∃ ks, S ks ∧ (aOwn 99 2 Ar2.cells r (ks.mergeSort leA)).holds w' ∧ (∀ i, (aOwn 99 2 Ar2.cells r (ks.mergeSort leA)).foot i → w.heap.size ≤ i) ∧ Up w w' := by
 obtain ⟨w0, rfl⟩ : ∃ w0, w0 = w := ⟨_, rfl⟩
 have hS := Sep.start no w0
 refine cS (n := 12) (m := 9) func51 rfl rfl rfl ?_
 refine CW.S (LW.C (LW.S (CW.region (LW.M rfl ?_))))
 refine LW.K (eC (.o rfl) (en107)) rfl (collectA_any _ _ _ _ _ _ en hit hN0) ?_
 rintro v w1 ⟨ks, hP, hO_, hF_, uw1⟩
 have zw1 := uw1.size
 replace hS := hS.add uw1 (A' := aOwn 99 2 Ar2.cells v ks) (hO_) (hF_)
 change Wx.Sep _ _ _ [_] at hS
 clear hO_ hF_
 refine LW.A rfl (LW.S (CW.region (LW.M rfl (LW.M rfl ?_))))
 refine LW.K (eC (.u rfl rfl) (en108)) rfl (sortA_any v ks _ (hS.own 0 rfl) (by have := hS0 ks hP; omega)) ?_
 rintro _ w2 ⟨rfl, uw2⟩
 have zw2 := uw2.fr.size
 replace hS := hS.stp 0 rfl uw2
 change Wx.Sep _ _ _ [_] at hS
 refine LW.S (CW.region (LW.M rfl (LW.A rfl (LW.T (CW.ret ?_)))))
 refine KW.ret1 rfl rfl ⟨_, rfl, ?_⟩
 exact ⟨ks, hP, hS.get 0 rfl, fun i hi => (hS.foot 0 rfl i hi).resolve_left (fun h => h), hS.upd⟩
end Go.Proofs.YtmimclgihlhaeaaGreat
end
section
namespace Go.Wx
def wI (n : Int) : Int := IntKind.i64.wrap n
deriving instance DecidableEq for Vd
theorem vd_ext {x y : Vd} (h1 : x.w = y.w) (h2 : x.t = y.t) (h3 : x.why = y.why) : x = y := by
 cases x; cases y; cases h1; cases h2; cases h3; rfl
theorem mapTake_step {α β γ : Type} {f : α → γ} {g : β → γ} {xs : List α} {ys : List β} {k : Nat} {x : α} {y : β} (h : (xs.take k).map f = (ys.take k).map g) (hx : xs[k]? = some x) (hy : ys[k]? = some y) (e : f x = g y) : (xs.take (k + 1)).map f = (ys.take (k + 1)).map g := by
 rw [take_map_next hx, take_map_next hy, h, e]
theorem map_ne_of_at {α β γ : Type} {f : α → γ} {g : β → γ} {xs : List α} {ys : List β} {k : Nat} {x : α} {y : β} (hx : xs[k]? = some x) (hy : ys[k]? = some y) (e : ¬ f x = g y) : ¬ xs.map f = ys.map g := fun h => e (by
 have h1 : (xs.map f)[k]? = some (f x) := by rw [List.getElem?_map, hx]; rfl
 have h2 : (ys.map g)[k]? = some (g y) := by rw [List.getElem?_map, hy]; rfl
 rw [h, h2] at h1
 exact (Option.some.inj h1).symm)
def proc22 (id wafer time til : Int) : Fact := { zeroF with Kind := 1, Version := 1, ID := id, Wafer := wafer, Tool := 2, Recipe := 1, Revision := 1, Time := time, Until := til }
def spanX (y : I5) : Exc := ⟨2, pickI y.a 2, pickI y.b 200, wI (pickI y.b 200 + pickI y.c 50), pickI y.d 12⟩
def noVd : Vd := ⟨0, -1, []⟩
def verdF (L : List Vd) (w : Int) : Vd := (L.find? fun v => decide (v.w = w)).getD noVd
end Go.Wx
namespace Go.Proofs.YtmimclgihlhaeaaGreat
open Go.Proofs.Tryz
open Go.Wx Go.RowKit
theorem sameInts_any (v1 v2 : Value) (xs ys : List Int) (w : World) (h1 : Sl w v1 1 eInt xs) (h2 : Sl w v2 1 eInt ys) (hx0 : xs.length ≤ 1000000000) (hy0 : ys.length ≤ 1000000000) : Ret Tryz.prog 21 #[v1, v2] w fun r w' => r = .bool (decide (xs = ys)) ∧ Up w w' := by
 have hW := Up.refl w
 obtain ⟨w0, rfl⟩ : ∃ w0, w0 = w := ⟨_, rfl⟩
 obtain ⟨ad, cp, rfl, hE1⟩ := h1
 obtain ⟨ad', cp', rfl, hE2⟩ := h2
 refine cS (n := 26) (m := 9) func21 rfl rfl rfl ?_
 refine CW.S (LW.C (LW.S (CW.S (LW.M rfl ?_))))
 refine LW.pp (.lenS underlying30 (.t rfl)) ?_
 refine LW.M rfl ?_
 refine LW.pp (.lenS underlying30 (.t rfl)) ?_
 refine LW.pp (.neq (.t rfl) (.t rfl)) ?_
 refine LW.T ?_
 refine CW.cond (.t rfl) (fun h10 => ?_) (fun h10 => ?_)
 ·replace h10 := dQ h10
  have hr : decide (xs = ys) = false := decide_eq_false (fun h => by subst h; simp at h10)
  refine CW.S (LW.C (LW.T (CW.ret (KW.then_ret ?_))))
  refine KW.ret1 rfl rfl ⟨_, rfl, ?_⟩
  exact ⟨by rw [hr], hW⟩
 replace h10 := dQ h10
 have hlen : xs.length = ys.length := Int.ofNat.inj (show Int.ofNat _ = Int.ofNat _ from (by simpa using h10 : (xs.length : Int) = ys.length))
 refine CW.skip (KW.then (CW.seq (CW.S (LW.C (LW.T (CW.block ?_))))))
 refine CW.loop (σ := Nat) (fun s w => (s ≤ xs.length ∧ xs.take s = ys.take s) ∧ Els w ad 1 eInt xs ∧ Els w ad' 1 eInt ys ∧ Up w0 w) (fun s => [(0, .eq (.slice ad xs.length cp)), (1, .eq (.slice ad' ys.length cp')), (5, .eq (vi (s : Int)))]) (fun s => xs.length - s) 0 ?_ ?_ ?_
 ·exact ⟨⟨Nat.zero_le _, rfl⟩, hE1, hE2, hW⟩
 ·exact ⟨rfl, rfl, rfl, trivial⟩
 rintro k w1 ⟨⟨hk, hT⟩, hE1, hE2, hW⟩
 refine CW.seq (CW.S (LW.M rfl (LW.M rfl ?_)))
 refine LW.pp (.lenS underlying30 (.t rfl)) ?_
 refine LW.pp (.lss (.t rfl) (.t rfl)) ?_
 refine LW.T ?_
 refine CW.cond (.t rfl) (fun h14 => ?_) (fun h14 => ?_)
 ·replace h14 := dQ h14
  refine CW.skip (KW.then (CW.seq (CW.block (CW.seq ?_))))
  obtain ⟨x, hx⟩ := getElem?_of_lt (xs := xs) (i := k) oQ
  obtain ⟨y, hy⟩ := getElem?_of_lt (xs := ys) (i := k) oQ
  obtain ⟨B, o, had, hcell⟩ := hE1 k x hx
  obtain ⟨B', o', had', hcell'⟩ := hE2 k y hy
  refine CW.draws kQ kQ rfl rfl ?_
  refine HW.pp (.move (.t rfl)) ?_
  refine HW.pp (.move (.t rfl)) ?_
  refine HW.pp (.indexAddr' underlying30 sizeOf3 (.t rfl) (.t rfl) oQ had) ?_
  refine HW.pp (.ld isAgg3 rfl (hcell.nth (j := 0) rfl)) ?_
  refine HW.pp (.move (.t rfl)) ?_
  refine HW.pp (.move (.t rfl)) ?_
  refine HW.pp (.indexAddr' underlying30 sizeOf3 (.t rfl) (.t rfl) oQ had') ?_
  refine HW.pp (.ld isAgg3 rfl (hcell'.nth (j := 0) rfl)) ?_
  refine HW.pp (.neq (.t rfl) (.t rfl)) ?_
  refine HW.nil ?_
  intro w2 uw2
  have zw2 := uw2.size
  replace hE1 := hE1.up uw2
  replace hE2 := hE2.up uw2
  replace hW := hW.up uw2
  refine KW.then ?_
  refine CW.cond (.t rfl) (fun h25 => ?_) (fun h25 => ?_)
  ·replace h25 := dQ h25
   have hr : decide (xs = ys) = false := decide_eq_false (ne_of_at hx hy (by simpa using h25))
   refine CW.S (LW.C (LW.T (CW.ret (KW.block_ret (KW.then_ret (KW.then_ret (KW.block_ret (KW.then_ret ?_))))))))
   refine KW.ret1 rfl rfl ⟨_, rfl, ?_⟩
   exact ⟨by rw [hr], hW⟩
  replace h25 := dQ h25
  refine CW.skip (KW.inBlock (KW.then (CW.region (LW.M rfl ?_))))
  refine LW.pp (.inc (.t rfl) oQ) ?_
  refine LW.A rfl (LW.nil (KW.round ?_))
  exact ⟨k + 1, ⟨⟨by omega, take_eq_step hT hx hy (by simpa using h25)⟩, hE1, hE2, hW⟩, ⟨rfl, rfl, rfl, trivial⟩, by omega⟩
 replace h14 := dQ h14
 have hr : decide (xs = ys) = true := decide_eq_true (by have := hT; rw [show k = xs.length by omega, List.take_length, hlen, List.take_length] at this; exact this)
 refine CW.exit (KW.then_exit (KW.then_exit (KW.block_hit (KW.then (CW.S (LW.C (LW.T (CW.ret ?_))))))))
 refine KW.ret1 rfl rfl ⟨_, rfl, ?_⟩
 exact ⟨by rw [hr], hW⟩
theorem pick22_any (c n : Int) (w : World) (hn : n ≠ 0) : Ret Tryz.prog 27 #[vi c, vi n] w fun r w' => r = vi (pickI c n) ∧ Up w w' := by
 have hW := Up.refl w
 refine cS (n := 13) (m := 9) func27 rfl rfl rfl ?_
 refine CW.S (LW.C (LW.S (CW.S (LW.M rfl ?_))))
 refine LW.pp (.lss (.t rfl) (.const _)) ?_
 refine LW.T ?_
 refine CW.cond (.t rfl) (fun h6 => ?_) (fun h6 => ?_)
 ·replace h6 := dQ h6
  refine CW.region (LW.M rfl ?_)
  refine LW.pp (.add_w (.t rfl) (.const _)) ?_
  refine LW.pp (.neg underlying3 (.t rfl)) ?_
  refine LW.A rfl (LW.S (CW.region (LW.M rfl (LW.M rfl ?_))))
  refine LW.pp (.rem (.t rfl) (.t rfl) oQ) ?_
  refine LW.A rfl (LW.T (CW.ret ?_))
  refine KW.ret1 rfl rfl ⟨_, rfl, ?_⟩
  exact ⟨by first | (rw [pickI, if_pos h6]) | (rw [pickI, if_neg (by omega)]), hW⟩
 replace h6 := dQ h6
 refine CW.skip (KW.then (CW.S (LW.M rfl (LW.M rfl ?_))))
 refine LW.pp (.rem (.t rfl) (.t rfl) oQ) ?_
 refine LW.A rfl (LW.T (CW.ret ?_))
 refine KW.ret1 rfl rfl ⟨_, rfl, ?_⟩
 exact ⟨by first | (rw [pickI, if_pos h6]) | (rw [pickI, if_neg (by omega)]), hW⟩
theorem process22_any (a b c d : Int) (w : World) : Ret Tryz.prog 30 #[vi a, vi b, vi c, vi d] w fun r w' => r = .agg (proc22 a b c d).cells ∧ Up w w' := by
 obtain ⟨w0, rfl⟩ : ∃ w0, w0 = w := ⟨_, rfl⟩
 have hS := Sep.start no w0
 refine cS (n := 14) (m := 9) func30 rfl rfl rfl ?_
 refine CW.S ?_
 refine LW.rr (.allocA zeroValue36) rfl ?_
 rintro _ w1 ⟨B8, rfl, NB8⟩
 have eB8 := NB8.at_
 have zB8 := NB8.size
 replace hS := hS.addB NB8
 change Wx.Sep _ _ _ [_] at hS
 refine LW.S (CW.region (LW.M rfl (LW.M rfl (LW.M rfl (LW.M rfl ?_)))))
 refine LW.pp (.build (cs := (proc22 a b c d).cells) underlying36 zeroValue36 Tryz.places36 (.cons (.const _) (.cons (.const _) (.cons (.t rfl) (.cons (.t rfl) (.cons (.const _) (.cons (.const _) (.cons (.const _) (.cons (.t rfl) (.cons (.t rfl) .nil))))))))) kQ) ?_
 refine LW.E (.storeA sizeOf36 rfl (.t rfl) (.t rfl) (Fact.one _) (hS.blk 0 rfl) rfl) ?_
 intro w2 Nw2
 have zw2 := Nw2.size
 replace hS := hS.putB 0 rfl Nw2
 change Wx.Sep _ _ _ [_] at hS
 refine LW.T (CW.ret ?_)
 refine KW.retA rfl rfl isAgg36 sizeOf36 rfl ((hS.blk 0 rfl).agg) ⟨_, rfl, ?_⟩
 exact ⟨rfl, hS.upd⟩
theorem same22_any (ad1 : Option Addr) (cp1 : Nat) (ad2 : Option Addr) (cp2 : Nat) (La Lb : List VP) (w : World) (hE10 : Els w ad1 3 VP.cells La) (hE20 : Els w ad2 3 VP.cells Lb) (hw1 : ∀ p ∈ La, Sl w p.uv 1 eInt p.vd.why) (hw2 : ∀ p ∈ Lb, Sl w p.uv 1 eInt p.vd.why) (hl1 : ∀ p ∈ La, p.vd.why.length ≤ 1000000000) (hl2 : ∀ p ∈ Lb, p.vd.why.length ≤ 1000000000) (hl : La.length ≤ 1000000000) : Ret Tryz.prog 20 #[.slice ad1 La.length cp1, .slice ad2 Lb.length cp2] w fun r w' => r = .bool (decide (La.map (·.vd) = Lb.map (·.vd))) ∧ Up w w' := by
 have hW := Up.refl w
 obtain ⟨w0, rfl⟩ : ∃ w0, w0 = w := ⟨_, rfl⟩
 refine cS (n := 57) (m := 9) func20 rfl rfl rfl ?_
 refine CW.S (LW.C (LW.S (CW.S (LW.M rfl ?_))))
 refine LW.pp (.lenS underlying27 (.t rfl)) ?_
 refine LW.M rfl ?_
 refine LW.pp (.lenS underlying27 (.t rfl)) ?_
 refine LW.pp (.neq (.t rfl) (.t rfl)) ?_
 refine LW.T ?_
 refine CW.cond (.t rfl) (fun h11 => ?_) (fun h11 => ?_)
 ·replace h11 := dQ h11
  have hr : decide (La.map (·.vd) = Lb.map (·.vd)) = false := decide_eq_false (fun h => by have h5 := congrArg List.length h; simp only [List.length_map] at h5; simp [h5] at h11)
  refine CW.S (LW.C (LW.T (CW.ret (KW.then_ret ?_))))
  refine KW.ret1 rfl rfl ⟨_, rfl, ?_⟩
  exact ⟨by rw [hr], hW⟩
 replace h11 := dQ h11
 have hlen : La.length = Lb.length := Int.ofNat.inj (show Int.ofNat _ = Int.ofNat _ from (by simpa using h11 : (La.length : Int) = Lb.length))
 refine CW.skip (KW.then (CW.seq (CW.S (LW.C (LW.T (CW.block ?_))))))
 refine CW.loopB (σ := Nat) (fun s w => (s ≤ La.length) ∧ ((La.take s).map (·.vd) = (Lb.take s).map (·.vd)) ∧ (Up w0 w)) (fun s => [(5, .eq (vi (s : Int)))]) ([(0, .eq _), (1, .eq _)]) (fun s => La.length - s) 0 ?_ ⟨rfl, rfl, rfl, trivial⟩ ?_
 ·exact ⟨Nat.zero_le _, rfl, hW⟩
 rintro k w1 ⟨hk, hT, hW⟩
 refine CW.seq (CW.S (LW.M rfl (LW.M rfl ?_)))
 refine LW.pp (.lenS underlying27 (.t rfl)) ?_
 refine LW.pp (.lss (.t rfl) (.t rfl)) ?_
 refine LW.T ?_
 refine CW.cond (.t rfl) (fun h15 => ?_) (fun h15 => ?_)
 ·replace h15 := dQ h15
  refine CW.skip (KW.then (CW.seq (CW.block (CW.seq ?_))))
  obtain ⟨x, hx⟩ := getElem?_of_lt (xs := La) (i := k) oQ
  obtain ⟨Bx, ox, ax, hcx⟩ := (Els.up hE10 hW) k x hx
  obtain ⟨y, hy⟩ := getElem?_of_lt (xs := Lb) (i := k) oQ
  obtain ⟨By, oy, ay, hcy⟩ := (Els.up hE20 hW) k y hy
  refine CW.draws kQ kQ rfl rfl ?_
  refine HW.pp (.move (.t rfl)) ?_
  refine HW.pp (.move (.t rfl)) ?_
  refine HW.pp (.indexAddr' underlying27 sizeOf32 (j := k) (.t rfl) (.t rfl) oQ ax) ?_
  refine HW.pp (.fA 2 underlying32 rfl sizeOf30 rfl) ?_
  refine HW.pp (.ld isAgg30 rfl (hcx.nth (j := 2) rfl)) ?_
  refine HW.pp (.move (.t rfl)) ?_
  refine HW.pp (.move (.t rfl)) ?_
  refine HW.pp (.indexAddr' underlying27 sizeOf32 (j := k) (.t rfl) (.t rfl) oQ ay) ?_
  refine HW.pp (.fA 2 underlying32 rfl sizeOf30 rfl) ?_
  refine HW.pp (.ld isAgg30 rfl (hcy.nth (j := 2) rfl)) ?_
  refine HW.c (fun a w _ ha => enter_call0 (.cons (.t rfl) (.cons (.t rfl) .nil)) (en21) a ha) rfl rfl (fun w hu => sameInts_any _ _ x.vd.why y.vd.why w (Sl.up (Sl.up (hw1 x (List.mem_of_getElem? hx)) hW) hu) (Sl.up (Sl.up (hw2 y (List.mem_of_getElem? hy)) hW) hu) (hl1 x (List.mem_of_getElem? hx)) (hl2 y (List.mem_of_getElem? hy))) ?_
  refine HW.pp (.assign (.t rfl)) ?_
  refine HW.nil ?_
  intro w2 uw2
  have zw2 := uw2.size
  replace hW := hW.up uw2
  replace hcx := hcx.up uw2
  replace hcy := hcy.up uw2
  refine KW.then (CW.seq ?_)
  refine CW.draws kQ kQ rfl rfl ?_
  refine HW.pp (.move (.t rfl)) ?_
  refine HW.pp (.move (.t rfl)) ?_
  refine HW.pp (.indexAddr' underlying27 sizeOf32 (j := k) (.t rfl) (.t rfl) oQ ax) ?_
  refine HW.pp (.fA 0 underlying32 rfl sizeOf3 rfl) ?_
  refine HW.pp (.ld isAgg3 rfl (hcx.nth (j := 0) rfl)) ?_
  refine HW.pp (.move (.t rfl)) ?_
  refine HW.pp (.move (.t rfl)) ?_
  refine HW.pp (.indexAddr' underlying27 sizeOf32 (j := k) (.t rfl) (.t rfl) oQ ay) ?_
  refine HW.pp (.fA 0 underlying32 rfl sizeOf3 rfl) ?_
  refine HW.pp (.ld isAgg3 rfl (hcy.nth (j := 0) rfl)) ?_
  refine HW.pp (.neq (.t rfl) (.t rfl)) ?_
  refine HW.pp (.move (.t rfl)) ?_
  refine HW.g rfl rfl rfl rfl rfl rfl (fun hc => PEv.move (.t rfl)) ?_
  refine HW.g rfl rfl rfl rfl rfl rfl (fun hc => PEv.move (.t rfl)) ?_
  refine HW.g rfl rfl rfl rfl rfl rfl (fun hc => PEv.indexAddr' underlying27 sizeOf32 (j := k) vQ vQ oQ ax) ?_
  refine HW.g rfl rfl rfl rfl rfl rfl (fun hc => PEv.fieldAddr (off := 1) underlying32 rfl rfl sizeOf3 rfl vQ) ?_
  refine HW.g rfl rfl rfl rfl rfl rfl (fun hc => PEv.load isAgg3 vQ (hcx.nth (j := 1) rfl)) ?_
  refine HW.g rfl rfl rfl rfl rfl rfl (fun hc => PEv.move (.t rfl)) ?_
  refine HW.g rfl rfl rfl rfl rfl rfl (fun hc => PEv.move (.t rfl)) ?_
  refine HW.g rfl rfl rfl rfl rfl rfl (fun hc => PEv.indexAddr' underlying27 sizeOf32 (j := k) vQ vQ oQ ay) ?_
  refine HW.g rfl rfl rfl rfl rfl rfl (fun hc => PEv.fieldAddr (off := 1) underlying32 rfl rfl sizeOf3 rfl vQ) ?_
  refine HW.g rfl rfl rfl rfl rfl rfl (fun hc => PEv.load isAgg3 vQ (hcy.nth (j := 1) rfl)) ?_
  refine HW.g rfl rfl rfl rfl rfl rfl (fun hc => PEv.neq vQ vQ) ?_
  refine HW.pp (.pick_or (.t rfl) (fun hp => (by first | exact .const _ | exact .tmp rfl | exact .cond rfl (by first | assumption | (rw [hp]; rfl) | (rw [hc, hp]; rfl) | simp_all)))) ?_
  refine HW.pp (.move (.t rfl)) ?_
  refine HW.g rfl rfl rfl rfl rfl rfl (fun hc => PEv.move (.t rfl)) ?_
  refine HW.g rfl rfl rfl rfl rfl rfl (fun hc => PEv.not vQ) ?_
  refine HW.pp (.pick_or (.t rfl) (fun hp => (by first | exact .const _ | exact .tmp rfl | exact .cond rfl (by first | assumption | (rw [hp]; rfl) | (rw [hc, hp]; rfl) | simp_all)))) ?_
  refine HW.nil ?_
  intro w3 uw3
  have zw3 := uw3.size
  replace hW := hW.up uw3
  replace hcx := hcx.up uw3
  replace hcy := hcy.up uw3
  refine KW.then ?_
  refine CW.cond (.t rfl) (fun h56 => ?_) (fun h56 => ?_)
  ·replace h56 := dQ h56
   have hne : ¬ x.vd = y.vd := fun e => by rw [e] at h56; simp at h56
   have hr : decide (La.map (·.vd) = Lb.map (·.vd)) = false := decide_eq_false (map_ne_of_at (f := VP.vd) (g := VP.vd) hx hy hne)
   refine CW.S (LW.C (LW.T (CW.ret (KW.block_ret (KW.then_ret (KW.then_ret (KW.block_ret (KW.then_ret ?_))))))))
   refine KW.ret1 rfl rfl ⟨_, rfl, ?_⟩
   exact ⟨by rw [hr], hW⟩
  replace h56 := dQ h56
  have heq : x.vd = y.vd := by have h5 := h56; simp at h5; first | exact vd_ext h5.1 h5.2.1 h5.2.2 | exact vd_ext h5.1.1 h5.1.2 h5.2
  refine CW.skip (KW.inBlock (KW.then (CW.region (LW.M rfl ?_))))
  refine LW.pp (.inc (.t rfl) oQ) ?_
  refine LW.A rfl (LW.nil (KW.round ?_))
  exact ⟨k + 1, ⟨by omega, mapTake_step hT hx hy heq, hW⟩, ⟨rfl, rfl, rfl, trivial⟩, by first | omega | (dsimp only; omega)⟩
 replace h15 := dQ h15
 have hr : decide (La.map (·.vd) = Lb.map (·.vd)) = true := decide_eq_true (by have h5 := hT; rw [show k = La.length by omega, List.take_length, hlen, List.take_length] at h5; exact h5)
 refine CW.exit (KW.then_exit (KW.then_exit (KW.block_hit (KW.then (CW.S (LW.C (LW.T (CW.ret ?_))))))))
 refine KW.ret1 rfl rfl ⟨_, rfl, ?_⟩
 exact ⟨by rw [hr], hW⟩
theorem sameT22_any (ad1 : Option Addr) (cp1 : Nat) (ad2 : Option Addr) (cp2 : Nat) (La Lb : List TP) (w : World) (hE10 : Els w ad1 1 TP.cells La) (hE20 : Els w ad2 1 TP.cells Lb) (hw1 : ∀ p ∈ La, Sl w p.v 1 eInt p.l) (hw2 : ∀ p ∈ Lb, Sl w p.v 1 eInt p.l) (hl1 : ∀ p ∈ La, p.l.length ≤ 1000000000) (hl2 : ∀ p ∈ Lb, p.l.length ≤ 1000000000) (hl : La.length ≤ 1000000000) : Ret Tryz.prog 24 #[.slice ad1 La.length cp1, .slice ad2 Lb.length cp2] w fun r w' => r = .bool (decide (La.map (·.l) = Lb.map (·.l))) ∧ Up w w' := by
 have hW := Up.refl w
 obtain ⟨w0, rfl⟩ : ∃ w0, w0 = w := ⟨_, rfl⟩
 refine cS (n := 31) (m := 9) func24 rfl rfl rfl ?_
 refine CW.S (LW.C (LW.S (CW.S (LW.M rfl ?_))))
 refine LW.pp (.lenS underlying51 (.t rfl)) ?_
 refine LW.M rfl ?_
 refine LW.pp (.lenS underlying51 (.t rfl)) ?_
 refine LW.pp (.neq (.t rfl) (.t rfl)) ?_
 refine LW.T ?_
 refine CW.cond (.t rfl) (fun h11 => ?_) (fun h11 => ?_)
 ·replace h11 := dQ h11
  have hr : decide (La.map (·.l) = Lb.map (·.l)) = false := decide_eq_false (fun h => by have h5 := congrArg List.length h; simp only [List.length_map] at h5; simp [h5] at h11)
  refine CW.S (LW.C (LW.T (CW.ret (KW.then_ret ?_))))
  refine KW.ret1 rfl rfl ⟨_, rfl, ?_⟩
  exact ⟨by rw [hr], hW⟩
 replace h11 := dQ h11
 have hlen : La.length = Lb.length := Int.ofNat.inj (show Int.ofNat _ = Int.ofNat _ from (by simpa using h11 : (La.length : Int) = Lb.length))
 refine CW.skip (KW.then (CW.seq (CW.S (LW.C (LW.T (CW.block ?_))))))
 refine CW.loopB (σ := Nat) (fun s w => (s ≤ La.length) ∧ ((La.take s).map (·.l) = (Lb.take s).map (·.l)) ∧ (Up w0 w)) (fun s => [(5, .eq (vi (s : Int)))]) ([(0, .eq _), (1, .eq _)]) (fun s => La.length - s) 0 ?_ ⟨rfl, rfl, rfl, trivial⟩ ?_
 ·exact ⟨Nat.zero_le _, rfl, hW⟩
 rintro k w1 ⟨hk, hT, hW⟩
 refine CW.seq (CW.S (LW.M rfl (LW.M rfl ?_)))
 refine LW.pp (.lenS underlying51 (.t rfl)) ?_
 refine LW.pp (.lss (.t rfl) (.t rfl)) ?_
 refine LW.T ?_
 refine CW.cond (.t rfl) (fun h15 => ?_) (fun h15 => ?_)
 ·replace h15 := dQ h15
  refine CW.skip (KW.then (CW.seq (CW.block (CW.seq ?_))))
  obtain ⟨x, hx⟩ := getElem?_of_lt (xs := La) (i := k) oQ
  obtain ⟨Bx, ox, ax, hcx⟩ := (Els.up hE10 hW) k x hx
  obtain ⟨y, hy⟩ := getElem?_of_lt (xs := Lb) (i := k) oQ
  obtain ⟨By, oy, ay, hcy⟩ := (Els.up hE20 hW) k y hy
  refine CW.draws kQ kQ rfl rfl ?_
  refine HW.pp (.move (.t rfl)) ?_
  refine HW.pp (.move (.t rfl)) ?_
  refine HW.pp (.indexAddr' underlying51 sizeOf64 (j := k) (.t rfl) (.t rfl) oQ ax) ?_
  refine HW.pp (.fA 0 underlying64 rfl sizeOf30 rfl) ?_
  refine HW.pp (.ld isAgg30 rfl (hcx.nth (j := 0) rfl)) ?_
  refine HW.pp (.move (.t rfl)) ?_
  refine HW.pp (.move (.t rfl)) ?_
  refine HW.pp (.indexAddr' underlying51 sizeOf64 (j := k) (.t rfl) (.t rfl) oQ ay) ?_
  refine HW.pp (.fA 0 underlying64 rfl sizeOf30 rfl) ?_
  refine HW.pp (.ld isAgg30 rfl (hcy.nth (j := 0) rfl)) ?_
  refine HW.c (fun a w _ ha => enter_call0 (.cons (.t rfl) (.cons (.t rfl) .nil)) (en21) a ha) rfl rfl (fun w hu => sameInts_any _ _ x.l y.l w (Sl.up (Sl.up (hw1 x (List.mem_of_getElem? hx)) hW) hu) (Sl.up (Sl.up (hw2 y (List.mem_of_getElem? hy)) hW) hu) (hl1 x (List.mem_of_getElem? hx)) (hl2 y (List.mem_of_getElem? hy))) ?_
  refine HW.pp (.assign (.t rfl)) ?_
  refine HW.nil ?_
  intro w2 uw2
  have zw2 := uw2.size
  replace hW := hW.up uw2
  refine KW.then (CW.S (LW.M rfl ?_))
  refine LW.pp (.not (.t rfl)) ?_
  refine LW.T ?_
  refine CW.cond (.t rfl) (fun h30 => ?_) (fun h30 => ?_)
  ·replace h30 := dQ h30
   have hne : ¬ x.l = y.l := by simpa using h30
   have hr : decide (La.map (·.l) = Lb.map (·.l)) = false := decide_eq_false (map_ne_of_at (f := TP.l) (g := TP.l) hx hy hne)
   refine CW.S (LW.C (LW.T (CW.ret (KW.block_ret (KW.then_ret (KW.then_ret (KW.block_ret (KW.then_ret ?_))))))))
   refine KW.ret1 rfl rfl ⟨_, rfl, ?_⟩
   exact ⟨by rw [hr], hW⟩
  replace h30 := dQ h30
  have heq : x.l = y.l := by simpa using h30
  refine CW.skip (KW.inBlock (KW.then (CW.region (LW.M rfl ?_))))
  refine LW.pp (.inc (.t rfl) oQ) ?_
  refine LW.A rfl (LW.nil (KW.round ?_))
  exact ⟨k + 1, ⟨by omega, mapTake_step hT hx hy heq, hW⟩, ⟨rfl, rfl, rfl, trivial⟩, by first | omega | (dsimp only; omega)⟩
 replace h15 := dQ h15
 have hr : decide (La.map (·.l) = Lb.map (·.l)) = true := decide_eq_true (by have h5 := hT; rw [show k = La.length by omega, List.take_length, hlen, List.take_length] at h5; exact h5)
 refine CW.exit (KW.then_exit (KW.then_exit (KW.block_hit (KW.then (CW.S (LW.C (LW.T (CW.ret ?_))))))))
 refine KW.ret1 rfl rfl ⟨_, rfl, ?_⟩
 exact ⟨by rw [hr], hW⟩
end Go.Proofs.YtmimclgihlhaeaaGreat
end
section
namespace Go.Wx
def fctP (k : Nat) (y : I5) : Fact := { zeroF with Kind := 1, Version := 1, ID := wI (1 + (k : Int)), Wafer := wI (1 + pickI y.b 8), Tool := 2, Chamber := pickI y.e 2, Recipe := 1, Revision := 1, Time := pickI y.c 200, Until := wI (pickI y.c 200 + pickI y.d 20) }
def fctG (k : Nat) (y : I5) : Fact := { zeroF with Kind := 11, Version := 1, ID := wI (1 + (k : Int)), Tool := 2, Chamber := pickI y.e 2, Time := pickI y.c 200, Until := wI (pickI y.c 200 + pickI y.d 9) }
def fctS (k : Nat) (y : I5) : Fact := { zeroF with Kind := 3, Version := 1, ID := wI (1 + (k : Int)), Wafer := wI (1 + pickI y.b 7), Time := pickI y.c 200 }
def fctL (y : I5) : Fact := { zeroF with Kind := 4, Version := 1, Wafer := wI (1 + pickI y.b 8), Lot := wI (1 + pickI y.d 4), Product := 1, Time := wI ((pickI y.c 200).tdiv 4) }
def fct (k : Nat) (y : I5) : Fact := if pickI y.a 10 = 0 then fctG k y else if pickI y.a 10 = 1 then { fctS k y with Other := wI ((fctS k y).Wafer + 1) } else if pickI y.a 10 = 2 ∨ pickI y.a 10 = 3 then fctL y else fctP k y
theorem fct_g {k : Nat} {y : I5} (h : pickI y.a 10 = 0) : fct k y = fctG k y := if_pos h
theorem fct_s {k : Nat} {y : I5} (h : pickI y.a 10 = 1) : fct k y = { fctS k y with Other := wI ((fctS k y).Wafer + 1) } := by unfold fct; rw [if_neg oQ, if_pos h]
theorem fct_l {k : Nat} {y : I5} (h : pickI y.a 10 = 2 ∨ pickI y.a 10 = 3) : fct k y = fctL y := by unfold fct; rw [if_neg oQ, if_neg oQ, if_pos h]
theorem fct_p {k : Nat} {y : I5} (h0 : ¬ pickI y.a 10 = 0) (h1 : ¬ pickI y.a 10 = 1) (h2 : ¬ pickI y.a 10 = 2) (h3 : ¬ pickI y.a 10 = 3) : fct k y = fctP k y := by unfold fct; rw [if_neg h0, if_neg h1, if_neg (by omega)]
def fcts (xs : List I5) : List Fact := (xs.take 30).mapIdx fct
theorem fcts_len (xs : List I5) : (fcts xs).length ≤ 30 := by unfold fcts; rw [List.length_mapIdx, List.length_take]; omega
theorem fcts_step {xs : List I5} {k : Nat} {y : I5} (hy : xs[k]? = some y) (hk : k < 30) : fcts (xs.take (k + 1)) = fcts (xs.take k) ++ [fct k y] := by
 have hl := (List.getElem?_eq_some_iff.1 hy).1
 unfold fcts
 rw [List.take_take, List.take_take, Nat.min_eq_right oQ, Nat.min_eq_right oQ, List.take_add_one, hy, Option.toList_some, List.mapIdx_append, List.length_take, Nat.min_eq_left (by omega)]
 simp
theorem fcts_end {xs : List I5} {k : Nat} (h : ¬ (k < xs.length ∧ k < 30)) : fcts (xs.take k) = fcts xs := by
 unfold fcts
 rw [List.take_take]
 congr 1
 by_cases h1 : k < 30
 · rw [Nat.min_eq_right oQ, List.take_of_length_le oQ, List.take_of_length_le (by omega)]
 rw [Nat.min_eq_left (by omega)]
theorem verd_yes {La : List VP} {k : Nat} {x : VP} {wf : Int} (hx : La[k]? = some x) (h : decide (x.vd.w = wf) = true) (hn : ∀ y ∈ La.take k, decide (y.vd.w = wf) = false) : x.vd = verdF (La.map (·.vd)) wf := by
 unfold verdF
 rw [find_first (p := fun v : Vd => decide (v.w = wf)) (k := k) (x := x.vd) (by rw [List.getElem?_map, hx]; rfl) h fun v hv => by
   rw [← List.map_take] at hv
   obtain ⟨p, hp, rfl⟩ := List.mem_map.1 hv
   exact hn p hp]
 rfl
theorem verd_no {La : List VP} {wf : Int} (hn : ∀ y ∈ La, decide (y.vd.w = wf) = false) : verdF (La.map (·.vd)) wf = noVd := by
 unfold verdF
 rw [List.find?_eq_none.2 fun v hv => by
   obtain ⟨p, hp, rfl⟩ := List.mem_map.1 hv
   rw [hn p hp]; exact Bool.false_ne_true]
 rfl
end Go.Wx
namespace Go.Proofs.YtmimclgihlhaeaaGreat
open Go.Proofs.Tryz
open Go.Wx Go.RowKit
theorem span22_any (y : I5) (w : World) : Ret Tryz.prog 15 #[.agg y.cells] w fun r w' => r = .agg (spanX y).cells ∧ Up w w' := by
 obtain ⟨w0, rfl⟩ : ∃ w0, w0 = w := ⟨_, rfl⟩
 have hS := Sep.start no w0
 refine cS (n := 22) (m := 9) func15 rfl rfl rfl ?_
 refine CW.S ?_
 refine LW.rr (.boxA (.t rfl)) rfl ?_
 rintro _ w1 ⟨B1, rfl, NB1⟩
 have eB1 := NB1.at_
 have zB1 := NB1.size
 replace hS := hS.addB NB1
 change Wx.Sep _ _ _ [_] at hS
 refine LW.rr (.allocA zeroValue25) rfl ?_
 rintro _ w2 ⟨B2, rfl, NB2⟩
 have eB2 := NB2.at_
 have zB2 := NB2.size
 replace hS := hS.addB NB2
 change Wx.Sep _ _ _ [_, _] at hS
 refine LW.S ?_
 refine CW.free 11 [.eq (.pointer (some ⟨B1, 0, none⟩)), .eq (vi (y.a)), .eq (vi (pickI y.a 2)), .eq (.pointer (some ⟨B1, 1, none⟩)), .eq (vi (y.b)), .eq (vi (pickI y.b 200)), .eq (.pointer (some ⟨B1, 3, none⟩)), .eq (vi (y.d)), .eq (vi (pickI y.d 12)), .eq (.agg (Exc.mk 2 (pickI y.a 2) (pickI y.b 200) 0 (pickI y.d 12)).cells), .pred fun v W => ∃ B, v = .pointer (some ⟨B, 0, none⟩) ∧ w2.drew.heap.size ≤ B ∧ Blk W B (Exc.mk 0 0 0 0 0).cells 25] [3, 13] kQ rfl kQ kQ kQ kQ kQ kQ kQ ⟨PhU.eq _, PhU.eq _, PhU.eq _, PhU.eq _, PhU.eq _, PhU.eq _, PhU.eq _, PhU.eq _, PhU.eq _, PhU.eq _, PhU.pred fun _ _ _ h u => let ⟨B, e, hz, hb⟩ := h; ⟨B, e, hz, hb.up u⟩, trivial⟩ ?_ ?_
 ·intro W hU0
  have hU := (Up.drew w2).trans hU0
  have zU0 := hU0.size
  refine aC ⟨rfl, TU.p (.indexArr (j := 0) underlying26 sizeOf3 (.t rfl) (.const _) cQ) rfl⟩ ?_
  refine aC ⟨rfl, TU.p (.ld isAgg3 rfl (((hS.blk 0 rfl).up hU).celln rfl)) rfl⟩ ?_
  refine aC ⟨rfl, TU.c (eC (.cons (.t rfl) (.cons (.const _) .nil)) (en27)) (pick22_any _ _ _ cQ) sQ⟩ ?_
  refine aC ⟨rfl, TU.p (.indexArr (j := 1) underlying26 sizeOf3 (.t rfl) (.const _) cQ) rfl⟩ ?_
  refine aC ⟨rfl, TU.p (.ld isAgg3 rfl (((hS.blk 0 rfl).up hU).celln rfl)) rfl⟩ ?_
  refine aC ⟨rfl, TU.c (eC (.cons (.t rfl) (.cons (.const _) .nil)) (en27)) (pick22_any _ _ _ cQ) sQ⟩ ?_
  refine aC ⟨rfl, TU.p (.indexArr (j := 3) underlying26 sizeOf3 (.t rfl) (.const _) cQ) rfl⟩ ?_
  refine aC ⟨rfl, TU.p (.ld isAgg3 rfl (((hS.blk 0 rfl).up hU).celln rfl)) rfl⟩ ?_
  refine aC ⟨rfl, TU.c (eC (.cons (.t rfl) (.cons (.const _) .nil)) (en27)) (pick22_any _ _ _ cQ) sQ⟩ ?_
  refine aC ⟨rfl, TU.p (.build (cs := (Exc.mk 2 (pickI y.a 2) (pickI y.b 200) 0 (pickI y.d 12)).cells) underlying25 zeroValue25 Tryz.places25 (.cons (.const _) (.cons (.t rfl) (.cons (.t rfl) (.cons (.t rfl) .nil)))) rfl) rfl⟩ ?_
  refine aC ⟨rfl, TU.r (REv.allocA zeroValue25) (fun v W' h => let ⟨B, e, N⟩ := h; ⟨N.up, B, e, by rw [N.at_]; exact zU0, N.blk⟩)⟩ ?_
  exact allL.nil
 intro w3 g hU0 hg
 have hU := (Up.drew w2).trans hU0
 have zw3 := hU.size
 obtain ⟨B3, e6, z6, hB3⟩ : ∃ B, g 3 = .pointer (some ⟨B, 0, none⟩) ∧ w2.drew.heap.size ≤ B ∧ Blk w3 B (Exc.mk 0 0 0 0 0).cells 25 := hg 10 _ 3 cQ rfl rfl
 have e45 : g 13 = .agg (Exc.mk 2 (pickI y.a 2) (pickI y.b 200) 0 (pickI y.d 12)).cells := hg 9 _ 13 cQ rfl rfl
 change LW _ _ _ _ _ _ _ _ ((3, .eq (g 3)) :: (13, .eq (g 13)) :: _) _
 rw [e6, e45]
 clear hg e6 e45
 replace hS := (hS.up (Up.drew _)).add hU0 (A' := aBlk B3 (Exc.mk 0 0 0 0 0).cells 25) hB3 (fun i (e : i = B3) => by omega)
 change Wx.Sep no w0 _ [_, _, _] at hS
 refine LW.E (.storeA sizeOf25 rfl (.t rfl) (.t rfl) (Exc.one _) (hS.blk 2 rfl) rfl) ?_
 intro w4 Nw4
 have zw4 := Nw4.size
 replace hS := hS.putB 2 rfl (show Set_ _ w4 _ ((Exc.mk 2 (pickI y.a 2) (pickI y.b 200) 0 (pickI y.d 12)).cells) _ from Nw4)
 change Wx.Sep _ _ _ [_, _, _] at hS
 refine LW.S ?_
 refine CW.draws_then 6 kQ kQ kQ kQ kQ rfl rfl ?_
 refine HW.pp (.fA 2 underlying25 rfl sizeOf3 rfl) ?_
 refine HW.pp (.ld isAgg3 rfl ((hS.blk 2 rfl).celln rfl)) ?_
 refine HW.pp (.indexArr (j := 2) underlying26 sizeOf3 (.t rfl) (.const _) cQ) ?_
 refine HW.pp (.ld isAgg3 rfl ((hS.blk 0 rfl).celln rfl)) ?_
 refine HW.c (fun a w _ ha => enter_call0 (.cons (.t rfl) (.cons (.const _) .nil)) (en27) a ha) rfl rfl (fun w hu => pick22_any _ _ w cQ) ?_
 refine HW.pp (.add_w (.t rfl) (.t rfl)) ?_
 refine HW.nil ?_
 intro w5 uw5
 have zw5 := uw5.size
 replace hS := hS.up uw5
 refine LW.pp (.fA 3 underlying25 rfl sizeOf3 rfl) ?_
 refine LW.E (.store sizeOf3 (.t rfl) (.t rfl) rfl (hS.blk 2 rfl) (Nat.le_of_ble_eq_true rfl)) ?_
 intro w6 Nw6
 have zw6 := Nw6.size
 replace hS := hS.putB 2 rfl (show Set_ _ w6 _ ((spanX y).cells) _ from Nw6)
 change Wx.Sep _ _ _ [_, _, _] at hS
 refine LW.S (CW.region ?_)
 refine LW.pp (.la isAgg25 sizeOf25 rfl ((hS.blk 2 rfl).agg)) ?_
 refine LW.E (.storeA sizeOf25 rfl (.t rfl) (.t rfl) (Exc.one _) (hS.blk 1 rfl) rfl) ?_
 intro w7 Nw7
 have zw7 := Nw7.size
 replace hS := hS.putB 1 rfl Nw7
 change Wx.Sep _ _ _ [_, _, _] at hS
 refine LW.T (CW.ret ?_)
 refine KW.retA rfl rfl isAgg25 sizeOf25 rfl ((hS.blk 1 rfl).agg) ⟨_, rfl, ?_⟩
 exact ⟨rfl, hS.upd⟩
theorem verdict22_any (ad : Option Addr) (cp : Nat) (La : List VP) (wf : Int) (w : World) (hE0 : Els w ad 3 VP.cells La) (hl : La.length ≤ 1000000000) : Ret Tryz.prog 29 #[.slice ad La.length cp, vi wf] w fun r w' => ((∃ p ∈ La, r = .agg p.cells ∧ p.vd = verdF (La.map (·.vd)) wf) ∨ (r = .agg (VP.mk noVd none 0).cells ∧ verdF (La.map (·.vd)) wf = noVd ∧ ∀ p ∈ La, ¬ p.vd.w = wf)) ∧ Up w w' := by
 obtain ⟨w0, rfl⟩ : ∃ w0, w0 = w := ⟨_, rfl⟩
 have hS := Sep.start no w0
 refine cS (n := 24) (m := 9) func29 rfl rfl rfl ?_
 refine CW.S ?_
 refine LW.rr (.allocA zeroValue32) rfl ?_
 rintro _ w1 ⟨B4, rfl, NB4⟩
 have eB4 := NB4.at_
 have zB4 := NB4.size
 replace hS := hS.addB NB4
 change Wx.Sep _ _ _ [_] at hS
 refine LW.S (CW.S (LW.C (LW.T (CW.block ?_))))
 refine CW.loopB (σ := Nat) (fun s w => (s ≤ La.length) ∧ (∀ y ∈ La.take s, decide (y.vd.w = wf) = false) ∧ (Wx.Sep no w0 w [aBlk B4 (VP.mk ⟨0, 0, []⟩ none 0).cells 32])) (fun s => [(5, .eq (vi (s : Int)))]) ([(0, .eq _), (1, .eq _), (4, .eq _)]) (fun s => La.length - s) 0 ?_ ⟨rfl, rfl, rfl, rfl, trivial⟩ ?_
 ·exact ⟨Nat.zero_le _, by simp, hS⟩
 rintro k w2 ⟨hk, hn, hS⟩
 refine CW.seq (CW.S (LW.M rfl (LW.M rfl ?_)))
 refine LW.pp (.lenS underlying27 (.t rfl)) ?_
 refine LW.pp (.lss (.t rfl) (.t rfl)) ?_
 refine LW.T ?_
 refine CW.cond (.t rfl) (fun h9 => ?_) (fun h9 => ?_)
 ·replace h9 := dQ h9
  refine CW.skip (KW.then (CW.seq (CW.block (CW.seq ?_))))
  obtain ⟨x, hx⟩ := getElem?_of_lt (xs := La) (i := k) oQ
  obtain ⟨Bx, ox, ax, hcx⟩ := (Els.up hE0 hS.upd) k x hx
  refine CW.region (LW.M rfl (LW.M rfl ?_))
  refine LW.pp (.indexAddr' underlying27 sizeOf32 (j := k) (.t rfl) (.t rfl) oQ ax) ?_
  refine LW.pp (.fA 0 underlying32 rfl sizeOf3 rfl) ?_
  refine LW.pp (.ld isAgg3 rfl (hcx.nth (j := 0) rfl)) ?_
  refine LW.M rfl ?_
  refine LW.pp (.eql (.t rfl) (.t rfl)) ?_
  refine LW.T ?_
  refine CW.cond (.t rfl) (fun h18 => ?_) (fun h18 => ?_)
  ·replace h18 := dQ h18
   have hxw : decide (x.vd.w = wf) = true := by simpa using h18
   refine CW.S (LW.M rfl (LW.M rfl ?_))
   refine LW.pp (.indexAddr' underlying27 sizeOf32 (j := k) (.t rfl) (.t rfl) oQ ax) ?_
   refine LW.pp (.la isAgg32 sizeOf32 rfl (hcx)) ?_
   refine LW.E (.storeA sizeOf32 rfl (.t rfl) (.t rfl) (VP.one _) (hS.blk 0 rfl) rfl) ?_
   intro w3 Nw3
   have zw3 := Nw3.size
   replace hS := hS.putB 0 rfl Nw3
   change Wx.Sep _ _ _ [_] at hS
   refine LW.T (CW.ret (KW.block_ret (KW.then_ret (KW.then_ret (KW.block_ret (KW.then_ret ?_))))))
   refine KW.retA rfl rfl isAgg32 sizeOf32 rfl ((hS.blk 0 rfl).agg) ⟨_, rfl, ?_⟩
   first | exact ⟨.inl ⟨x, List.mem_of_getElem? hx, rfl, verd_yes hx hxw hn⟩, hS.upd⟩ | (rw [show k = La.length by omega, List.take_length] at hn; exact ⟨.inr ⟨rfl, verd_no hn, fun p hp => of_decide_eq_false (hn p hp)⟩, hS.upd⟩)
  replace h18 := dQ h18
  have hxw : decide (x.vd.w = wf) = false := by simpa using h18
  refine CW.skip (KW.inBlock (KW.then (CW.region (LW.M rfl ?_))))
  refine LW.pp (.inc (.t rfl) oQ) ?_
  refine LW.A rfl (LW.nil (KW.round ?_))
  exact ⟨k + 1, ⟨by omega, noneX_take (p := fun y : VP => decide (y.vd.w = wf)) hx hn hxw, hS.take 1⟩, ⟨rfl, rfl, rfl, rfl, trivial⟩, by first | omega | (dsimp only; omega)⟩
 replace h9 := dQ h9
 refine CW.exit (KW.then_exit (KW.then_exit (KW.block_hit (KW.then (CW.S ?_)))))
 refine LW.pp (.build (cs := (VP.mk noVd none 0).cells) underlying32 zeroValue32 Tryz.places32 (.cons (.const _) .nil) (rfl)) ?_
 refine LW.E (.storeA sizeOf32 rfl (.t rfl) (.t rfl) (VP.one _) (hS.blk 0 rfl) rfl) ?_
 intro w4 Nw4
 have zw4 := Nw4.size
 replace hS := hS.putB 0 rfl Nw4
 change Wx.Sep _ _ _ [_] at hS
 refine LW.T (CW.ret ?_)
 refine KW.retA rfl rfl isAgg32 sizeOf32 rfl ((hS.blk 0 rfl).agg) ⟨_, rfl, ?_⟩
 first | exact ⟨.inl ⟨x, List.mem_of_getElem? hx, rfl, verd_yes hx hxw hn⟩, hS.upd⟩ | (rw [show k = La.length by omega, List.take_length] at hn; exact ⟨.inr ⟨rfl, verd_no hn, fun p hp => of_decide_eq_false (hn p hp)⟩, hS.upd⟩)
set_option maxHeartbeats 2000000 in
theorem facts22_any (ad : Option Addr) (cp : Nat) (xs : List I5) (w : World) (hE0 : Els w ad 5 I5.cells xs) : Ret Tryz.prog 14 #[.slice ad xs.length cp] w fun r w' => OwnS w' w.heap.size 36 19 Fact.cells r (fcts xs) ∧ Up w w' := by
 obtain ⟨w0, rfl⟩ : ∃ w0, w0 = w := ⟨_, rfl⟩
 have hS := Sep.start no w0
 refine cS (n := 91) (m := 9) func14 rfl rfl rfl ?_
 refine CW.S (LW.C (LW.S (CW.region (LW.C (LW.S (CW.seq ?_))))))
 replace hS := hS.add (Up.refl _) (A' := aOwn 36 19 Fact.cells (.slice none 0 0) ([] : List Fact)) (OwnS.nil _ _ _ _ _) (fun i h => by cases h)
 change Wx.Sep _ _ _ [_] at hS
 refine CW.region (LW.C (LW.T (CW.block ?_)))
 refine CW.loopB (σ := Nat × Go.Value) (fun s w => (s.1 ≤ xs.length ∧ s.1 ≤ 30) ∧ (Wx.Sep no w0 w [aOwn 36 19 Fact.cells s.2 (fcts (xs.take s.1))])) (fun s => [(4, .eq (vi (s.1 : Int))), (3, .eq (s.2))]) ([(0, .eq _), (2, .eq _)]) (fun s => xs.length - s.1) (0, .slice none 0 0) ?_ ⟨rfl, rfl, rfl, rfl, trivial⟩ ?_
 ·exact ⟨⟨Nat.zero_le _, Nat.zero_le _⟩, hS⟩
 rintro ⟨k, v⟩ w1 ⟨hk, hS⟩
 dsimp only at hk hS
 change CW _ _ _ _ _ _ _ ([(4, .eq (vi (k : Int))), (3, .eq (v))] ++ _) _
 refine CW.seq (CW.S (LW.M rfl (LW.M rfl ?_)))
 refine LW.pp (.lenS underlying22 (.t rfl)) ?_
 refine LW.pp (.lss (.t rfl) (.t rfl)) ?_
 refine LW.M rfl ?_
 refine LW.g rfl rfl rfl rfl rfl rfl rfl (fun hc => PEv.move (.t rfl)) ?_
 refine LW.g rfl rfl rfl rfl rfl rfl rfl (fun hc => PEv.lss vQ (.const _)) ?_
 refine LW.pp (.pick_and (.t rfl) (fun hp => (by first | exact .const _ | exact .tmp rfl | exact .cond rfl (by first | assumption | simp_all)))) ?_
 refine LW.T ?_
 refine CW.cond (.t rfl) (fun h15 => ?_) (fun h15 => ?_)
 ·replace h15 := dQ h15
  refine CW.skip (KW.then (CW.seq (CW.block (CW.seq ?_))))
  have hE := hE0.up hS.upd
  have hkl : k < xs.length ∧ k < 30 := by simp at h15; omega
  refine CW.region (LW.M rfl (LW.M rfl ?_))
  obtain ⟨y, hy⟩ := getElem?_of_lt (xs := xs) (i := k) oQ
  obtain ⟨By, oy, ay, hcy⟩ := hE _ y hy
  refine LW.pp (.indexAddr' underlying22 sizeOf26 (.t rfl) (.t rfl) oQ ay) ?_
  refine LW.pp (.la isAgg26 sizeOf26 rfl (hcy)) ?_
  refine LW.rr (.allocA zeroValue26) rfl ?_
  rintro _ w2 ⟨B5, rfl, MB5⟩
  refine LW.E (.storeA sizeOf26 rfl (.t rfl) (.t rfl) (I5.one _) MB5.blk rfl) ?_
  intro w3 LB5
  have NB5 := MB5.set LB5
  clear LB5 MB5
  have eB5 := NB5.at_
  have zB5 := NB5.size
  replace hcy := hcy.up NB5.up
  replace hS := hS.addB NB5
  change Wx.Sep _ _ _ [_, _] at hS
  refine LW.S (CW.region ?_)
  refine LW.pp (.indexArr (j := 2) underlying26 sizeOf3 (.t rfl) (.const _) cQ) ?_
  refine LW.pp (.ld isAgg3 rfl ((hS.blk 1 rfl).celln rfl)) ?_
  refine LW.K (eC (.cons (.t rfl) (.cons (.const _) .nil)) (en27)) rfl (pick22_any _ _ _ cQ) ?_
  rintro _ w4 ⟨rfl, uw4⟩
  have zw4 := uw4.size
  replace hS := hS.up uw4
  refine LW.A rfl (LW.S ?_)
  refine CW.free 17 [.eq (vi ((k : Int))), .eq (vi (wI (1 + (k : Int)))), .eq (.pointer (some ⟨B5, 1, none⟩)), .eq (vi (y.b)), .eq (vi (pickI y.b 8)), .eq (vi (wI (1 + pickI y.b 8))), .eq (.pointer (some ⟨B5, 4, none⟩)), .eq (vi (y.e)), .eq (vi (pickI y.e 2)), .eq (vi (pickI y.c 200)), .eq (vi (pickI y.c 200)), .eq (.pointer (some ⟨B5, 3, none⟩)), .eq (vi (y.d)), .eq (vi (pickI y.d 20)), .eq (vi (wI (pickI y.c 200 + pickI y.d 20))), .eq (.agg (fctP k y).cells), .pred fun v W => ∃ B, v = .pointer (some ⟨B, 0, none⟩) ∧ w4.drew.heap.size ≤ B ∧ Blk W B zeroF.cells 36] [7, 40] kQ rfl kQ kQ kQ kQ kQ kQ kQ ⟨PhU.eq _, PhU.eq _, PhU.eq _, PhU.eq _, PhU.eq _, PhU.eq _, PhU.eq _, PhU.eq _, PhU.eq _, PhU.eq _, PhU.eq _, PhU.eq _, PhU.eq _, PhU.eq _, PhU.eq _, PhU.eq _, PhU.pred fun _ _ _ h u => let ⟨B, e, hz, hb⟩ := h; ⟨B, e, hz, hb.up u⟩, trivial⟩ ?_ ?_
  ·intro W hU0
   have hU := (Up.drew w4).trans hU0
   have zU0 := hU0.size
   refine aC ⟨rfl, TU.p (.move (.t rfl)) rfl⟩ ?_
   refine aC ⟨rfl, TU.p (.add_w (.const _) (.t rfl)) rfl⟩ ?_
   refine aC ⟨rfl, TU.p (.indexArr (j := 1) underlying26 sizeOf3 (.t rfl) (.const _) cQ) rfl⟩ ?_
   refine aC ⟨rfl, TU.p (.ld isAgg3 rfl (((hS.blk 1 rfl).up hU).celln rfl)) rfl⟩ ?_
   refine aC ⟨rfl, TU.c (eC (.cons (.t rfl) (.cons (.const _) .nil)) (en27)) (pick22_any _ _ _ cQ) sQ⟩ ?_
   refine aC ⟨rfl, TU.p (.add_w (.const _) (.t rfl)) rfl⟩ ?_
   refine aC ⟨rfl, TU.p (.indexArr (j := 4) underlying26 sizeOf3 (.t rfl) (.const _) cQ) rfl⟩ ?_
   refine aC ⟨rfl, TU.p (.ld isAgg3 rfl (((hS.blk 1 rfl).up hU).celln rfl)) rfl⟩ ?_
   refine aC ⟨rfl, TU.c (eC (.cons (.t rfl) (.cons (.const _) .nil)) (en27)) (pick22_any _ _ _ cQ) sQ⟩ ?_
   refine aC ⟨rfl, TU.p (.move (.t rfl)) rfl⟩ ?_
   refine aC ⟨rfl, TU.p (.move (.t rfl)) rfl⟩ ?_
   refine aC ⟨rfl, TU.p (.indexArr (j := 3) underlying26 sizeOf3 (.t rfl) (.const _) cQ) rfl⟩ ?_
   refine aC ⟨rfl, TU.p (.ld isAgg3 rfl (((hS.blk 1 rfl).up hU).celln rfl)) rfl⟩ ?_
   refine aC ⟨rfl, TU.c (eC (.cons (.t rfl) (.cons (.const _) .nil)) (en27)) (pick22_any _ _ _ cQ) sQ⟩ ?_
   refine aC ⟨rfl, TU.p (.add_w (.t rfl) (.t rfl)) rfl⟩ ?_
   refine aC ⟨rfl, TU.p (.build (cs := (fctP k y).cells) underlying36 zeroValue36 Tryz.places36 (.cons (.const _) (.cons (.const _) (.cons (.t rfl) (.cons (.t rfl) (.cons (.const _) (.cons (.t rfl) (.cons (.const _) (.cons (.const _) (.cons (.t rfl) (.cons (.t rfl) .nil)))))))))) kQ) rfl⟩ ?_
   refine aC ⟨rfl, TU.r (REv.allocA zeroValue36) (fun v W' h => let ⟨B, e, N⟩ := h; ⟨N.up, B, e, by rw [N.at_]; exact zU0, N.blk⟩)⟩ ?_
   exact allL.nil
  intro w5 g hU0 hg
  have hU := (Up.drew w4).trans hU0
  have zw5 := hU.size
  obtain ⟨B7, e6, z6, hB7⟩ : ∃ B, g 7 = .pointer (some ⟨B, 0, none⟩) ∧ w4.drew.heap.size ≤ B ∧ Blk w5 B zeroF.cells 36 := hg 16 _ 7 cQ rfl rfl
  have e45 : g 40 = .agg (fctP k y).cells := hg 15 _ 40 cQ rfl rfl
  change LW _ _ _ _ _ _ _ _ ((7, .eq (g 7)) :: (40, .eq (g 40)) :: _) _
  rw [e6, e45]
  clear hg e6 e45
  replace hS := (hS.up (Up.drew _)).add hU0 (A' := aBlk B7 zeroF.cells 36) hB7 (fun i (e : i = B7) => by omega)
  change Wx.Sep no w0 _ [_, _, _] at hS
  refine LW.E (.storeA sizeOf36 rfl (.t rfl) (.t rfl) (Fact.one _) (hS.blk 2 rfl) rfl) ?_
  intro w6 Nw6
  have zw6 := Nw6.size
  replace hS := hS.putB 2 rfl (show Set_ _ w6 _ ((fctP k y).cells) _ from Nw6)
  change Wx.Sep _ _ _ [_, _, _] at hS
  refine LW.S (CW.S ?_)
  refine LW.pp (.indexArr (j := 0) underlying26 sizeOf3 (.t rfl) (.const _) cQ) ?_
  refine LW.pp (.ld isAgg3 rfl ((hS.blk 1 rfl).celln rfl)) ?_
  refine LW.K (eC (.cons (.t rfl) (.cons (.const _) .nil)) (en27)) rfl (pick22_any _ _ _ cQ) ?_
  rintro _ w7 ⟨rfl, uw7⟩
  have zw7 := uw7.size
  replace hS := hS.up uw7
  refine LW.T (CW.block (CW.S ?_))
  refine LW.pp (.eql (.t rfl) (.const _)) ?_
  refine LW.A rfl (LW.T ?_)
  refine CW.cond (.t rfl) (fun h44 => ?_) (fun h44 => ?_)
  ·replace h44 := dQ h44
   refine CW.draws_then 12 kQ kQ kQ kQ kQ rfl rfl ?_
   refine HW.pp (.move (.t rfl)) ?_
   refine HW.pp (.add_w (.const _) (.t rfl)) ?_
   refine HW.pp (.indexArr (j := 4) underlying26 sizeOf3 (.t rfl) (.const _) cQ) ?_
   refine HW.pp (.ld isAgg3 rfl ((hS.blk 1 rfl).celln rfl)) ?_
   refine HW.c (fun a w _ ha => enter_call0 (.cons (.t rfl) (.cons (.const _) .nil)) (en27) a ha) rfl rfl (fun w hu => pick22_any _ _ w cQ) ?_
   refine HW.pp (.move (.t rfl)) ?_
   refine HW.pp (.move (.t rfl)) ?_
   refine HW.pp (.indexArr (j := 3) underlying26 sizeOf3 (.t rfl) (.const _) cQ) ?_
   refine HW.pp (.ld isAgg3 rfl ((hS.blk 1 rfl).celln rfl)) ?_
   refine HW.c (fun a w _ ha => enter_call0 (.cons (.t rfl) (.cons (.const _) .nil)) (en27) a ha) rfl rfl (fun w hu => pick22_any _ _ w cQ) ?_
   refine HW.pp (.add_w (.t rfl) (.t rfl)) ?_
   refine HW.pp (.build (cs := (fctG k y).cells) underlying36 zeroValue36 Tryz.places36 (.cons (.const _) (.cons (.const _) (.cons (.t rfl) (.cons (.const _) (.cons (.t rfl) (.cons (.t rfl) (.cons (.t rfl) .nil))))))) kQ) ?_
   refine HW.nil ?_
   intro w8 uw8
   have zw8 := uw8.size
   replace hS := hS.up uw8
   refine LW.E (.storeA sizeOf36 rfl (.t rfl) (.t rfl) (Fact.one _) (hS.blk 2 rfl) rfl) ?_
   intro w9 Nw9
   have zw9 := Nw9.size
   replace hS := hS.putB 2 rfl (show Set_ _ w9 _ ((fctG k y).cells) _ from Nw9)
   change Wx.Sep _ _ _ [_, _, _] at hS
   refine LW.nil (KW.inBlock (KW.then ?_))
   first | rw [← fct_g (by omega)] at hS | rw [← fct_s (by omega)] at hS | rw [← fct_l (by omega)] at hS | rw [← fct_p oQ oQ oQ (by omega)] at hS
   have hsl := fcts_len (xs.take k)
   refine CW.region (LW.M rfl ?_)
   refine LW.pp (.la isAgg36 sizeOf36 rfl ((hS.blk 2 rfl).agg)) ?_
   refine LW.rr (.buildSlice (xs := [fct k y]) (enc := Fact.cells) (mk := fun f : Fact => .agg f.cells) underlying23 sizeOf36 zeroValue36 rfl cQ (fun _ => rfl) (fun _ => rfl) (.cons (.t rfl) .nil) rfl) rfl ?_
   rintro _ w10 ⟨B88, cB88, rfl, NB88, yB88, xB88⟩
   have eB88 := NB88.at_
   have zB88 := NB88.size
   replace hS := hS.up NB88.up
   have hE88 := xB88
   refine LW.rr (.appendF (enc := Fact.cells) (bytes := 160) (i := Tryz.t36) underlying23 kQ rfl rfl rfl rfl cQ (fun _ => rfl) Fact.one (.t rfl) (.t rfl) (hS.own 0 rfl) (Sl.of_els hE88) (by have := hsl; simp [maxLen]; omega) (by have := hsl; simp; omega)) rfl ?_
   intro v89 w11 Gw11
   have zw11 := Gw11.fr.size
   replace hS := hS.stp 0 rfl Gw11
   change Wx.Sep _ _ _ [_, _, _] at hS
   refine LW.A rfl (LW.nil (KW.inBlock (KW.then (CW.region (LW.M rfl ?_)))))
   refine LW.pp (.inc (.t rfl) oQ) ?_
   refine LW.A rfl (LW.nil (KW.round ?_))
   exact ⟨(k + 1, v89), ⟨⟨by show k + 1 ≤ _; omega, by show k + 1 ≤ _; omega⟩, by rw [fcts_step hy hkl.2]; exact hS.take 1⟩, ⟨rfl, rfl, rfl, rfl, trivial⟩, by show xs.length - (k + 1) < xs.length - k; omega⟩
  replace h44 := dQ h44
  refine CW.S ?_
  refine LW.pp (.eql (.t rfl) (.const _)) ?_
  refine LW.A rfl (LW.T ?_)
  refine CW.cond (.t rfl) (fun h58 => ?_) (fun h58 => ?_)
  ·replace h58 := dQ h58
   refine CW.S (LW.M rfl ?_)
   refine LW.pp (.add_w (.const _) (.t rfl)) ?_
   refine LW.pp (.indexArr (j := 1) underlying26 sizeOf3 (.t rfl) (.const _) cQ) ?_
   refine LW.pp (.ld isAgg3 rfl ((hS.blk 1 rfl).celln rfl)) ?_
   refine LW.K (eC (.cons (.t rfl) (.cons (.const _) .nil)) (en27)) rfl (pick22_any _ _ _ cQ) ?_
   rintro _ w12 ⟨rfl, uw12⟩
   have zw12 := uw12.size
   replace hS := hS.up uw12
   refine LW.pp (.add_w (.const _) (.t rfl)) ?_
   refine LW.M rfl ?_
   refine LW.pp (.build (cs := (fctS k y).cells) underlying36 zeroValue36 Tryz.places36 (.cons (.const _) (.cons (.const _) (.cons (.t rfl) (.cons (.t rfl) (.cons (.t rfl) .nil))))) kQ) ?_
   refine LW.E (.storeA sizeOf36 rfl (.t rfl) (.t rfl) (Fact.one _) (hS.blk 2 rfl) rfl) ?_
   intro w13 Nw13
   have zw13 := Nw13.size
   replace hS := hS.putB 2 rfl (show Set_ _ w13 _ ((fctS k y).cells) _ from Nw13)
   change Wx.Sep _ _ _ [_, _, _] at hS
   refine LW.T (CW.region ?_)
   refine LW.pp (.fA 7 underlying36 rfl sizeOf3 rfl) ?_
   refine LW.pp (.ld isAgg3 rfl ((hS.blk 2 rfl).celln rfl)) ?_
   refine LW.pp (.add_w (.t rfl) (.const _)) ?_
   refine LW.pp (.fA 8 underlying36 rfl sizeOf3 rfl) ?_
   refine LW.E (.store sizeOf3 (.t rfl) (.t rfl) rfl (hS.blk 2 rfl) (Nat.le_of_ble_eq_true rfl)) ?_
   intro w14 Nw14
   have zw14 := Nw14.size
   replace hS := hS.putB 2 rfl (show Set_ _ w14 _ (({ fctS k y with Other := wI ((fctS k y).Wafer + 1) } : Fact).cells) _ from Nw14)
   change Wx.Sep _ _ _ [_, _, _] at hS
   refine LW.nil (KW.inBlock (KW.then ?_))
   first | rw [← fct_g (by omega)] at hS | rw [← fct_s (by omega)] at hS | rw [← fct_l (by omega)] at hS | rw [← fct_p oQ oQ oQ (by omega)] at hS
   have hsl := fcts_len (xs.take k)
   refine CW.region (LW.M rfl ?_)
   refine LW.pp (.la isAgg36 sizeOf36 rfl ((hS.blk 2 rfl).agg)) ?_
   refine LW.rr (.buildSlice (xs := [fct k y]) (enc := Fact.cells) (mk := fun f : Fact => .agg f.cells) underlying23 sizeOf36 zeroValue36 rfl cQ (fun _ => rfl) (fun _ => rfl) (.cons (.t rfl) .nil) rfl) rfl ?_
   rintro _ w15 ⟨B88, cB88, rfl, NB88, yB88, xB88⟩
   have eB88 := NB88.at_
   have zB88 := NB88.size
   replace hS := hS.up NB88.up
   have hE88 := xB88
   refine LW.rr (.appendF (enc := Fact.cells) (bytes := 160) (i := Tryz.t36) underlying23 kQ rfl rfl rfl rfl cQ (fun _ => rfl) Fact.one (.t rfl) (.t rfl) (hS.own 0 rfl) (Sl.of_els hE88) (by have := hsl; simp [maxLen]; omega) (by have := hsl; simp; omega)) rfl ?_
   intro v89 w16 Gw16
   have zw16 := Gw16.fr.size
   replace hS := hS.stp 0 rfl Gw16
   change Wx.Sep _ _ _ [_, _, _] at hS
   refine LW.A rfl (LW.nil (KW.inBlock (KW.then (CW.region (LW.M rfl ?_)))))
   refine LW.pp (.inc (.t rfl) oQ) ?_
   refine LW.A rfl (LW.nil (KW.round ?_))
   exact ⟨(k + 1, v89), ⟨⟨by show k + 1 ≤ _; omega, by show k + 1 ≤ _; omega⟩, by rw [fcts_step hy hkl.2]; exact hS.take 1⟩, ⟨rfl, rfl, rfl, rfl, trivial⟩, by show xs.length - (k + 1) < xs.length - k; omega⟩
  replace h58 := dQ h58
  refine CW.seq (CW.S ?_)
  refine LW.pp (.eql (.t rfl) (.const _)) ?_
  refine LW.A rfl (LW.T ?_)
  refine CW.cond (.t rfl) (fun h72 => ?_) (fun h72 => ?_)
  ·replace h72 := dQ h72
   refine CW.skip (KW.then ?_)
   refine CW.cond (.t rfl) (fun h72 => ?_) (fun h72 => ?_)
   ·replace h72 := dQ h72
    refine CW.draws_then 11 kQ kQ kQ kQ kQ rfl rfl ?_
    refine HW.pp (.indexArr (j := 1) underlying26 sizeOf3 (.t rfl) (.const _) cQ) ?_
    refine HW.pp (.ld isAgg3 rfl ((hS.blk 1 rfl).celln rfl)) ?_
    refine HW.c (fun a w _ ha => enter_call0 (.cons (.t rfl) (.cons (.const _) .nil)) (en27) a ha) rfl rfl (fun w hu => pick22_any _ _ w cQ) ?_
    refine HW.pp (.add_w (.const _) (.t rfl)) ?_
    refine HW.pp (.indexArr (j := 3) underlying26 sizeOf3 (.t rfl) (.const _) cQ) ?_
    refine HW.pp (.ld isAgg3 rfl ((hS.blk 1 rfl).celln rfl)) ?_
    refine HW.c (fun a w _ ha => enter_call0 (.cons (.t rfl) (.cons (.const _) .nil)) (en27) a ha) rfl rfl (fun w hu => pick22_any _ _ w cQ) ?_
    refine HW.pp (.add_w (.const _) (.t rfl)) ?_
    refine HW.pp (.move (.t rfl)) ?_
    refine HW.pp (.quo (.t rfl) (.const _) cQ) ?_
    refine HW.pp (.build (cs := (fctL y).cells) underlying36 zeroValue36 Tryz.places36 (.cons (.const _) (.cons (.const _) (.cons (.t rfl) (.cons (.t rfl) (.cons (.const _) (.cons (.t rfl) .nil)))))) kQ) ?_
    refine HW.nil ?_
    intro w17 uw17
    have zw17 := uw17.size
    replace hS := hS.up uw17
    refine LW.E (.storeA sizeOf36 rfl (.t rfl) (.t rfl) (Fact.one _) (hS.blk 2 rfl) rfl) ?_
    intro w18 Nw18
    have zw18 := Nw18.size
    replace hS := hS.putB 2 rfl (show Set_ _ w18 _ ((fctL y).cells) _ from Nw18)
    change Wx.Sep _ _ _ [_, _, _] at hS
    refine LW.nil (KW.inBlock (KW.then ?_))
    first | rw [← fct_g (by omega)] at hS | rw [← fct_s (by omega)] at hS | rw [← fct_l (by omega)] at hS | rw [← fct_p oQ oQ oQ (by omega)] at hS
    have hsl := fcts_len (xs.take k)
    refine CW.region (LW.M rfl ?_)
    refine LW.pp (.la isAgg36 sizeOf36 rfl ((hS.blk 2 rfl).agg)) ?_
    refine LW.rr (.buildSlice (xs := [fct k y]) (enc := Fact.cells) (mk := fun f : Fact => .agg f.cells) underlying23 sizeOf36 zeroValue36 rfl cQ (fun _ => rfl) (fun _ => rfl) (.cons (.t rfl) .nil) rfl) rfl ?_
    rintro _ w19 ⟨B88, cB88, rfl, NB88, yB88, xB88⟩
    have eB88 := NB88.at_
    have zB88 := NB88.size
    replace hS := hS.up NB88.up
    have hE88 := xB88
    refine LW.rr (.appendF (enc := Fact.cells) (bytes := 160) (i := Tryz.t36) underlying23 kQ rfl rfl rfl rfl cQ (fun _ => rfl) Fact.one (.t rfl) (.t rfl) (hS.own 0 rfl) (Sl.of_els hE88) (by have := hsl; simp [maxLen]; omega) (by have := hsl; simp; omega)) rfl ?_
    intro v89 w20 Gw20
    have zw20 := Gw20.fr.size
    replace hS := hS.stp 0 rfl Gw20
    change Wx.Sep _ _ _ [_, _, _] at hS
    refine LW.A rfl (LW.nil (KW.inBlock (KW.then (CW.region (LW.M rfl ?_)))))
    refine LW.pp (.inc (.t rfl) oQ) ?_
    refine LW.A rfl (LW.nil (KW.round ?_))
    exact ⟨(k + 1, v89), ⟨⟨by show k + 1 ≤ _; omega, by show k + 1 ≤ _; omega⟩, by rw [fcts_step hy hkl.2]; exact hS.take 1⟩, ⟨rfl, rfl, rfl, rfl, trivial⟩, by show xs.length - (k + 1) < xs.length - k; omega⟩
   replace h72 := dQ h72
   refine CW.skip (KW.inBlock (KW.then ?_))
   first | rw [← fct_g (by omega)] at hS | rw [← fct_s (by omega)] at hS | rw [← fct_l (by omega)] at hS | rw [← fct_p oQ oQ oQ (by omega)] at hS
   have hsl := fcts_len (xs.take k)
   refine CW.region (LW.M rfl ?_)
   refine LW.pp (.la isAgg36 sizeOf36 rfl ((hS.blk 2 rfl).agg)) ?_
   refine LW.rr (.buildSlice (xs := [fct k y]) (enc := Fact.cells) (mk := fun f : Fact => .agg f.cells) underlying23 sizeOf36 zeroValue36 rfl cQ (fun _ => rfl) (fun _ => rfl) (.cons (.t rfl) .nil) rfl) rfl ?_
   rintro _ w21 ⟨B88, cB88, rfl, NB88, yB88, xB88⟩
   have eB88 := NB88.at_
   have zB88 := NB88.size
   replace hS := hS.up NB88.up
   have hE88 := xB88
   refine LW.rr (.appendF (enc := Fact.cells) (bytes := 160) (i := Tryz.t36) underlying23 kQ rfl rfl rfl rfl cQ (fun _ => rfl) Fact.one (.t rfl) (.t rfl) (hS.own 0 rfl) (Sl.of_els hE88) (by have := hsl; simp [maxLen]; omega) (by have := hsl; simp; omega)) rfl ?_
   intro v89 w22 Gw22
   have zw22 := Gw22.fr.size
   replace hS := hS.stp 0 rfl Gw22
   change Wx.Sep _ _ _ [_, _, _] at hS
   refine LW.A rfl (LW.nil (KW.inBlock (KW.then (CW.region (LW.M rfl ?_)))))
   refine LW.pp (.inc (.t rfl) oQ) ?_
   refine LW.A rfl (LW.nil (KW.round ?_))
   exact ⟨(k + 1, v89), ⟨⟨by show k + 1 ≤ _; omega, by show k + 1 ≤ _; omega⟩, by rw [fcts_step hy hkl.2]; exact hS.take 1⟩, ⟨rfl, rfl, rfl, rfl, trivial⟩, by show xs.length - (k + 1) < xs.length - k; omega⟩
  replace h72 := dQ h72
  refine CW.region ?_
  refine LW.pp (.eql (.t rfl) (.const _)) ?_
  refine LW.A rfl (LW.T ?_)
  refine CW.cond (.t rfl) (fun h72 => ?_) (fun h72 => ?_)
  ·replace h72 := dQ h72
   refine CW.draws_then 11 kQ kQ kQ kQ kQ rfl rfl ?_
   refine HW.pp (.indexArr (j := 1) underlying26 sizeOf3 (.t rfl) (.const _) cQ) ?_
   refine HW.pp (.ld isAgg3 rfl ((hS.blk 1 rfl).celln rfl)) ?_
   refine HW.c (fun a w _ ha => enter_call0 (.cons (.t rfl) (.cons (.const _) .nil)) (en27) a ha) rfl rfl (fun w hu => pick22_any _ _ w cQ) ?_
   refine HW.pp (.add_w (.const _) (.t rfl)) ?_
   refine HW.pp (.indexArr (j := 3) underlying26 sizeOf3 (.t rfl) (.const _) cQ) ?_
   refine HW.pp (.ld isAgg3 rfl ((hS.blk 1 rfl).celln rfl)) ?_
   refine HW.c (fun a w _ ha => enter_call0 (.cons (.t rfl) (.cons (.const _) .nil)) (en27) a ha) rfl rfl (fun w hu => pick22_any _ _ w cQ) ?_
   refine HW.pp (.add_w (.const _) (.t rfl)) ?_
   refine HW.pp (.move (.t rfl)) ?_
   refine HW.pp (.quo (.t rfl) (.const _) cQ) ?_
   refine HW.pp (.build (cs := (fctL y).cells) underlying36 zeroValue36 Tryz.places36 (.cons (.const _) (.cons (.const _) (.cons (.t rfl) (.cons (.t rfl) (.cons (.const _) (.cons (.t rfl) .nil)))))) kQ) ?_
   refine HW.nil ?_
   intro w23 uw23
   have zw23 := uw23.size
   replace hS := hS.up uw23
   refine LW.E (.storeA sizeOf36 rfl (.t rfl) (.t rfl) (Fact.one _) (hS.blk 2 rfl) rfl) ?_
   intro w24 Nw24
   have zw24 := Nw24.size
   replace hS := hS.putB 2 rfl (show Set_ _ w24 _ ((fctL y).cells) _ from Nw24)
   change Wx.Sep _ _ _ [_, _, _] at hS
   refine LW.nil (KW.inBlock (KW.then ?_))
   first | rw [← fct_g (by omega)] at hS | rw [← fct_s (by omega)] at hS | rw [← fct_l (by omega)] at hS | rw [← fct_p oQ oQ oQ (by omega)] at hS
   have hsl := fcts_len (xs.take k)
   refine CW.region (LW.M rfl ?_)
   refine LW.pp (.la isAgg36 sizeOf36 rfl ((hS.blk 2 rfl).agg)) ?_
   refine LW.rr (.buildSlice (xs := [fct k y]) (enc := Fact.cells) (mk := fun f : Fact => .agg f.cells) underlying23 sizeOf36 zeroValue36 rfl cQ (fun _ => rfl) (fun _ => rfl) (.cons (.t rfl) .nil) rfl) rfl ?_
   rintro _ w25 ⟨B88, cB88, rfl, NB88, yB88, xB88⟩
   have eB88 := NB88.at_
   have zB88 := NB88.size
   replace hS := hS.up NB88.up
   have hE88 := xB88
   refine LW.rr (.appendF (enc := Fact.cells) (bytes := 160) (i := Tryz.t36) underlying23 kQ rfl rfl rfl rfl cQ (fun _ => rfl) Fact.one (.t rfl) (.t rfl) (hS.own 0 rfl) (Sl.of_els hE88) (by have := hsl; simp [maxLen]; omega) (by have := hsl; simp; omega)) rfl ?_
   intro v89 w26 Gw26
   have zw26 := Gw26.fr.size
   replace hS := hS.stp 0 rfl Gw26
   change Wx.Sep _ _ _ [_, _, _] at hS
   refine LW.A rfl (LW.nil (KW.inBlock (KW.then (CW.region (LW.M rfl ?_)))))
   refine LW.pp (.inc (.t rfl) oQ) ?_
   refine LW.A rfl (LW.nil (KW.round ?_))
   exact ⟨(k + 1, v89), ⟨⟨by show k + 1 ≤ _; omega, by show k + 1 ≤ _; omega⟩, by rw [fcts_step hy hkl.2]; exact hS.take 1⟩, ⟨rfl, rfl, rfl, rfl, trivial⟩, by show xs.length - (k + 1) < xs.length - k; omega⟩
  replace h72 := dQ h72
  refine CW.skip (KW.inBlock (KW.then ?_))
  first | rw [← fct_g (by omega)] at hS | rw [← fct_s (by omega)] at hS | rw [← fct_l (by omega)] at hS | rw [← fct_p oQ oQ oQ (by omega)] at hS
  have hsl := fcts_len (xs.take k)
  refine CW.region (LW.M rfl ?_)
  refine LW.pp (.la isAgg36 sizeOf36 rfl ((hS.blk 2 rfl).agg)) ?_
  refine LW.rr (.buildSlice (xs := [fct k y]) (enc := Fact.cells) (mk := fun f : Fact => .agg f.cells) underlying23 sizeOf36 zeroValue36 rfl cQ (fun _ => rfl) (fun _ => rfl) (.cons (.t rfl) .nil) rfl) rfl ?_
  rintro _ w27 ⟨B88, cB88, rfl, NB88, yB88, xB88⟩
  have eB88 := NB88.at_
  have zB88 := NB88.size
  replace hS := hS.up NB88.up
  have hE88 := xB88
  refine LW.rr (.appendF (enc := Fact.cells) (bytes := 160) (i := Tryz.t36) underlying23 kQ rfl rfl rfl rfl cQ (fun _ => rfl) Fact.one (.t rfl) (.t rfl) (hS.own 0 rfl) (Sl.of_els hE88) (by have := hsl; simp [maxLen]; omega) (by have := hsl; simp; omega)) rfl ?_
  intro v89 w28 Gw28
  have zw28 := Gw28.fr.size
  replace hS := hS.stp 0 rfl Gw28
  change Wx.Sep _ _ _ [_, _, _] at hS
  refine LW.A rfl (LW.nil (KW.inBlock (KW.then (CW.region (LW.M rfl ?_)))))
  refine LW.pp (.inc (.t rfl) oQ) ?_
  refine LW.A rfl (LW.nil (KW.round ?_))
  exact ⟨(k + 1, v89), ⟨⟨by show k + 1 ≤ _; omega, by show k + 1 ≤ _; omega⟩, by rw [fcts_step hy hkl.2]; exact hS.take 1⟩, ⟨rfl, rfl, rfl, rfl, trivial⟩, by show xs.length - (k + 1) < xs.length - k; omega⟩
 replace h15 := dQ h15
 refine CW.exit (KW.then_exit (KW.then_exit (KW.block_hit (KW.then (CW.S (LW.M rfl (LW.A rfl (LW.T (CW.ret ?_)))))))))
 refine KW.ret1 rfl rfl ⟨_, rfl, ?_⟩
 rw [fcts_end (by simp at h15; omega)] at hS
 exact ⟨OwnS.ofSep hS, hS.upd⟩
end Go.Proofs.YtmimclgihlhaeaaGreat
end
section
namespace Go.Wx
theorem tests_sl {w : World} {ad : Option Addr} {cp : Nat} {Ts : List TP} (h : Els w ad 1 TP.cells Ts) : Sl w (.slice ad (min Ts.length 16) cp) 1 TP.cells (Ts.take 16) := ⟨ad, cp, by rw [List.length_take, Nat.min_comm], h.take⟩
theorem tm_in {x : Fact} (h : tmOk x) : inI x.Time ∧ inI x.Until := by unfold tmOk at h; unfold inI; omega
theorem stp_mid {κ : Type} [DecidableEq κ] {Q : Mk.KT κ} {P : Program} {T : TypeId} {b : Nat} {kv : List (κ × Go.Value)} {k : κ} {st : Nat} {w w' : World} (h : Mk.MidM Q P T w' b kv k st) (K : Sto b w w') : Stp (Mk.aIMap Q b kv) (Mk.aMid Q P T b kv k st) w w' := ⟨K.fr, h, fun _ h => .inl h⟩
theorem stp_unmid {κ : Type} [DecidableEq κ] {Q : Mk.KT κ} {P : Program} {T : TypeId} {b : Nat} {kv kv' : List (κ × Go.Value)} {k : κ} {st : Nat} {w w' : World} (h : Mk.IMap Q w' b kv') (K : Sto b w w') : Stp (Mk.aMid Q P T b kv k st) (Mk.aIMap Q b kv') w w' := ⟨K.fr, h, fun _ h => .inl h⟩
section
variable {P : Program} {n : Nat} {ds : List Deferred} {l : Env} {w : World} {d : Option Tmp} {ty : TypeId} {ps : String} {af : Array Edge} {g : Option (Nat × Bool)}
theorem PEv.lookOr {T E : TypeId} {m x : Operand} {b : Nat} {k : Int} {z : Go.Value} {kv : List (Int × Go.Value)} {v0 : Go.Value} {K : TypeId} (hT : P.underlying T = some (.map K E)) (hI : P.underlying K = some (.int .i64)) (hz : ∀ w, (zeroValue E).run P w = .ok z w) (hm : Val l m (.map (some b))) (hx : Val l x (vi k)) (h : IMap w b kv) (h0 : (k ∉ kv.map (·.1) ∧ v0 = z) ∨ (k, v0) ∈ kv) : PEv P n ds l w ⟨d, .lookup T m x false, ty, ps, af, g⟩ v0 := by
 rcases h0 with ⟨h1, rfl⟩ | h1
 · exact PEv.lookupNo (ok := false) hT hI hz hm hx h h1
 exact PEv.lookupYes (ok := false) hT hI hm hx h h1
end
end Go.Wx
namespace Go.Proofs.YtmimclgihlhaeaaGreat
open Go.Proofs.Tryz
open Go.Wx Go.RowKit
set_option maxHeartbeats 2000000 in
set_option maxRecDepth 4000 in
theorem Tests_any (bc : Array Go.Value) (b : Base) (ad : Option Addr) (cp : Nat) (L : List VP) (w : World) (hC : BaseC w bc b) (hT : ∀ p ∈ b.Processes, tmOk p) (hE0 : Els w ad 3 VP.cells L) (hw : ∀ p ∈ L, Sl w p.uv 1 eInt p.vd.why) (hlw : ∀ p ∈ L, p.vd.why.length ≤ 100000) (hl : L.length ≤ 100000) (hlP : b.Processes.length ≤ 100000) (hlL : b.Lots.length ≤ 1000000000) : Ret Tryz.prog 25 #[.agg bc, .slice ad L.length cp] w fun r0 w' => ∃ Ts : List TP, Ts.map TP.l = testsF b (L.map (·.vd)) ∧ Sl w' r0 1 TP.cells Ts ∧ (∀ t ∈ Ts, Sl w' t.v 1 eInt t.l) ∧ Up w w' := by
 obtain ⟨w0, rfl⟩ : ∃ w0, w0 = w := ⟨_, rfl⟩
 have hS := Sep.start no w0
 refine cS (n := 117) (m := 9) func25 rfl rfl rfl ?_
 refine CW.S ?_
 refine LW.rr (.boxA (.t rfl)) rfl ?_
 rintro _ w1 ⟨B2, rfl, NB2⟩
 have eB2 := NB2.at_
 have zB2 := NB2.size
 replace hS := hS.addB NB2
 change Wx.Sep _ _ _ [_] at hS
 refine LW.C (LW.S (CW.region ?_))
 refine LW.rr (Mk.REv.makeMap (Q := arK)) rfl ?_
 rintro _ w2 ⟨B20, rfl, M_, u_, e_, z_⟩
 replace hS := hS.add u_ (A' := Mk.aIMap arK B20 []) M_ (fun i (e : i = B20) => by omega)
 change Wx.Sep _ _ _ [_, _] at hS
 clear M_ u_
 refine LW.r REv.makeMap rfl rfl rfl rfl ?_
 rintro _ w3 ⟨B21, rfl, M_, u_, e_, z_⟩
 replace hS := hS.add u_ (A' := aIMap B21 []) M_ (fun i (e : i = B21) => by omega)
 change Wx.Sep _ _ _ [_, _, _] at hS
 clear M_ u_
 refine LW.A rfl (LW.A rfl (LW.S (CW.S (LW.M rfl ?_))))
 refine LW.K (eC (.o rfl) (en45)) rfl (openL_any ad cp L _ (Els.up hE0 hS.upd) hl) ?_
 rintro v7 w4 ⟨hO7, uw4⟩
 have zw4 := uw4.size
 replace hS := hS.add uw4 (A' := aOwn 32 3 VP.cells v7 (L.filter openP)) (hO7.mono (Nat.zero_le _)) (fun i h => hO7.base i h)
 change Wx.Sep _ _ _ [_, _, _, _] at hS
 clear hO7
 obtain ⟨ad7, cp7, rfl, _⟩ := (hS.own 3 rfl).sl (fun _ => rfl)
 have hfl := List.length_filter_le openP L
 refine LW.pp (.lenS underlying27 (.t rfl)) ?_
 refine LW.pp (.move (.const _)) ?_
 refine LW.nil ?_
 replace hS := hS.add (Up.refl _) (A' := aBE 3 ([] : List (BE Ar2))) ⟨by simp, by simp⟩ (by rintro i ⟨A, hA, _⟩; simp at hA)
 change Wx.Sep _ _ _ [_, _, _, _, _] at hS
 replace hS := hS.add (Up.refl _) (A' := aBE 3 ([] : List (BE Int))) ⟨by simp, by simp⟩ (by rintro i ⟨A, hA, _⟩; simp at hA)
 change Wx.Sep _ _ _ [_, _, _, _, _, _] at hS
 refine KW.then (CW.block ?_)
 refine CW.loopB (σ := Nat × List (BE Ar2) × List (BE Int)) (fun s w => (s.1 ≤ (L.filter openP).length) ∧ (BeInv s.2.1 (batF b.Processes (((L.filter openP).take s.1).map (·.vd)))) ∧ (BeInv s.2.2 (lotFx b (((L.filter openP).take s.1).map (·.vd)))) ∧ (Wx.Sep no w0 w [aBlk B2 bc 38, Mk.aIMap arK B20 ((s.2.1).map BE.kv), aIMap B21 ((s.2.2).map BE.kv), aOwn 32 3 VP.cells (.slice ad7 (L.filter openP).length cp7) (L.filter openP), aBE 3 (s.2.1), aBE 3 (s.2.2)])) (fun s => [(25, .eq (vi (s.1 : Int)))]) ([(2, .eq _), (4, .eq _), (5, .eq _), (6, .eq _), (23, .eq _), (24, .eq _)]) (fun s => (L.filter openP).length - s.1) (0, [], []) ?_ ⟨rfl, rfl, rfl, rfl, rfl, rfl, rfl, trivial⟩ ?_
 ·exact ⟨Nat.zero_le _, BeInv.nil fun _ => rfl, BeInv.nil fun _ => rfl, hS⟩
 rintro ⟨i, D, E⟩ w5 ⟨hi, hDI, hEI, hS⟩
 dsimp only at hi hDI hEI hS
 change Wx.Sep _ _ _ [_, _, _, _, _, _] at hS
 change CW _ _ _ _ _ _ _ ([(25, .eq (vi (i : Int)))] ++ _) _
 refine CW.S ?_
 refine LW.pp (.lss (.t rfl) (.t rfl)) ?_
 refine LW.S ?_
 refine CW.cond (.t rfl) (fun h26 => ?_) (fun h26 => ?_)
 ·replace h26 := dQ h26
  refine CW.skip (KW.then (CW.seq (CW.block (CW.seq ?_))))
  obtain ⟨p, hp⟩ := getElem?_of_lt (xs := (L.filter openP)) (i := i) oQ
  have hpL : p ∈ L := (List.mem_filter.1 (List.mem_of_getElem? hp)).1
  obtain ⟨Bp, op_, ap, hcp⟩ := (OwnS.elsS (hS.own 3 rfl) (fun _ => rfl)) i p hp
  have hEw := sl_uv (hw p hpL)
  refine CW.region ?_
  refine LW.pp (.indexAddr' underlying27 sizeOf32 (j := i) (.t rfl) (.t rfl) oQ ap) ?_
  refine LW.pp (.la isAgg32 sizeOf32 rfl (hcp)) ?_
  refine LW.rr (.allocA zeroValue32) rfl ?_
  rintro _ w6 ⟨B8, rfl, MB8⟩
  refine LW.E (.storeA sizeOf32 rfl (.t rfl) (.t rfl) (VP.one _) MB8.blk rfl) ?_
  intro w7 LB8
  have NB8 := MB8.set LB8
  clear LB8 MB8
  have eB8 := NB8.at_
  have zB8 := NB8.size
  replace hS := hS.addB NB8
  change Wx.Sep _ _ _ [_, _, _, _, _, _, _] at hS
  refine LW.S (CW.region ?_)
  refine LW.rr (Mk.REv.makeMap (Q := arK)) rfl ?_
  rintro _ w8 ⟨B29, rfl, M_, u_, e_, z_⟩
  replace hS := hS.add u_ (A' := Mk.aIMap arK B29 []) M_ (fun i (e : i = B29) => by omega)
  change Wx.Sep _ _ _ [_, _, _, _, _, _, _, _] at hS
  clear M_ u_
  refine LW.A rfl (LW.S (CW.seq ?_))
  obtain ⟨v00, h00, hs00⟩ := hC.at_ (j := 0) cQ
  obtain ⟨adP, cpP, rfl, hEP⟩ := (show Sl w0 v00 19 Fact.cells b.Processes from hs00)
  refine CW.region ?_
  refine LW.pp (.fA 0 underlying38 rfl sizeOf23 rfl) ?_
  refine LW.pp (.ld isAgg23 rfl ((hS.blk 0 rfl).cell h00)) ?_
  refine LW.pp (.lenS underlying23 (.t rfl)) ?_
  refine LW.pp (.move (.const _)) ?_
  refine LW.T (CW.block ?_)
  refine CW.loopB (σ := Nat) (fun s w => (s ≤ b.Processes.length) ∧ (Wx.Sep no w0 w [aBlk B2 bc 38, Mk.aIMap arK B20 ((D).map BE.kv), aIMap B21 ((E).map BE.kv), aOwn 32 3 VP.cells (.slice ad7 (L.filter openP).length cp7) (L.filter openP), aBE 3 (D), aBE 3 (E), aBlk B8 p.cells 32, Mk.aIMap arK B29 ((ownL (b.Processes.take s) p.vd.why).map unitT)])) (fun s => [(33, .eq (vi (s : Int)))]) ([(2, .eq _), (4, .eq _), (5, .eq _), (6, .eq _), (8, .eq _), (9, .eq _), (23, .eq _), (24, .eq _), (25, .eq _), (31, .eq _), (32, .eq _)]) (fun s => b.Processes.length - s) 0 ?_ ⟨rfl, rfl, rfl, rfl, rfl, rfl, rfl, rfl, rfl, rfl, rfl, rfl, trivial⟩ ?_
  ·exact ⟨Nat.zero_le _, hS⟩
  rintro j w9 ⟨hj, hS⟩
  refine CW.S ?_
  refine LW.pp (.lss (.t rfl) (.t rfl)) ?_
  refine LW.S ?_
  refine CW.cond (.t rfl) (fun h34 => ?_) (fun h34 => ?_)
  ·replace h34 := dQ h34
   refine CW.skip (KW.then (CW.seq (CW.block (CW.seq ?_))))
   obtain ⟨y, hy⟩ := getElem?_of_lt (xs := b.Processes) (i := j) oQ
   obtain ⟨By, oy, ay, hcy⟩ := (Els.up hEP hS.upd) j y hy
   refine CW.region ?_
   refine LW.pp (.indexAddr' underlying23 sizeOf36 (j := j) (.t rfl) (.t rfl) oQ ay) ?_
   refine LW.pp (.la isAgg36 sizeOf36 rfl (hcy)) ?_
   refine LW.rr (.allocA zeroValue36) rfl ?_
   rintro _ w10 ⟨B11, rfl, MB11⟩
   refine LW.E (.storeA sizeOf36 rfl (.t rfl) (.t rfl) (Fact.one _) MB11.blk rfl) ?_
   intro w11 LB11
   have NB11 := MB11.set LB11
   clear LB11 MB11
   have eB11 := NB11.at_
   have zB11 := NB11.size
   replace hS := hS.addB NB11
   change Wx.Sep _ _ _ [_, _, _, _, _, _, _, _, _] at hS
   refine LW.S (CW.region ?_)
   refine LW.pp (.fA 2 underlying32 rfl sizeOf30 rfl) ?_
   refine LW.pp (.ld isAgg30 rfl (Blk.celln (v := p.uv) (hS.blk 6 rfl) rfl)) ?_
   refine LW.pp (.fA 1 underlying36 rfl sizeOf3 rfl) ?_
   refine LW.pp (.ld isAgg3 rfl ((hS.blk 8 rfl).celln rfl)) ?_
   refine LW.K (eC (.u rfl rfl) (en46)) rfl (containsI_any p.ad p.cp p.vd.why y.ID _ (Els.up hEw hS.upd) (hlw p hpL)) ?_
   rintro _ w12 ⟨rfl, uw12⟩
   have zw12 := uw12.size
   replace hS := hS.up uw12
   refine LW.T ?_
   refine CW.cond (.t rfl) (fun h41 => ?_) (fun h41 => ?_)
   ·replace h41 := dQ h41
    have hin : y.ID ∈ p.vd.why := by simpa using h41
    refine CW.region (LW.M rfl ?_)
    refine LW.pp (.fA 5 underlying36 rfl sizeOf3 rfl) ?_
    refine LW.pp (.ld isAgg3 rfl ((hS.blk 8 rfl).celln rfl)) ?_
    refine LW.pp (.fA 6 underlying36 rfl sizeOf3 rfl) ?_
    refine LW.pp (.ld isAgg3 rfl ((hS.blk 8 rfl).celln rfl)) ?_
    refine LW.pp (.buildArr (cs := (Ar2.mk y.Time y.Until).cells) underlying99 zeroValue99 sizeOf3 (.cons (.t rfl) (.cons (.t rfl) .nil)) rfl) ?_
    refine LW.E (Mk.SEv.mapUpdate (k := kOf y) underlying97 arLaw (show arK.ok (kOf y) from tm_in (hT y (List.mem_of_getElem? hy))) (.t rfl) (.t rfl) (.const _) (hS.get 7 rfl)) ?_
    rintro w13 ⟨Mu, Ku, zu⟩
    rw [mset_unitT] at Mu
    replace hS := hS.stp 7 rfl (Mk.stp_set Mu Ku)
    change Wx.Sep _ _ _ [_, _, _, _, _, _, _, _, _] at hS
    clear Mu Ku
    refine LW.nil (KW.inBlock (KW.then (CW.region ?_)))
    refine LW.pp (.inc (.t rfl) oQ) ?_
    refine LW.M rfl (LW.nil (KW.round ?_))
    exact ⟨j + 1, ⟨by omega, by first | (rw [ownL_yes hy hin]; exact hS.take 8) | (rw [ownL_no hy hin]; exact hS.take 8)⟩, ⟨rfl, rfl, rfl, rfl, rfl, rfl, rfl, rfl, rfl, rfl, rfl, rfl, trivial⟩, by first | omega | (dsimp only; omega)⟩
   replace h41 := dQ h41
   have hin : ¬ y.ID ∈ p.vd.why := by simpa using h41
   refine CW.skip (KW.inBlock (KW.then (CW.region ?_)))
   refine LW.pp (.inc (.t rfl) oQ) ?_
   refine LW.M rfl (LW.nil (KW.round ?_))
   exact ⟨j + 1, ⟨by omega, by first | (rw [ownL_yes hy hin]; exact hS.take 8) | (rw [ownL_no hy hin]; exact hS.take 8)⟩, ⟨rfl, rfl, rfl, rfl, rfl, rfl, rfl, rfl, rfl, rfl, rfl, rfl, trivial⟩, by first | omega | (dsimp only; omega)⟩
  replace h34 := dQ h34
  refine CW.exit (KW.then_exit (KW.then_exit (KW.block_hit (KW.then (CW.seq (CW.seq ?_))))))
  have hjl : j = b.Processes.length := by omega
  rw [hjl, List.take_length] at hS
  refine CW.region (LW.M rfl ?_)
  refine LW.rr (Mk.REv.range underlying97 (.t rfl) (hS.get 7 rfl)) rfl ?_
  rintro _ w14 ⟨r50, rfl, hR_, u_, e_, z_⟩
  replace hS := hS.stp 7 rfl (Mk.stp_range hR_ u_ e_)
  change Wx.Sep _ _ _ [_, _, _, _, _, _, _, _] at hS
  clear hR_ u_
  refine LW.T (CW.block ?_)
  refine CW.loopB (σ := List Ar2 × List (BE Ar2)) (fun s w => (s.1.Nodup ∧ ∀ k ∈ s.1, k ∈ ownL (b.Processes) p.vd.why) ∧ (BeInv s.2 (batM b.Processes (((L.filter openP).take i).map (·.vd)) p.vd s.1)) ∧ (Wx.Sep no w0 w [aBlk B2 bc 38, Mk.aIMap arK B20 ((s.2).map BE.kv), aIMap B21 ((E).map BE.kv), aOwn 32 3 VP.cells (.slice ad7 (L.filter openP).length cp7) (L.filter openP), aBE 3 (s.2), aBE 3 (E), aBlk B8 p.cells 32, Mk.aIRng arK B29 r50 ((ownL (b.Processes) p.vd.why).map unitT) s.1])) (fun s => []) ([(2, .eq _), (4, .eq _), (5, .eq _), (6, .eq _), (8, .eq _), (23, .eq _), (24, .eq _), (25, .eq _), (50, .eq _)]) (fun s => (ownL (b.Processes) p.vd.why).length - s.1.length) ([], D) ?_ ⟨rfl, rfl, rfl, rfl, rfl, rfl, rfl, rfl, rfl, trivial⟩ ?_
  ·exact ⟨⟨List.nodup_nil, fun _ h => (by cases h)⟩, by rw [batM_nil]; exact hDI, hS⟩
  rintro ⟨V, D⟩ w15 ⟨hV, hDI, hS⟩
  dsimp only at hV hDI hS
  change Wx.Sep _ _ _ [_, _, _, _, _, _, _, _] at hS
  change CW _ _ _ _ _ _ _ ([] ++ _) _
  refine CW.S ?_
  refine LW.rr (Mk.REv.next (.t rfl) (hS.get 7 rfl)) rfl ?_
  rintro _ w16 (⟨rfl, rfl, hPm⟩ | ⟨k0, u0, rfl, hNx⟩)
  ·skip
   refine LW.pp (.extract (.t rfl) rfl) (LW.S ?_)
   refine CW.cond_false (.t rfl) ?_
   refine CW.exit (KW.then_exit (KW.then_exit (KW.block_hit (KW.then (CW.seq ?_)))))
   rw [batM_done (by rw [unitT_keys] at hPm; exact hPm)] at hDI
   refine CW.region ?_
   refine LW.pp (.loadA isAgg38 sizeOf38 (hC.size) (.t rfl) ((hS.blk 0 rfl).agg)) ?_
   refine LW.pp (.la isAgg32 sizeOf32 rfl ((hS.blk 6 rfl).agg)) ?_
   refine LW.K (eC (.u rfl rfl) (en47)) rfl (lotOfX_any bc b p _ (hC.up hS.upd) (Sl.up (hw p hpL) hS.upd) (hlw p hpL) hlP hlL) ?_
   rintro _ w17 ⟨rfl, uw17⟩
   have zw17 := uw17.size
   replace hS := hS.up uw17
   refine LW.A rfl (LW.S (CW.region (LW.M rfl ?_)))
   refine LW.pp (.neq (.t rfl) (.const _)) ?_
   refine LW.T ?_
   refine CW.cond (.t rfl) (fun h68 => ?_) (fun h68 => ?_)
   ·replace h68 := dQ h68
    have hn : ¬ lotV b p.vd = 0 := by simpa using h68
    obtain ⟨v0, hv0⟩ := val_or (E.map BE.kv) (lotV b p.vd)
    obtain ⟨E1, j1, e1, hE1, hj1, rfl, hl1, hputE⟩ := be_enter hEI p.vd.w hv0
    replace hS := hS.stp 5 rfl (be_nil hE1 (hS.get 5 rfl))
    change Wx.Sep _ _ _ [_, _, _, _, _, _, _, _] at hS
    have hbl := lotFx_len b (((L.filter openP).take i).map (·.vd)) (lotV b p.vd)
    rw [List.length_map, List.length_take] at hbl
    refine CW.region (LW.M rfl (LW.M rfl (LW.M rfl (LW.M rfl ?_))))
    refine LW.pp (.lookOr underlying96 underlying3 zeroValue30 (.t rfl) (.t rfl) (hS.get 2 rfl) hv0) ?_
    refine LW.pp (.fA 0 underlying32 rfl sizeOf3 rfl) ?_
    refine LW.pp (.ld isAgg3 rfl (Blk.celln (v := vi p.vd.w) (hS.blk 6 rfl) rfl)) ?_
    refine LW.rr (.buildSlice (xs := [p.vd.w]) (enc := eInt) (mk := vi) underlying30 sizeOf3 zeroValue3 rfl cQ (fun _ => rfl) (fun _ => rfl) (.cons (.t rfl) .nil) rfl) rfl ?_
    rintro _ w18 ⟨B76, cB76, rfl, NB76, yB76, xB76⟩
    have eB76 := NB76.at_
    have zB76 := NB76.size
    replace hS := hS.up NB76.up
    have hE76 := xB76
    refine LW.rr (.appendF (enc := eInt) (bytes := 8) (i := Tryz.t3) underlying30 kQ rfl rfl rfl rfl cQ (fun _ => rfl) eInt_one (.t rfl) (.t rfl) (be_get (hS.get 5 rfl) (List.mem_of_getElem? hj1)) (Sl.of_els hE76) (by rw [hl1]; simp only [maxLen, List.length_cons, List.length_nil]; omega) (by rw [hl1]; simp only [List.length_cons, List.length_nil]; omega)) rfl ?_
    intro v77 w19 Gw19
    have zw19 := Gw19.fr.size
    replace hS := hS.stp 5 rfl (be_set (g := (lotV b p.vd)) (v := v77) (l := lotFx b (((L.filter openP).take i).map (·.vd)) (lotV b p.vd) ++ [p.vd.w]) (hS.get 5 rfl) hj1 (by rw [← hl1]; exact Gw19))
    change Wx.Sep _ _ _ [_, _, _, _, _, _, _, _] at hS
    refine LW.E (.mapUpdate underlying96 underlying3 (.t rfl) (.t rfl) (.t rfl) (hS.get 2 rfl)) ?_
    rintro w20 ⟨Mu, Ku, zu⟩
    rw [mset_mk, (hputE v77).1] at Mu
    replace hS := hS.stp 2 rfl (stpI_set Mu Ku)
    change Wx.Sep _ _ _ [_, _, _, _, _, _, _, _] at hS
    clear Mu Ku
    refine LW.nil (KW.inBlock (KW.then (CW.region ?_)))
    refine LW.pp (.inc (.t rfl) oQ) ?_
    refine LW.M rfl (LW.nil (KW.round ?_))
    first | exact ⟨(i + 1, D, E1.set j1 ⟨lotV b p.vd, v77, lotFx b (((L.filter openP).take i).map (·.vd)) (lotV b p.vd) ++ [p.vd.w]⟩), ⟨by show i + 1 ≤ _; omega, by show BeInv D (batF _ (((L.filter openP).take (i + 1)).map (·.vd))); rw [ov_next hp]; exact hDI, by show BeInv _ (lotFx b (((L.filter openP).take (i + 1)).map (·.vd))); rw [ov_next hp, lotFx_yes hn]; exact (hputE v77).2, by exact hS.take 6⟩, ⟨rfl, rfl, rfl, rfl, rfl, rfl, rfl, trivial⟩, by show (L.filter openP).length - (i + 1) < (L.filter openP).length - i; omega⟩ | exact ⟨(i + 1, D, E), ⟨by show i + 1 ≤ _; omega, by show BeInv D (batF _ (((L.filter openP).take (i + 1)).map (·.vd))); rw [ov_next hp]; exact hDI, by show BeInv E (lotFx b (((L.filter openP).take (i + 1)).map (·.vd))); rw [ov_next hp, lotFx_no hn]; exact hEI, by exact hS.take 6⟩, ⟨rfl, rfl, rfl, rfl, rfl, rfl, rfl, trivial⟩, by show (L.filter openP).length - (i + 1) < (L.filter openP).length - i; omega⟩
   replace h68 := dQ h68
   have hn : lotV b p.vd = 0 := by simpa using h68
   refine CW.skip (KW.inBlock (KW.then (CW.region ?_)))
   refine LW.pp (.inc (.t rfl) oQ) ?_
   refine LW.M rfl (LW.nil (KW.round ?_))
   first | exact ⟨(i + 1, D, E1.set j1 ⟨lotV b p.vd, v77, lotFx b (((L.filter openP).take i).map (·.vd)) (lotV b p.vd) ++ [p.vd.w]⟩), ⟨by show i + 1 ≤ _; omega, by show BeInv D (batF _ (((L.filter openP).take (i + 1)).map (·.vd))); rw [ov_next hp]; exact hDI, by show BeInv _ (lotFx b (((L.filter openP).take (i + 1)).map (·.vd))); rw [ov_next hp, lotFx_yes hn]; exact (hputE v77).2, by exact hS.take 6⟩, ⟨rfl, rfl, rfl, rfl, rfl, rfl, rfl, trivial⟩, by show (L.filter openP).length - (i + 1) < (L.filter openP).length - i; omega⟩ | exact ⟨(i + 1, D, E), ⟨by show i + 1 ≤ _; omega, by show BeInv D (batF _ (((L.filter openP).take (i + 1)).map (·.vd))); rw [ov_next hp]; exact hDI, by show BeInv E (lotFx b (((L.filter openP).take (i + 1)).map (·.vd))); rw [ov_next hp, lotFx_no hn]; exact hEI, by exact hS.take 6⟩, ⟨rfl, rfl, rfl, rfl, rfl, rfl, rfl, trivial⟩, by show (L.filter openP).length - (i + 1) < (L.filter openP).length - i; omega⟩
  skip
  have zw16 := hNx.size
  replace hS := hS.stp 7 rfl (Mk.stp_next hNx)
  change Wx.Sep _ _ _ [_, _, _, _, _, _, _, _] at hS
  have hk0c : k0 ∈ ownL (b.Processes) p.vd.why := by have h5 := List.mem_map_of_mem (f := Prod.fst) hNx.mem; rw [unitT_keys] at h5; exact h5
  have hk0V := hNx.fresh
  have hV2 : (V ++ [k0]).Nodup ∧ ∀ k ∈ V ++ [k0], k ∈ ownL (b.Processes) p.vd.why := ⟨List.nodup_append.2 ⟨hV.1, by simp, fun a ha c hc => by simp at hc; subst hc; exact fun e => hk0V (e ▸ ha)⟩, fun k hk => (List.mem_append.1 hk).elim (hV.2 k) (fun h => by cases List.mem_singleton.1 h; exact hk0c)⟩
  have hVl := hV2.1.length_le_of_subset hV2.2
  rw [List.length_append, List.length_singleton] at hVl
  have hko := ownL_ok (fun f hf => tm_in (hT f hf)) k0 hk0c
  refine LW.pp (.extract (.t rfl) rfl) (LW.S ?_)
  refine CW.cond_true (.t rfl) ?_
  refine CW.skip (KW.then (CW.block (CW.seq ?_)))
  have hbl := batM_len b.Processes (((L.filter openP).take i).map (·.vd)) p.vd V k0
  rw [List.length_map, List.length_take] at hbl
  refine CW.region ?_
  refine LW.rr (.entry (.t rfl) hNx.entry) rfl ?_
  rintro _ _ ⟨rfl, rfl⟩
  refine LW.pp (.extract (.t rfl) rfl) ?_
  refine LW.rr (.allocA zeroValue99) rfl ?_
  rintro _ w21 ⟨B12, rfl, MB12⟩
  refine LW.E (.storeA sizeOf99 rfl (.t rfl) (.t rfl) (Ar2.one _) MB12.blk rfl) ?_
  intro w22 LB12
  have NB12 := MB12.set LB12
  clear LB12 MB12
  have eB12 := NB12.at_
  have zB12 := NB12.size
  replace hS := hS.addB NB12
  change Wx.Sep _ _ _ [_, _, _, _, _, _, _, _, _] at hS
  refine LW.T ?_
  have zB20 := (show Mk.IMap arK _ _ _ from hS.get 1 rfl).lt
  refine CW.region (LW.M rfl ?_)
  refine LW.pp (.la isAgg99 sizeOf99 rfl ((hS.blk 8 rfl).agg)) ?_
  refine LW.pp (.fA 0 underlying32 rfl sizeOf3 rfl) ?_
  refine LW.pp (.ld isAgg3 rfl (Blk.celln (v := vi p.vd.w) (hS.blk 6 rfl) rfl)) ?_
  refine LW.rr (.buildSlice (xs := [p.vd.w]) (enc := eInt) (mk := vi) underlying30 sizeOf3 zeroValue3 rfl cQ (fun _ => rfl) (fun _ => rfl) (.cons (.t rfl) .nil) rfl) rfl ?_
  rintro _ w23 ⟨B60, cB60, rfl, NB60, yB60, xB60⟩
  have eB60 := NB60.at_
  have zB60 := NB60.size
  replace hS := hS.up NB60.up
  have hE60 := xB60
  refine LW.rr (Mk.REv.mapEntry underlying95 arLaw hko zeroValue30 (.t rfl) (.t rfl) (hS.get 1 rfl)) rfl ?_
  rintro _ w24 ⟨v0, st0, rfl, hv0, hMd, Ks, zs⟩
  replace hE60 := hE60.sto Ks oQ
  replace hS := hS.stp 1 rfl (stp_mid hMd Ks)
  change Wx.Sep _ _ _ [_, _, _, _, _, _, _, _, _] at hS
  clear hMd Ks
  obtain ⟨D1, j1, e1, hD1, hj1, rfl, hl1, hput⟩ := be_enter hDI p.vd.w hv0
  replace hS := hS.stp 4 rfl (be_nil hD1 (hS.get 4 rfl))
  change Wx.Sep _ _ _ [_, _, _, _, _, _, _, _, _] at hS
  refine LW.pp (.extract (.t rfl) rfl) ?_
  refine LW.rr (.appendF (enc := eInt) (bytes := 8) (i := Tryz.t3) underlying30 kQ rfl rfl rfl rfl cQ (fun _ => rfl) eInt_one (.t rfl) (.t rfl) (be_get (hS.get 4 rfl) (List.mem_of_getElem? hj1)) (Sl.of_els hE60) (by rw [hl1]; simp only [maxLen, List.length_cons, List.length_nil]; omega) (by rw [hl1]; simp only [List.length_cons, List.length_nil]; omega)) rfl ?_
  intro v62 w25 Gw25
  have zw25 := Gw25.fr.size
  replace hS := hS.stp 4 rfl (be_set (g := k0) (v := v62) (l := batM b.Processes (((L.filter openP).take i).map (·.vd)) p.vd V k0 ++ [p.vd.w]) (hS.get 4 rfl) hj1 (by rw [← hl1]; exact Gw25))
  change Wx.Sep _ _ _ [_, _, _, _, _, _, _, _, _] at hS
  refine LW.pp (.extract (.t rfl) rfl) ?_
  refine LW.E (Mk.SEv.entryStore (.t rfl) (.t rfl) (.t rfl) (hS.get 1 rfl)) ?_
  rintro w26 ⟨Mu, Ku, zu⟩
  rw [(hput v62).1] at Mu
  replace hS := hS.stp 1 rfl (stp_unmid Mu Ku)
  change Wx.Sep _ _ _ [_, _, _, _, _, _, _, _, _] at hS
  clear Mu Ku
  refine LW.nil (KW.inBlock (KW.round ?_))
  exact ⟨(V ++ [k0], D1.set j1 ⟨k0, v62, batM b.Processes (((L.filter openP).take i).map (·.vd)) p.vd V k0 ++ [p.vd.w]⟩), ⟨hV2, by show BeInv _ (batM _ _ _ (V ++ [k0])); rw [batM_add hk0V]; exact (hput v62).2, hS.take 8⟩, ⟨rfl, rfl, rfl, rfl, rfl, rfl, rfl, rfl, rfl, trivial⟩, by show _ - (V ++ [k0]).length < _ - V.length; rw [List.length_append, List.length_singleton]; omega⟩
 replace h26 := dQ h26
 refine CW.exit (KW.then_exit (KW.then_exit (KW.block_hit (KW.then (CW.seq ?_)))))
 have hil : i = (L.filter openP).length := by omega
 rw [hil, List.take_length] at hDI hEI
 have hDl := be_lenA hDI
 have hEl := be_lenL hEI
 rw [List.length_map] at hEl
 have zB20 := (show Mk.IMap arK _ _ _ from hS.get 1 rfl).lt
 have zB21 := (show IMap _ _ _ from hS.get 2 rfl).lt
 refine CW.region ?_
 refine LW.pp (.assign (.func _)) ?_
 refine LW.S (CW.region (LW.C (LW.S (CW.S (LW.M rfl ?_)))))
 refine LW.K (eC (.o rfl) (en52)) rfl (keysA_any _ _) ?_
 rintro _ w27 ⟨⟨BK, rfl, hBK, zK⟩, uw27⟩
 have zw27 := uw27.size
 replace hS := hS.up uw27
 have zBK := hBK.lt
 have zz := hS.upd.size
 refine LW.M rfl ?_
 refine LW.K (eC (.u rfl rfl) (en51)) rfl (sortedA_any _ _ _ _ _ _ en109 (fun W X Y u hX hY => keysA_iter X Y BK B20 _ W (fun i h => (hY i h).2) (fun h => by have := hX _ h; omega) (fun h => by have := (hY _ h).1; omega) (hBK.up u) ((show Mk.IMap arK _ _ _ from hS.get 1 rfl).up u)) (by rw [List.length_map]; omega) (fun ks h => by have := h.length_eq; rw [be_keys, List.length_map] at this; omega)) ?_
 rintro v82 w28 ⟨ks, hPk, hO82, hf82, uw28⟩
 have zw28 := uw28.size
 replace hBK := hBK.up uw28
 replace hS := hS.add uw28 (A' := aOwn 99 2 Ar2.cells v82 (ks.mergeSort leA)) (hO82) (hf82)
 change Wx.Sep _ _ _ [_, _, _, _, _, _, _] at hS
 clear hO82
 rw [be_keys] at hPk
 rw [tKeys_eq hDI hPk] at hS
 obtain ⟨ad82, cp82, rfl, _⟩ := (hS.own 6 rfl).sl (fun _ => rfl)
 change Wx.Sep _ _ _ [_, _, _, _, _, _, _] at hS
 refine LW.pp (.lenS underlying103 (.t rfl)) ?_
 refine LW.pp (.move (.const _)) ?_
 refine LW.nil ?_
 have hTkl : (tKeys b.Processes ((L.filter openP).map (·.vd))).length ≤ 100000 := by rw [← tKeys_eq hDI hPk, List.length_mergeSort, hPk.length_eq, List.length_map]; omega
 replace hS := hS.addn (OwnS.nil _ 0 64 1 TP.cells)
 change Wx.Sep _ _ _ [_, _, _, _, _, _, _, _] at hS
 refine KW.then (CW.block ?_)
 refine CW.loopB (σ := Nat × Go.Value × List TP) (fun s w => (s.1 ≤ (tKeys b.Processes ((L.filter openP).map (·.vd))).length) ∧ (s.2.2.map TP.l = ((tKeys b.Processes ((L.filter openP).map (·.vd))).take s.1).map (batF b.Processes ((L.filter openP).map (·.vd)))) ∧ (∀ t ∈ s.2.2, ∃ e ∈ D, e.v = t.v ∧ e.l = t.l) ∧ (Wx.Sep no w0 w [aBlk B2 bc 38, Mk.aIMap arK B20 ((D).map BE.kv), aIMap B21 ((E).map BE.kv), aOwn 32 3 VP.cells (.slice ad7 (L.filter openP).length cp7) (L.filter openP), aBE 3 (D), aBE 3 (E), aOwn 99 2 Ar2.cells (.slice ad82 (tKeys b.Processes ((L.filter openP).map (·.vd))).length cp82) (tKeys b.Processes ((L.filter openP).map (·.vd))), aOwn 64 1 TP.cells s.2.1 s.2.2])) (fun s => [(84, .eq (vi (s.1 : Int))), (15, .eq (s.2.1))]) ([(4, .eq _), (5, .eq _), (6, .eq _), (82, .eq _), (83, .eq _)]) (fun s => (tKeys b.Processes ((L.filter openP).map (·.vd))).length - s.1) (0, .slice none 0 0, []) ?_ ⟨rfl, rfl, rfl, rfl, rfl, rfl, rfl, trivial⟩ ?_
 ·exact ⟨Nat.zero_le _, rfl, (fun _ h => (by cases h)), hS⟩
 rintro ⟨k, v, Ts⟩ w29 ⟨hk, hTs, hTe, hS⟩
 dsimp only at hk hTs hTe hS
 change Wx.Sep _ _ _ [_, _, _, _, _, _, _, _] at hS
 change CW _ _ _ _ _ _ _ ([(84, .eq (vi (k : Int))), (15, .eq (v))] ++ _) _
 refine CW.S ?_
 refine LW.pp (.lss (.t rfl) (.t rfl)) ?_
 refine LW.S ?_
 refine CW.cond (.t rfl) (fun h85 => ?_) (fun h85 => ?_)
 ·replace h85 := dQ h85
  refine CW.skip (KW.then (CW.seq (CW.block (CW.seq ?_))))
  obtain ⟨g, hg⟩ := getElem?_of_lt (xs := (tKeys b.Processes ((L.filter openP).map (·.vd)))) (i := k) oQ
  obtain ⟨Bg, og, ag, hcg⟩ := (OwnS.elsS (hS.own 6 rfl) (fun _ => rfl)) k g hg
  obtain ⟨e, he, heg⟩ := tKeys_mem hDI (List.mem_of_getElem? hg)
  obtain ⟨ade, cpe, hev, _⟩ := (be_get (hS.get 4 rfl) he).sl (fun _ => rfl)
  have hko := tKeys_ok (fun f hf => tm_in (hT f hf)) g (List.mem_of_getElem? hg)
  have hTl := congrArg List.length hTs
  simp only [List.length_map, List.length_take] at hTl
  refine CW.region ?_
  refine LW.pp (.indexAddr' underlying103 sizeOf99 (j := k) (.t rfl) (.t rfl) oQ ag) ?_
  refine LW.pp (.la isAgg99 sizeOf99 rfl (hcg)) ?_
  refine LW.rr (.allocA zeroValue99) rfl ?_
  rintro _ w30 ⟨B17, rfl, MB17⟩
  refine LW.E (.storeA sizeOf99 rfl (.t rfl) (.t rfl) (Ar2.one _) MB17.blk rfl) ?_
  intro w31 LB17
  have NB17 := MB17.set LB17
  clear LB17 MB17
  have eB17 := NB17.at_
  have zB17 := NB17.size
  replace hS := hS.addB NB17
  change Wx.Sep _ _ _ [_, _, _, _, _, _, _, _, _] at hS
  refine LW.T (CW.region (LW.M rfl (LW.M rfl ?_)))
  refine LW.pp (.la isAgg99 sizeOf99 rfl ((hS.blk 8 rfl).agg)) ?_
  refine LW.pp (Mk.PEv.lookupYes (ok := false) underlying95 arLaw hko (.t rfl) (.t rfl) (hS.get 1 rfl) (List.mem_map.2 ⟨e, he, by show (e.g, e.v) = _; rw [heg, hev]⟩)) ?_
  refine LW.pp (.build (cs := (TP.mk ade e.l cpe).cells) underlying64 zeroValue64 Tryz.places64 (.cons (.t rfl) .nil) rfl) ?_
  refine LW.rr (.buildSlice (xs := [TP.mk ade e.l cpe]) (enc := TP.cells) (mk := fun t : TP => .agg t.cells) underlying51 sizeOf64 zeroValue64 rfl cQ (fun _ => rfl) (fun _ => rfl) (.cons (.t rfl) .nil) rfl) rfl ?_
  rintro _ w32 ⟨B93, cB93, rfl, NB93, yB93, xB93⟩
  have eB93 := NB93.at_
  have zB93 := NB93.size
  replace hS := hS.up NB93.up
  have hE93 := xB93
  refine LW.rr (.appendF (enc := TP.cells) (bytes := 24) (i := Tryz.t64) underlying51 kQ rfl rfl rfl rfl cQ (fun _ => rfl) TP.one (.t rfl) (.t rfl) (hS.own 7 rfl) (Sl.of_els hE93) (by simp only [maxLen, List.length_cons, List.length_nil]; omega) (by simp only [List.length_cons, List.length_nil]; omega)) rfl ?_
  intro v94 w33 Gw33
  have zw33 := Gw33.fr.size
  replace hS := hS.stp 7 rfl Gw33
  change Wx.Sep _ _ _ [_, _, _, _, _, _, _, _, _] at hS
  refine LW.A rfl (LW.nil (KW.inBlock (KW.then (CW.region ?_))))
  refine LW.pp (.inc (.t rfl) oQ) ?_
  refine LW.M rfl (LW.nil (KW.round ?_))
  exact ⟨(k + 1, v94, Ts ++ [TP.mk ade e.l cpe]), ⟨by show k + 1 ≤ _; omega, by show (Ts ++ [_]).map TP.l = _; rw [List.map_append, hTs, take_map_next hg, ← heg, ← hDI.val e he]; rfl, fun t ht => (List.mem_append.1 ht).elim (hTe t) (fun h => ⟨e, he, by rw [List.mem_singleton.1 h]; exact ⟨hev, rfl⟩⟩), hS.take 8⟩, ⟨rfl, rfl, rfl, rfl, rfl, rfl, rfl, trivial⟩, by show (tKeys b.Processes ((L.filter openP).map (·.vd))).length - (k + 1) < (tKeys b.Processes ((L.filter openP).map (·.vd))).length - k; omega⟩
 replace h85 := dQ h85
 refine CW.exit (KW.then_exit (KW.then_exit (KW.block_hit (KW.then (CW.seq (CW.seq ?_))))))
 have hkl : k = (tKeys b.Processes ((L.filter openP).map (·.vd))).length := by omega
 rw [hkl, List.take_length] at hTs
 refine CW.region (LW.M rfl ?_)
 refine LW.K (eC (.o rfl) (en54)) rfl (Hk.mapsKeys_any _ _) ?_
 rintro _ w34 ⟨⟨BJ, rfl, hBJ, zJ⟩, uw34⟩
 have zw34 := uw34.size
 replace hS := hS.up uw34
 have zBJ := hBJ.lt
 have zz2 := hS.upd.size
 refine LW.K (eC (.o rfl) (en53)) rfl (Hs.sorted_any _ _ _ _ _ _ en111 (fun W X u hX => Hk.mapsKeys_iter X _ BJ B21 _ W (fun i h => h.elim) (fun h => by have := hX _ h; omega) (fun h => h.elim) (hBJ.up u) ((show IMap _ _ _ from hS.get 2 rfl).up u)) (by rw [List.length_map]; omega) (fun ks h => by have := h.length_eq; rw [be_keys, List.length_map] at this; omega)) ?_
 rintro v98 w35 ⟨ks2, hPj, hO98, uw35⟩
 have zw35 := uw35.size
 replace hBJ := hBJ.up uw35
 replace hS := hS.add uw35 (A' := aOwn 3 1 eInt v98 (ks2.mergeSort fun x y => decide (x ≤ y))) (hO98.mono (Nat.zero_le _)) (fun i h => hO98.base i h)
 change Wx.Sep _ _ _ [_, _, _, _, _, _, _, _, _] at hS
 clear hO98
 rw [be_keys] at hPj
 rw [lKeys_eq hEI hPj] at hS
 obtain ⟨ad98, cp98, rfl, _⟩ := (hS.own 8 rfl).sl (fun _ => rfl)
 change Wx.Sep _ _ _ [_, _, _, _, _, _, _, _, _] at hS
 refine LW.pp (.lenS underlying30 (.t rfl)) ?_
 refine LW.pp (.move (.const _)) ?_
 refine LW.nil ?_
 have hLkl : (lKeys b ((L.filter openP).map (·.vd))).length ≤ 100000 := by rw [← lKeys_eq hEI hPj, List.length_mergeSort, hPj.length_eq, List.length_map]; omega
 refine KW.then (CW.block ?_)
 refine CW.loopB (σ := Nat × Go.Value × List TP) (fun s w => (s.1 ≤ (lKeys b ((L.filter openP).map (·.vd))).length) ∧ (s.2.2.map TP.l = (tKeys b.Processes ((L.filter openP).map (·.vd))).map (batF b.Processes ((L.filter openP).map (·.vd))) ++ ((lKeys b ((L.filter openP).map (·.vd))).take s.1).map (lotFx b ((L.filter openP).map (·.vd)))) ∧ (∀ t ∈ s.2.2, (∃ e ∈ D, e.v = t.v ∧ e.l = t.l) ∨ ∃ e ∈ E, e.v = t.v ∧ e.l = t.l) ∧ (Wx.Sep no w0 w [aBlk B2 bc 38, Mk.aIMap arK B20 ((D).map BE.kv), aIMap B21 ((E).map BE.kv), aOwn 32 3 VP.cells (.slice ad7 (L.filter openP).length cp7) (L.filter openP), aBE 3 (D), aBE 3 (E), aOwn 99 2 Ar2.cells (.slice ad82 (tKeys b.Processes ((L.filter openP).map (·.vd))).length cp82) (tKeys b.Processes ((L.filter openP).map (·.vd))), aOwn 64 1 TP.cells s.2.1 s.2.2, aOwn 3 1 eInt (.slice ad98 (lKeys b ((L.filter openP).map (·.vd))).length cp98) (lKeys b ((L.filter openP).map (·.vd)))])) (fun s => [(100, .eq (vi (s.1 : Int))), (15, .eq (s.2.1))]) ([(4, .eq _), (6, .eq _), (98, .eq _), (99, .eq _)]) (fun s => (lKeys b ((L.filter openP).map (·.vd))).length - s.1) (0, v, Ts) ?_ ⟨rfl, rfl, rfl, rfl, rfl, rfl, trivial⟩ ?_
 ·exact ⟨Nat.zero_le _, by show Ts.map TP.l = _ ++ []; rw [hTs, List.append_nil], fun t ht => .inl (hTe t ht), hS⟩
 rintro ⟨j, v, Ts⟩ w36 ⟨hj, hTs2, hTe2, hS⟩
 dsimp only at hj hTs2 hTe2 hS
 change Wx.Sep _ _ _ [_, _, _, _, _, _, _, _, _] at hS
 change CW _ _ _ _ _ _ _ ([(100, .eq (vi (j : Int))), (15, .eq (v))] ++ _) _
 refine CW.S ?_
 refine LW.pp (.lss (.t rfl) (.t rfl)) ?_
 refine LW.S ?_
 refine CW.cond (.t rfl) (fun h101 => ?_) (fun h101 => ?_)
 ·replace h101 := dQ h101
  refine CW.skip (KW.then (CW.seq (CW.block (CW.seq ?_))))
  obtain ⟨m, hm⟩ := getElem?_of_lt (xs := (lKeys b ((L.filter openP).map (·.vd)))) (i := j) oQ
  obtain ⟨Bm, om, am, hcm⟩ := (OwnS.elsS (hS.own 8 rfl) (fun _ => rfl)) j m hm
  obtain ⟨e, he, heg⟩ := lKeys_mem hEI (List.mem_of_getElem? hm)
  obtain ⟨ade, cpe, hev, _⟩ := (be_get (hS.get 5 rfl) he).sl (fun _ => rfl)
  have hTl := congrArg List.length hTs2
  simp only [List.length_append, List.length_map, List.length_take] at hTl
  refine CW.region ?_
  refine LW.pp (.indexAddr' underlying30 sizeOf3 (j := j) (.t rfl) (.t rfl) oQ am) ?_
  refine LW.pp (.ld isAgg3 rfl (hcm.nth (j := 0) rfl)) ?_
  refine LW.A rfl (LW.T (CW.region (LW.M rfl (LW.M rfl (LW.M rfl ?_)))))
  refine LW.pp (.lookupYes (ok := false) underlying96 underlying3 (.t rfl) (.t rfl) (hS.get 2 rfl) (List.mem_map.2 ⟨e, he, by show (e.g, e.v) = _; rw [heg, hev]⟩)) ?_
  refine LW.pp (.build (cs := (TP.mk ade e.l cpe).cells) underlying64 zeroValue64 Tryz.places64 (.cons (.t rfl) .nil) rfl) ?_
  refine LW.rr (.buildSlice (xs := [TP.mk ade e.l cpe]) (enc := TP.cells) (mk := fun t : TP => .agg t.cells) underlying51 sizeOf64 zeroValue64 rfl cQ (fun _ => rfl) (fun _ => rfl) (.cons (.t rfl) .nil) rfl) rfl ?_
  rintro _ w37 ⟨B109, cB109, rfl, NB109, yB109, xB109⟩
  have eB109 := NB109.at_
  have zB109 := NB109.size
  replace hS := hS.up NB109.up
  have hE109 := xB109
  refine LW.rr (.appendF (enc := TP.cells) (bytes := 24) (i := Tryz.t64) underlying51 kQ rfl rfl rfl rfl cQ (fun _ => rfl) TP.one (.t rfl) (.t rfl) (hS.own 7 rfl) (Sl.of_els hE109) (by simp only [maxLen, List.length_cons, List.length_nil]; omega) (by simp only [List.length_cons, List.length_nil]; omega)) rfl ?_
  intro v110 w38 Gw38
  have zw38 := Gw38.fr.size
  replace hS := hS.stp 7 rfl Gw38
  change Wx.Sep _ _ _ [_, _, _, _, _, _, _, _, _] at hS
  refine LW.A rfl (LW.nil (KW.inBlock (KW.then (CW.region ?_))))
  refine LW.pp (.inc (.t rfl) oQ) ?_
  refine LW.M rfl (LW.nil (KW.round ?_))
  exact ⟨(j + 1, v110, Ts ++ [TP.mk ade e.l cpe]), ⟨by show j + 1 ≤ _; omega, by show (Ts ++ [_]).map TP.l = _; rw [List.map_append, hTs2, take_map_next hm, List.append_assoc, ← heg, ← hEI.val e he]; rfl, fun t ht => (List.mem_append.1 ht).elim (hTe2 t) (fun h => .inr ⟨e, he, by rw [List.mem_singleton.1 h]; exact ⟨hev, rfl⟩⟩), hS.take 9⟩, ⟨rfl, rfl, rfl, rfl, rfl, rfl, trivial⟩, by show (lKeys b ((L.filter openP).map (·.vd))).length - (j + 1) < (lKeys b ((L.filter openP).map (·.vd))).length - j; omega⟩
 replace h101 := dQ h101
 refine CW.exit (KW.then_exit (KW.then_exit (KW.block_hit (KW.then (CW.seq ?_)))))
 have hjl : j = (lKeys b ((L.filter openP).map (·.vd))).length := by omega
 rw [hjl, List.take_length] at hTs2
 obtain ⟨ado, cpo, rfl, hEo⟩ := (hS.own 7 rfl).sl (fun _ => rfl)
 have hco := (hS.own 7 rfl).cap
 refine CW.region (LW.M rfl (LW.M rfl ?_))
 refine LW.pp (.lenS underlying51 (.t rfl)) ?_
 refine LW.pp (.min2N (i := Ts.length) (j := 16) (.t rfl) (.const _)) ?_
 refine LW.pp (.sliceHi underlying51 sizeOf64 (.t rfl) (.t rfl) (by have := hco.1; omega)) ?_
 refine LW.A rfl (LW.T (CW.ret ?_))
 refine KW.ret1 rfl rfl ⟨_, rfl, ?_⟩
 refine ⟨Ts.take 16, ?_, ?_, fun t ht => ?_, hS.upd⟩
 ·rw [List.map_take, hTs2]; unfold testsF testsA; rw [← open_vd]
 ·exact tests_sl hEo
 rcases hTe2 t (List.mem_of_mem_take ht) with ⟨e, he, h1, h2⟩ | ⟨e, he, h1, h2⟩
 · rw [← h1, ← h2]; exact (be_get (hS.get 4 rfl) he).sl (fun _ => rfl)
 rw [← h1, ← h2]; exact (be_get (hS.get 5 rfl) he).sl (fun _ => rfl)
end Go.Proofs.YtmimclgihlhaeaaGreat
end
section
namespace Go.Wx
def insB {α : Type} (le : α → α → Bool) (x : α) : List α → List α
 | [] => [x]
 | y :: l => if le x y then x :: y :: l else y :: insB le x l
def insS {α : Type} (le : α → α → Bool) (l : List α) : List α := l.foldr (insB le) []
theorem insB_perm {α : Type} (le : α → α → Bool) (x : α) : ∀ l : List α, (insB le x l).Perm (x :: l)
 | [] => List.Perm.refl _
 | y :: l => by
   unfold insB
   split
   · exact List.Perm.refl _
   exact ((insB_perm le x l).cons y).trans (List.Perm.swap _ _ _)
theorem insS_perm {α : Type} (le : α → α → Bool) : ∀ l : List α, (insS le l).Perm l
 | [] => List.Perm.refl _
 | y :: l => (insB_perm le y (insS le l)).trans ((insS_perm le l).cons y)
theorem insB_sorted {α : Type} {le : α → α → Bool} (ht : ∀ a b c, le a b = true → le b c = true → le a c = true) (hb : ∀ a b, (le a b || le b a) = true) (x : α) : ∀ l : List α, l.Pairwise (fun a b => le a b = true) → (insB le x l).Pairwise fun a b => le a b = true
 | [], _ => List.pairwise_singleton _ _
 | y :: l, h => by
   have h1 := List.pairwise_cons.1 h
   unfold insB
   split
   · rename_i hxy
     exact List.pairwise_cons.2 ⟨fun z hz => (List.mem_cons.1 hz).elim (fun e => e ▸ hxy) fun hz => ht _ _ _ hxy (h1.1 z hz), h⟩
   rename_i hxy
   refine List.pairwise_cons.2 ⟨fun z hz => ?_, insB_sorted ht hb x l h1.2⟩
   rcases List.mem_cons.1 ((insB_perm le x l).mem_iff.1 hz) with rfl | hz
   · have := hb z y
     simp [hxy] at this
     exact this
   exact h1.1 z hz
theorem insS_sorted {α : Type} {le : α → α → Bool} (ht : ∀ a b c, le a b = true → le b c = true → le a c = true) (hb : ∀ a b, (le a b || le b a) = true) : ∀ l : List α, (insS le l).Pairwise fun a b => le a b = true
 | [] => List.Pairwise.nil
 | y :: l => insB_sorted ht hb y _ (insS_sorted ht hb l)
theorem insS_eq {α : Type} {le : α → α → Bool} (ht : ∀ a b c, le a b = true → le b c = true → le a c = true) (hb : ∀ a b, (le a b || le b a) = true) (ha : ∀ a b, le a b = true → le b a = true → a = b) (l : List α) : l.mergeSort le = insS le l :=
 List.Perm.eq_of_pairwise (le := fun x y => le x y = true) (fun x y _ _ h1 h2 => ha x y h1 h2) (List.pairwise_mergeSort ht hb l) (insS_sorted ht hb l) ((List.mergeSort_perm l _).trans (insS_perm le l).symm)
def leI (x y : Int) : Bool := decide (x ≤ y)
theorem sortI_ins (l : List Int) : sortI l = insS leI l :=
 insS_eq (le := leI) (fun a b c h k => by have h3 := of_decide_eq_true h; have h4 := of_decide_eq_true k; exact decide_eq_true oQ) (fun a b => by unfold leI; simp; omega) (fun a b h k => by have h3 := of_decide_eq_true h; have h4 := of_decide_eq_true k; omega) l
theorem sortA_ins (l : List Ar2) : l.mergeSort leA = insS leA l := insS_eq leA_trans leA_total (fun a b h k => ltA_tri ((leA_iff b a).1 k) ((leA_iff a b).1 h)) l
def vdOf2 (w : Int) (L : List (Int × Bool)) : Vd := ⟨w, (vdSt L).1, insS leI (vdSt L).2⟩
def judF2 (b : Base) (x : Exc) : List Vd := if excOk x = true then (insS leI ((proK b.Swaps (lotK b.Lots) b.Processes).filter isIDb)).map fun w => vdOf2 w (lookW (whyF b.Swaps b.Gaps x b.Processes) w) else []
theorem judF_2 (b : Base) (x : Exc) : judF b x = judF2 b x := by
 have h : vdOf = vdOf2 := funext fun w => funext fun L => by unfold vdOf vdOf2; rw [sortI_ins]
 unfold judF judF2 wafersL
 rw [sortI_ins, h]
def testsA2 (b : Base) (O : List Vd) : List (List Int) := (insS leA (setK (O.flatMap fun p => ownL b.Processes p.why))).map (batF b.Processes O) ++ (insS leI (setK ((O.map (lotV b)).filter fun n => decide (n ≠ 0)))).map (lotFx b O)
theorem testsA_2 (b : Base) (O : List Vd) : testsA b O = testsA2 b O := by
 unfold testsA testsA2 tKeys lKeys
 rw [sortA_ins, show (setK ((O.map (lotV b)).filter fun n => decide (n ≠ 0))).mergeSort (fun x y => decide (x ≤ y)) = sortI _ from rfl, sortI_ins]
def x22 : Exc := ⟨2, 0, 100, 120, 5⟩
def gap22 : Fact := { zeroF with Kind := 11, Version := 1, ID := 1, Tool := 2, Time := 24, Until := 30 }
def lot22 : Fact := { zeroF with Kind := 4, Version := 1, Wafer := 2, Lot := 6, Product := 1 }
def l22 : List Fact := [proc22 11 1 90 105, proc22 12 2 90 104, proc22 13 3 126 130, proc22 14 4 10 20, proc22 15 5 10 18, gap22, lot22]
def v22 : List Vd := [⟨1, 2, [11]⟩, ⟨2, 1, [12]⟩, ⟨3, 0, []⟩, ⟨4, 1, [14]⟩, ⟨5, 0, []⟩]
theorem j22 : judF (ofB l22 0) x22 = v22 := by rw [judF_2]; kernel_rfl
theorem ts22 : testsF (ofB l22 0) v22 = [[4], [2], [2]] := by unfold testsF; rw [testsA_2]; kernel_rfl
theorem p22 : (ofB l22 0).Processes = [proc22 11 1 90 105, proc22 12 2 90 104, proc22 13 3 126 130, proc22 14 4 10 20, proc22 15 5 10 18] := by kernel_rfl
theorem p22_tm : ∀ p ∈ (ofB l22 0).Processes, tmOk p := by
 rw [p22]
 intro p hp
 simp only [List.mem_cons, List.not_mem_nil, or_false] at hp
 rcases hp with rfl | rfl | rfl | rfl | rfl <;> simp [tmOk, proc22]
theorem g22_len : (ofB l22 0).Gaps.length = 1 := by kernel_rfl
theorem s22_len : (ofB l22 0).Swaps.length = 0 := by kernel_rfl
theorem lo22_len : (ofB l22 0).Lots.length = 1 := by kernel_rfl
theorem openI_vd (L : List VP) : openI L = ((L.map (·.vd)).filter fun v => decide (v.t = 1)).map (·.w) := by
 rw [← open_vd, List.map_map]
 rfl
def TsOk (w : World) (Ts : List TP) : Prop := ∀ t ∈ Ts, Sl w t.v 1 eInt t.l
theorem TsOk.up {w w' : World} {Ts : List TP} (h : TsOk w Ts) (u : Up w w') : TsOk w' Ts := fun t ht => Sl.up (h t ht) u
theorem sl_no {α : Type} (w : World) (k : Nat) (enc : α → Array Go.Value) : Sl w (.slice none 0 0) k enc [] := ⟨none, 0, rfl, fun i x hx => by simp at hx⟩
end Go.Wx
namespace Go.Proofs.YtmimclgihlhaeaaGreat
open Go.Proofs.Tryz
open Go.Wx Go.RowKit
set_option maxHeartbeats 4000000 in
theorem sane22_any (w : World) : Ret Tryz.prog 10 #[] w fun r w' => r = .bool true ∧ Up w w' := by
 obtain ⟨w0, rfl⟩ : ∃ w0, w0 = w := ⟨_, rfl⟩
 have hS := Sep.start no w0
 refine cS (n := 69) (m := 9) func10 rfl rfl rfl ?_
 refine CW.S (LW.C (LW.S (CW.region ?_)))
 refine LW.pp (.build (cs := x22.cells) underlying25 zeroValue25 Tryz.places25 (.cons (.const _) (.cons (.const _) (.cons (.const _) (.cons (.const _) .nil)))) kQ) ?_
 refine LW.rr (.allocA zeroValue25) rfl ?_
 rintro _ w1 ⟨B1, rfl, MB1⟩
 refine LW.E (.storeA sizeOf25 rfl (.t rfl) (.t rfl) (Exc.one _) MB1.blk rfl) ?_
 intro w2 LB1
 have NB1 := MB1.set LB1
 clear LB1 MB1
 have eB1 := NB1.at_
 have zB1 := NB1.size
 replace hS := hS.addB NB1
 change Wx.Sep _ _ _ [_] at hS
 refine LW.S (CW.region ?_)
 refine LW.K (eC (.cons (.const _) (.cons (.const _) (.cons (.const _) (.cons (.const _) .nil)))) (en30)) rfl (process22_any _ _ _ _ _) ?_
 rintro _ w3 ⟨rfl, uw3⟩
 have zw3 := uw3.size
 replace hS := hS.up uw3
 refine LW.K (eC (.cons (.const _) (.cons (.const _) (.cons (.const _) (.cons (.const _) .nil)))) (en30)) rfl (process22_any _ _ _ _ _) ?_
 rintro _ w4 ⟨rfl, uw4⟩
 have zw4 := uw4.size
 replace hS := hS.up uw4
 refine LW.K (eC (.cons (.const _) (.cons (.const _) (.cons (.const _) (.cons (.const _) .nil)))) (en30)) rfl (process22_any _ _ _ _ _) ?_
 rintro _ w5 ⟨rfl, uw5⟩
 have zw5 := uw5.size
 replace hS := hS.up uw5
 refine LW.K (eC (.cons (.const _) (.cons (.const _) (.cons (.const _) (.cons (.const _) .nil)))) (en30)) rfl (process22_any _ _ _ _ _) ?_
 rintro _ w6 ⟨rfl, uw6⟩
 have zw6 := uw6.size
 replace hS := hS.up uw6
 refine LW.K (eC (.cons (.const _) (.cons (.const _) (.cons (.const _) (.cons (.const _) .nil)))) (en30)) rfl (process22_any _ _ _ _ _) ?_
 rintro _ w7 ⟨rfl, uw7⟩
 have zw7 := uw7.size
 replace hS := hS.up uw7
 refine LW.pp (.build (cs := gap22.cells) underlying36 zeroValue36 Tryz.places36 (.cons (.const _) (.cons (.const _) (.cons (.const _) (.cons (.const _) (.cons (.const _) (.cons (.const _) .nil)))))) kQ) ?_
 refine LW.pp (.build (cs := lot22.cells) underlying36 zeroValue36 Tryz.places36 (.cons (.const _) (.cons (.const _) (.cons (.const _) (.cons (.const _) (.cons (.const _) .nil))))) kQ) ?_
 refine LW.rr (.buildSlice (xs := [proc22 11 1 90 105, proc22 12 2 90 104, proc22 13 3 126 130, proc22 14 4 10 20, proc22 15 5 10 18, gap22, lot22]) (enc := Fact.cells) (mk := fun f : Fact => .agg f.cells) underlying23 sizeOf36 zeroValue36 rfl cQ (fun _ => rfl) (fun _ => rfl) (.cons (.t rfl) (.cons (.t rfl) (.cons (.t rfl) (.cons (.t rfl) (.cons (.t rfl) (.cons (.t rfl) (.cons (.t rfl) .nil))))))) rfl) rfl ?_
 rintro _ w8 ⟨B15, cB15, rfl, NB15, yB15, xB15⟩
 have eB15 := NB15.at_
 have zB15 := NB15.size
 replace hS := hS.up NB15.up
 have hE15 := xB15
 refine LW.K (eC (.cons (.t rfl) (.cons (.const _) .nil)) (en13)) rfl (Of_any _ _ l22 0 _ hE15 cQ) ?_
 rintro _ w9 ⟨bc, rfl, hC, uw9⟩
 have zw9 := uw9.size
 replace hS := hS.up uw9
 refine LW.rr (.allocA zeroValue38) rfl ?_
 rintro _ w10 ⟨B2, rfl, MB2⟩
 refine LW.E (.storeA sizeOf38 hC.size (.t rfl) (.t rfl) hC.one MB2.blk rfl) ?_
 intro w11 LB2
 have NB2 := MB2.set LB2
 clear LB2 MB2
 have eB2 := NB2.at_
 have zB2 := NB2.size
 replace hC := hC.up NB2.up
 replace hS := hS.addB NB2
 change Wx.Sep _ _ _ [_, _] at hS
 refine LW.S (CW.region ?_)
 refine LW.pp (.loadA isAgg38 sizeOf38 (hC.size) (.t rfl) ((hS.blk 1 rfl).agg)) ?_
 refine LW.pp (.la isAgg25 sizeOf25 rfl ((hS.blk 0 rfl).agg)) ?_
 refine LW.K (eC (.u rfl rfl) (en16)) rfl (Judge_any bc (ofB l22 0) x22 _ hC p22_tm (by rw [p22]; decide) (by rw [g22_len]; decide) (by rw [lo22_len]; decide) (by rw [s22_len]; decide)) ?_
 rintro _ w12 ⟨v19, L19, rfl, hm19, hT19⟩
 rw [j22] at hm19
 have hl19 : L19.length = 5 := by have h5 := congrArg List.length hm19; rw [List.length_map] at h5; exact h5
 have hy19 : ∀ p ∈ L19, p.vd.why.length ≤ 1 := fun p hp => by
  have h5 : p.vd ∈ v22 := by rw [← hm19]; exact List.mem_map.2 ⟨p, hp, rfl⟩
  simp only [v22, List.mem_cons, List.not_mem_nil, or_false] at h5
  rcases h5 with h | h | h | h | h <;> rw [h] <;> decide
 replace hC := hC.up hT19.upd
 replace hS := hS.join hT19
 change Wx.Sep _ _ _ [_, _, _, _] at hS
 clear hT19
 obtain ⟨ad19, cp19, rfl, _⟩ := (hS.own 2 rfl).sl (fun _ => rfl)
 refine LW.A rfl (LW.S (CW.region ?_))
 refine LW.rr (.buildSlice (xs := [11]) (enc := eInt) (mk := vi) underlying30 sizeOf3 zeroValue3 rfl cQ (fun _ => rfl) (fun _ => rfl) (.cons (.const _) .nil) rfl) rfl ?_
 rintro _ w13 ⟨B20, cB20, rfl, NB20, yB20, xB20⟩
 have eB20 := NB20.at_
 have zB20 := NB20.size
 replace hC := hC.up NB20.up
 replace hS := hS.up NB20.up
 have hE20 := xB20
 refine LW.pp (.build (cs := (VP.mk ⟨1, 2, [11]⟩ (some ⟨B20, 0, none⟩) 1).cells) underlying32 zeroValue32 Tryz.places32 (.cons (.const _) (.cons (.const _) (.cons (.t rfl) .nil))) rfl) ?_
 refine LW.rr (.buildSlice (xs := [12]) (enc := eInt) (mk := vi) underlying30 sizeOf3 zeroValue3 rfl cQ (fun _ => rfl) (fun _ => rfl) (.cons (.const _) .nil) rfl) rfl ?_
 rintro _ w14 ⟨B22, cB22, rfl, NB22, yB22, xB22⟩
 have eB22 := NB22.at_
 have zB22 := NB22.size
 replace hC := hC.up NB22.up
 replace hS := hS.up NB22.up
 replace hE20 := hE20.up NB22.up
 have hE22 := xB22
 refine LW.pp (.build (cs := (VP.mk ⟨2, 1, [12]⟩ (some ⟨B22, 0, none⟩) 1).cells) underlying32 zeroValue32 Tryz.places32 (.cons (.const _) (.cons (.const _) (.cons (.t rfl) .nil))) rfl) ?_
 refine LW.pp (.build (cs := (VP.mk ⟨3, 0, []⟩ none 0).cells) underlying32 zeroValue32 Tryz.places32 (.cons (.const _) .nil) rfl) ?_
 refine LW.rr (.buildSlice (xs := [14]) (enc := eInt) (mk := vi) underlying30 sizeOf3 zeroValue3 rfl cQ (fun _ => rfl) (fun _ => rfl) (.cons (.const _) .nil) rfl) rfl ?_
 rintro _ w15 ⟨B25, cB25, rfl, NB25, yB25, xB25⟩
 have eB25 := NB25.at_
 have zB25 := NB25.size
 replace hC := hC.up NB25.up
 replace hS := hS.up NB25.up
 replace hE20 := hE20.up NB25.up
 replace hE22 := hE22.up NB25.up
 have hE25 := xB25
 refine LW.pp (.build (cs := (VP.mk ⟨4, 1, [14]⟩ (some ⟨B25, 0, none⟩) 1).cells) underlying32 zeroValue32 Tryz.places32 (.cons (.const _) (.cons (.const _) (.cons (.t rfl) .nil))) rfl) ?_
 refine LW.pp (.build (cs := (VP.mk ⟨5, 0, []⟩ none 0).cells) underlying32 zeroValue32 Tryz.places32 (.cons (.const _) .nil) rfl) ?_
 refine LW.rr (.buildSlice (xs := [(VP.mk ⟨1, 2, [11]⟩ (some ⟨B20, 0, none⟩) 1), (VP.mk ⟨2, 1, [12]⟩ (some ⟨B22, 0, none⟩) 1), (VP.mk ⟨3, 0, []⟩ none 0), (VP.mk ⟨4, 1, [14]⟩ (some ⟨B25, 0, none⟩) 1), (VP.mk ⟨5, 0, []⟩ none 0)]) (enc := VP.cells) (mk := fun p : VP => .agg p.cells) underlying27 sizeOf32 zeroValue32 rfl cQ (fun _ => rfl) (fun _ => rfl) (.cons (.t rfl) (.cons (.t rfl) (.cons (.t rfl) (.cons (.t rfl) (.cons (.t rfl) .nil))))) rfl) rfl ?_
 rintro _ w16 ⟨B28, cB28, rfl, NB28, yB28, xB28⟩
 have eB28 := NB28.at_
 have zB28 := NB28.size
 replace hC := hC.up NB28.up
 replace hS := hS.up NB28.up
 replace hE20 := hE20.up NB28.up
 replace hE22 := hE22.up NB28.up
 replace hE25 := hE25.up NB28.up
 have hE28 := xB28
 refine LW.A rfl (LW.S (CW.region (LW.M rfl ?_)))
 refine LW.K (eC (.o rfl) (en22)) rfl (Open_any ad19 cp19 L19 _ (OwnS.elsS (hS.own 2 rfl) (fun _ => rfl)) (by rw [hl19]; decide)) ?_
 rintro v30 w17 ⟨hO30, uw17⟩
 have zw17 := uw17.size
 replace hC := hC.up uw17
 replace hE20 := hE20.up uw17
 replace hE22 := hE22.up uw17
 replace hE25 := hE25.up uw17
 replace hE28 := hE28.up uw17
 replace hS := hS.add uw17 (A' := aOwn 3 1 eInt v30 (openI L19)) (hO30.mono (Nat.zero_le _)) (fun i h => hO30.base i h)
 change Wx.Sep _ _ _ [_, _, _, _, _] at hS
 clear hO30
 rw [openI_vd, hm19] at hS
 change Wx.Sep _ _ _ [_, _, _, _, _] at hS
 refine LW.A rfl (LW.S (CW.region ?_))
 refine LW.pp (.loadA isAgg38 sizeOf38 (hC.size) (.t rfl) ((hS.blk 1 rfl).agg)) ?_
 refine LW.M rfl ?_
 refine LW.K (eC (.u rfl rfl) (en25)) rfl (Tests_any bc (ofB l22 0) ad19 cp19 L19 _ hC p22_tm (OwnS.elsS (hS.own 2 rfl) (fun _ => rfl)) (whyA_get (hS.get 3 rfl)) (fun p hp => Nat.le_trans (hy19 p hp) cQ) (by rw [hl19]; decide) (by rw [p22]; decide) (by rw [lo22_len]; decide)) ?_
 rintro v33 w18 ⟨Ts, hTl, hTs, hTw, uw18⟩
 have zw18 := uw18.size
 replace hC := hC.up uw18
 replace hS := hS.up uw18
 replace hE20 := hE20.up uw18
 replace hE22 := hE22.up uw18
 replace hE25 := hE25.up uw18
 replace hE28 := hE28.up uw18
 rw [hm19, ts22] at hTl
 obtain ⟨ad33, cp33, rfl, hE33⟩ := hTs
 replace hE33 : Els w18 ad33 1 TP.cells Ts := hE33
 replace hTw : TsOk w18 Ts := hTw
 refine LW.A rfl (LW.S (CW.region (LW.M rfl (LW.M rfl ?_))))
 refine LW.K (eC (.u rfl rfl) (en20)) rfl (same22_any ad19 cp19 _ _ L19 [(VP.mk ⟨1, 2, [11]⟩ (some ⟨B20, 0, none⟩) 1), (VP.mk ⟨2, 1, [12]⟩ (some ⟨B22, 0, none⟩) 1), (VP.mk ⟨3, 0, []⟩ none 0), (VP.mk ⟨4, 1, [14]⟩ (some ⟨B25, 0, none⟩) 1), (VP.mk ⟨5, 0, []⟩ none 0)] _ (OwnS.elsS (hS.own 2 rfl) (fun _ => rfl)) hE28 (whyA_get (hS.get 3 rfl)) (fun p hp => (by simp only [List.mem_cons, List.not_mem_nil, or_false] at hp; rcases hp with rfl | rfl | rfl | rfl | rfl <;> first | exact Sl.of_els hE20 | exact Sl.of_els hE22 | exact Sl.of_els hE25 | exact sl_no _ _ _)) (fun p hp => Nat.le_trans (hy19 p hp) cQ) (fun p hp => (by simp only [List.mem_cons, List.not_mem_nil, or_false] at hp; rcases hp with rfl | rfl | rfl | rfl | rfl <;> exact Nat.le_of_ble_eq_true rfl)) (by rw [hl19]; decide)) ?_
 rintro _ w19 ⟨rfl, uw19⟩
 have zw19 := uw19.size
 replace hC := hC.up uw19
 replace hS := hS.up uw19
 replace hE20 := hE20.up uw19
 replace hE22 := hE22.up uw19
 replace hE25 := hE25.up uw19
 replace hE28 := hE28.up uw19
 replace hE33 := hE33.up uw19
 replace hTw := hTw.up uw19
 rw [show decide (L19.map (·.vd) = ([(VP.mk ⟨1, 2, [11]⟩ (some ⟨B20, 0, none⟩) 1), (VP.mk ⟨2, 1, [12]⟩ (some ⟨B22, 0, none⟩) 1), (VP.mk ⟨3, 0, []⟩ none 0), (VP.mk ⟨4, 1, [14]⟩ (some ⟨B25, 0, none⟩) 1), (VP.mk ⟨5, 0, []⟩ none 0)] : List VP).map (·.vd)) = true from decide_eq_true hm19]
 refine LW.M rfl ?_
 refine LW.Y ?_
 refine LW.M rfl ?_
 refine LW.Y ?_
 refine LW.rr (.buildSlice (xs := [2, 4]) (enc := eInt) (mk := vi) underlying30 sizeOf3 zeroValue3 rfl cQ (fun _ => rfl) (fun _ => rfl) (.cons (.const _) (.cons (.const _) .nil)) rfl) rfl ?_
 rintro _ w20 ⟨B39, cB39, rfl, NB39, yB39, xB39⟩
 have eB39 := NB39.at_
 have zB39 := NB39.size
 replace hC := hC.up NB39.up
 replace hS := hS.up NB39.up
 replace hE20 := hE20.up NB39.up
 replace hE22 := hE22.up NB39.up
 replace hE25 := hE25.up NB39.up
 replace hE28 := hE28.up NB39.up
 replace hE33 := hE33.up NB39.up
 replace hTw := hTw.up NB39.up
 have hE39 := xB39
 refine LW.Y ?_
 refine LW.K (eC (.u rfl rfl) (en21)) rfl (sameInts_any _ _ _ [2, 4] _ ((hS.own 4 rfl).sl (fun _ => rfl)) (Sl.of_els hE39) cQ cQ) ?_
 rintro _ w21 ⟨rfl, uw21⟩
 have zw21 := uw21.size
 replace hC := hC.up uw21
 replace hS := hS.up uw21
 replace hE20 := hE20.up uw21
 replace hE22 := hE22.up uw21
 replace hE25 := hE25.up uw21
 replace hE28 := hE28.up uw21
 replace hE33 := hE33.up uw21
 replace hTw := hTw.up uw21
 replace hE39 := hE39.up uw21
 rw [show decide ((v22.filter fun v => decide (v.t = 1)).map (·.w) = [2, 4]) = true from by kernel_rfl]
 refine LW.pp (.pick_and (.t rfl) (fun hp => (by first | exact .const _ | exact .tmp rfl | exact .cond rfl (by first | assumption | (rw [hp]; rfl) | (rw [hc, hp]; rfl) | simp_all)))) ?_
 refine LW.M rfl ?_
 refine LW.Y ?_
 refine LW.M rfl ?_
 refine LW.Y ?_
 refine LW.rr (.buildSlice (xs := [4]) (enc := eInt) (mk := vi) underlying30 sizeOf3 zeroValue3 rfl cQ (fun _ => rfl) (fun _ => rfl) (.cons (.const _) .nil) rfl) rfl ?_
 rintro _ w22 ⟨B44, cB44, rfl, NB44, yB44, xB44⟩
 have eB44 := NB44.at_
 have zB44 := NB44.size
 replace hC := hC.up NB44.up
 replace hS := hS.up NB44.up
 replace hE20 := hE20.up NB44.up
 replace hE22 := hE22.up NB44.up
 replace hE25 := hE25.up NB44.up
 replace hE28 := hE28.up NB44.up
 replace hE33 := hE33.up NB44.up
 replace hTw := hTw.up NB44.up
 replace hE39 := hE39.up NB44.up
 have hE44 := xB44
 refine LW.Y ?_
 refine LW.pp (.build (cs := (TP.mk (some ⟨B44, 0, none⟩) [4] 1).cells) underlying64 zeroValue64 Tryz.places64 (.cons (.t rfl) .nil) rfl) ?_
 refine LW.Y ?_
 refine LW.rr (.buildSlice (xs := [2]) (enc := eInt) (mk := vi) underlying30 sizeOf3 zeroValue3 rfl cQ (fun _ => rfl) (fun _ => rfl) (.cons (.const _) .nil) rfl) rfl ?_
 rintro _ w23 ⟨B46, cB46, rfl, NB46, yB46, xB46⟩
 have eB46 := NB46.at_
 have zB46 := NB46.size
 replace hC := hC.up NB46.up
 replace hS := hS.up NB46.up
 replace hE20 := hE20.up NB46.up
 replace hE22 := hE22.up NB46.up
 replace hE25 := hE25.up NB46.up
 replace hE28 := hE28.up NB46.up
 replace hE33 := hE33.up NB46.up
 replace hTw := hTw.up NB46.up
 replace hE39 := hE39.up NB46.up
 replace hE44 := hE44.up NB46.up
 have hE46 := xB46
 refine LW.Y ?_
 refine LW.pp (.build (cs := (TP.mk (some ⟨B46, 0, none⟩) [2] 1).cells) underlying64 zeroValue64 Tryz.places64 (.cons (.t rfl) .nil) rfl) ?_
 refine LW.Y ?_
 refine LW.rr (.buildSlice (xs := [2]) (enc := eInt) (mk := vi) underlying30 sizeOf3 zeroValue3 rfl cQ (fun _ => rfl) (fun _ => rfl) (.cons (.const _) .nil) rfl) rfl ?_
 rintro _ w24 ⟨B48, cB48, rfl, NB48, yB48, xB48⟩
 have eB48 := NB48.at_
 have zB48 := NB48.size
 replace hC := hC.up NB48.up
 replace hS := hS.up NB48.up
 replace hE20 := hE20.up NB48.up
 replace hE22 := hE22.up NB48.up
 replace hE25 := hE25.up NB48.up
 replace hE28 := hE28.up NB48.up
 replace hE33 := hE33.up NB48.up
 replace hTw := hTw.up NB48.up
 replace hE39 := hE39.up NB48.up
 replace hE44 := hE44.up NB48.up
 replace hE46 := hE46.up NB48.up
 have hE48 := xB48
 refine LW.Y ?_
 refine LW.pp (.build (cs := (TP.mk (some ⟨B48, 0, none⟩) [2] 1).cells) underlying64 zeroValue64 Tryz.places64 (.cons (.t rfl) .nil) rfl) ?_
 refine LW.Y ?_
 refine LW.rr (.buildSlice (xs := [(TP.mk (some ⟨B44, 0, none⟩) [4] 1), (TP.mk (some ⟨B46, 0, none⟩) [2] 1), (TP.mk (some ⟨B48, 0, none⟩) [2] 1)]) (enc := TP.cells) (mk := fun t : TP => .agg t.cells) underlying51 sizeOf64 zeroValue64 rfl cQ (fun _ => rfl) (fun _ => rfl) (.cons (.t rfl) (.cons (.t rfl) (.cons (.t rfl) .nil))) rfl) rfl ?_
 rintro _ w25 ⟨B50, cB50, rfl, NB50, yB50, xB50⟩
 have eB50 := NB50.at_
 have zB50 := NB50.size
 replace hC := hC.up NB50.up
 replace hS := hS.up NB50.up
 replace hE20 := hE20.up NB50.up
 replace hE22 := hE22.up NB50.up
 replace hE25 := hE25.up NB50.up
 replace hE28 := hE28.up NB50.up
 replace hE33 := hE33.up NB50.up
 replace hTw := hTw.up NB50.up
 replace hE39 := hE39.up NB50.up
 replace hE44 := hE44.up NB50.up
 replace hE46 := hE46.up NB50.up
 replace hE48 := hE48.up NB50.up
 have hE50 := xB50
 refine LW.Y ?_
 refine LW.K (eC (.u rfl rfl) (en24)) rfl (sameT22_any ad33 cp33 _ _ Ts [(TP.mk (some ⟨B44, 0, none⟩) [4] 1), (TP.mk (some ⟨B46, 0, none⟩) [2] 1), (TP.mk (some ⟨B48, 0, none⟩) [2] 1)] _ hE33 hE50 hTw (fun p hp => (by simp only [List.mem_cons, List.not_mem_nil, or_false] at hp; rcases hp with rfl | rfl | rfl <;> first | exact Sl.of_els hE44 | exact Sl.of_els hE46 | exact Sl.of_els hE48)) (fun p hp => (by have h5 : p.l ∈ ([[4], [2], [2]] : List (List Int)) := (by rw [← hTl]; exact List.mem_map.2 ⟨p, hp, rfl⟩); simp only [List.mem_cons, List.not_mem_nil, or_false] at h5; rcases h5 with h | h | h <;> rw [h] <;> decide)) (fun p hp => (by simp only [List.mem_cons, List.not_mem_nil, or_false] at hp; rcases hp with rfl | rfl | rfl <;> exact Nat.le_of_ble_eq_true rfl)) (by have h5 := congrArg List.length hTl; rw [List.length_map] at h5; rw [h5]; decide)) ?_
 rintro _ w26 ⟨rfl, uw26⟩
 have zw26 := uw26.size
 replace hC := hC.up uw26
 replace hS := hS.up uw26
 replace hE20 := hE20.up uw26
 replace hE22 := hE22.up uw26
 replace hE25 := hE25.up uw26
 replace hE28 := hE28.up uw26
 replace hE33 := hE33.up uw26
 replace hTw := hTw.up uw26
 replace hE39 := hE39.up uw26
 replace hE44 := hE44.up uw26
 replace hE46 := hE46.up uw26
 replace hE48 := hE48.up uw26
 rw [show decide (Ts.map (·.l) = ([(TP.mk (some ⟨B44, 0, none⟩) [4] 1), (TP.mk (some ⟨B46, 0, none⟩) [2] 1), (TP.mk (some ⟨B48, 0, none⟩) [2] 1)] : List TP).map (·.l)) = true from decide_eq_true hTl]
 refine LW.pp (.pick_and (.t rfl) (fun hp => (by first | exact .const _ | exact .tmp rfl | exact .cond rfl (by first | assumption | (rw [hp]; rfl) | (rw [hc, hp]; rfl) | simp_all)))) ?_
 refine LW.M rfl ?_
 refine LW.Y ?_
 refine LW.pp (.la isAgg25 sizeOf25 rfl ((hS.blk 0 rfl).agg)) ?_
 refine LW.Y ?_
 refine LW.K (eC (.o rfl) (en18)) rfl (XValid_any x22 _) ?_
 rintro _ w27 ⟨rfl, uw27⟩
 have zw27 := uw27.size
 replace hC := hC.up uw27
 replace hS := hS.up uw27
 replace hE20 := hE20.up uw27
 replace hE22 := hE22.up uw27
 replace hE25 := hE25.up uw27
 replace hE28 := hE28.up uw27
 replace hE33 := hE33.up uw27
 replace hTw := hTw.up uw27
 replace hE39 := hE39.up uw27
 replace hE44 := hE44.up uw27
 replace hE46 := hE46.up uw27
 replace hE48 := hE48.up uw27
 rw [show excOk x22 = true from by kernel_rfl]
 refine LW.pp (.pick_and (.t rfl) (fun hp => (by first | exact .const _ | exact .tmp rfl | exact .cond rfl (by first | assumption | (rw [hp]; rfl) | (rw [hc, hp]; rfl) | simp_all)))) ?_
 refine LW.M rfl ?_
 refine LW.Y ?_
 refine LW.pp (.build (cs := (Exc.mk 0 0 5 0 0).cells) underlying25 zeroValue25 Tryz.places25 (.cons (.const _) .nil) kQ) ?_
 refine LW.Y ?_
 refine LW.K (eC (.o rfl) (en18)) rfl (XValid_any (Exc.mk 0 0 5 0 0) _) ?_
 rintro _ w28 ⟨rfl, uw28⟩
 have zw28 := uw28.size
 replace hC := hC.up uw28
 replace hS := hS.up uw28
 replace hE20 := hE20.up uw28
 replace hE22 := hE22.up uw28
 replace hE25 := hE25.up uw28
 replace hE28 := hE28.up uw28
 replace hE33 := hE33.up uw28
 replace hTw := hTw.up uw28
 replace hE39 := hE39.up uw28
 replace hE44 := hE44.up uw28
 replace hE46 := hE46.up uw28
 replace hE48 := hE48.up uw28
 rw [show excOk (Exc.mk 0 0 5 0 0) = false from by kernel_rfl]
 refine LW.Y ?_
 refine LW.pp (.tr (PEv.not (.t rfl)) (rfl)) ?_
 refine LW.pp (.pick_and (.t rfl) (fun hp => (by first | exact .const _ | exact .tmp rfl | exact .cond rfl (by first | assumption | (rw [hp]; rfl) | (rw [hc, hp]; rfl) | simp_all)))) ?_
 refine LW.M rfl ?_
 refine LW.Y ?_
 refine LW.pp (.loadA isAgg38 sizeOf38 (hC.size) (.t rfl) ((hS.blk 1 rfl).agg)) ?_
 refine LW.Y ?_
 refine LW.pp (.build (cs := (Exc.mk 0 0 5 0 0).cells) underlying25 zeroValue25 Tryz.places25 (.cons (.const _) .nil) kQ) ?_
 refine LW.Y ?_
 refine LW.K (eC (.u rfl rfl) (en16)) rfl (Judge_any bc (ofB l22 0) (Exc.mk 0 0 5 0 0) _ hC p22_tm (by rw [p22]; decide) (by rw [g22_len]; decide) (by rw [lo22_len]; decide) (by rw [s22_len]; decide)) ?_
 rintro _ w29 ⟨v65, L65, rfl, hm65, hT65⟩
 have hn65 : L65 = [] := List.map_eq_nil_iff.1 (hm65.trans kQ)
 subst hn65
 replace hS := hS.join hT65
 change Wx.Sep _ _ _ [_, _, _, _, _, _, _] at hS
 clear hT65 hm65
 obtain ⟨ad65, cp65, rfl, _⟩ := (hS.own 5 rfl).sl (fun _ => rfl)
 refine LW.Y ?_
 refine LW.pp (.lenS underlying27 (.t rfl)) ?_
 refine LW.Y ?_
 refine LW.pp (.tr (PEv.eql (.t rfl) (.const _)) (rfl)) ?_
 refine LW.pp (.pick_and (.t rfl) (fun hp => (by first | exact .const _ | exact .tmp rfl | exact .cond rfl (by first | assumption | (rw [hp]; rfl) | (rw [hc, hp]; rfl) | simp_all)))) ?_
 refine LW.A rfl (LW.T (CW.ret ?_))
 refine KW.ret1 rfl rfl ⟨_, rfl, ?_⟩
 exact ⟨rfl, hS.upd⟩
end Go.Proofs.YtmimclgihlhaeaaGreat
end
section
namespace Go.Wx
theorem lookW_updW (D : List (Int × List (Int × Bool))) (w id : Int) (s : Bool) (v : Int) : lookW (updW D w id s) v = if v = w then updI (lookW D w) id s else lookW D v := by
 unfold updW
 split
 · rename_i hm
   unfold lookW
   rw [List.find?_map]
   have hp : ((fun e : Int × List (Int × Bool) => decide (e.1 = v)) ∘ fun e => if e.1 = w then (w, updI e.2 id s) else e) = fun e => decide (e.1 = v) := funext fun e => by
     simp only [Function.comp]
     split
     · rename_i h; rw [h]
     rfl
   rw [hp]
   by_cases hv : v = w
   · rw [if_pos hv, hv]
     cases hf : D.find? fun e => decide (e.1 = w) with
     | none =>
       obtain ⟨e, he, ew⟩ := List.mem_map.1 hm
       exact absurd (List.find?_eq_none.1 hf e he) (by simp [ew])
     | some e =>
       have he : e.1 = w := of_decide_eq_true (List.find?_some (p := fun e : Int × List (Int × Bool) => decide (e.1 = w)) hf)
       simp [he]
   rw [if_neg hv]
   cases hf : D.find? fun e => decide (e.1 = v) with
   | none => rfl
   | some e =>
     have he : e.1 = v := of_decide_eq_true (List.find?_some (p := fun e : Int × List (Int × Bool) => decide (e.1 = v)) hf)
     have hn : ¬ e.1 = w := by rw [he]; exact hv
     simp [hn]
 rename_i hm
 have hf : D.find? (fun e => decide (e.1 = w)) = none := List.find?_eq_none.2 fun e he h => hm (List.mem_map.2 ⟨e, he, of_decide_eq_true h⟩)
 unfold lookW
 rw [List.find?_append]
 by_cases hv : v = w
 · rw [if_pos hv, hv, hf]; simp
 rw [if_neg hv]
 have : [(w, updI [] id s)].find? (fun e => decide (e.1 = v)) = none := by
   rw [List.find?_cons, decide_eq_false (fun h => hv h.symm)]; rfl
 rw [this, Option.or_none]
theorem updI_any (L : List (Int × Bool)) (id : Int) (s : Bool) : (updI L id s).any (·.2) = (L.any (·.2) || s) := by
 unfold updI
 split
 · rename_i hm
   obtain ⟨q, hq, hi⟩ := List.mem_map.1 hm
   rw [Bool.eq_iff_iff, List.any_map, List.any_eq_true, Bool.or_eq_true, List.any_eq_true]
   constructor
   · rintro ⟨x, hx, h⟩
     simp only [Function.comp] at h
     split at h
     · rw [Bool.or_eq_true] at h
       exact h.imp (fun h => ⟨x, hx, h⟩) _root_.id
     exact .inl ⟨x, hx, h⟩
   rintro (⟨x, hx, h⟩ | h)
   · refine ⟨x, hx, ?_⟩
     simp only [Function.comp]
     split
     · simp [h]
     exact h
   refine ⟨q, hq, ?_⟩
   simp only [Function.comp]
   rw [if_pos hi]
   simp [h]
 simp
def ownB (ss gs : List Fact) (x : Exc) (w : Int) (p : Fact) : Bool := hereE x p && mayB gs x p && decide (whoL ss p.Time p.Wafer = w)
def lkF (ss gs : List Fact) (x : Exc) (w : Int) (l : List Fact) : List (Int × Bool) := l.foldl (fun L p => if ownB ss gs x w p then updI L p.ID (sureB x p) else L) []
theorem lkF_snoc (ss gs : List Fact) (x : Exc) (w : Int) (l : List Fact) (p : Fact) : lkF ss gs x w (l ++ [p]) = if ownB ss gs x w p then updI (lkF ss gs x w l) p.ID (sureB x p) else lkF ss gs x w l := by
 unfold lkF
 rw [List.foldl_append]
 rfl
theorem whyF_snoc (ss gs : List Fact) (x : Exc) (l : List Fact) (p : Fact) : whyF ss gs x (l ++ [p]) = if hereE x p && mayB gs x p then updW (whyF ss gs x l) (whoL ss p.Time p.Wafer) p.ID (sureB x p) else whyF ss gs x l := by
 unfold whyF
 rw [List.foldl_append]
 rfl
theorem lookW_why (ss gs : List Fact) (x : Exc) (w : Int) (l : List Fact) : lookW (whyF ss gs x l) w = lkF ss gs x w l := by
 refine rev_ind (p := fun l => lookW (whyF ss gs x l) w = lkF ss gs x w l) rfl (fun l p h => ?_) l
 rw [whyF_snoc, lkF_snoc]
 unfold ownB
 cases h1 : hereE x p && mayB gs x p with
 | false => simpa using h
 | true =>
   rw [if_pos rfl, lookW_updW, Bool.true_and]
   by_cases e : w = whoL ss p.Time p.Wafer
   · rw [if_pos e, ← e, h]; simp
   rw [if_neg e, h, if_neg]
   simpa using fun h' : whoL ss p.Time p.Wafer = w => e h'.symm
theorem lkF_any (ss gs : List Fact) (x : Exc) (w : Int) (l : List Fact) : (lkF ss gs x w l).any (·.2) = l.any fun p => ownB ss gs x w p && sureB x p := by
 refine rev_ind (p := fun l => (lkF ss gs x w l).any (·.2) = l.any fun p => ownB ss gs x w p && sureB x p) rfl (fun l p h => ?_) l
 rw [lkF_snoc, List.any_append, ← h]
 cases h1 : ownB ss gs x w p with
 | false => simp [h1]
 | true => rw [if_pos rfl, updI_any]; simp [h1]
theorem lkF_key (ss gs : List Fact) (x : Exc) (w : Int) (l : List Fact) (k : Int) : k ∈ (lkF ss gs x w l).map (·.1) ↔ ∃ p ∈ l, ownB ss gs x w p = true ∧ p.ID = k := by
 refine rev_ind (p := fun l => k ∈ (lkF ss gs x w l).map (·.1) ↔ ∃ p ∈ l, ownB ss gs x w p = true ∧ p.ID = k) (by simp [lkF]) (fun l p h => ?_) l
 rw [lkF_snoc]
 have e : (∃ q ∈ l ++ [p], ownB ss gs x w q = true ∧ q.ID = k) ↔ (∃ q ∈ l, ownB ss gs x w q = true ∧ q.ID = k) ∨ (ownB ss gs x w p = true ∧ p.ID = k) := by
   simp only [List.mem_append, List.mem_singleton]
   constructor
   · rintro ⟨f, hf | rfl, h2⟩
     · exact .inl ⟨f, hf, h2⟩
     exact .inr h2
   rintro (⟨f, hf, h2⟩ | h2)
   · exact ⟨f, .inl hf, h2⟩
   exact ⟨p, .inr rfl, h2⟩
 rw [e]
 cases h1 : ownB ss gs x w p with
 | false => rw [if_neg Bool.false_ne_true, h]; simp
 | true => rw [if_pos rfl, updI_keys, h]; exact or_congr Iff.rfl ⟨fun e => ⟨rfl, e.symm⟩, fun e => e.2.symm⟩
def telW (b : Base) (x : Exc) (w : Int) : Int := if b.Processes.any (fun p => ownB b.Swaps b.Gaps x w p && sureB x p) then 2 else if b.Processes.any (ownB b.Swaps b.Gaps x w) then 1 else 0
theorem lkF_nil {ss gs : List Fact} {x : Exc} {w : Int} {l : List Fact} : lkF ss gs x w l = [] ↔ l.any (ownB ss gs x w) = false := by
 rw [List.any_eq_false]
 constructor
 · intro h p hp h1
   have := (lkF_key ss gs x w l p.ID).2 ⟨p, hp, h1, rfl⟩
   rw [h] at this
   cases this
 intro h
 cases e : lkF ss gs x w l with
 | nil => rfl
 | cons q r =>
   have h1 : q.1 ∈ (lkF ss gs x w l).map (·.1) := by rw [e]; exact List.mem_map.2 ⟨q, List.mem_cons_self, rfl⟩
   obtain ⟨p, hp, h2, _⟩ := (lkF_key ss gs x w l q.1).1 h1
   exact absurd h2 (h p hp)
theorem vdSt_tel2 (b : Base) (x : Exc) (w : Int) : (vdSt (lkF b.Swaps b.Gaps x w b.Processes)).1 = telW b x w := by
 unfold vdSt telW
 rw [lkF_any]
 split
 · rfl
 cases h : b.Processes.any (ownB b.Swaps b.Gaps x w) with
 | false => rw [if_pos (lkF_nil.2 h)]; rfl
 | true => rw [if_neg (fun e => by rw [lkF_nil.1 e] at h; cases h)]; rfl
theorem judF_len {b : Base} {x : Exc} (hx : excOk x = true) : (judF b x).length = (wafersL b.Lots b.Processes b.Swaps).length := by
 unfold judF
 rw [if_pos hx, List.length_map]
theorem wI_in {n : Int} (h0 : -9223372036854775808 ≤ n) (h1 : n < 9223372036854775808) : wI n = n := wrap_i64_in h0 oQ
theorem fct_tm {k : Nat} {y : I5} (h : I5Ok y) : tmOk (fct k y) := by
 obtain ⟨ha, hb, hc, hd, he⟩ := h
 have p1 := pick_range (c := y.c) (n := 200) hc cQ
 have p2 := pick_range (c := y.d) (n := 20) hd cQ
 have p3 := pick_range (c := y.d) (n := 9) hd cQ
 have q1 := wI_in (n := pickI y.c 200 + pickI y.d 20) oQ oQ
 have q2 := wI_in (n := pickI y.c 200 + pickI y.d 9) oQ oQ
 have q3 := wI_in (n := (pickI y.c 200).tdiv 4) (by rw [Int.tdiv_eq_ediv_of_nonneg p1.1]; omega) (by rw [Int.tdiv_eq_ediv_of_nonneg p1.1]; omega)
 have q4 := Int.tdiv_eq_ediv_of_nonneg (b := 4) p1.1
 unfold fct
 split
 · unfold tmOk fctG; dsimp only; rw [q2]; omega
 split
 · unfold tmOk fctS; dsimp only [zeroF, fact0]; omega
 split
 · unfold tmOk fctL; dsimp only [zeroF, fact0]; rw [q3, q4]; omega
 unfold tmOk fctP; dsimp only; rw [q1]; omega
theorem fcts_mem {xs : List I5} {f : Fact} (h : f ∈ fcts xs) : ∃ k y, y ∈ xs ∧ k < 30 ∧ f = fct k y := by
 unfold fcts at h
 obtain ⟨k, hk, e⟩ := List.mem_mapIdx.1 h
 rw [List.length_take] at hk
 exact ⟨k, _, List.mem_of_mem_take (List.getElem_mem (by rw [List.length_take]; exact hk)), by omega, e.symm⟩
theorem fb_tm {xs : List I5} (hx : ∀ x ∈ xs, I5Ok x) (d : Int) : ∀ p ∈ (ofB (fcts xs) d).Processes, tmOk p := fun p hp => by
 have h := ((lst_mem (l := fcts xs) (d := d) (j := 0) cQ).1 hp).1.1
 obtain ⟨k, y, hy, _, rfl⟩ := fcts_mem h
 exact fct_tm (hx y hy)
theorem fb_len (l : List Fact) (d : Int) {j : Nat} (hj : j < 11) : (lstOf (ofB l d) j).length ≤ l.length :=
 (lst_nodup l d hj).length_le_of_subset fun _ hx => ((lst_mem hj).1 hx).1.1
theorem fb_lens {l : List Fact} (h : l.length ≤ 100) (d : Int) : (ofB l d).Processes.length ≤ 100 ∧ (ofB l d).Gaps.length ≤ 100 ∧ (ofB l d).Lots.length ≤ 100 ∧ (ofB l d).Swaps.length ≤ 100 :=
 ⟨Nat.le_trans (fb_len l d (j := 0) cQ) h, Nat.le_trans (fb_len l d (j := 10) cQ) h, Nat.le_trans (fb_len l d (j := 3) cQ) h, Nat.le_trans (fb_len l d (j := 2) cQ) h⟩
theorem span_ok {y : I5} (h : I5Ok y) : (spanX y).tool = 2 ∧ (0 ≤ (spanX y).chamber ∧ (spanX y).chamber ≤ 1) ∧ (0 ≤ (spanX y).frm ∧ (spanX y).frm ≤ 199) ∧ ((spanX y).frm ≤ (spanX y).to ∧ (spanX y).to ≤ (spanX y).frm + 49) ∧ 0 ≤ (spanX y).err ∧ (spanX y).err ≤ 11 := by
 obtain ⟨ha, hb, hc, hd, he⟩ := h
 have p1 := pick_range (c := y.a) (n := 2) ha cQ
 have p2 := pick_range (c := y.b) (n := 200) hb cQ
 have p3 := pick_range (c := y.c) (n := 50) hc cQ
 have p4 := pick_range (c := y.d) (n := 12) hd cQ
 have q1 := wI_in (n := pickI y.b 200 + pickI y.c 50) oQ oQ
 unfold spanX
 dsimp only
 rw [q1]
 omega
end Go.Wx
namespace Go.Proofs.YtmimclgihlhaeaaGreat
open Go.Proofs.Tryz
open Go.Wx Go.RowKit
end Go.Proofs.YtmimclgihlhaeaaGreat
end
section
namespace Go.Wx
theorem addI_nodup {ks : List Int} {k : Int} (h : ks.Nodup) : (addI ks k).Nodup := by
 unfold addI
 split
 · exact h
 rename_i e
 exact List.nodup_append.2 ⟨h, by simp, fun a ha c hc => by rw [List.mem_singleton] at hc; subst hc; exact fun e2 => e (e2 ▸ ha)⟩
theorem foldAdd {α : Type} (g : α → Int) : ∀ (l : List α) (ks : List Int), (ks.Nodup → (l.foldl (fun ks x => addI ks (g x)) ks).Nodup) ∧ ∀ k, k ∈ l.foldl (fun ks x => addI ks (g x)) ks ↔ k ∈ ks ∨ ∃ x ∈ l, g x = k
 | [], ks => ⟨fun h => h, fun k => by simp⟩
 | x :: l, ks => by
   have ih := foldAdd g l (addI ks (g x))
   rw [List.foldl_cons]
   refine ⟨fun h => ih.1 (addI_nodup h), fun k => ?_⟩
   rw [ih.2 k, addI_mem]
   constructor
   · rintro ((h | h) | ⟨y, hy, e⟩)
     · exact .inl h
     · exact .inr ⟨x, List.mem_cons_self, h.symm⟩
     exact .inr ⟨y, List.mem_cons_of_mem _ hy, e⟩
   rintro (h | ⟨y, hy, e⟩)
   · exact .inl (.inl h)
   rcases List.mem_cons.1 hy with rfl | hy
   · exact .inl (.inr e.symm)
   exact .inr ⟨y, hy, e⟩
theorem sortI_mem {ks : List Int} {k : Int} : k ∈ sortI ks ↔ k ∈ ks := (List.mergeSort_perm ks _).mem_iff
theorem wafersL_mem {lots ps ss : List Fact} {k : Int} : k ∈ wafersL lots ps ss ↔ isIDb k = true ∧ ((∃ f ∈ lots, f.Wafer = k) ∨ ∃ f ∈ ps, whoL ss f.Time f.Wafer = k) := by
 unfold wafersL proK lotK
 rw [sortI_mem, List.mem_filter, (foldAdd (fun f : Fact => whoL ss f.Time f.Wafer) ps _).2, (foldAdd (fun f : Fact => f.Wafer) lots _).2]
 constructor
 · rintro ⟨(h | h) | h, hi⟩
   · cases h
   · exact ⟨hi, .inl h⟩
   exact ⟨hi, .inr h⟩
 rintro ⟨hi, h | h⟩
 · exact ⟨.inl (.inr h), hi⟩
 exact ⟨.inr h, hi⟩
theorem ordG_mem {p : Fact → Bool} {l : List Fact} {f : Fact} : f ∈ ordG p l ↔ f ∈ l ∧ p f = true := by
 unfold ordG
 rw [(sortK_sts _).same.mem, List.mem_filter]
def vdW (b : Base) (x : Exc) (w : Int) : Vd := vdOf w (lkF b.Swaps b.Gaps x w b.Processes)
theorem judF_map {b : Base} {x : Exc} (hx : excOk x = true) : judF b x = (wafersL b.Lots b.Processes b.Swaps).map (vdW b x) := by
 unfold judF vdW
 rw [if_pos hx]
 exact List.map_congr_left fun w _ => by rw [lookW_why]
theorem verdF_in {b : Base} {x : Exc} (hx : excOk x = true) {w : Int} (hw : w ∈ wafersL b.Lots b.Processes b.Swaps) : verdF (judF b x) w = vdW b x w := by
 unfold verdF
 rw [judF_map hx]
 cases e : ((wafersL b.Lots b.Processes b.Swaps).map (vdW b x)).find? fun v => decide (v.w = w) with
 | none => exact absurd (List.find?_eq_none.1 e _ (List.mem_map.2 ⟨w, hw, rfl⟩)) (by simp [vdW, vdOf])
 | some v =>
   have h1 : v.w = w := of_decide_eq_true (List.find?_some (p := fun v : Vd => decide (v.w = w)) e)
   obtain ⟨u, _, h2⟩ := List.mem_map.1 (List.mem_of_find?_eq_some e)
   rw [← h2] at h1 ⊢
   exact congrArg (vdW b x) h1
theorem verdF_out {b : Base} {x : Exc} (hx : excOk x = true) {w : Int} (hw : w ∉ wafersL b.Lots b.Processes b.Swaps) : verdF (judF b x) w = noVd := by
 unfold verdF
 rw [judF_map hx, List.find?_eq_none.2]
 · rfl
 intro v hv h1
 obtain ⟨u, hu, h2⟩ := List.mem_map.1 hv
 rw [← h2] at h1
 exact hw (of_decide_eq_true h1 ▸ hu)
theorem vdW_t (b : Base) (x : Exc) (w : Int) : (vdW b x w).t = telW b x w := vdSt_tel2 b x w
theorem tel_range (b : Base) (x : Exc) (w : Int) : 0 ≤ telW b x w ∧ telW b x w ≤ 2 := by
 unfold telW
 split
 · decide
 split <;> decide
theorem tel_pos {b : Base} {x : Exc} {w : Int} : telW b x w ≠ 0 ↔ ∃ p ∈ b.Processes, ownB b.Swaps b.Gaps x w p = true := by
 unfold telW
 constructor
 · intro h
   split at h
   · rename_i h1
     obtain ⟨p, hp, h2⟩ := List.any_eq_true.1 h1
     exact ⟨p, hp, (Bool.and_eq_true _ _ ▸ h2).1⟩
   split at h
   · rename_i h1
     obtain ⟨p, hp, h2⟩ := List.any_eq_true.1 h1
     exact ⟨p, hp, h2⟩
   exact absurd rfl h
 rintro ⟨p, hp, h⟩
 split
 · decide
 rw [if_pos (List.any_eq_true.2 ⟨p, hp, h⟩)]; decide
theorem tel_two {b : Base} {x : Exc} {w : Int} : telW b x w = 2 ↔ ∃ p ∈ b.Processes, (ownB b.Swaps b.Gaps x w p && sureB x p) = true := by
 unfold telW
 rw [← List.any_eq_true]
 constructor
 · intro h
   split at h
   · assumption
   split at h
   · exact absurd (show (1 : Int) = 2 from h) cQ
   exact absurd (show (0 : Int) = 2 from h) cQ
 intro h; rw [if_pos h]
end Go.Wx
namespace Go.Proofs.YtmimclgihlhaeaaGreat
open Go.Proofs.Tryz
open Go.Wx Go.RowKit
end Go.Proofs.YtmimclgihlhaeaaGreat
end
section
namespace Go.Wx
def eBool (b : Bool) : Array Go.Value := #[.bool b]
theorem flat_eBool (xs : List Bool) : xs.flatMap (fun x => (eBool x).toList) = xs.map Go.Value.bool := by
 induction xs with
 | nil => rfl
 | cons x xs ih => rw [List.flatMap_cons, ih]; rfl
theorem own_bools {w : World} {B : Nat} {xs : List Bool} {e : TypeId} (hb : Blk w B (xs.map Go.Value.bool).toArray e) (hn : xs.length ≤ maxLen) : OwnS w 0 e 1 eBool (.slice (some ⟨B, 0, none⟩) xs.length xs.length) xs := by
 refine ⟨by rw [flat_length _ 1 (fun _ => rfl)], .inr ⟨B, xs.length, (xs.map Go.Value.bool).toArray, rfl, Nat.zero_le _, hb, Nat.le_refl _, hn, by simp, ?_⟩⟩
 rw [flat_eBool]
 simp [List.take_of_length_le]
section
variable {P : Program} {n : Nat} {ds : List Deferred} {l : Env} {w : World} {d : Option Tmp} {ty : TypeId} {ps : String} {af : Array Edge} {g : Option (Nat × Bool)}
theorem REv.makeBools {T e : TypeId} {i : TypeInfo} {x y : Operand} {m : Nat} (hT : P.underlying T = some (.slice e)) (hi : P.info? e = some i) (hz : i.zero = some (.bool false)) (hs : i.size = 1) (hb : i.bytes = 1) (hx : Val l x (vi (m : Int))) (hy : Val l y (vi (m : Int))) (hm : m ≤ 1000000000) :
   REv P n ds l w ⟨d, .makeSlice T x y, ty, ps, af, g⟩ (fun v w' => Up w w' ∧ ∃ B, w.heap.size ≤ B ∧ v = .slice (some ⟨B, 0, none⟩) m m ∧ OwnS w' 0 e 1 eBool (.slice (some ⟨B, 0, none⟩) m m) (List.replicate m false)) := fun a ha => by
 have hr2 := run_make (P := P) w T e i (.bool false) hT hi hz .i64 .i64 (m : Int) (m : Int) oQ (Int.le_refl _) (by rw [hb]; omega) oQ
 rw [hs, Nat.mul_one, Int.toNat_natCast] at hr2
 have e1 : madeCells (Go.Value.bool false).cells m = ((List.replicate m false).map Go.Value.bool).toArray := by
   apply Array.ext'
   rw [show (Go.Value.bool false).cells = #[.bool false] from rfl, toList_madeCells_one]
   simp
 rw [e1] at hr2
 have N := New.alloc w ((List.replicate m false).map Go.Value.bool).toArray e
 refine ⟨_, _, run_v (by rw [ha.ev hx, ha.ev hy]; exact hr2), N.up, _, by rw [N.at_]; exact Nat.le_refl _, rfl, ?_⟩
 have h := own_bools N.blk (by rw [List.length_replicate]; unfold maxLen; omega)
 rw [List.length_replicate] at h
 exact h
end
end Go.Wx
namespace Go.Proofs.YtmimclgihlhaeaaGreat
open Go.Proofs.Tryz
open Go.Wx Go.RowKit
end Go.Proofs.YtmimclgihlhaeaaGreat
end
section
namespace Go.Wx
def truS (x : Exc) (wr : List Int) (k : Nat) (p : Fact) : Int := if 2 * k + 1 < wr.length then p.Time + pickI (wr.getD (2 * k) 0) (2 * x.err + 1) - x.err else p.Time
def truE (x : Exc) (wr : List Int) (k : Nat) (p : Fact) : Int := if 2 * k + 1 < wr.length then max (truS x wr k p) (p.Until + pickI (wr.getD (2 * k + 1) 0) (2 * x.err + 1) - x.err) else p.Until
def truB (x : Exc) (wr : List Int) (k : Nat) (p : Fact) : Bool := decide (p.Tool = x.tool) && decide (p.Chamber = x.chamber) && decide (truS x wr k p ≤ x.to) && decide (x.frm ≤ truE x wr k p)
def inL (b : Base) (x : Exc) (wr : List Int) : Nat → List Bool
 | 0 => List.replicate 20 false
 | k + 1 => match b.Processes[k]? with
   | some p => if truB x wr k p = true then (inL b x wr k).set (whoL b.Swaps p.Time p.Wafer).toNat true else inL b x wr k
   | none => inL b x wr k
theorem inL_len (b : Base) (x : Exc) (wr : List Int) : ∀ k, (inL b x wr k).length = 20
 | 0 => List.length_replicate
 | k + 1 => by
   have ih := inL_len b x wr k
   unfold inL
   split
   · split
     · rw [List.length_set, ih]
     exact ih
   exact ih
theorem inL_step {b : Base} {x : Exc} {wr : List Int} {k : Nat} {p : Fact} (hp : b.Processes[k]? = some p) : inL b x wr (k + 1) = if truB x wr k p = true then (inL b x wr k).set (whoL b.Swaps p.Time p.Wafer).toNat true else inL b x wr k := by
 conv => lhs; unfold inL
 rw [hp]
theorem inL_iff {b : Base} {x : Exc} {wr : List Int} {w : Nat} (hw : w < 20) : ∀ k, (inL b x wr k)[w]? = some true ↔ ∃ j p, j < k ∧ b.Processes[j]? = some p ∧ truB x wr j p = true ∧ (whoL b.Swaps p.Time p.Wafer).toNat = w
 | 0 => by
   unfold inL
   rw [List.getElem?_replicate, if_pos hw]
   constructor
   · intro h; cases h
   rintro ⟨j, _, hj, _⟩; omega
 | k + 1 => by
   have ih := inL_iff (b := b) (x := x) (wr := wr) hw k
   have hl := inL_len b x wr k
   cases hp : b.Processes[k]? with
   | none =>
     have e : inL b x wr (k + 1) = inL b x wr k := by conv => lhs; unfold inL
                                                      rw [hp]
     rw [e, ih]
     constructor
     · rintro ⟨j, p, hj, h⟩; exact ⟨j, p, by omega, h⟩
     rintro ⟨j, p, hj, h1, h2⟩
     have : j ≠ k := fun e => by subst e; rw [hp] at h1; cases h1
     exact ⟨j, p, by omega, h1, h2⟩
   | some q =>
     rw [inL_step hp]
     have hex : (∃ j p, j < k + 1 ∧ b.Processes[j]? = some p ∧ truB x wr j p = true ∧ (whoL b.Swaps p.Time p.Wafer).toNat = w) ↔ (∃ j p, j < k ∧ b.Processes[j]? = some p ∧ truB x wr j p = true ∧ (whoL b.Swaps p.Time p.Wafer).toNat = w) ∨ (truB x wr k q = true ∧ (whoL b.Swaps q.Time q.Wafer).toNat = w) := by
       constructor
       · rintro ⟨j, p, hj, h1, h2⟩
         by_cases e : j = k
         · subst e; rw [hp] at h1; cases h1; exact .inr h2
         exact .inl ⟨j, p, by omega, h1, h2⟩
       rintro (⟨j, p, hj, h⟩ | h)
       · exact ⟨j, p, by omega, h⟩
       exact ⟨k, q, by omega, hp, h⟩
     rw [hex]
     by_cases ht : truB x wr k q = true
     · rw [if_pos ht]
       by_cases e : (whoL b.Swaps q.Time q.Wafer).toNat = w
       · subst e
         rw [List.getElem?_set_self (by rw [hl]; exact hw)]
         exact ⟨fun _ => .inr ⟨ht, rfl⟩, fun _ => rfl⟩
       rw [List.getElem?_set_ne e, ih]
       exact ⟨.inl, fun h => h.resolve_right fun h => e h.2⟩
     rw [if_neg ht, ih]
     exact ⟨.inl, fun h => h.resolve_right fun h => ht h.1⟩
theorem tru_near {x : Exc} {wr : List Int} (he : 0 ≤ x.err ∧ x.err ≤ 11) (hw : ∀ i ∈ wr, inI i) (k : Nat) (p : Fact) : p.Time - x.err ≤ truS x wr k p ∧ truS x wr k p ≤ p.Time + x.err ∧ p.Until - x.err ≤ truE x wr k p ∧ (p.Time ≤ p.Until → truE x wr k p ≤ p.Until + x.err) := by
 unfold truE truS
 split
 · rename_i h
   have hg : ∀ i, i < wr.length → inI (wr.getD i 0) := fun i hi => by
     rw [List.getD_eq_getElem?_getD, List.getElem?_eq_getElem hi]
     exact hw _ (List.getElem_mem hi)
   have p1 := pick_range (c := wr.getD (2 * k) 0) (n := 2 * x.err + 1) (hg _ oQ) oQ
   have p2 := pick_range (c := wr.getD (2 * k + 1) 0) (n := 2 * x.err + 1) (hg _ h) oQ
   omega
 omega
theorem who_8 {L : List Fact} (h : ∀ f ∈ L, (1 ≤ f.Wafer ∧ f.Wafer ≤ 8) ∧ 1 ≤ f.Other ∧ f.Other ≤ 8) {k : Int} (hk : 1 ≤ k ∧ k ≤ 8) : 1 ≤ whoF L k ∧ whoF L k ≤ 8 := by
 induction L with
 | nil => exact hk
 | cons f L ih =>
   have h1 := h f List.mem_cons_self
   have h2 := ih fun g hg => h g (List.mem_cons_of_mem _ hg)
   show 1 ≤ tau f (whoF L k) ∧ tau f (whoF L k) ≤ 8
   unfold tau
   split
   · exact h1.2
   split
   · exact h1.1
   exact h2
theorem fct_w {k : Nat} {y : I5} (h : I5Ok y) : ((fct k y).Kind = 1 → (1 ≤ (fct k y).Wafer ∧ (fct k y).Wafer ≤ 8) ∧ (fct k y).Time ≤ (fct k y).Until) ∧ ((fct k y).Kind = 3 → (1 ≤ (fct k y).Wafer ∧ (fct k y).Wafer ≤ 8) ∧ 1 ≤ (fct k y).Other ∧ (fct k y).Other ≤ 8) := by
 obtain ⟨ha, hb, hc, hd, he⟩ := h
 have p1 := pick_range (c := y.b) (n := 8) hb cQ
 have p2 := pick_range (c := y.b) (n := 7) hb cQ
 have p3 := pick_range (c := y.c) (n := 200) hc cQ
 have p4 := pick_range (c := y.d) (n := 20) hd cQ
 have q1 := wI_in (n := 1 + pickI y.b 8) oQ oQ
 have q2 := wI_in (n := 1 + pickI y.b 7) oQ oQ
 have q3 := wI_in (n := pickI y.c 200 + pickI y.d 20) oQ oQ
 have q4 := wI_in (n := 1 + pickI y.b 7 + 1) oQ oQ
 unfold fct
 split
 · exact ⟨fun h => absurd h (by simp [fctG]), fun h => absurd h (by simp [fctG])⟩
 split
 · refine ⟨fun h => absurd h (by simp [fctS]), fun _ => ?_⟩
   simp only [fctS, q2, q4]
   omega
 split
 · exact ⟨fun h => absurd h (by simp [fctL]), fun h => absurd h (by simp [fctL])⟩
 refine ⟨fun _ => ?_, fun h => absurd h (by simp [fctP])⟩
 simp only [fctP, q1, q3]
 omega
theorem fb_w {xs : List I5} (hx : ∀ x ∈ xs, I5Ok x) (d : Int) : (∀ p ∈ (ofB (fcts xs) d).Processes, (1 ≤ p.Wafer ∧ p.Wafer ≤ 8) ∧ p.Time ≤ p.Until) ∧ ∀ p ∈ (ofB (fcts xs) d).Swaps, (1 ≤ p.Wafer ∧ p.Wafer ≤ 8) ∧ 1 ≤ p.Other ∧ p.Other ≤ 8 := by
 constructor
 · intro p hp
   have h := (lst_mem (l := fcts xs) (d := d) (j := 0) cQ).1 hp
   obtain ⟨k, y, hy, _, rfl⟩ := fcts_mem h.1.1
   exact (fct_w (hx y hy)).1 h.2.2
 intro p hp
 have h := (lst_mem (l := fcts xs) (d := d) (j := 2) cQ).1 hp
 obtain ⟨k, y, hy, _, rfl⟩ := fcts_mem h.1.1
 exact (fct_w (hx y hy)).2 h.2.2
theorem isID_8 {k : Int} (h : 1 ≤ k ∧ k ≤ 8) : isIDb k = true := by
 unfold isIDb
 rw [decide_eq_true h.1, decide_eq_true (by omega : k ≤ 1000000)]; rfl
theorem whoL_8 {ss : List Fact} (h : ∀ f ∈ ss, (1 ≤ f.Wafer ∧ f.Wafer ≤ 8) ∧ 1 ≤ f.Other ∧ f.Other ≤ 8) {t k : Int} (hk : 1 ≤ k ∧ k ≤ 8) : 1 ≤ whoL ss t k ∧ whoL ss t k ≤ 8 := by
 rw [whoL_eq, if_pos (isID_8 hk)]
 exact who_8 (fun f hf => h f (ordG_mem.1 hf).1) hk
theorem contains_ok {b : Base} {x : Exc} {wr : List Int} (hx : excOk x = true) (he : 0 ≤ x.err ∧ x.err ≤ 11) (hw : ∀ i ∈ wr, inI i) (hP : ∀ p ∈ b.Processes, (1 ≤ p.Wafer ∧ p.Wafer ≤ 8) ∧ p.Time ≤ p.Until) (hS : ∀ p ∈ b.Swaps, (1 ≤ p.Wafer ∧ p.Wafer ≤ 8) ∧ 1 ≤ p.Other ∧ p.Other ≤ 8) {w : Nat} (h1 : 1 ≤ w) (h2 : w < 20) : ((inL b x wr b.Processes.length)[w]? = some true → 1 ≤ (verdF (judF b x) w).t) ∧ ((verdF (judF b x) w).t = 2 → (inL b x wr b.Processes.length)[w]? = some true) := by
 rw [inL_iff h2]
 have hid : isIDb (w : Int) = true := by
   unfold isIDb
   rw [decide_eq_true (by omega : (1 : Int) ≤ w), decide_eq_true (by omega : (w : Int) ≤ 1000000)]; rfl
 constructor
 · rintro ⟨j, p, _, hp, ht, hwp⟩
   have hm := List.mem_of_getElem? hp
   have hr := whoL_8 hS (t := p.Time) (hP p hm).1
   have hwe : whoL b.Swaps p.Time p.Wafer = (w : Int) := by omega
   have hin : (w : Int) ∈ wafersL b.Lots b.Processes b.Swaps := wafersL_mem.2 ⟨hid, .inr ⟨p, hm, hwe⟩⟩
   have hn := tru_near (wr := wr) he hw j p
   have hn2 := hn.2.2.2 (hP p hm).2
   have ho : ownB b.Swaps b.Gaps x (w : Int) p = true := by
     unfold truB at ht
     simp only [Bool.and_eq_true, decide_eq_true_eq] at ht
     obtain ⟨⟨⟨t1, t2⟩, t3⟩, t4⟩ := ht
     unfold ownB hereE mayB
     have hm2 : mtB x.frm x.to x.err p = true := by
       unfold mtB
       rw [decide_eq_true (by omega : p.Time - x.err ≤ x.to), decide_eq_true (by omega : x.frm ≤ p.Until + x.err)]; rfl
     simp only [Bool.and_eq_true, Bool.or_eq_true, decide_eq_true_eq]
     exact ⟨⟨⟨t1.symm, t2.symm⟩, .inr (.inl hm2)⟩, hwe⟩
   have h3 := tel_pos.2 ⟨p, hm, ho⟩
   have h4 := tel_range b x w
   rw [verdF_in hx hin, vdW_t]
   omega
 intro ht
 by_cases hin : (w : Int) ∈ wafersL b.Lots b.Processes b.Swaps
 · rw [verdF_in hx hin, vdW_t] at ht
   obtain ⟨p, hm, h3⟩ := tel_two.1 ht
   obtain ⟨j, hj⟩ := List.getElem?_of_mem hm
   have hn := tru_near (wr := wr) he hw j p
   unfold ownB hereE sureB mtB at h3
   simp only [Bool.and_eq_true, decide_eq_true_eq] at h3
   obtain ⟨⟨⟨⟨t1, t2⟩, _⟩, t3⟩, t4, t5⟩ := h3
   refine ⟨j, p, (List.getElem?_eq_some_iff.1 hj).1, hj, ?_, by omega⟩
   unfold truB
   simp only [Bool.and_eq_true, decide_eq_true_eq]
   exact ⟨⟨⟨t1.symm, t2.symm⟩, by omega⟩, by omega⟩
 rw [verdF_out hx hin] at ht
 exact absurd (show (-1 : Int) = 2 from ht) cQ
end Go.Wx
namespace Go.Proofs.YtmimclgihlhaeaaGreat
open Go.Proofs.Tryz
open Go.Wx Go.RowKit
set_option maxHeartbeats 4000000 in
theorem LContains_any (ad : Option Addr) (cp : Nat) (xs : List I5) (y : I5) (adr : Option Addr) (cpr : Nat) (wr : List Int) (w : World) (hE0 : Els w ad 5 I5.cells xs) (hxs : ∀ x ∈ xs, I5Ok x) (hy : I5Ok y) (hE1 : Els w adr 1 eInt wr) (hwr : ∀ i ∈ wr, inI i) : Ret Tryz.prog 4 #[.slice ad xs.length cp, .agg y.cells, .slice adr wr.length cpr] w fun r w' => r = .bool true ∧ Up w w' := by
 obtain ⟨w0, rfl⟩ : ∃ w0, w0 = w := ⟨_, rfl⟩
 have hS := Sep.start no w0
 refine cS (n := 152) (m := 9) func4 rfl rfl rfl ?_
 refine CW.S ?_
 refine LW.rr (.boxA (.t rfl)) rfl ?_
 rintro _ w1 ⟨B4, rfl, NB4⟩
 have eB4 := NB4.at_
 have zB4 := NB4.size
 replace hS := hS.addB NB4
 change Wx.Sep _ _ _ [_] at hS
 refine LW.C (LW.S (CW.region ?_))
 refine LW.K (eC .nil (en10)) rfl (sane22_any _) ?_
 rintro _ w2 ⟨rfl, uw2⟩
 have zw2 := uw2.size
 replace hS := hS.up uw2
 refine LW.A rfl (LW.S (CW.region (LW.M rfl ?_)))
 refine LW.K (eC (.o rfl) (en14)) rfl (facts22_any ad cp xs _ (Els.up hE0 hS.upd)) ?_
 rintro v21 w3 ⟨hO21, uw3⟩
 have zw3 := uw3.size
 replace hS := hS.add uw3 (A' := aOwn 36 19 Fact.cells v21 (fcts xs)) (hO21.mono (Nat.zero_le _)) (fun i h => hO21.base i h)
 change Wx.Sep _ _ _ [_, _] at hS
 clear hO21
 obtain ⟨ad21, cp21, rfl, _⟩ := (hS.own 1 rfl).sl (fun _ => rfl)
 have hl21 := fcts_len xs
 refine LW.K (eC (.cons (.t rfl) (.cons (.const _) .nil)) (en13)) rfl (Of_any ad21 cp21 (fcts xs) 100000 _ (OwnS.elsS (hS.own 1 rfl) (fun _ => rfl)) oQ) ?_
 rintro _ w4 ⟨bc, rfl, hC, uw4⟩
 have zw4 := uw4.size
 replace hS := hS.up uw4
 obtain ⟨b, hb⟩ : ∃ b, b = ofB (fcts xs) 100000 := ⟨_, rfl⟩
 rw [← hb] at hC
 have hT : ∀ p ∈ b.Processes, tmOk p := by rw [hb]; exact fb_tm hxs 100000
 obtain ⟨hlP, hlG, hlL, hls⟩ : b.Processes.length ≤ 100 ∧ b.Gaps.length ≤ 100 ∧ b.Lots.length ≤ 100 ∧ b.Swaps.length ≤ 100 := by rw [hb]; exact fb_lens oQ 100000
 refine LW.rr (.allocA zeroValue38) rfl ?_
 rintro _ w5 ⟨B8, rfl, MB8⟩
 refine LW.E (.storeA sizeOf38 hC.size (.t rfl) (.t rfl) hC.one MB8.blk rfl) ?_
 intro w6 LB8
 have NB8 := MB8.set LB8
 clear LB8 MB8
 have eB8 := NB8.at_
 have zB8 := NB8.size
 replace hC := hC.up NB8.up
 replace hS := hS.addB NB8
 change Wx.Sep _ _ _ [_, _, _] at hS
 refine LW.S (CW.region ?_)
 refine LW.pp (.la isAgg26 sizeOf26 rfl ((hS.blk 0 rfl).agg)) ?_
 refine LW.K (eC (.o rfl) (en15)) rfl (span22_any y _) ?_
 rintro _ w7 ⟨rfl, uw7⟩
 have zw7 := uw7.size
 replace hS := hS.up uw7
 replace hC := hC.up uw7
 have hx0 := span_ok hy
 obtain ⟨x, hx⟩ : ∃ x, x = spanX y := ⟨_, rfl⟩
 rw [← hx] at hx0 ⊢
 clear hx
 have hxo : excOk x = true := (excOk_iff x).2 oQ
 refine LW.rr (.allocA zeroValue25) rfl ?_
 rintro _ w8 ⟨B9, rfl, MB9⟩
 refine LW.E (.storeA sizeOf25 rfl (.t rfl) (.t rfl) (Exc.one _) MB9.blk rfl) ?_
 intro w9 LB9
 have NB9 := MB9.set LB9
 clear LB9 MB9
 have eB9 := NB9.at_
 have zB9 := NB9.size
 replace hC := hC.up NB9.up
 replace hS := hS.addB NB9
 change Wx.Sep _ _ _ [_, _, _, _] at hS
 refine LW.S (CW.region ?_)
 refine LW.pp (.loadA isAgg38 sizeOf38 (hC.size) (.t rfl) ((hS.blk 2 rfl).agg)) ?_
 refine LW.pp (.la isAgg25 sizeOf25 rfl ((hS.blk 3 rfl).agg)) ?_
 refine LW.K (eC (.u rfl rfl) (en16)) rfl (Judge_any bc b x _ hC hT oQ oQ oQ oQ) ?_
 rintro _ w10 ⟨v27, L27, rfl, hm27, hT27⟩
 have hn27 : L27.length = (wafersL b.Lots b.Processes b.Swaps).length := by rw [← judF_len hxo, ← hm27, List.length_map]
 replace hC := hC.up hT27.upd
 replace hS := hS.join hT27
 change Wx.Sep _ _ _ [_, _, _, _, _, _] at hS
 clear hT27
 obtain ⟨ad27, cp27, rfl, _⟩ := (hS.own 4 rfl).sl (fun _ => rfl)
 refine LW.A rfl (LW.S ?_)
 have hU0 := hS.upd
 have hB8z := hS.blk 2 rfl
 have hB9z := hS.blk 3 rfl
 have hLz := OwnS.elsS (hS.own 4 rfl) (fun _ => rfl)
 obtain ⟨v00, h00, hs00⟩ := hC.at_ (j := 0) cQ
 obtain ⟨adP, cpP, rfl, hEP⟩ := (show Sl w10 v00 19 Fact.cells b.Processes from hs00)
 clear hS
 have hS := Sep.start no w10
 have hwl := wafersL_len b.Lots b.Processes b.Swaps
 have hw8 : (∀ p ∈ b.Processes, (1 ≤ p.Wafer ∧ p.Wafer ≤ 8) ∧ p.Time ≤ p.Until) ∧ ∀ p ∈ b.Swaps, (1 ≤ p.Wafer ∧ p.Wafer ≤ 8) ∧ 1 ≤ p.Other ∧ p.Other ≤ 8 := by rw [hb]; exact fb_w hxs 100000
 refine CW.region ?_
 refine LW.rr (.makeBools (i := Tryz.t4) (m := 20) underlying54 kQ rfl rfl rfl (.const _) (.const _) oQ) rfl ?_
 rintro _ w11 ⟨uM, B28, zM, rfl, hOM⟩
 have zw11 := uM.size
 replace hS := hS.add uM (A' := aOwn 4 1 eBool (.slice (some ⟨B28, 0, none⟩) 20 20) (inL b x wr 0)) hOM (fun i h => by cases h; exact zM)
 change Wx.Sep _ _ _ [_] at hS
 clear hOM
 refine LW.A rfl (LW.S (CW.S (LW.C (LW.T (CW.block ?_)))))
 refine CW.loopB (σ := Nat) (fun s w => (s ≤ b.Processes.length) ∧ (Wx.Sep no w10 w [aOwn 4 1 eBool (.slice (some ⟨B28, 0, none⟩) 20 20) (inL b x wr s)])) (fun s => [(12, .eq (vi (s : Int)))]) ([(2, .eq _), (7, .eq _), (8, .eq _), (9, .eq _), (10, .eq _), (11, .eq _)]) (fun s => b.Processes.length - s) 0 ?_ ⟨rfl, rfl, rfl, rfl, rfl, rfl, rfl, trivial⟩ ?_
 ·exact ⟨Nat.zero_le _, hS⟩
 rintro i w12 ⟨hi, hS⟩
 refine CW.seq (CW.S (LW.M rfl ?_))
 refine LW.pp (.fA 0 underlying38 rfl sizeOf23 rfl) ?_
 refine LW.pp (.ld isAgg23 rfl ((hB8z.up hS.upd).cell h00)) ?_
 refine LW.pp (.lenS underlying23 (.t rfl)) ?_
 refine LW.pp (.lss (.t rfl) (.t rfl)) ?_
 refine LW.T ?_
 refine CW.cond (.t rfl) (fun h33 => ?_) (fun h33 => ?_)
 ·replace h33 := dQ h33
  refine CW.skip (KW.then (CW.seq (CW.block (CW.seq ?_))))
  obtain ⟨p, hp⟩ := getElem?_of_lt (xs := b.Processes) (i := i) oQ
  obtain ⟨Bp, op_, ap, hcp⟩ := (Els.up hEP hS.upd) i p hp
  have hpm := List.mem_of_getElem? hp
  have hpt := hT p hpm
  unfold tmOk at hpt
  refine CW.region ?_
  refine LW.pp (.fA 0 underlying38 rfl sizeOf23 rfl) ?_
  refine LW.pp (.ld isAgg23 rfl ((hB8z.up hS.upd).cell h00)) ?_
  refine LW.M rfl ?_
  refine LW.pp (.indexAddr' underlying23 sizeOf36 (j := i) (.t rfl) (.t rfl) oQ ap) ?_
  refine LW.pp (.la isAgg36 sizeOf36 rfl (hcp)) ?_
  refine LW.rr (.allocA zeroValue36) rfl ?_
  rintro _ w13 ⟨B13, rfl, MB13⟩
  refine LW.E (.storeA sizeOf36 rfl (.t rfl) (.t rfl) (Fact.one _) MB13.blk rfl) ?_
  intro w14 LB13
  have NB13 := MB13.set LB13
  clear LB13 MB13
  have eB13 := NB13.at_
  have zB13 := NB13.size
  replace hS := hS.addB NB13
  change Wx.Sep _ _ _ [_, _] at hS
  refine LW.S (CW.region ?_)
  refine LW.pp (.fA 5 underlying36 rfl sizeOf3 rfl) ?_
  refine LW.pp (.ld isAgg3 rfl ((hS.blk 1 rfl).celln rfl)) ?_
  refine LW.A rfl (LW.S (CW.region ?_))
  refine LW.pp (.fA 6 underlying36 rfl sizeOf3 rfl) ?_
  refine LW.pp (.ld isAgg3 rfl ((hS.blk 1 rfl).celln rfl)) ?_
  refine LW.A rfl (LW.T ?_)
  refine CW.seq_mid (fun a1 W => Ag 152 [] ([(7, .eq (.bool true)), (8, .eq (.pointer (some ⟨B8, 0, none⟩))), (9, .eq (.pointer (some ⟨B9, 0, none⟩))), (10, .eq (.slice ad27 L27.length cp27)), (11, .eq (.slice (some ⟨B28, 0, none⟩) 20 20)), (12, .eq (vi (i : Int))), (13, .eq (.pointer (some ⟨B13, 0, none⟩))), (14, .eq (vi (truS x wr i p))), (15, .eq (vi (truE x wr i p))), (2, .eq (.slice adr wr.length cpr))]) a1 W ∧ Wx.Sep no w10 W [aOwn 4 1 eBool (.slice (some ⟨B28, 0, none⟩) 20 20) (inL b x wr i), aBlk B13 p.cells 36]) ?_ ?_
  ·skip
   refine CW.S (LW.M rfl ?_)
   refine LW.pp (.val (v' := vi (2 * (i : Int))) (PEv.mul_w (.const _) (.t rfl)) (congrArg vi (wI_in oQ oQ))) ?_
   refine LW.pp (.add (.t rfl) (.const _) oQ oQ) ?_
   refine LW.M rfl ?_
   refine LW.pp (.lenS underlying30 (.t rfl)) ?_
   refine LW.pp (.lss (.t rfl) (.t rfl)) ?_
   refine LW.T ?_
   refine CW.cond (.t rfl) (fun h50 => ?_) (fun h50 => ?_)
   ·replace h50 := dQ h50
    have hk2 : 2 * i + 1 < wr.length := by omega
    refine CW.seq ?_
    obtain ⟨r, hr⟩ := getElem?_of_lt (xs := wr) (i := 2 * i) oQ
    obtain ⟨Br, or_, ar, hcr⟩ := (Els.up hE1 (hU0.trans hS.upd)) (2 * i) r hr
    have p1 := pick_range (c := r) (n := 2 * x.err + 1) (hwr r (List.mem_of_getElem? hr)) oQ
    obtain ⟨v, hv⟩ := getElem?_of_lt (xs := wr) (i := 2 * i + 1) oQ
    have p2 := pick_range (c := v) (n := 2 * x.err + 1) (hwr v (List.mem_of_getElem? hv)) oQ
    have hts : truS x wr i p = p.Time + pickI r (2 * x.err + 1) - x.err := by unfold truS; rw [if_pos hk2, List.getD_eq_getElem?_getD, hr]; rfl
    have hte : truE x wr i p = if p.Time + pickI r (2 * x.err + 1) - x.err < p.Until + pickI v (2 * x.err + 1) - x.err then p.Until + pickI v (2 * x.err + 1) - x.err else p.Time + pickI r (2 * x.err + 1) - x.err := by unfold truE; rw [if_pos hk2, hts, List.getD_eq_getElem?_getD, hv]; show max _ (p.Until + pickI v _ - x.err) = _; split <;> omega
    refine CW.draws_then 15 kQ kQ kQ kQ kQ rfl rfl ?_
    refine HW.pp (.move (.t rfl)) ?_
    refine HW.pp (.move (.t rfl)) ?_
    refine HW.pp (.move (.t rfl)) ?_
    refine HW.pp (.val (v' := vi (((2 * i : Nat) : Int))) (PEv.mul_w (.const _) (.t rfl)) (congrArg vi ((wI_in oQ oQ).trans oQ))) ?_
    refine HW.pp (.indexAddr' underlying30 sizeOf3 (j := 2 * i) (.t rfl) (.t rfl) oQ ar) ?_
    refine HW.pp (.ld isAgg3 rfl (hcr.nth (j := 0) rfl)) ?_
    refine HW.pp (.fA 4 underlying25 rfl sizeOf3 rfl) ?_
    refine HW.pp (.ld isAgg3 rfl ((hB9z.up hS.upd).celln rfl)) ?_
    refine HW.pp (.val (v' := vi (2 * x.err)) (PEv.mul_w (.const _) (.t rfl)) (congrArg vi (wI_in oQ oQ))) ?_
    refine HW.pp (.add (.t rfl) (.const _) oQ oQ) ?_
    refine HW.c (fun a w _ ha => enter_call0 (.cons (.t rfl) (.cons (.t rfl) .nil)) (en27) a ha) rfl rfl (fun w hu => pick22_any _ _ w oQ) ?_
    refine HW.pp (.add (.t rfl) (.t rfl) oQ oQ) ?_
    refine HW.pp (.fA 4 underlying25 rfl sizeOf3 rfl) ?_
    refine HW.pp (.ld isAgg3 rfl ((hB9z.up hS.upd).celln rfl)) ?_
    refine HW.pp (.sub (.t rfl) (.t rfl) oQ oQ) ?_
    refine HW.nil ?_
    intro w15 uw15
    have zw15 := uw15.size
    replace hS := hS.up uw15
    refine LW.A rfl (LW.T ?_)
    obtain ⟨Bv, ov, av, hcv⟩ := (Els.up hE1 (hU0.trans hS.upd)) (2 * i + 1) v hv
    refine CW.draws_then 18 kQ kQ kQ kQ kQ rfl rfl ?_
    refine HW.pp (.move (.t rfl)) ?_
    refine HW.pp (.move (.t rfl)) ?_
    refine HW.pp (.move (.t rfl)) ?_
    refine HW.pp (.move (.t rfl)) ?_
    refine HW.pp (.val (v' := vi (2 * (i : Int))) (PEv.mul_w (.const _) (.t rfl)) (congrArg vi (wI_in oQ oQ))) ?_
    refine HW.pp (.val (v' := vi ((2 * i + 1 : Nat) : Int)) (PEv.add (.t rfl) (.const _) oQ oQ) (congrArg vi oQ)) ?_
    refine HW.pp (.indexAddr' underlying30 sizeOf3 (j := 2 * i + 1) (.t rfl) (.t rfl) oQ av) ?_
    refine HW.pp (.ld isAgg3 rfl (hcv.nth (j := 0) rfl)) ?_
    refine HW.pp (.fA 4 underlying25 rfl sizeOf3 rfl) ?_
    refine HW.pp (.ld isAgg3 rfl ((hB9z.up hS.upd).celln rfl)) ?_
    refine HW.pp (.val (v' := vi (2 * x.err)) (PEv.mul_w (.const _) (.t rfl)) (congrArg vi (wI_in oQ oQ))) ?_
    refine HW.pp (.add (.t rfl) (.const _) oQ oQ) ?_
    refine HW.c (fun a w _ ha => enter_call0 (.cons (.t rfl) (.cons (.t rfl) .nil)) (en27) a ha) rfl rfl (fun w hu => pick22_any _ _ w oQ) ?_
    refine HW.pp (.add (.t rfl) (.t rfl) oQ oQ) ?_
    refine HW.pp (.fA 4 underlying25 rfl sizeOf3 rfl) ?_
    refine HW.pp (.ld isAgg3 rfl ((hB9z.up hS.upd).celln rfl)) ?_
    refine HW.pp (.sub (.t rfl) (.t rfl) oQ oQ) ?_
    refine HW.pp (.max2 (.t rfl) (.t rfl)) ?_
    refine HW.nil ?_
    intro w16 uw16
    have zw16 := uw16.size
    replace hS := hS.up uw16
    refine LW.A rfl (LW.nil ?_)
    rw [hts, hte]
    exact fun a ha => ⟨ha.sub ⟨rfl, rfl, rfl, rfl, rfl, rfl, rfl, rfl, rfl, rfl, trivial⟩, hS⟩
   replace h50 := dQ h50
   have hk2 : ¬ 2 * i + 1 < wr.length := by omega
   have hts : truS x wr i p = p.Time := by unfold truS; rw [if_neg hk2]
   have hte : truE x wr i p = p.Until := by unfold truE; rw [if_neg hk2]
   refine CW.skip ?_
   rw [hts, hte]
   exact fun a ha => ⟨ha.sub ⟨rfl, rfl, rfl, rfl, rfl, rfl, rfl, rfl, rfl, rfl, trivial⟩, hS⟩
  rintro a1 w17 ⟨ha, hS⟩
  revert a1
  show CW none _ _ _ _ _ _ _ _
  refine CW.S ?_
  refine LW.pp (.loadA isAgg38 sizeOf38 (hC.size) (.t rfl) ((hB8z.up hS.upd).agg)) ?_
  refine LW.pp (.fA 7 underlying36 rfl sizeOf3 rfl) ?_
  refine LW.pp (.ld isAgg3 rfl ((hS.blk 1 rfl).celln rfl)) ?_
  refine LW.pp (.fA 5 underlying36 rfl sizeOf3 rfl) ?_
  refine LW.pp (.ld isAgg3 rfl ((hS.blk 1 rfl).celln rfl)) ?_
  refine LW.K (eC (.cons (.t rfl) (.cons (.t rfl) (.cons (.t rfl) .nil))) (en28)) rfl (Who_any bc b p.Wafer p.Time _ (hC.up hS.upd) oQ) ?_
  rintro _ w18 ⟨rfl, uw18⟩
  have zw18 := uw18.size
  replace hS := hS.up uw18
  have hr8 := whoL_8 hw8.2 (t := p.Time) (hw8.1 p hpm).1
  obtain ⟨wf, hwf⟩ : ∃ wf, wf = whoL b.Swaps p.Time p.Wafer := ⟨_, rfl⟩
  rw [← hwf] at hr8 ⊢
  obtain ⟨m, rfl, hm20⟩ : ∃ m : Nat, wf = (m : Int) ∧ m < 20 := ⟨wf.toNat, by omega, by omega⟩
  refine LW.A rfl (LW.S (CW.S (LW.M rfl ?_)))
  refine LW.pp (.fa (PEv.lss (.t rfl) (.const _)) (decide_eq_false oQ)) ?_
  refine LW.M rfl ?_
  refine LW.Y ?_
  refine LW.M rfl ?_
  refine LW.Y ?_
  refine LW.pp (.fa (PEv.geq (.t rfl) (.const _)) (decide_eq_false oQ)) ?_
  refine LW.pp (.pick_or (.t rfl) (fun hp => (by first | exact .const _ | exact .tmp rfl | exact .cond rfl (by first | assumption | (rw [hp]; rfl) | (rw [hc, hp]; rfl) | simp_all)))) ?_
  refine LW.T ?_
  refine CW.cond_false (.t rfl) ?_
  refine CW.skip (KW.then (CW.S ?_))
  refine LW.pp (.fA 11 underlying36 rfl sizeOf3 rfl) ?_
  refine LW.pp (.ld isAgg3 rfl ((hS.blk 1 rfl).celln rfl)) ?_
  refine LW.pp (.fA 0 underlying25 rfl sizeOf3 rfl) ?_
  refine LW.pp (.ld isAgg3 rfl ((hB9z.up hS.upd).celln rfl)) ?_
  refine LW.pp (.eql (.t rfl) (.t rfl)) ?_
  refine LW.M rfl ?_
  refine LW.g rfl rfl rfl rfl rfl rfl rfl (fun hc => PEv.fA 12 underlying36 rfl sizeOf3 rfl) ?_
  refine LW.g rfl rfl rfl rfl rfl rfl rfl (fun hc => PEv.load isAgg3 vQ ((hS.blk 1 rfl).celln rfl)) ?_
  refine LW.g rfl rfl rfl rfl rfl rfl rfl (fun hc => PEv.fA 1 underlying25 rfl sizeOf3 rfl) ?_
  refine LW.g rfl rfl rfl rfl rfl rfl rfl (fun hc => PEv.load isAgg3 vQ ((hB9z.up hS.upd).celln rfl)) ?_
  refine LW.g rfl rfl rfl rfl rfl rfl rfl (fun hc => PEv.eql vQ vQ) ?_
  refine LW.pp (.pick_and (.t rfl) (fun hp => (by first | exact .const _ | exact .tmp rfl | exact .cond rfl (by first | assumption | (rw [hp]; rfl) | (rw [hc, hp]; rfl) | simp_all)))) ?_
  refine LW.M rfl ?_
  refine LW.g rfl rfl rfl rfl rfl rfl rfl (fun hc => PEv.move (.t rfl)) ?_
  refine LW.g rfl rfl rfl rfl rfl rfl rfl (fun hc => PEv.fA 3 underlying25 rfl sizeOf3 rfl) ?_
  refine LW.g rfl rfl rfl rfl rfl rfl rfl (fun hc => PEv.load isAgg3 vQ ((hB9z.up hS.upd).celln rfl)) ?_
  refine LW.g rfl rfl rfl rfl rfl rfl rfl (fun hc => PEv.leq vQ vQ) ?_
  refine LW.pp (.pick_and (.t rfl) (fun hp => (by first | exact .const _ | exact .tmp rfl | exact .cond rfl (by first | assumption | (rw [hp]; rfl) | (rw [hc, hp]; rfl) | simp_all)))) ?_
  refine LW.M rfl ?_
  refine LW.g rfl rfl rfl rfl rfl rfl rfl (fun hc => PEv.move (.t rfl)) ?_
  refine LW.g rfl rfl rfl rfl rfl rfl rfl (fun hc => PEv.fA 2 underlying25 rfl sizeOf3 rfl) ?_
  refine LW.g rfl rfl rfl rfl rfl rfl rfl (fun hc => PEv.load isAgg3 vQ ((hB9z.up hS.upd).celln rfl)) ?_
  refine LW.g rfl rfl rfl rfl rfl rfl rfl (fun hc => PEv.geq vQ vQ) ?_
  refine LW.pp (.pick_and (.t rfl) (fun hp => (by first | exact .const _ | exact .tmp rfl | exact .cond rfl (by first | assumption | (rw [hp]; rfl) | (rw [hc, hp]; rfl) | simp_all)))) ?_
  refine LW.T ?_
  refine CW.cond (.t rfl) (fun h119 => ?_) (fun h119 => ?_)
  ·replace h119 := dQ h119
   have htr : truB x wr i p = true := by unfold truB; rw [← h119]
   obtain ⟨d0, hm⟩ := getElem?_of_lt (xs := inL b x wr i) (i := m) (by rw [inL_len]; omega)
   refine CW.region (LW.M rfl (LW.M rfl ?_))
   refine LW.pp (.indexAddr' underlying54 sizeOf4 (j := m) (.t rfl) (.t rfl) oQ rfl) ?_
   refine LW.E (.storeOwnF (enc := eBool) (k := 1) (z := true) (i := m) (j := 0) sizeOf4 (fun _ => rfl) rfl (.t rfl) (.const _) (hS.own 0 rfl) hm cQ rfl) ?_
   intro w19 Gw19
   have zw19 := Gw19.fr.size
   replace hS := hS.stp 0 rfl Gw19
   change Wx.Sep _ _ _ [_, _] at hS
   refine LW.nil (KW.inBlock (KW.then (CW.region (LW.M rfl ?_))))
   refine LW.pp (.inc (.t rfl) oQ) ?_
   refine LW.A rfl (LW.nil (KW.round ?_))
   exact ⟨i + 1, ⟨by omega, by rw [inL_step hp]; first | (rw [if_pos htr, ← hwf, Int.toNat_natCast]; exact hS.take 1) | (rw [if_neg (by rw [htr]; exact Bool.false_ne_true)]; exact hS.take 1)⟩, ⟨rfl, rfl, rfl, rfl, rfl, rfl, rfl, trivial⟩, by first | omega | (dsimp only; omega)⟩
  replace h119 := dQ h119
  have htr : truB x wr i p = false := by unfold truB; rw [← h119]
  refine CW.skip (KW.inBlock (KW.then (CW.region (LW.M rfl ?_))))
  refine LW.pp (.inc (.t rfl) oQ) ?_
  refine LW.A rfl (LW.nil (KW.round ?_))
  exact ⟨i + 1, ⟨by omega, by rw [inL_step hp]; first | (rw [if_pos htr, ← hwf, Int.toNat_natCast]; exact hS.take 1) | (rw [if_neg (by rw [htr]; exact Bool.false_ne_true)]; exact hS.take 1)⟩, ⟨rfl, rfl, rfl, rfl, rfl, rfl, rfl, trivial⟩, by first | omega | (dsimp only; omega)⟩
 replace h33 := dQ h33
 refine CW.exit (KW.then_exit (KW.then_exit (KW.block_hit (KW.then (CW.seq (CW.seq ?_))))))
 have hil : i = b.Processes.length := by omega
 rw [hil] at hS
 refine CW.region (LW.C (LW.T (CW.block ?_)))
 refine CW.loopB (σ := Nat) (fun s w => (1 ≤ s ∧ s ≤ 20) ∧ (Wx.Sep no w10 w [aOwn 4 1 eBool (.slice (some ⟨B28, 0, none⟩) 20 20) (inL b x wr b.Processes.length)])) (fun s => [(17, .eq (vi (s : Int)))]) ([(7, .eq _), (10, .eq _), (11, .eq _)]) (fun s => 20 - s) 1 ?_ ⟨rfl, rfl, rfl, rfl, trivial⟩ ?_
 ·exact ⟨⟨by omega, by omega⟩, hS⟩
 rintro k w20 ⟨hk1, hS⟩
 refine CW.seq (CW.S (LW.M rfl ?_))
 refine LW.pp (.lss (.t rfl) (.const _)) ?_
 refine LW.T ?_
 refine CW.cond (.t rfl) (fun h124 => ?_) (fun h124 => ?_)
 ·replace h124 := dQ h124
  refine CW.skip (KW.then (CW.seq (CW.block (CW.S (LW.M rfl (LW.M rfl ?_))))))
  refine LW.K (eC (.u rfl rfl) (en29)) rfl (verdict22_any ad27 cp27 L27 (k : Int) _ (Els.up hLz hS.upd) oQ) ?_
  rintro v129 w21 ⟨hv_, uw21⟩
  have zw21 := uw21.size
  replace hS := hS.up uw21
  obtain ⟨e, rfl, he⟩ : ∃ e : VP, v129 = .agg e.cells ∧ e.vd = verdF (L27.map (·.vd)) k := hv_.elim (fun ⟨e, _, e1, h⟩ => ⟨e, e1, h⟩) fun ⟨e1, h, _⟩ => ⟨VP.mk noVd none 0, e1, h.symm⟩
  rw [hm27] at he
  refine LW.rr (.allocA zeroValue32) rfl ?_
  rintro _ w22 ⟨B18, rfl, MB18⟩
  refine LW.E (.storeA sizeOf32 rfl (.t rfl) (.t rfl) (VP.one _) MB18.blk rfl) ?_
  intro w23 LB18
  have NB18 := MB18.set LB18
  clear LB18 MB18
  have eB18 := NB18.at_
  have zB18 := NB18.size
  replace hS := hS.addB NB18
  change Wx.Sep _ _ _ [_, _] at hS
  refine LW.S ?_
  obtain ⟨db, hdb⟩ := getElem?_of_lt (xs := inL b x wr b.Processes.length) (i := k) (by rw [inL_len]; omega)
  obtain ⟨Bb, ob, ab, hcb⟩ := (OwnS.elsS (hS.own 0 rfl) (fun _ => rfl)) k db hdb
  cases ab
  have hco := contains_ok (b := b) (x := x) (wr := wr) hxo oQ hwr hw8.1 hw8.2 (w := k) oQ oQ
  rw [hdb, ← he] at hco
  cases db with
  | true =>
   have h1t := hco.1 rfl
   refine CW.region (LW.M rfl (LW.M rfl ?_))
   refine LW.pp (.indexAddr' underlying54 sizeOf4 (j := k) (.t rfl) (.t rfl) oQ rfl) ?_
   refine LW.pp (.tr (PEv.ld isAgg4 rfl (hcb.nth (j := 0) rfl)) (rfl)) ?_
   refine LW.M rfl ?_
   refine LW.Y ?_
   refine LW.pp (.fA 1 underlying32 rfl sizeOf3 rfl) ?_
   refine LW.Y ?_
   refine LW.pp (.ld isAgg3 rfl ((hS.blk 1 rfl).celln rfl)) ?_
   refine LW.Y ?_
   refine LW.pp (.fa (PEv.lss (.t rfl) (.const _)) (decide_eq_false oQ)) ?_
   refine LW.pp (.pick_and (.t rfl) (fun hp => (by first | exact .const _ | exact .tmp rfl | exact .cond rfl (by first | assumption | (rw [hp]; rfl) | (rw [hc, hp]; rfl) | simp_all)))) ?_
   refine LW.M rfl ?_
   refine LW.Y ?_
   refine LW.M rfl ?_
   refine LW.Y ?_
   refine LW.M rfl ?_
   refine LW.Y ?_
   refine LW.pp (.indexAddr' underlying54 sizeOf4 (j := k) (.t rfl) (.t rfl) oQ rfl) ?_
   refine LW.Y ?_
   refine LW.pp (.tr (PEv.ld isAgg4 rfl (hcb.nth (j := 0) rfl)) (rfl)) ?_
   refine LW.Y ?_
   refine LW.pp (.not (.t rfl)) ?_
   refine LW.Y ?_
   refine LW.M rfl ?_
   refine LW.N ?_
   refine LW.N ?_
   refine LW.N ?_
   refine LW.Y ?_
   refine LW.pp (.pick_and (b := false) (.t rfl) (fun hp => absurd (show false = true from hp) cQ)) ?_
   refine LW.pp (.pick_or (.t rfl) (fun hp => (by first | exact .const _ | exact .tmp rfl | exact .cond rfl (by first | assumption | (rw [hp]; rfl) | (rw [hc, hp]; rfl) | simp_all)))) ?_
   refine LW.T ?_
   refine CW.cond_false (.t rfl) ?_
   refine CW.skip (KW.inBlock (KW.then (CW.region (LW.M rfl ?_))))
   refine LW.pp (.inc (.t rfl) oQ) ?_
   refine LW.A rfl (LW.nil (KW.round ?_))
   exact ⟨k + 1, ⟨by omega, hS.take 1⟩, ⟨rfl, rfl, rfl, rfl, trivial⟩, by first | omega | (dsimp only; omega)⟩
  | false =>
   have h1t : e.vd.t ≠ 2 := fun h => absurd (Option.some.inj (hco.2 h)) cQ
   refine CW.region (LW.M rfl (LW.M rfl ?_))
   refine LW.pp (.indexAddr' underlying54 sizeOf4 (j := k) (.t rfl) (.t rfl) oQ rfl) ?_
   refine LW.pp (.fa (PEv.ld isAgg4 rfl (hcb.nth (j := 0) rfl)) (rfl)) ?_
   refine LW.M rfl ?_
   refine LW.N ?_
   refine LW.N ?_
   refine LW.N ?_
   refine LW.pp (.pick_and (b := false) (.t rfl) (fun hp => absurd (show false = true from hp) cQ)) ?_
   refine LW.M rfl ?_
   refine LW.Y ?_
   refine LW.M rfl ?_
   refine LW.Y ?_
   refine LW.M rfl ?_
   refine LW.Y ?_
   refine LW.pp (.indexAddr' underlying54 sizeOf4 (j := k) (.t rfl) (.t rfl) oQ rfl) ?_
   refine LW.Y ?_
   refine LW.pp (.fa (PEv.ld isAgg4 rfl (hcb.nth (j := 0) rfl)) (rfl)) ?_
   refine LW.Y ?_
   refine LW.pp (.not (.t rfl)) ?_
   refine LW.Y ?_
   refine LW.M rfl ?_
   refine LW.Y ?_
   refine LW.pp (.fA 1 underlying32 rfl sizeOf3 rfl) ?_
   refine LW.Y ?_
   refine LW.pp (.ld isAgg3 rfl ((hS.blk 1 rfl).celln rfl)) ?_
   refine LW.Y ?_
   refine LW.pp (.fa (PEv.eql (.t rfl) (.const _)) (decide_eq_false h1t)) ?_
   refine LW.Y ?_
   refine LW.pp (.pick_and (.t rfl) (fun hp => (by first | exact .const _ | exact .tmp rfl | exact .cond rfl (by first | assumption | (rw [hp]; rfl) | (rw [hc, hp]; rfl) | simp_all)))) ?_
   refine LW.pp (.pick_or (.t rfl) (fun hp => (by first | exact .const _ | exact .tmp rfl | exact .cond rfl (by first | assumption | (rw [hp]; rfl) | (rw [hc, hp]; rfl) | simp_all)))) ?_
   refine LW.T ?_
   refine CW.cond_false (.t rfl) ?_
   refine CW.skip (KW.inBlock (KW.then (CW.region (LW.M rfl ?_))))
   refine LW.pp (.inc (.t rfl) oQ) ?_
   refine LW.A rfl (LW.nil (KW.round ?_))
   exact ⟨k + 1, ⟨by omega, hS.take 1⟩, ⟨rfl, rfl, rfl, rfl, trivial⟩, by first | omega | (dsimp only; omega)⟩
 replace h124 := dQ h124
 refine CW.exit (KW.then_exit (KW.then_exit (KW.block_hit (KW.then (CW.S (LW.M rfl (LW.A rfl (LW.T (CW.ret ?_)))))))))
 refine KW.ret1 rfl rfl ⟨_, rfl, ?_⟩
 exact ⟨rfl, hU0.trans hS.upd⟩
end Go.Proofs.YtmimclgihlhaeaaGreat
end
