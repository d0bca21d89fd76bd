import Derived.Test.YtmimclgihlhaeaaGreatKR720
import Derived.Shelf.SlLaysF0
section
namespace Go.Proofs
open Go.Proofs.Tryz
open Go.Shelf
def R1 : Go.Shelf.Ren := ⟨fun | 6 => 108 | 15 => 95 | 14 => 159 | 28 => 154 | 29 => 155 | 20 => 181 | 21 => 182 | 22 => 183 | 23 => 184 | 24 => 185 | 25 => 186 | 26 => 187 | 27 => 188 | 46 => 194 | 47 => 176 | 48 => 177 | 49 => 195 | 50 => 196 | 57 => 200 | n => n, fun | 22 => 103 | 24 => 99 | 25 => 102 | 3 => 3 | 39 => 147 | 0 => 0 | 53 => 188 | 55 => 190 | 4 => 4 | 46 => 182 | 45 => 181 | 50 => 159 | 5 => 5 | 9 => 9 | 66 => 212 | 70 => 164 | 76 => 226 | 77 => 33 | n => n, fun | n => n⟩
theorem R3 : Go.Proofs.SlLaysF0.n6 Tryz.prog R1 := {
 mixed := by kernel_rfl
 f6 := ⟨Tryz.f108.name, by decide, func108.trans (congrArg some kQ)⟩
 f14 := ⟨Tryz.f159.name, by decide, func159.trans (congrArg some kQ)⟩
 f15 := func95.trans (congrArg some kQ)
 f20 := ⟨Tryz.f181.name, by decide, func181.trans (congrArg some kQ)⟩
 f21 := ⟨Tryz.f182.name, by decide, func182.trans (congrArg some kQ)⟩
 f22 := ⟨Tryz.f183.name, by decide, func183.trans (congrArg some kQ)⟩
 f23 := ⟨Tryz.f184.name, by decide, func184.trans (congrArg some kQ)⟩
 f24 := ⟨Tryz.f185.name, by decide, func185.trans (congrArg some kQ)⟩
 f25 := ⟨Tryz.f186.name, by decide, func186.trans (congrArg some kQ)⟩
 f26 := ⟨Tryz.f187.name, by decide, func187.trans (congrArg some kQ)⟩
 f27 := ⟨Tryz.f188.name, by decide, func188.trans (congrArg some kQ)⟩
 f28 := func154.trans (congrArg some kQ)
 f29 := func155.trans (congrArg some kQ)
 f46 := ⟨Tryz.f194.name, by decide, func194.trans (congrArg some kQ)⟩
 f47 := func176.trans (congrArg some kQ)
 f48 := func177.trans (congrArg some kQ)
 f49 := ⟨Tryz.f195.name, by decide, func195.trans (congrArg some kQ)⟩
 f50 := ⟨Tryz.f196.name, by decide, func196.trans (congrArg some kQ)⟩
 f57 := ⟨Tryz.f200.name, by decide, func200.trans (congrArg some kQ)⟩
 t0 := underlying0
 a0 := isAgg0
 z0 := sizeOf0
 v0 := zeroValue0
 t3 := underlying3
 a3 := isAgg3
 z3 := sizeOf3
 v3 := zeroValue3
 t4 := underlying4
 a4 := isAgg4
 z4 := sizeOf4
 v4 := zeroValue4
 t5 := underlying5
 a5 := isAgg5
 z5 := sizeOf5
 v5 := zeroValue5
 t9 := underlying9
 a9 := isAgg9
 z9 := sizeOf9
 v9 := zeroValue9
 t22 := underlying103
 a22 := isAgg103
 z22 := sizeOf103
 v22 := zeroValue103
 t25 := underlying102
 a25 := isAgg102
 z25 := sizeOf102
 v25 := zeroValue102
 t39 := underlying147
 a39 := isAgg147
 z39 := sizeOf147
 v39 := zeroValue147
 t45 := underlying181
 a45 := isAgg181
 z45 := sizeOf181
 v45 := zeroValue181
 t46 := underlying182
 a46 := isAgg182
 z46 := sizeOf182
 v46 := zeroValue182
 t50 := underlying159
 a50 := isAgg159
 z50 := sizeOf159
 v50 := zeroValue159
 t53 := underlying188
 a53 := isAgg188
 z53 := sizeOf188
 v53 := zeroValue188
 t55 := underlying190
 a55 := isAgg190
 z55 := sizeOf190
 v55 := zeroValue190
 t66 := underlying212
 a66 := isAgg212
 z66 := sizeOf212
 v66 := zeroValue212
 t70 := underlying164
 a70 := isAgg164
 z70 := sizeOf164
 v70 := zeroValue164
 t76 := underlying226
 a76 := isAgg226
 z76 := sizeOf226
 v76 := zeroValue226
 t77 := underlying33
 a77 := isAgg33
 z77 := sizeOf33
 v77 := zeroValue33 }
end Go.Proofs
end
section
namespace Go.Wx
structure TP where
 ad : Option Addr
 l : List Int
 cp : Nat
def TP.v (t : TP) : Go.Value := .slice t.ad t.l.length t.cp
def TP.cells (t : TP) : Array Go.Value := #[t.v]
theorem TP.one (t : TP) : t.cells.all (·.oneCell') = true := by simp [TP.cells, TP.v, Value.oneCell']
def R4 (x y : Ar2) : Bool := !(Go.Proofs.ltOf Mx) y x
theorem Is (x y : Ar2) : R4 x y = true ↔ ¬ Jk y x := by
 unfold R4
 rw [← Lz]
 simp
theorem Lo (a b c : Ar2) (h : R4 a b = true) (k : R4 b c = true) : R4 a c = true := by
 rw [Is] at *
 exact dV k h
theorem Lp (a b : Ar2) : (R4 a b || R4 b a) = true := by
 rw [Bool.or_eq_true, Is, Is]
 unfold Jk
 omega
theorem R5 {a b : List Ar2} (h : a.Perm b) : a.mergeSort R4 = b.mergeSort R4 :=
 List.Perm.eq_of_pairwise (le := fun x y => R4 x y = true) (fun x y _ _ h1 h2 => Ny ((Is y x).1 h2) ((Is x y).1 h1))
   (List.pairwise_mergeSort Lo Lp a) (List.pairwise_mergeSort Lo Lp b)
   ((List.mergeSort_perm a _).trans (h.trans (List.mergeSort_perm b _).symm))
def P2 {α : Type} [DecidableEq α] (l : List α) : List α := l.foldl Ic []
theorem T5 {α : Type} [DecidableEq α] (l : List α) (x : α) : P2 (l ++ [x]) = Ic (P2 l) x := by
 unfold P2
 rw [List.foldl_append]
 rfl
theorem G8 {α : Type} [DecidableEq α] (l : List α) (x : α) : x ∈ P2 l ↔ x ∈ l := by
 refine Fc (p := fun l => x ∈ P2 l ↔ x ∈ l) Iff.rfl (fun l y h => ?_) l
 rw [T5, Nz, h]
 simp
theorem J6 {α : Type} [DecidableEq α] (l : List α) : (P2 l).Nodup := by
 refine Fc (p := fun l => (P2 l).Nodup) List.nodup_nil (fun l y h => ?_) l
 rw [T5]
 exact My h
def D0 (P : List Fact) (O : List Vd) : List Ar2 := (P2 (O.flatMap fun p => Fy P p.why)).mergeSort R4
def D7 (b : Base) (O : List Vd) : List Int := (P2 ((O.map (Eb b)).filter fun n => decide (n ≠ 0))).mergeSort fun x y => decide (x ≤ y)
def R6 (b : Base) (O : List Vd) : List (List Int) := (D0 b.Processes O).map (Gw b.Processes O) ++ (D7 b O).map (Es b O)
def Gk (b : Base) (L : List Vd) : List (List Int) := (R6 b (L.filter fun v => decide (v.t = 1))).take 16
theorem Vj {P : List Fact} {O : List Vd} {g : Ar2} : Gw P O g ≠ [] ↔ g ∈ O.flatMap fun p => Fy P p.why := by
 unfold Gw
 rw [List.mem_flatMap]
 constructor
 · intro h
   obtain ⟨x, hx⟩ := List.exists_mem_of_ne_nil _ h
   obtain ⟨p, hp, _⟩ := List.mem_map.1 hx
   obtain ⟨h1, h2⟩ := List.mem_filter.1 hp
   exact ⟨p, h1, of_decide_eq_true h2⟩
 rintro ⟨p, h1, h2⟩ e
 have h3 : p.w ∈ (O.filter fun p => decide (g ∈ Fy P p.why)).map (·.w) := List.mem_map.2 ⟨p, List.mem_filter.2 ⟨h1, decide_eq_true h2⟩, rfl⟩
 rw [e] at h3
 cases h3
theorem R7 {b : Base} {O : List Vd} {n : Int} : Es b O n ≠ [] ↔ n ∈ (O.map (Eb b)).filter fun n => decide (n ≠ 0) := by
 unfold Es
 rw [List.mem_filter, List.mem_map]
 constructor
 · intro h
   obtain ⟨x, hx⟩ := List.exists_mem_of_ne_nil _ h
   obtain ⟨p, hp, _⟩ := List.mem_map.1 hx
   obtain ⟨h1, h2⟩ := List.mem_filter.1 hp
   have h3 := of_decide_eq_true h2
   exact ⟨⟨p, h1, h3.1⟩, decide_eq_true h3.2⟩
 rintro ⟨⟨p, h1, h2⟩, h3⟩ e
 have h4 : p.w ∈ (O.filter fun p => decide (Eb b p = n ∧ n ≠ 0)).map (·.w) := List.mem_map.2 ⟨p, List.mem_filter.2 ⟨h1, decide_eq_true ⟨h2, of_decide_eq_true h3⟩⟩, rfl⟩
 rw [e] at h4
 cases h4
theorem Yh {P : List Fact} {O : List Vd} {D : List (BE Ar2)} {ks : List Ar2} (h : BeInv D (Gw P O)) (hk : ks.Perm (D.map (·.g))) : ks.mergeSort R4 = D0 P O :=
 R5 (hk.trans ((List.perm_ext_iff_of_nodup h.nd (J6 _)).2 fun g => by rw [h.key, Vj, G8]))
theorem Yi {b : Base} {O : List Vd} {E : List (BE Int)} {ks : List Int} (h : BeInv E (Es b O)) (hk : ks.Perm (E.map (·.g))) : (ks.mergeSort fun x y => decide (x ≤ y)) = D7 b O :=
 Gr (hk.trans ((List.perm_ext_iff_of_nodup h.nd (J6 _)).2 fun g => by rw [h.key, R7, G8]))
theorem iH {P : List Fact} {O : List Vd} {D : List (BE Ar2)} (h : BeInv D (Gw P O)) {g : Ar2} (hg : g ∈ D0 P O) : ∃ e ∈ D, e.g = g := by
 unfold D0 at hg
 rw [List.mem_mergeSort, G8, ← Vj, ← h.key] at hg
 exact List.mem_map.1 hg
theorem iI {b : Base} {O : List Vd} {E : List (BE Int)} (h : BeInv E (Es b O)) {g : Int} (hg : g ∈ D7 b O) : ∃ e ∈ E, e.g = g := by
 unfold D7 at hg
 rw [List.mem_mergeSort, G8, ← R7, ← h.key] at hg
 exact List.mem_map.1 hg
theorem rN {P : List Fact} {O : List Vd} {D : List (BE Ar2)} (h : BeInv D (Gw P O)) : D.length ≤ P.length := by
 have := h.nd.length_le_of_subset (l₂ := P.map F3) fun g hg => by
   rw [h.key, Vj, List.mem_flatMap] at hg
   obtain ⟨p, _, h2⟩ := hg
   obtain ⟨f, hf, _, e⟩ := N0.1 h2
   exact List.mem_map.2 ⟨f, hf, e⟩
 simpa using this
theorem rO {b : Base} {O : List Vd} {E : List (BE Int)} (h : BeInv E (Es b O)) : E.length ≤ O.length := by
 have := h.nd.length_le_of_subset (l₂ := O.map (Eb b)) fun g hg => by
   rw [h.key, R7] at hg
   exact (List.mem_filter.1 hg).1
 simpa using this
theorem mZ {P : List Fact} {O : List Vd} (h : ∀ f ∈ P, K7 f.Time ∧ K7 f.Until) : ∀ g ∈ D0 P O, g.ok := fun g hg => by
 unfold D0 at hg
 rw [List.mem_mergeSort, G8, List.mem_flatMap] at hg
 obtain ⟨p, _, h2⟩ := hg
 exact dW h g h2
theorem Dq {α β : Type} {f : α → β} {l : List α} {k : Nat} {x : α} (h : l[k]? = some x) : (l.take (k + 1)).map f = (l.take k).map f ++ [f x] := by
 rw [List.take_add_one, h, List.map_append]; rfl
theorem dX (L : List VP) : (L.filter A3).map (·.vd) = (L.map (·.vd)).filter fun v => decide (v.t = 1) := by
 rw [List.filter_map]
 congr 1
end Go.Wx
namespace Go.Proofs.YtmimclgihlhaeaaGreat
open Go.Proofs.Tryz
open Go.Wx Go.RowKit
theorem iJ (v : Go.Value) (l : List Ar2) (w : World) (h : OwnS w 0 99 2 Ar2.cells v l) (hlen : l.length < 4611686018427387904) : Ret Tryz.prog 108 #[v, .func (.func 48) #[] #[]] w fun r w' => r = .tuple #[] ∧ Stp (Al 99 2 Ar2.cells v l) (Al 99 2 Ar2.cells v (l.mergeSort R4)) w w' := by
 have hc := h
 obtain ⟨h1, ⟨rfl, hn⟩ | ⟨g, cap, cur, rfl, _, hb, _⟩⟩ := h
 · have hks : l = [] := List.eq_nil_of_length_eq_zero hn
   subst hks
   refine Calls.mono (AnyF.slices_SortFunc_none R3 none 0 _ w) ?_
   rintro e' w' ⟨rfl, rfl⟩
   refine ⟨_, rfl, rfl, ?_⟩
   rw [List.mergeSort_nil]
   exact Stp.refl hc
 have hcmp : CmpLays Tryz.prog 48 #[] (fun x : Ar2 => x.cells.toList) 2 Mx g 0 l.toArray.size w := fun m os dk _ x y => by
   refine Calls.mono (Vh x y _) ?_
   rintro e' w' ⟨v, rfl, rfl, hD⟩
   exact ⟨rfl, hD.grow⟩
 have hK := bI (enc := Ar2.cells) (k := 2) (fun _ => rfl) hc
 refine Calls.mono (AnyQ.slices_SortFunc_total R3 2 isAgg99 sizeOf99 (fun x : Ar2 => x.cells.toList) (fun _ => rfl) (fun x v hv => by simp [Ar2.cells] at hv; rcases hv with rfl | rfl <;> rfl) Mx CZ 48 #[] g 0 cap l.toArray w BM hcmp hK (lt_of_block hb) (by simpa using hlen) DA) ?_
 rintro e' w' ⟨rfl, n, os, rfl⟩
 refine ⟨_, rfl, rfl, ?_⟩
 have h2 := mY (enc := Ar2.cells) (k := 2) (n := n) (os := os) (ts := (l.mergeSort R4)) (fun _ => rfl) (by rw [List.length_mergeSort]) hc
 simpa [show (fun x y => !Go.Proofs.ltOf Mx y x) = R4 from rfl] using h2
theorem Yj (g : Nat) (lb : Array Go.Value) (S Sp : List Ar2 → Prop) (N : Nat) (w : World) (en : ∀ args w, (callFunc g args).run Tryz.prog w = .ok (.enter g args) w) (hit : ∀ W (X Y : Nat → Prop), Up w W → (∀ i, X i → w.heap.size ≤ i) → (∀ i, Y i → w.heap.size ≤ i ∧ i < W.heap.size) → IterS Tryz.prog g lb rI X Y S Sp N W) (hN0 : N ≤ 1000000000) (hS0 : ∀ ks, S ks → ks.length ≤ 1000000000) : Ret Tryz.prog 51 #[.func (.func g) #[] lb, .func (.func 48) #[] #[]] w fun r w' => ∃ ks, S ks ∧ (Al 99 2 Ar2.cells r (ks.mergeSort R4)).holds w' ∧ (∀ i, (Al 99 2 Ar2.cells r (ks.mergeSort R4)).foot i → w.heap.size ≤ i) ∧ Up w w' := by
 obtain ⟨w0, rfl⟩ : ∃ w0, w0 = w := ⟨_, rfl⟩
 have hS := Sep.start no w0
 refine cS (n := 12) (m := 9) func51 rfl rfl rfl (CW.S (LW.C (LW.S (CW.region (LW.M rfl (LW.K (eC (.o rfl) (wS)) rfl (Vf _ _ _ _ _ _ en hit hN0) ?_))))))
 rintro v w1 ⟨ks, hP, hO_, hF_, uw1⟩
 replace hS := hS.add uw1 (A' := Al 99 2 Ar2.cells v ks) (hO_) (hF_)
 refine LW.A rfl (LW.S (CW.region (LW.M rfl (LW.M rfl (LW.K (eC (.u rfl rfl) (wU)) rfl (iJ v ks _ (hS.own 0 rfl) (by have := hS0 ks hP; omega)) ?_)))))
 rintro _ w2 ⟨rfl, uw2⟩
 replace hS := hS.Dh 0 rfl uw2
 refine LW.S (CW.region (LW.M rfl (LW.A rfl (LW.T (CW.ret (Ae rfl rfl ⟨_, rfl, ?_⟩))))))
 exact ⟨ks, hP, hS.get 0 rfl, fun i hi => (hS.foot 0 rfl i hi).resolve_left (fun h => h), hS.Ce⟩
end Go.Proofs.YtmimclgihlhaeaaGreat
end
section
namespace Go.Wx
def wI (n : Int) : Int := IntKind.i64.wrap n
deriving instance DecidableEq for Vd
theorem vD {x y : Vd} (h1 : x.w = y.w) (h2 : x.t = y.t) (h3 : x.why = y.why) : x = y := by
 cases x; cases y; cases h1; cases h2; cases h3; rfl
theorem N1 {α β γ : Type} {f : α → γ} {g : β → γ} {xs : List α} {ys : List β} {k : Nat} {x : α} {y : β} (h : (xs.take k).map f = (ys.take k).map g) (hx : xs[k]? = some x) (hy : ys[k]? = some y) (e : f x = g y) : (xs.take (k + 1)).map f = (ys.take (k + 1)).map g := by
 rw [Dq hx, Dq hy, h, e]
theorem N2 {α β γ : Type} {f : α → γ} {g : β → γ} {xs : List α} {ys : List β} {k : Nat} {x : α} {y : β} (hx : xs[k]? = some x) (hy : ys[k]? = some y) (e : ¬ f x = g y) : ¬ xs.map f = ys.map g := fun h => e (by
 have h1 : (xs.map f)[k]? = some (f x) := by rw [List.getElem?_map, hx]; rfl
 have h2 : (ys.map g)[k]? = some (g y) := by rw [List.getElem?_map, hy]; rfl
 rw [h, h2] at h1
 exact (Option.some.inj h1).symm)
def Fa (id wafer time til : Int) : Fact := { Fx with Kind := 1, Version := 1, ID := id, Wafer := wafer, Tool := 2, Recipe := 1, Revision := 1, Time := time, Until := til }
def R8 (y : I5) : Exc := ⟨2, Bn y.a 2, Bn y.b 200, wI (Bn y.b 200 + Bn y.c 50), Bn y.d 12⟩
end Go.Wx
namespace Go.Proofs.YtmimclgihlhaeaaGreat
open Go.Proofs.Tryz
open Go.Wx Go.RowKit
theorem Hw (v1 v2 : Value) (xs ys : List Int) (w : World) (h1 : Sl w v1 1 Aq xs) (h2 : Sl w v2 1 Aq ys) (hx0 : xs.length ≤ 1000000000) (hy0 : ys.length ≤ 1000000000) : Ret Tryz.prog 21 #[v1, v2] w fun r w' => r = .bool (decide (xs = ys)) ∧ Up w w' := by
 have hW := Up.refl w
 obtain ⟨w0, rfl⟩ : ∃ w0, w0 = w := ⟨_, rfl⟩
 obtain ⟨ad, cp, rfl, hE1⟩ := h1
 obtain ⟨ad', cp', rfl, hE2⟩ := h2
 refine cS (n := 26) (m := 9) func21 rfl rfl rfl (CW.S (LW.C (LW.S (CW.S (LW.M rfl (LW.pp (.Ci underlying30 (.t rfl)) (LW.M rfl (LW.pp (.Ci underlying30 (.t rfl)) (LW.pp (.neq (.t rfl) (.t rfl)) (LW.T (CW.cond (.t rfl) (fun h10 => ?_) (fun h10 => ?_))))))))))))
 ·replace h10 := dQ h10
  have hr : decide (xs = ys) = false := decide_eq_false (fun h => by subst h; simp at h10)
  refine CW.S (LW.C (LW.T (CW.ret (Af (Ae rfl rfl ⟨_, rfl, ?_⟩)))))
  exact ⟨by rw [hr], hW⟩
 replace h10 := dQ h10
 have hlen : xs.length = ys.length := Int.ofNat.inj (show Int.ofNat _ = Int.ofNat _ from (by simpa using h10 : (xs.length : Int) = ys.length))
 refine CW.skip (KW.then (CW.seq (CW.S (LW.C (LW.T (CW.block (CW.loop (σ := Nat) (fun s w => (s ≤ xs.length ∧ xs.take s = ys.take s) ∧ Els w ad 1 Aq xs ∧ Els w ad' 1 Aq ys ∧ Up w0 w) (fun s => [(0, .eq (.slice ad xs.length cp)), (1, .eq (.slice ad' ys.length cp')), (5, .eq (vi (s : Int)))]) (fun s => xs.length - s) 0 ?_ ?_ ?_)))))))
 ·exact ⟨⟨Nat.zero_le _, rfl⟩, hE1, hE2, hW⟩
 ·exact ⟨rfl, rfl, rfl, trivial⟩
 rintro k w1 ⟨⟨hk, hT⟩, hE1, hE2, hW⟩
 refine CW.seq (CW.S (LW.M rfl (LW.M rfl (LW.pp (.Ci underlying30 (.t rfl)) (LW.pp (.lss (.t rfl) (.t rfl)) (LW.T (CW.cond (.t rfl) (fun h14 => ?_) (fun h14 => ?_))))))))
 ·replace h14 := dQ h14
  refine CW.skip (KW.then (CW.seq (CW.block (CW.seq ?_))))
  obtain ⟨x, hx⟩ := Ac (xs := xs) (i := k) oQ
  obtain ⟨y, hy⟩ := Ac (xs := ys) (i := k) oQ
  obtain ⟨B, o, had, hcell⟩ := hE1 k x hx
  obtain ⟨B', o', had', hcell'⟩ := hE2 k y hy
  refine Ch kQ kQ rfl rfl (HW.pp (.move (.t rfl)) (HW.pp (.move (.t rfl)) (HW.pp (.Aj underlying30 sizeOf3 (.t rfl) (.t rfl) oQ had) (HW.pp (.ld isAgg3 rfl (hcell.nth (j := 0) rfl)) (HW.pp (.move (.t rfl)) (HW.pp (.move (.t rfl)) (HW.pp (.Aj underlying30 sizeOf3 (.t rfl) (.t rfl) oQ had') (HW.pp (.ld isAgg3 rfl (hcell'.nth (j := 0) rfl)) (HW.pp (.neq (.t rfl) (.t rfl)) (HW.nil ?_))))))))))
  intro w2 uw2
  replace hE1 := hE1.up uw2
  replace hE2 := hE2.up uw2
  replace hW := hW.up uw2
  refine KW.then (CW.cond (.t rfl) (fun h25 => ?_) (fun h25 => ?_))
  ·replace h25 := dQ h25
   have hr : decide (xs = ys) = false := decide_eq_false (lW hx hy (by simpa using h25))
   refine CW.S (LW.C (LW.T (CW.ret (An (Af (Af (An (Af (Ae rfl rfl ⟨_, rfl, ?_⟩)))))))))
   exact ⟨by rw [hr], hW⟩
  replace h25 := dQ h25
  refine CW.skip (KW.inBlock (KW.then (CW.region (LW.M rfl (LW.pp (.inc (.t rfl) oQ) (LW.A rfl (LW.nil (KW.round ?_))))))))
  exact ⟨k + 1, ⟨⟨by omega, U9 hT hx hy (by simpa using h25)⟩, hE1, hE2, hW⟩, ⟨rfl, rfl, rfl, trivial⟩, by omega⟩
 replace h14 := dQ h14
 have hr : decide (xs = ys) = true := decide_eq_true (by have := hT; rw [show k = xs.length by omega, List.take_length, hlen, List.take_length] at this; exact this)
 refine CW.exit (Aa (Aa (Ad (KW.then (CW.S (LW.C (LW.T (CW.ret (Ae rfl rfl ⟨_, rfl, ?_⟩)))))))))
 exact ⟨by rw [hr], hW⟩
theorem Cy (c n : Int) (w : World) (hn : n ≠ 0) : Ret Tryz.prog 27 #[vi c, vi n] w fun r w' => r = vi (Bn c n) ∧ Up w w' := by
 have hW := Up.refl w
 refine cS (n := 13) (m := 9) func27 rfl rfl rfl (CW.S (LW.C (LW.S (CW.S (LW.M rfl (LW.pp (.lss (.t rfl) (.const _)) (LW.T (CW.cond (.t rfl) (fun h6 => ?_) (fun h6 => ?_)))))))))
 ·replace h6 := dQ h6
  refine CW.region (LW.M rfl (LW.pp (.H2 (.t rfl) (.const _)) (LW.pp (.neg underlying3 (.t rfl)) (LW.A rfl (LW.S (CW.region (LW.M rfl (LW.M rfl (LW.pp (.rem (.t rfl) (.t rfl) oQ) (LW.A rfl (LW.T (CW.ret (Ae rfl rfl ⟨_, rfl, ?_⟩)))))))))))))
  exact ⟨by (rw [Bn, if_pos h6]), hW⟩
 replace h6 := dQ h6
 refine CW.skip (KW.then (CW.S (LW.M rfl (LW.M rfl (LW.pp (.rem (.t rfl) (.t rfl) oQ) (LW.A rfl (LW.T (CW.ret (Ae rfl rfl ⟨_, rfl, ?_⟩)))))))))
 exact ⟨by (rw [Bn, if_neg (by omega)]), hW⟩
theorem Fz (a b c d : Int) (w : World) : Ret Tryz.prog 30 #[vi a, vi b, vi c, vi d] w fun r w' => r = .agg (Fa a b c d).cells ∧ Up w w' := by
 obtain ⟨w0, rfl⟩ : ∃ w0, w0 = w := ⟨_, rfl⟩
 have hS := Sep.start no w0
 refine cS (n := 14) (m := 9) func30 rfl rfl rfl (CW.S (Ah (.Az zeroValue36) rfl ?_))
 rintro _ w1 ⟨B8, rfl, NB8⟩
 replace hS := hS.Cj NB8
 refine LW.S (CW.region (LW.M rfl (LW.M rfl (LW.M rfl (LW.M rfl (LW.pp (.build (cs := (Fa a b c d).cells) underlying36 zeroValue36 C3 (.cons (.const _) (.cons (.const _) (.cons (.t rfl) (.cons (.t rfl) (.cons (.const _) (.cons (.const _) (.cons (.const _) (.cons (.t rfl) (.cons (.t rfl) .nil))))))))) kQ) (LW.E (.Ay sizeOf36 rfl (.t rfl) (.t rfl) (Fact.one _) (hS.blk 0 rfl) rfl) ?_)))))))
 intro w2 Nw2
 replace hS := hS.Gf 0 rfl Nw2
 refine LW.T (CW.ret (F0 rfl rfl isAgg36 sizeOf36 rfl ((hS.blk 0 rfl).agg) ⟨_, rfl, ?_⟩))
 exact ⟨rfl, hS.Ce⟩
theorem R9 (ad1 : Option Addr) (cp1 : Nat) (ad2 : Option Addr) (cp2 : Nat) (La Lb : List VP) (w : World) (hE10 : Els w ad1 3 VP.cells La) (hE20 : Els w ad2 3 VP.cells Lb) (hw1 : ∀ p ∈ La, Sl w p.uv 1 Aq p.vd.why) (hw2 : ∀ p ∈ Lb, Sl w p.uv 1 Aq p.vd.why) (hl1 : ∀ p ∈ La, p.vd.why.length ≤ 1000000000) (hl2 : ∀ p ∈ Lb, p.vd.why.length ≤ 1000000000) (hl : La.length ≤ 1000000000) : Ret Tryz.prog 20 #[.slice ad1 La.length cp1, .slice ad2 Lb.length cp2] w fun r w' => r = .bool (decide (La.map (·.vd) = Lb.map (·.vd))) ∧ Up w w' := by
 have hW := Up.refl w
 obtain ⟨w0, rfl⟩ : ∃ w0, w0 = w := ⟨_, rfl⟩
 refine cS (n := 57) (m := 9) func20 rfl rfl rfl (CW.S (LW.C (LW.S (CW.S (LW.M rfl (LW.pp (.Ci underlying27 (.t rfl)) (LW.M rfl (LW.pp (.Ci underlying27 (.t rfl)) (LW.pp (.neq (.t rfl) (.t rfl)) (LW.T (CW.cond (.t rfl) (fun h11 => ?_) (fun h11 => ?_))))))))))))
 ·replace h11 := dQ h11
  have hr : decide (La.map (·.vd) = Lb.map (·.vd)) = false := decide_eq_false (fun h => by have h5 := congrArg List.length h; simp only [List.length_map] at h5; simp [h5] at h11)
  refine CW.S (LW.C (LW.T (CW.ret (Af (Ae rfl rfl ⟨_, rfl, ?_⟩)))))
  exact ⟨by rw [hr], hW⟩
 replace h11 := dQ h11
 have hlen : La.length = Lb.length := Int.ofNat.inj (show Int.ofNat _ = Int.ofNat _ from (by simpa using h11 : (La.length : Int) = Lb.length))
 refine CW.skip (KW.then (CW.seq (CW.S (LW.C (LW.T (CW.block (Am (σ := Nat) (fun s w => (s ≤ La.length) ∧ ((La.take s).map (·.vd) = (Lb.take s).map (·.vd)) ∧ (Up w0 w)) (fun s => [(5, .eq (vi (s : Int)))]) ([(0, .eq _), (1, .eq _)]) (fun s => La.length - s) 0 ?_ ⟨rfl, rfl, rfl, trivial⟩ ?_)))))))
 ·exact ⟨Nat.zero_le _, rfl, hW⟩
 rintro k w1 ⟨hk, hT, hW⟩
 refine CW.seq (CW.S (LW.M rfl (LW.M rfl (LW.pp (.Ci underlying27 (.t rfl)) (LW.pp (.lss (.t rfl) (.t rfl)) (LW.T (CW.cond (.t rfl) (fun h15 => ?_) (fun h15 => ?_))))))))
 ·replace h15 := dQ h15
  refine CW.skip (KW.then (CW.seq (CW.block (CW.seq ?_))))
  obtain ⟨x, hx⟩ := Ac (xs := La) (i := k) oQ
  obtain ⟨Bx, ox, ax, hcx⟩ := (Els.up hE10 hW) k x hx
  obtain ⟨y, hy⟩ := Ac (xs := Lb) (i := k) oQ
  obtain ⟨By, oy, ay, hcy⟩ := (Els.up hE20 hW) k y hy
  refine Ch kQ kQ rfl rfl (HW.pp (.move (.t rfl)) (HW.pp (.move (.t rfl)) (HW.pp (.Aj underlying27 sizeOf32 (j := k) (.t rfl) (.t rfl) oQ ax) (HW.pp (.fA 2 underlying32 rfl sizeOf30 rfl) (HW.pp (.ld isAgg30 rfl (hcx.nth (j := 2) rfl)) (HW.pp (.move (.t rfl)) (HW.pp (.move (.t rfl)) (HW.pp (.Aj underlying27 sizeOf32 (j := k) (.t rfl) (.t rfl) oQ ay) (HW.pp (.fA 2 underlying32 rfl sizeOf30 rfl) (HW.pp (.ld isAgg30 rfl (hcy.nth (j := 2) rfl)) (HW.c (fun a w _ ha => Aw (.cons (.t rfl) (.cons (.t rfl) .nil)) (pA) a ha) rfl rfl (fun w hu => Hw _ _ x.vd.why y.vd.why w (Sl.up (Sl.up (hw1 x (List.mem_of_getElem? hx)) hW) hu) (Sl.up (Sl.up (hw2 y (List.mem_of_getElem? hy)) hW) hu) (hl1 x (List.mem_of_getElem? hx)) (hl2 y (List.mem_of_getElem? hy))) (HW.pp (.assign (.t rfl)) (HW.nil ?_)))))))))))))
  intro w2 uw2
  replace hW := hW.up uw2
  replace hcx := hcx.up uw2
  replace hcy := hcy.up uw2
  refine KW.then (CW.seq (Ch kQ kQ rfl rfl (HW.pp (.move (.t rfl)) (HW.pp (.move (.t rfl)) (HW.pp (.Aj underlying27 sizeOf32 (j := k) (.t rfl) (.t rfl) oQ ax) (HW.pp (.fA 0 underlying32 rfl sizeOf3 rfl) (HW.pp (.ld isAgg3 rfl (hcx.nth (j := 0) rfl)) (HW.pp (.move (.t rfl)) (HW.pp (.move (.t rfl)) (HW.pp (.Aj underlying27 sizeOf32 (j := k) (.t rfl) (.t rfl) oQ ay) (HW.pp (.fA 0 underlying32 rfl sizeOf3 rfl) (HW.pp (.ld isAgg3 rfl (hcy.nth (j := 0) rfl)) (HW.pp (.neq (.t rfl) (.t rfl)) (HW.pp (.move (.t rfl)) (HW.g rfl rfl rfl rfl rfl rfl (fun hc => PEv.move (.t rfl)) (HW.g rfl rfl rfl rfl rfl rfl (fun hc => PEv.move (.t rfl)) (HW.g rfl rfl rfl rfl rfl rfl (fun hc => PEv.Aj underlying27 sizeOf32 (j := k) vQ vQ oQ ax) (HW.g rfl rfl rfl rfl rfl rfl (fun hc => PEv.fieldAddr (off := 1) underlying32 rfl rfl sizeOf3 rfl vQ) (HW.g rfl rfl rfl rfl rfl rfl (fun hc => PEv.load isAgg3 vQ (hcx.nth (j := 1) rfl)) (HW.g rfl rfl rfl rfl rfl rfl (fun hc => PEv.move (.t rfl)) (HW.g rfl rfl rfl rfl rfl rfl (fun hc => PEv.move (.t rfl)) (HW.g rfl rfl rfl rfl rfl rfl (fun hc => PEv.Aj underlying27 sizeOf32 (j := k) vQ vQ oQ ay) (HW.g rfl rfl rfl rfl rfl rfl (fun hc => PEv.fieldAddr (off := 1) underlying32 rfl rfl sizeOf3 rfl vQ) (HW.g rfl rfl rfl rfl rfl rfl (fun hc => PEv.load isAgg3 vQ (hcy.nth (j := 1) rfl)) (HW.g rfl rfl rfl rfl rfl rfl (fun hc => PEv.neq vQ vQ) (HW.pp (.A7 (.t rfl) (fun hp => (by exact .cond rfl (by (rw [hp]; rfl))))) (HW.pp (.move (.t rfl)) (HW.g rfl rfl rfl rfl rfl rfl (fun hc => PEv.move (.t rfl)) (HW.g rfl rfl rfl rfl rfl rfl (fun hc => PEv.not vQ) (HW.pp (.A7 (.t rfl) (fun hp => (by exact .cond rfl (by (rw [hp]; rfl))))) (HW.nil ?_)))))))))))))))))))))))))))))))
  intro w3 uw3
  replace hW := hW.up uw3
  replace hcx := hcx.up uw3
  replace hcy := hcy.up uw3
  refine KW.then (CW.cond (.t rfl) (fun h56 => ?_) (fun h56 => ?_))
  ·replace h56 := dQ h56
   have hne : ¬ x.vd = y.vd := fun e => by rw [e] at h56; simp at h56
   have hr : decide (La.map (·.vd) = Lb.map (·.vd)) = false := decide_eq_false (N2 (f := VP.vd) (g := VP.vd) hx hy hne)
   refine CW.S (LW.C (LW.T (CW.ret (An (Af (Af (An (Af (Ae rfl rfl ⟨_, rfl, ?_⟩)))))))))
   exact ⟨by rw [hr], hW⟩
  replace h56 := dQ h56
  have heq : x.vd = y.vd := by have h5 := h56; simp at h5; exact vD h5.1.1 h5.1.2 h5.2
  refine CW.skip (KW.inBlock (KW.then (CW.region (LW.M rfl (LW.pp (.inc (.t rfl) oQ) (LW.A rfl (LW.nil (KW.round ?_))))))))
  exact ⟨k + 1, ⟨by omega, N1 hT hx hy heq, hW⟩, ⟨rfl, rfl, rfl, trivial⟩, by omega⟩
 replace h15 := dQ h15
 have hr : decide (La.map (·.vd) = Lb.map (·.vd)) = true := decide_eq_true (by have h5 := hT; rw [show k = La.length by omega, List.take_length, hlen, List.take_length] at h5; exact h5)
 refine CW.exit (Aa (Aa (Ad (KW.then (CW.S (LW.C (LW.T (CW.ret (Ae rfl rfl ⟨_, rfl, ?_⟩)))))))))
 exact ⟨by rw [hr], hW⟩
theorem Po (ad1 : Option Addr) (cp1 : Nat) (ad2 : Option Addr) (cp2 : Nat) (La Lb : List TP) (w : World) (hE10 : Els w ad1 1 TP.cells La) (hE20 : Els w ad2 1 TP.cells Lb) (hw1 : ∀ p ∈ La, Sl w p.v 1 Aq p.l) (hw2 : ∀ p ∈ Lb, Sl w p.v 1 Aq p.l) (hl1 : ∀ p ∈ La, p.l.length ≤ 1000000000) (hl2 : ∀ p ∈ Lb, p.l.length ≤ 1000000000) (hl : La.length ≤ 1000000000) : Ret Tryz.prog 24 #[.slice ad1 La.length cp1, .slice ad2 Lb.length cp2] w fun r w' => r = .bool (decide (La.map (·.l) = Lb.map (·.l))) ∧ Up w w' := by
 have hW := Up.refl w
 obtain ⟨w0, rfl⟩ : ∃ w0, w0 = w := ⟨_, rfl⟩
 refine cS (n := 31) (m := 9) func24 rfl rfl rfl (CW.S (LW.C (LW.S (CW.S (LW.M rfl (LW.pp (.Ci underlying51 (.t rfl)) (LW.M rfl (LW.pp (.Ci underlying51 (.t rfl)) (LW.pp (.neq (.t rfl) (.t rfl)) (LW.T (CW.cond (.t rfl) (fun h11 => ?_) (fun h11 => ?_))))))))))))
 ·replace h11 := dQ h11
  have hr : decide (La.map (·.l) = Lb.map (·.l)) = false := decide_eq_false (fun h => by have h5 := congrArg List.length h; simp only [List.length_map] at h5; simp [h5] at h11)
  refine CW.S (LW.C (LW.T (CW.ret (Af (Ae rfl rfl ⟨_, rfl, ?_⟩)))))
  exact ⟨by rw [hr], hW⟩
 replace h11 := dQ h11
 have hlen : La.length = Lb.length := Int.ofNat.inj (show Int.ofNat _ = Int.ofNat _ from (by simpa using h11 : (La.length : Int) = Lb.length))
 refine CW.skip (KW.then (CW.seq (CW.S (LW.C (LW.T (CW.block (Am (σ := Nat) (fun s w => (s ≤ La.length) ∧ ((La.take s).map (·.l) = (Lb.take s).map (·.l)) ∧ (Up w0 w)) (fun s => [(5, .eq (vi (s : Int)))]) ([(0, .eq _), (1, .eq _)]) (fun s => La.length - s) 0 ?_ ⟨rfl, rfl, rfl, trivial⟩ ?_)))))))
 ·exact ⟨Nat.zero_le _, rfl, hW⟩
 rintro k w1 ⟨hk, hT, hW⟩
 refine CW.seq (CW.S (LW.M rfl (LW.M rfl (LW.pp (.Ci underlying51 (.t rfl)) (LW.pp (.lss (.t rfl) (.t rfl)) (LW.T (CW.cond (.t rfl) (fun h15 => ?_) (fun h15 => ?_))))))))
 ·replace h15 := dQ h15
  refine CW.skip (KW.then (CW.seq (CW.block (CW.seq ?_))))
  obtain ⟨x, hx⟩ := Ac (xs := La) (i := k) oQ
  obtain ⟨Bx, ox, ax, hcx⟩ := (Els.up hE10 hW) k x hx
  obtain ⟨y, hy⟩ := Ac (xs := Lb) (i := k) oQ
  obtain ⟨By, oy, ay, hcy⟩ := (Els.up hE20 hW) k y hy
  refine Ch kQ kQ rfl rfl (HW.pp (.move (.t rfl)) (HW.pp (.move (.t rfl)) (HW.pp (.Aj underlying51 sizeOf64 (j := k) (.t rfl) (.t rfl) oQ ax) (HW.pp (.fA 0 underlying64 rfl sizeOf30 rfl) (HW.pp (.ld isAgg30 rfl (hcx.nth (j := 0) rfl)) (HW.pp (.move (.t rfl)) (HW.pp (.move (.t rfl)) (HW.pp (.Aj underlying51 sizeOf64 (j := k) (.t rfl) (.t rfl) oQ ay) (HW.pp (.fA 0 underlying64 rfl sizeOf30 rfl) (HW.pp (.ld isAgg30 rfl (hcy.nth (j := 0) rfl)) (HW.c (fun a w _ ha => Aw (.cons (.t rfl) (.cons (.t rfl) .nil)) (pA) a ha) rfl rfl (fun w hu => Hw _ _ x.l y.l w (Sl.up (Sl.up (hw1 x (List.mem_of_getElem? hx)) hW) hu) (Sl.up (Sl.up (hw2 y (List.mem_of_getElem? hy)) hW) hu) (hl1 x (List.mem_of_getElem? hx)) (hl2 y (List.mem_of_getElem? hy))) (HW.pp (.assign (.t rfl)) (HW.nil ?_)))))))))))))
  intro w2 uw2
  replace hW := hW.up uw2
  refine KW.then (CW.S (LW.M rfl (LW.pp (.not (.t rfl)) (LW.T (CW.cond (.t rfl) (fun h30 => ?_) (fun h30 => ?_))))))
  ·replace h30 := dQ h30
   have hne : ¬ x.l = y.l := by simpa using h30
   have hr : decide (La.map (·.l) = Lb.map (·.l)) = false := decide_eq_false (N2 (f := TP.l) (g := TP.l) hx hy hne)
   refine CW.S (LW.C (LW.T (CW.ret (An (Af (Af (An (Af (Ae rfl rfl ⟨_, rfl, ?_⟩)))))))))
   exact ⟨by rw [hr], hW⟩
  replace h30 := dQ h30
  have heq : x.l = y.l := by simpa using h30
  refine CW.skip (KW.inBlock (KW.then (CW.region (LW.M rfl (LW.pp (.inc (.t rfl) oQ) (LW.A rfl (LW.nil (KW.round ?_))))))))
  exact ⟨k + 1, ⟨by omega, N1 hT hx hy heq, hW⟩, ⟨rfl, rfl, rfl, trivial⟩, by omega⟩
 replace h15 := dQ h15
 have hr : decide (La.map (·.l) = Lb.map (·.l)) = true := decide_eq_true (by have h5 := hT; rw [show k = La.length by omega, List.take_length, hlen, List.take_length] at h5; exact h5)
 refine CW.exit (Aa (Aa (Ad (KW.then (CW.S (LW.C (LW.T (CW.ret (Ae rfl rfl ⟨_, rfl, ?_⟩)))))))))
 exact ⟨by rw [hr], hW⟩
end Go.Proofs.YtmimclgihlhaeaaGreat
end
section
namespace Go.Wx
def bJ (k : Nat) (y : I5) : Fact := { Fx with Kind := 1, Version := 1, ID := wI (1 + (k : Int)), Wafer := wI (1 + Bn y.b 8), Tool := 2, Chamber := Bn y.e 2, Recipe := 1, Revision := 1, Time := Bn y.c 200, Until := wI (Bn y.c 200 + Bn y.d 20) }
def nC (k : Nat) (y : I5) : Fact := { Fx with Kind := 11, Version := 1, ID := wI (1 + (k : Int)), Tool := 2, Chamber := Bn y.e 2, Time := Bn y.c 200, Until := wI (Bn y.c 200 + Bn y.d 9) }
def Vk (k : Nat) (y : I5) : Fact := { Fx with Kind := 3, Version := 1, ID := wI (1 + (k : Int)), Wafer := wI (1 + Bn y.b 7), Time := Bn y.c 200 }
def bK (y : I5) : Fact := { Fx with Kind := 4, Version := 1, Wafer := wI (1 + Bn y.b 8), Lot := wI (1 + Bn y.d 4), Product := 1, Time := wI ((Bn y.c 200).tdiv 4) }
def Vw (k : Nat) (y : I5) : Fact := if Bn y.a 10 = 0 then nC k y else if Bn y.a 10 = 1 then { Vk k y with Other := wI ((Vk k y).Wafer + 1) } else if Bn y.a 10 = 2 ∨ Bn y.a 10 = 3 then bK y else bJ k y
theorem zV {k : Nat} {y : I5} (h : Bn y.a 10 = 0) : Vw k y = nC k y := if_pos h
theorem zX {k : Nat} {y : I5} (h : Bn y.a 10 = 1) : Vw k y = { Vk k y with Other := wI ((Vk k y).Wafer + 1) } := by unfold Vw; rw [if_neg oQ, if_pos h]
theorem sR {k : Nat} {y : I5} (h : Bn y.a 10 = 2 ∨ Bn y.a 10 = 3) : Vw k y = bK y := by unfold Vw; rw [if_neg oQ, if_neg oQ, if_pos h]
theorem sS {k : Nat} {y : I5} (h0 : ¬ Bn y.a 10 = 0) (h1 : ¬ Bn y.a 10 = 1) (h2 : ¬ Bn y.a 10 = 2) (h3 : ¬ Bn y.a 10 = 3) : Vw k y = bJ k y := by unfold Vw; rw [if_neg h0, if_neg h1, if_neg (by omega)]
def Lu (xs : List I5) : List Fact := (xs.take 30).mapIdx Vw
theorem Ie (xs : List I5) : (Lu xs).length ≤ 30 := by unfold Lu; rw [List.length_mapIdx, List.length_take]; omega
theorem H0 {xs : List I5} {k : Nat} {y : I5} (hy : xs[k]? = some y) (hk : k < 30) : Lu (xs.take (k + 1)) = Lu (xs.take k) ++ [Vw k y] := by
 have hl := (List.getElem?_eq_some_iff.1 hy).1
 unfold Lu
 rw [List.take_take, List.take_take, Nat.min_eq_right oQ, Nat.min_eq_right oQ, List.take_add_one, hy, Option.toList_some, List.mapIdx_append, List.length_take, Nat.min_eq_left (by omega)]
 simp
theorem nD {xs : List I5} {k : Nat} (h : ¬ (k < xs.length ∧ k < 30)) : Lu (xs.take k) = Lu xs := by
 unfold Lu
 rw [List.take_take]
 congr 1
 by_cases h1 : k < 30
 · rw [Nat.min_eq_right oQ, List.take_of_length_le oQ, List.take_of_length_le (by omega)]
 rw [Nat.min_eq_left (by omega)]
end Go.Wx
namespace Go.Proofs.YtmimclgihlhaeaaGreat
open Go.Proofs.Tryz
open Go.Wx Go.RowKit
theorem bL (y : I5) (w : World) : Ret Tryz.prog 15 #[.agg y.cells] w fun r w' => r = .agg (R8 y).cells ∧ Up w w' := by
 obtain ⟨w0, rfl⟩ : ∃ w0, w0 = w := ⟨_, rfl⟩
 have hS := Sep.start no w0
 refine cS (n := 22) (m := 9) func15 rfl rfl rfl (CW.S (Ah (.C7 (.t rfl)) rfl ?_))
 rintro _ w1 ⟨B1, rfl, NB1⟩
 replace hS := hS.Cj NB1
 refine Ah (.Az zeroValue25) rfl ?_
 rintro _ w2 ⟨B2, rfl, NB2⟩
 replace hS := hS.Cj NB2
 refine LW.S (Fl 11 [.eq (.pointer (some ⟨B1, 0, none⟩)), .eq (vi (y.a)), .eq (vi (Bn y.a 2)), .eq (.pointer (some ⟨B1, 1, none⟩)), .eq (vi (y.b)), .eq (vi (Bn y.b 200)), .eq (.pointer (some ⟨B1, 3, none⟩)), .eq (vi (y.d)), .eq (vi (Bn y.d 12)), .eq (.agg (Exc.mk 2 (Bn y.a 2) (Bn y.b 200) 0 (Bn y.d 12)).cells), .pred fun v W => ∃ B, v = .pointer (some ⟨B, 0, none⟩) ∧ w2.drew.heap.size ≤ B ∧ Blk W B (Exc.mk 0 0 0 0 0).cells 25] [3, 13] kQ rfl kQ kQ kQ kQ kQ kQ kQ ⟨PhU.eq _, PhU.eq _, PhU.eq _, PhU.eq _, PhU.eq _, PhU.eq _, PhU.eq _, PhU.eq _, PhU.eq _, PhU.eq _, PhU.pred fun _ _ _ h u => let ⟨B, e, hz, hb⟩ := h; ⟨B, e, hz, hb.up u⟩, trivial⟩ ?_ ?_)
 ·intro W hU0
  have hU := (Up.drew w2).trans hU0
  have zU0 := hU0.size
  refine aC ⟨rfl, TU.p (.Bk (j := 0) underlying26 sizeOf3 (.t rfl) (.const _) cQ) rfl⟩ (aC ⟨rfl, TU.p (.ld isAgg3 rfl (((hS.blk 0 rfl).up hU).Ai rfl)) rfl⟩ (aC ⟨rfl, TU.c (eC (.cons (.t rfl) (.cons (.const _) .nil)) (Ls)) (Cy _ _ _ cQ) sQ⟩ (aC ⟨rfl, TU.p (.Bk (j := 1) underlying26 sizeOf3 (.t rfl) (.const _) cQ) rfl⟩ (aC ⟨rfl, TU.p (.ld isAgg3 rfl (((hS.blk 0 rfl).up hU).Ai rfl)) rfl⟩ (aC ⟨rfl, TU.c (eC (.cons (.t rfl) (.cons (.const _) .nil)) (Ls)) (Cy _ _ _ cQ) sQ⟩ (aC ⟨rfl, TU.p (.Bk (j := 3) underlying26 sizeOf3 (.t rfl) (.const _) cQ) rfl⟩ (aC ⟨rfl, TU.p (.ld isAgg3 rfl (((hS.blk 0 rfl).up hU).Ai rfl)) rfl⟩ (aC ⟨rfl, TU.c (eC (.cons (.t rfl) (.cons (.const _) .nil)) (Ls)) (Cy _ _ _ cQ) sQ⟩ (aC ⟨rfl, TU.p (.build (cs := (Exc.mk 2 (Bn y.a 2) (Bn y.b 200) 0 (Bn y.d 12)).cells) underlying25 zeroValue25 Gy (.cons (.const _) (.cons (.t rfl) (.cons (.t rfl) (.cons (.t rfl) .nil)))) rfl) rfl⟩ (aC ⟨rfl, TU.r (REv.Az zeroValue25) (fun v W' h => let ⟨B, e, N⟩ := h; ⟨N.up, B, e, by rw [N.at_]; exact zU0, N.blk⟩)⟩ ?_))))))))))
  exact allL.nil
 intro w3 g hU0 hg
 have hU := (Up.drew w2).trans hU0
 obtain ⟨B3, e6, z6, hB3⟩ : ∃ B, g 3 = .pointer (some ⟨B, 0, none⟩) ∧ w2.drew.heap.size ≤ B ∧ Blk w3 B (Exc.mk 0 0 0 0 0).cells 25 := hg 10 _ 3 cQ rfl rfl
 have e45 : g 13 = .agg (Exc.mk 2 (Bn y.a 2) (Bn y.b 200) 0 (Bn y.d 12)).cells := hg 9 _ 13 cQ rfl rfl
 change LW _ _ _ _ _ _ _ _ ((3, .eq (g 3)) :: (13, .eq (g 13)) :: _) _
 rw [e6, e45]
 replace hS := (hS.up (Up.drew _)).add hU0 (A' := Ck B3 (Exc.mk 0 0 0 0 0).cells 25) hB3 (fun i (e : i = B3) => by omega)
 refine LW.E (.Ay sizeOf25 rfl (.t rfl) (.t rfl) (Exc.one _) (hS.blk 2 rfl) rfl) ?_
 intro w4 Nw4
 replace hS := hS.Gf 2 rfl (show Set_ _ w4 _ ((Exc.mk 2 (Bn y.a 2) (Bn y.b 200) 0 (Bn y.d 12)).cells) _ from Nw4)
 refine LW.S (C2 6 kQ kQ kQ kQ kQ rfl rfl (HW.pp (.fA 2 underlying25 rfl sizeOf3 rfl) (HW.pp (.ld isAgg3 rfl ((hS.blk 2 rfl).Ai rfl)) (HW.pp (.Bk (j := 2) underlying26 sizeOf3 (.t rfl) (.const _) cQ) (HW.pp (.ld isAgg3 rfl ((hS.blk 0 rfl).Ai rfl)) (HW.c (fun a w _ ha => Aw (.cons (.t rfl) (.cons (.const _) .nil)) (Ls) a ha) rfl rfl (fun w hu => Cy _ _ w cQ) (HW.pp (.H2 (.t rfl) (.t rfl)) (HW.nil ?_))))))))
 intro w5 uw5
 replace hS := hS.up uw5
 refine LW.pp (.fA 3 underlying25 rfl sizeOf3 rfl) (LW.E (.store sizeOf3 (.t rfl) (.t rfl) rfl (hS.blk 2 rfl) (Nat.le_of_ble_eq_true rfl)) ?_)
 intro w6 Nw6
 replace hS := hS.Gf 2 rfl (show Set_ _ w6 _ ((R8 y).cells) _ from Nw6)
 refine LW.S (CW.region (LW.pp (.la isAgg25 sizeOf25 rfl ((hS.blk 2 rfl).agg)) (LW.E (.Ay sizeOf25 rfl (.t rfl) (.t rfl) (Exc.one _) (hS.blk 1 rfl) rfl) ?_)))
 intro w7 Nw7
 replace hS := hS.Gf 1 rfl Nw7
 refine LW.T (CW.ret (F0 rfl rfl isAgg25 sizeOf25 rfl ((hS.blk 1 rfl).agg) ⟨_, rfl, ?_⟩))
 exact ⟨rfl, hS.Ce⟩
set_option maxHeartbeats 2000000 in
theorem Yk (ad : Option Addr) (cp : Nat) (xs : List I5) (w : World) (hE0 : Els w ad 5 I5.cells xs) : Ret Tryz.prog 14 #[.slice ad xs.length cp] w fun r w' => OwnS w' w.heap.size 36 19 Fact.cells r (Lu xs) ∧ Up w w' := by
 obtain ⟨w0, rfl⟩ : ∃ w0, w0 = w := ⟨_, rfl⟩
 have hS := Sep.start no w0
 refine cS (n := 91) (m := 9) func14 rfl rfl rfl (CW.S (LW.C (LW.S (CW.region (LW.C (LW.S (CW.seq ?_)))))))
 replace hS := hS.add (Up.refl _) (A' := Al 36 19 Fact.cells (.slice none 0 0) ([] : List Fact)) (OwnS.nil _ _ _ _ _) (fun i h => by cases h)
 refine CW.region (LW.C (LW.T (CW.block (Am (σ := Nat × Go.Value) (fun s w => (s.1 ≤ xs.length ∧ s.1 ≤ 30) ∧ (Wx.Sep no w0 w [Al 36 19 Fact.cells s.2 (Lu (xs.take s.1))])) (fun s => [(4, .eq (vi (s.1 : Int))), (3, .eq (s.2))]) ([(0, .eq _), (2, .eq _)]) (fun s => xs.length - s.1) (0, .slice none 0 0) ?_ ⟨rfl, rfl, rfl, rfl, trivial⟩ ?_))))
 ·exact ⟨⟨Nat.zero_le _, Nat.zero_le _⟩, hS⟩
 rintro ⟨k, v⟩ w1 ⟨hk, hS⟩
 dsimp only at hk hS
 change CW _ _ _ _ _ _ _ ([(4, .eq (vi (k : Int))), (3, .eq (v))] ++ _) _
 refine CW.seq (CW.S (LW.M rfl (LW.M rfl (LW.pp (.Ci underlying22 (.t rfl)) (LW.pp (.lss (.t rfl) (.t rfl)) (LW.M rfl (LW.g rfl rfl rfl rfl rfl rfl rfl (fun hc => PEv.move (.t rfl)) (LW.g rfl rfl rfl rfl rfl rfl rfl (fun hc => PEv.lss vQ (.const _)) (LW.pp (.Ao (.t rfl) (fun hp => (by exact .cond rfl (by simp_all)))) (LW.T (CW.cond (.t rfl) (fun h15 => ?_) (fun h15 => ?_))))))))))))
 ·replace h15 := dQ h15
  refine CW.skip (KW.then (CW.seq (CW.block (CW.seq ?_))))
  have hE := hE0.up hS.Ce
  have hkl : k < xs.length ∧ k < 30 := by simp at h15; omega
  refine CW.region (LW.M rfl (LW.M rfl ?_))
  obtain ⟨y, hy⟩ := Ac (xs := xs) (i := k) oQ
  obtain ⟨By, oy, ay, hcy⟩ := hE _ y hy
  refine LW.pp (.Aj underlying22 sizeOf26 (.t rfl) (.t rfl) oQ ay) (LW.pp (.la isAgg26 sizeOf26 rfl (hcy)) (Ah (.Az zeroValue26) rfl ?_))
  rintro _ w2 ⟨B5, rfl, MB5⟩
  refine LW.E (.Ay sizeOf26 rfl (.t rfl) (.t rfl) (I5.one _) MB5.blk rfl) ?_
  intro w3 LB5
  have NB5 := MB5.set LB5
  clear LB5 MB5
  replace hcy := hcy.up NB5.up
  replace hS := hS.Cj NB5
  refine LW.S (CW.region (LW.pp (.Bk (j := 2) underlying26 sizeOf3 (.t rfl) (.const _) cQ) (LW.pp (.ld isAgg3 rfl ((hS.blk 1 rfl).Ai rfl)) (LW.K (eC (.cons (.t rfl) (.cons (.const _) .nil)) (Ls)) rfl (Cy _ _ _ cQ) ?_))))
  rintro _ w4 ⟨rfl, uw4⟩
  replace hS := hS.up uw4
  refine LW.A rfl (LW.S (Fl 17 [.eq (vi ((k : Int))), .eq (vi (wI (1 + (k : Int)))), .eq (.pointer (some ⟨B5, 1, none⟩)), .eq (vi (y.b)), .eq (vi (Bn y.b 8)), .eq (vi (wI (1 + Bn y.b 8))), .eq (.pointer (some ⟨B5, 4, none⟩)), .eq (vi (y.e)), .eq (vi (Bn y.e 2)), .eq (vi (Bn y.c 200)), .eq (vi (Bn y.c 200)), .eq (.pointer (some ⟨B5, 3, none⟩)), .eq (vi (y.d)), .eq (vi (Bn y.d 20)), .eq (vi (wI (Bn y.c 200 + Bn y.d 20))), .eq (.agg (bJ k y).cells), .pred fun v W => ∃ B, v = .pointer (some ⟨B, 0, none⟩) ∧ w4.drew.heap.size ≤ B ∧ Blk W B Fx.cells 36] [7, 40] kQ rfl kQ kQ kQ kQ kQ kQ kQ ⟨PhU.eq _, PhU.eq _, PhU.eq _, PhU.eq _, PhU.eq _, PhU.eq _, PhU.eq _, PhU.eq _, PhU.eq _, PhU.eq _, PhU.eq _, PhU.eq _, PhU.eq _, PhU.eq _, PhU.eq _, PhU.eq _, PhU.pred fun _ _ _ h u => let ⟨B, e, hz, hb⟩ := h; ⟨B, e, hz, hb.up u⟩, trivial⟩ ?_ ?_))
  ·intro W hU0
   have hU := (Up.drew w4).trans hU0
   have zU0 := hU0.size
   refine aC ⟨rfl, TU.p (.move (.t rfl)) rfl⟩ (aC ⟨rfl, TU.p (.H2 (.const _) (.t rfl)) rfl⟩ (aC ⟨rfl, TU.p (.Bk (j := 1) underlying26 sizeOf3 (.t rfl) (.const _) cQ) rfl⟩ (aC ⟨rfl, TU.p (.ld isAgg3 rfl (((hS.blk 1 rfl).up hU).Ai rfl)) rfl⟩ (aC ⟨rfl, TU.c (eC (.cons (.t rfl) (.cons (.const _) .nil)) (Ls)) (Cy _ _ _ cQ) sQ⟩ (aC ⟨rfl, TU.p (.H2 (.const _) (.t rfl)) rfl⟩ (aC ⟨rfl, TU.p (.Bk (j := 4) underlying26 sizeOf3 (.t rfl) (.const _) cQ) rfl⟩ (aC ⟨rfl, TU.p (.ld isAgg3 rfl (((hS.blk 1 rfl).up hU).Ai rfl)) rfl⟩ (aC ⟨rfl, TU.c (eC (.cons (.t rfl) (.cons (.const _) .nil)) (Ls)) (Cy _ _ _ cQ) sQ⟩ (aC ⟨rfl, TU.p (.move (.t rfl)) rfl⟩ (aC ⟨rfl, TU.p (.move (.t rfl)) rfl⟩ (aC ⟨rfl, TU.p (.Bk (j := 3) underlying26 sizeOf3 (.t rfl) (.const _) cQ) rfl⟩ (aC ⟨rfl, TU.p (.ld isAgg3 rfl (((hS.blk 1 rfl).up hU).Ai rfl)) rfl⟩ (aC ⟨rfl, TU.c (eC (.cons (.t rfl) (.cons (.const _) .nil)) (Ls)) (Cy _ _ _ cQ) sQ⟩ (aC ⟨rfl, TU.p (.H2 (.t rfl) (.t rfl)) rfl⟩ (aC ⟨rfl, TU.p (.build (cs := (bJ k y).cells) underlying36 zeroValue36 C3 (.cons (.const _) (.cons (.const _) (.cons (.t rfl) (.cons (.t rfl) (.cons (.const _) (.cons (.t rfl) (.cons (.const _) (.cons (.const _) (.cons (.t rfl) (.cons (.t rfl) .nil)))))))))) kQ) rfl⟩ (aC ⟨rfl, TU.r (REv.Az zeroValue36) (fun v W' h => let ⟨B, e, N⟩ := h; ⟨N.up, B, e, by rw [N.at_]; exact zU0, N.blk⟩)⟩ ?_))))))))))))))))
   exact allL.nil
  intro w5 g hU0 hg
  have hU := (Up.drew w4).trans hU0
  obtain ⟨B7, e6, z6, hB7⟩ : ∃ B, g 7 = .pointer (some ⟨B, 0, none⟩) ∧ w4.drew.heap.size ≤ B ∧ Blk w5 B Fx.cells 36 := hg 16 _ 7 cQ rfl rfl
  have e45 : g 40 = .agg (bJ k y).cells := hg 15 _ 40 cQ rfl rfl
  change LW _ _ _ _ _ _ _ _ ((7, .eq (g 7)) :: (40, .eq (g 40)) :: _) _
  rw [e6, e45]
  clear hg e6 e45
  replace hS := (hS.up (Up.drew _)).add hU0 (A' := Ck B7 Fx.cells 36) hB7 (fun i (e : i = B7) => by omega)
  refine LW.E (.Ay sizeOf36 rfl (.t rfl) (.t rfl) (Fact.one _) (hS.blk 2 rfl) rfl) ?_
  intro w6 Nw6
  replace hS := hS.Gf 2 rfl (show Set_ _ w6 _ ((bJ k y).cells) _ from Nw6)
  refine LW.S (CW.S (LW.pp (.Bk (j := 0) underlying26 sizeOf3 (.t rfl) (.const _) cQ) (LW.pp (.ld isAgg3 rfl ((hS.blk 1 rfl).Ai rfl)) (LW.K (eC (.cons (.t rfl) (.cons (.const _) .nil)) (Ls)) rfl (Cy _ _ _ cQ) ?_))))
  rintro _ w7 ⟨rfl, uw7⟩
  replace hS := hS.up uw7
  refine LW.T (CW.block (CW.S (LW.pp (.eql (.t rfl) (.const _)) (LW.A rfl (LW.T (CW.cond (.t rfl) (fun h44 => ?_) (fun h44 => ?_)))))))
  ·replace h44 := dQ h44
   refine C2 12 kQ kQ kQ kQ kQ rfl rfl (HW.pp (.move (.t rfl)) (HW.pp (.H2 (.const _) (.t rfl)) (HW.pp (.Bk (j := 4) underlying26 sizeOf3 (.t rfl) (.const _) cQ) (HW.pp (.ld isAgg3 rfl ((hS.blk 1 rfl).Ai rfl)) (HW.c (fun a w _ ha => Aw (.cons (.t rfl) (.cons (.const _) .nil)) (Ls) a ha) rfl rfl (fun w hu => Cy _ _ w cQ) (HW.pp (.move (.t rfl)) (HW.pp (.move (.t rfl)) (HW.pp (.Bk (j := 3) underlying26 sizeOf3 (.t rfl) (.const _) cQ) (HW.pp (.ld isAgg3 rfl ((hS.blk 1 rfl).Ai rfl)) (HW.c (fun a w _ ha => Aw (.cons (.t rfl) (.cons (.const _) .nil)) (Ls) a ha) rfl rfl (fun w hu => Cy _ _ w cQ) (HW.pp (.H2 (.t rfl) (.t rfl)) (HW.pp (.build (cs := (nC k y).cells) underlying36 zeroValue36 C3 (.cons (.const _) (.cons (.const _) (.cons (.t rfl) (.cons (.const _) (.cons (.t rfl) (.cons (.t rfl) (.cons (.t rfl) .nil))))))) kQ) (HW.nil ?_)))))))))))))
   intro w8 uw8
   replace hS := hS.up uw8
   refine LW.E (.Ay sizeOf36 rfl (.t rfl) (.t rfl) (Fact.one _) (hS.blk 2 rfl) rfl) ?_
   intro w9 Nw9
   replace hS := hS.Gf 2 rfl (show Set_ _ w9 _ ((nC k y).cells) _ from Nw9)
   refine LW.nil (KW.inBlock (KW.then ?_))
   rw [← zV (by omega)] at hS
   have hsl := Ie (xs.take k)
   refine CW.region (LW.M rfl (LW.pp (.la isAgg36 sizeOf36 rfl ((hS.blk 2 rfl).agg)) (Ah (.buildSlice (xs := [Vw k y]) (enc := Fact.cells) (mk := fun f : Fact => .agg f.cells) underlying23 sizeOf36 zeroValue36 rfl cQ (fun _ => rfl) (fun _ => rfl) (.cons (.t rfl) .nil) rfl) rfl ?_)))
   rintro _ w10 ⟨B88, cB88, rfl, NB88, yB88, xB88⟩
   replace hS := hS.up NB88.up
   have hE88 := xB88
   refine Ah (.A8 (enc := Fact.cells) (bytes := 160) (i := Tryz.t36) underlying23 kQ rfl rfl rfl rfl cQ (fun _ => rfl) Fact.one (.t rfl) (.t rfl) (hS.own 0 rfl) (Ak hE88) (by have := hsl; simp [maxLen]; omega) (by have := hsl; simp; omega)) rfl ?_
   intro v89 w11 Gw11
   replace hS := hS.Dh 0 rfl Gw11
   refine LW.A rfl (LW.nil (KW.inBlock (KW.then (CW.region (LW.M rfl (LW.pp (.inc (.t rfl) oQ) (LW.A rfl (LW.nil (KW.round ?_)))))))))
   exact ⟨(k + 1, v89), ⟨⟨by show k + 1 ≤ _; omega, by show k + 1 ≤ _; omega⟩, by rw [H0 hy hkl.2]; exact hS.take 1⟩, ⟨rfl, rfl, rfl, rfl, trivial⟩, by show xs.length - (k + 1) < xs.length - k; omega⟩
  replace h44 := dQ h44
  refine CW.S (LW.pp (.eql (.t rfl) (.const _)) (LW.A rfl (LW.T (CW.cond (.t rfl) (fun h58 => ?_) (fun h58 => ?_)))))
  ·replace h58 := dQ h58
   refine CW.S (LW.M rfl (LW.pp (.H2 (.const _) (.t rfl)) (LW.pp (.Bk (j := 1) underlying26 sizeOf3 (.t rfl) (.const _) cQ) (LW.pp (.ld isAgg3 rfl ((hS.blk 1 rfl).Ai rfl)) (LW.K (eC (.cons (.t rfl) (.cons (.const _) .nil)) (Ls)) rfl (Cy _ _ _ cQ) ?_)))))
   rintro _ w12 ⟨rfl, uw12⟩
   replace hS := hS.up uw12
   refine LW.pp (.H2 (.const _) (.t rfl)) (LW.M rfl (LW.pp (.build (cs := (Vk k y).cells) underlying36 zeroValue36 C3 (.cons (.const _) (.cons (.const _) (.cons (.t rfl) (.cons (.t rfl) (.cons (.t rfl) .nil))))) kQ) (LW.E (.Ay sizeOf36 rfl (.t rfl) (.t rfl) (Fact.one _) (hS.blk 2 rfl) rfl) ?_)))
   intro w13 Nw13
   replace hS := hS.Gf 2 rfl (show Set_ _ w13 _ ((Vk k y).cells) _ from Nw13)
   refine LW.T (CW.region (LW.pp (.fA 7 underlying36 rfl sizeOf3 rfl) (LW.pp (.ld isAgg3 rfl ((hS.blk 2 rfl).Ai rfl)) (LW.pp (.H2 (.t rfl) (.const _)) (LW.pp (.fA 8 underlying36 rfl sizeOf3 rfl) (LW.E (.store sizeOf3 (.t rfl) (.t rfl) rfl (hS.blk 2 rfl) (Nat.le_of_ble_eq_true rfl)) ?_))))))
   intro w14 Nw14
   replace hS := hS.Gf 2 rfl (show Set_ _ w14 _ (({ Vk k y with Other := wI ((Vk k y).Wafer + 1) } : Fact).cells) _ from Nw14)
   refine LW.nil (KW.inBlock (KW.then ?_))
   rw [← zX (by omega)] at hS
   have hsl := Ie (xs.take k)
   refine CW.region (LW.M rfl (LW.pp (.la isAgg36 sizeOf36 rfl ((hS.blk 2 rfl).agg)) (Ah (.buildSlice (xs := [Vw k y]) (enc := Fact.cells) (mk := fun f : Fact => .agg f.cells) underlying23 sizeOf36 zeroValue36 rfl cQ (fun _ => rfl) (fun _ => rfl) (.cons (.t rfl) .nil) rfl) rfl ?_)))
   rintro _ w15 ⟨B88, cB88, rfl, NB88, yB88, xB88⟩
   replace hS := hS.up NB88.up
   have hE88 := xB88
   refine Ah (.A8 (enc := Fact.cells) (bytes := 160) (i := Tryz.t36) underlying23 kQ rfl rfl rfl rfl cQ (fun _ => rfl) Fact.one (.t rfl) (.t rfl) (hS.own 0 rfl) (Ak hE88) (by have := hsl; simp [maxLen]; omega) (by have := hsl; simp; omega)) rfl ?_
   intro v89 w16 Gw16
   replace hS := hS.Dh 0 rfl Gw16
   refine LW.A rfl (LW.nil (KW.inBlock (KW.then (CW.region (LW.M rfl (LW.pp (.inc (.t rfl) oQ) (LW.A rfl (LW.nil (KW.round ?_)))))))))
   exact ⟨(k + 1, v89), ⟨⟨by show k + 1 ≤ _; omega, by show k + 1 ≤ _; omega⟩, by rw [H0 hy hkl.2]; exact hS.take 1⟩, ⟨rfl, rfl, rfl, rfl, trivial⟩, by show xs.length - (k + 1) < xs.length - k; omega⟩
  replace h58 := dQ h58
  refine CW.seq (CW.S (LW.pp (.eql (.t rfl) (.const _)) (LW.A rfl (LW.T (CW.cond (.t rfl) (fun h72 => ?_) (fun h72 => ?_))))))
  ·replace h72 := dQ h72
   refine CW.skip (KW.then (CW.cond (.t rfl) (fun h72 => ?_) (fun h72 => ?_)))
   ·replace h72 := dQ h72
    refine C2 11 kQ kQ kQ kQ kQ rfl rfl (HW.pp (.Bk (j := 1) underlying26 sizeOf3 (.t rfl) (.const _) cQ) (HW.pp (.ld isAgg3 rfl ((hS.blk 1 rfl).Ai rfl)) (HW.c (fun a w _ ha => Aw (.cons (.t rfl) (.cons (.const _) .nil)) (Ls) a ha) rfl rfl (fun w hu => Cy _ _ w cQ) (HW.pp (.H2 (.const _) (.t rfl)) (HW.pp (.Bk (j := 3) underlying26 sizeOf3 (.t rfl) (.const _) cQ) (HW.pp (.ld isAgg3 rfl ((hS.blk 1 rfl).Ai rfl)) (HW.c (fun a w _ ha => Aw (.cons (.t rfl) (.cons (.const _) .nil)) (Ls) a ha) rfl rfl (fun w hu => Cy _ _ w cQ) (HW.pp (.H2 (.const _) (.t rfl)) (HW.pp (.move (.t rfl)) (HW.pp (.quo (.t rfl) (.const _) cQ) (HW.pp (.build (cs := (bK y).cells) underlying36 zeroValue36 C3 (.cons (.const _) (.cons (.const _) (.cons (.t rfl) (.cons (.t rfl) (.cons (.const _) (.cons (.t rfl) .nil)))))) kQ) (HW.nil ?_))))))))))))
    intro w17 uw17
    replace hS := hS.up uw17
    refine LW.E (.Ay sizeOf36 rfl (.t rfl) (.t rfl) (Fact.one _) (hS.blk 2 rfl) rfl) ?_
    intro w18 Nw18
    replace hS := hS.Gf 2 rfl (show Set_ _ w18 _ ((bK y).cells) _ from Nw18)
    refine LW.nil (KW.inBlock (KW.then ?_))
    rw [← sR (by omega)] at hS
    have hsl := Ie (xs.take k)
    refine CW.region (LW.M rfl (LW.pp (.la isAgg36 sizeOf36 rfl ((hS.blk 2 rfl).agg)) (Ah (.buildSlice (xs := [Vw k y]) (enc := Fact.cells) (mk := fun f : Fact => .agg f.cells) underlying23 sizeOf36 zeroValue36 rfl cQ (fun _ => rfl) (fun _ => rfl) (.cons (.t rfl) .nil) rfl) rfl ?_)))
    rintro _ w19 ⟨B88, cB88, rfl, NB88, yB88, xB88⟩
    replace hS := hS.up NB88.up
    have hE88 := xB88
    refine Ah (.A8 (enc := Fact.cells) (bytes := 160) (i := Tryz.t36) underlying23 kQ rfl rfl rfl rfl cQ (fun _ => rfl) Fact.one (.t rfl) (.t rfl) (hS.own 0 rfl) (Ak hE88) (by have := hsl; simp [maxLen]; omega) (by have := hsl; simp; omega)) rfl ?_
    intro v89 w20 Gw20
    replace hS := hS.Dh 0 rfl Gw20
    refine LW.A rfl (LW.nil (KW.inBlock (KW.then (CW.region (LW.M rfl (LW.pp (.inc (.t rfl) oQ) (LW.A rfl (LW.nil (KW.round ?_)))))))))
    exact ⟨(k + 1, v89), ⟨⟨by show k + 1 ≤ _; omega, by show k + 1 ≤ _; omega⟩, by rw [H0 hy hkl.2]; exact hS.take 1⟩, ⟨rfl, rfl, rfl, rfl, trivial⟩, by show xs.length - (k + 1) < xs.length - k; omega⟩
   replace h72 := dQ h72
   refine CW.skip (KW.inBlock (KW.then ?_))
   rw [← sS oQ oQ oQ (by omega)] at hS
   have hsl := Ie (xs.take k)
   refine CW.region (LW.M rfl (LW.pp (.la isAgg36 sizeOf36 rfl ((hS.blk 2 rfl).agg)) (Ah (.buildSlice (xs := [Vw k y]) (enc := Fact.cells) (mk := fun f : Fact => .agg f.cells) underlying23 sizeOf36 zeroValue36 rfl cQ (fun _ => rfl) (fun _ => rfl) (.cons (.t rfl) .nil) rfl) rfl ?_)))
   rintro _ w21 ⟨B88, cB88, rfl, NB88, yB88, xB88⟩
   replace hS := hS.up NB88.up
   have hE88 := xB88
   refine Ah (.A8 (enc := Fact.cells) (bytes := 160) (i := Tryz.t36) underlying23 kQ rfl rfl rfl rfl cQ (fun _ => rfl) Fact.one (.t rfl) (.t rfl) (hS.own 0 rfl) (Ak hE88) (by have := hsl; simp [maxLen]; omega) (by have := hsl; simp; omega)) rfl ?_
   intro v89 w22 Gw22
   replace hS := hS.Dh 0 rfl Gw22
   refine LW.A rfl (LW.nil (KW.inBlock (KW.then (CW.region (LW.M rfl (LW.pp (.inc (.t rfl) oQ) (LW.A rfl (LW.nil (KW.round ?_)))))))))
   exact ⟨(k + 1, v89), ⟨⟨by show k + 1 ≤ _; omega, by show k + 1 ≤ _; omega⟩, by rw [H0 hy hkl.2]; exact hS.take 1⟩, ⟨rfl, rfl, rfl, rfl, trivial⟩, by show xs.length - (k + 1) < xs.length - k; omega⟩
  replace h72 := dQ h72
  refine CW.region (LW.pp (.eql (.t rfl) (.const _)) (LW.A rfl (LW.T (CW.cond (.t rfl) (fun h72 => ?_) (fun h72 => ?_)))))
  ·replace h72 := dQ h72
   refine C2 11 kQ kQ kQ kQ kQ rfl rfl (HW.pp (.Bk (j := 1) underlying26 sizeOf3 (.t rfl) (.const _) cQ) (HW.pp (.ld isAgg3 rfl ((hS.blk 1 rfl).Ai rfl)) (HW.c (fun a w _ ha => Aw (.cons (.t rfl) (.cons (.const _) .nil)) (Ls) a ha) rfl rfl (fun w hu => Cy _ _ w cQ) (HW.pp (.H2 (.const _) (.t rfl)) (HW.pp (.Bk (j := 3) underlying26 sizeOf3 (.t rfl) (.const _) cQ) (HW.pp (.ld isAgg3 rfl ((hS.blk 1 rfl).Ai rfl)) (HW.c (fun a w _ ha => Aw (.cons (.t rfl) (.cons (.const _) .nil)) (Ls) a ha) rfl rfl (fun w hu => Cy _ _ w cQ) (HW.pp (.H2 (.const _) (.t rfl)) (HW.pp (.move (.t rfl)) (HW.pp (.quo (.t rfl) (.const _) cQ) (HW.pp (.build (cs := (bK y).cells) underlying36 zeroValue36 C3 (.cons (.const _) (.cons (.const _) (.cons (.t rfl) (.cons (.t rfl) (.cons (.const _) (.cons (.t rfl) .nil)))))) kQ) (HW.nil ?_))))))))))))
   intro w23 uw23
   replace hS := hS.up uw23
   refine LW.E (.Ay sizeOf36 rfl (.t rfl) (.t rfl) (Fact.one _) (hS.blk 2 rfl) rfl) ?_
   intro w24 Nw24
   replace hS := hS.Gf 2 rfl (show Set_ _ w24 _ ((bK y).cells) _ from Nw24)
   refine LW.nil (KW.inBlock (KW.then ?_))
   rw [← sR (by omega)] at hS
   have hsl := Ie (xs.take k)
   refine CW.region (LW.M rfl (LW.pp (.la isAgg36 sizeOf36 rfl ((hS.blk 2 rfl).agg)) (Ah (.buildSlice (xs := [Vw k y]) (enc := Fact.cells) (mk := fun f : Fact => .agg f.cells) underlying23 sizeOf36 zeroValue36 rfl cQ (fun _ => rfl) (fun _ => rfl) (.cons (.t rfl) .nil) rfl) rfl ?_)))
   rintro _ w25 ⟨B88, cB88, rfl, NB88, yB88, xB88⟩
   replace hS := hS.up NB88.up
   have hE88 := xB88
   refine Ah (.A8 (enc := Fact.cells) (bytes := 160) (i := Tryz.t36) underlying23 kQ rfl rfl rfl rfl cQ (fun _ => rfl) Fact.one (.t rfl) (.t rfl) (hS.own 0 rfl) (Ak hE88) (by have := hsl; simp [maxLen]; omega) (by have := hsl; simp; omega)) rfl ?_
   intro v89 w26 Gw26
   replace hS := hS.Dh 0 rfl Gw26
   refine LW.A rfl (LW.nil (KW.inBlock (KW.then (CW.region (LW.M rfl (LW.pp (.inc (.t rfl) oQ) (LW.A rfl (LW.nil (KW.round ?_)))))))))
   exact ⟨(k + 1, v89), ⟨⟨by show k + 1 ≤ _; omega, by show k + 1 ≤ _; omega⟩, by rw [H0 hy hkl.2]; exact hS.take 1⟩, ⟨rfl, rfl, rfl, rfl, trivial⟩, by show xs.length - (k + 1) < xs.length - k; omega⟩
  replace h72 := dQ h72
  refine CW.skip (KW.inBlock (KW.then ?_))
  rw [← sS oQ oQ oQ (by omega)] at hS
  have hsl := Ie (xs.take k)
  refine CW.region (LW.M rfl (LW.pp (.la isAgg36 sizeOf36 rfl ((hS.blk 2 rfl).agg)) (Ah (.buildSlice (xs := [Vw k y]) (enc := Fact.cells) (mk := fun f : Fact => .agg f.cells) underlying23 sizeOf36 zeroValue36 rfl cQ (fun _ => rfl) (fun _ => rfl) (.cons (.t rfl) .nil) rfl) rfl ?_)))
  rintro _ w27 ⟨B88, cB88, rfl, NB88, yB88, xB88⟩
  replace hS := hS.up NB88.up
  have hE88 := xB88
  refine Ah (.A8 (enc := Fact.cells) (bytes := 160) (i := Tryz.t36) underlying23 kQ rfl rfl rfl rfl cQ (fun _ => rfl) Fact.one (.t rfl) (.t rfl) (hS.own 0 rfl) (Ak hE88) (by have := hsl; simp [maxLen]; omega) (by have := hsl; simp; omega)) rfl ?_
  intro v89 w28 Gw28
  replace hS := hS.Dh 0 rfl Gw28
  refine LW.A rfl (LW.nil (KW.inBlock (KW.then (CW.region (LW.M rfl (LW.pp (.inc (.t rfl) oQ) (LW.A rfl (LW.nil (KW.round ?_)))))))))
  exact ⟨(k + 1, v89), ⟨⟨by show k + 1 ≤ _; omega, by show k + 1 ≤ _; omega⟩, by rw [H0 hy hkl.2]; exact hS.take 1⟩, ⟨rfl, rfl, rfl, rfl, trivial⟩, by show xs.length - (k + 1) < xs.length - k; omega⟩
 replace h15 := dQ h15
 refine CW.exit (Aa (Aa (Ad (KW.then (CW.S (LW.M rfl (LW.A rfl (LW.T (CW.ret (Ae rfl rfl ⟨_, rfl, ?_⟩))))))))))
 rw [nD (by simp at h15; omega)] at hS
 exact ⟨J0 hS, hS.Ce⟩
end Go.Proofs.YtmimclgihlhaeaaGreat
end
section
namespace Go.Wx
theorem Yl {w : World} {ad : Option Addr} {cp : Nat} {Ts : List TP} (h : Els w ad 1 TP.cells Ts) : Sl w (.slice ad (min Ts.length 16) cp) 1 TP.cells (Ts.take 16) := ⟨ad, cp, by rw [List.length_take, Nat.min_comm], h.take⟩
theorem nE {x : Fact} (h : Hf x) : K7 x.Time ∧ K7 x.Until := by unfold Hf at h; unfold K7; omega
theorem rP {κ : Type} [DecidableEq κ] {Q : Mk.KT κ} {P : Program} {T : TypeId} {b : Nat} {kv : List (κ × Go.Value)} {k : κ} {st : Nat} {w w' : World} (h : Mk.MidM Q P T w' b kv k st) (K : Sto b w w') : Stp (Mk.Cf Q b kv) (Mk.zO Q P T b kv k st) w w' := ⟨K.fr, h, fun _ h => .inl h⟩
theorem iK {κ : Type} [DecidableEq κ] {Q : Mk.KT κ} {P : Program} {T : TypeId} {b : Nat} {kv kv' : List (κ × Go.Value)} {k : κ} {st : Nat} {w w' : World} (h : Mk.IMap Q w' b kv') (K : Sto b w w') : Stp (Mk.zO Q P T b kv k st) (Mk.Cf Q b kv') w w' := ⟨K.fr, h, fun _ h => .inl h⟩
section
variable {P : Program} {n : Nat} {ds : List Deferred} {l : Env} {w : World} {d : Option Tmp} {ty : TypeId} {ps : String} {af : Array Edge} {g : Option (Nat × Bool)}
theorem PEv.vE {T E : TypeId} {m x : Operand} {b : Nat} {k : Int} {z : Go.Value} {kv : List (Int × Go.Value)} {v0 : Go.Value} {K : TypeId} (hT : P.underlying T = some (.map K E)) (hI : P.underlying K = some (.int .i64)) (hz : ∀ w, (zeroValue E).run P w = .ok z w) (hm : Val l m (.map (some b))) (hx : Val l x (vi k)) (h : IMap w b kv) (h0 : (k ∉ kv.map (·.1) ∧ v0 = z) ∨ (k, v0) ∈ kv) : PEv P n ds l w ⟨d, .lookup T m x false, ty, ps, af, g⟩ v0 := by
 rcases h0 with ⟨h1, rfl⟩ | h1
 · exact PEv.G4 (ok := false) hT hI hz hm hx h h1
 exact PEv.C1 (ok := false) hT hI hm hx h h1
end
end Go.Wx
namespace Go.Proofs.YtmimclgihlhaeaaGreat
open Go.Proofs.Tryz
open Go.Wx Go.RowKit
set_option maxHeartbeats 2000000 in
set_option maxRecDepth 4000 in
theorem T6 (bc : Array Go.Value) (b : Base) (ad : Option Addr) (cp : Nat) (L : List VP) (w : World) (hC : BaseC w bc b) (hT : ∀ p ∈ b.Processes, Hf p) (hE0 : Els w ad 3 VP.cells L) (hw : ∀ p ∈ L, Sl w p.uv 1 Aq p.vd.why) (hlw : ∀ p ∈ L, p.vd.why.length ≤ 100000) (hl : L.length ≤ 100000) (hlP : b.Processes.length ≤ 100000) (hlL : b.Lots.length ≤ 1000000000) : Ret Tryz.prog 25 #[.agg bc, .slice ad L.length cp] w fun r0 w' => ∃ Ts : List TP, Ts.map TP.l = Gk b (L.map (·.vd)) ∧ Sl w' r0 1 TP.cells Ts ∧ (∀ t ∈ Ts, Sl w' t.v 1 Aq t.l) ∧ Up w w' := by
 obtain ⟨w0, rfl⟩ : ∃ w0, w0 = w := ⟨_, rfl⟩
 have hS := Sep.start no w0
 refine cS (n := 117) (m := 9) func25 rfl rfl rfl (CW.S (Ah (.C7 (.t rfl)) rfl ?_))
 rintro _ w1 ⟨B2, rfl, NB2⟩
 have eB2 := NB2.at_
 have zB2 := NB2.size
 replace hS := hS.Cj NB2
 refine LW.C (LW.S (CW.region (Ah (Mk.REv.makeMap (Q := Si)) rfl ?_)))
 rintro _ w2 ⟨B20, rfl, M_, u_, e_, z_⟩
 replace hS := hS.add u_ (A' := Mk.Cf Si B20 []) M_ (fun i (e : i = B20) => by omega)
 refine LW.r REv.makeMap rfl rfl rfl rfl ?_
 rintro _ w3 ⟨B21, rfl, M_, u_, e_, z_⟩
 replace hS := hS.add u_ (A' := Cf B21 []) M_ (fun i (e : i = B21) => by omega)
 refine LW.A rfl (LW.A rfl (LW.S (CW.S (LW.M rfl (LW.K (eC (.o rfl) (wD)) rfl (T3 ad cp L _ (Els.up hE0 hS.Ce) hl) ?_)))))
 rintro v7 w4 ⟨hO7, uw4⟩
 replace hS := hS.add uw4 (A' := Al 32 3 VP.cells v7 (L.filter A3)) (hO7.mono (Nat.zero_le _)) (fun i h => hO7.base i h)
 obtain ⟨ad7, cp7, rfl, _⟩ := (hS.own 3 rfl).sl (fun _ => rfl)
 have hfl := List.length_filter_le A3 L
 refine LW.pp (.Ci underlying27 (.t rfl)) (LW.pp (.move (.const _)) (LW.nil ?_))
 replace hS := hS.add (Up.refl _) (A' := S4 3 ([] : List (BE Ar2))) ⟨by simp, by simp⟩ (by rintro i ⟨A, hA, _⟩; simp at hA)
 replace hS := hS.add (Up.refl _) (A' := S4 3 ([] : List (BE Int))) ⟨by simp, by simp⟩ (by rintro i ⟨A, hA, _⟩; simp at hA)
 refine KW.then (CW.block (Am (σ := Nat × List (BE Ar2) × List (BE Int)) (fun s w => (s.1 ≤ (L.filter A3).length) ∧ (BeInv s.2.1 (Gw b.Processes (((L.filter A3).take s.1).map (·.vd)))) ∧ (BeInv s.2.2 (Es b (((L.filter A3).take s.1).map (·.vd)))) ∧ (Wx.Sep no w0 w [Ck B2 bc 38, Mk.Cf Si B20 ((s.2.1).map BE.kv), Cf B21 ((s.2.2).map BE.kv), Al 32 3 VP.cells (.slice ad7 (L.filter A3).length cp7) (L.filter A3), S4 3 (s.2.1), S4 3 (s.2.2)])) (fun s => [(25, .eq (vi (s.1 : Int)))]) ([(2, .eq _), (4, .eq _), (5, .eq _), (6, .eq _), (23, .eq _), (24, .eq _)]) (fun s => (L.filter A3).length - s.1) (0, [], []) ?_ ⟨rfl, rfl, rfl, rfl, rfl, rfl, rfl, trivial⟩ ?_))
 ·exact ⟨Nat.zero_le _, BeInv.nil fun _ => rfl, BeInv.nil fun _ => rfl, hS⟩
 rintro ⟨i, D, E⟩ w5 ⟨hi, hDI, hEI, hS⟩
 dsimp only at hi hDI hEI hS
 change CW _ _ _ _ _ _ _ ([(25, .eq (vi (i : Int)))] ++ _) _
 refine CW.S (LW.pp (.lss (.t rfl) (.t rfl)) (LW.S (CW.cond (.t rfl) (fun h26 => ?_) (fun h26 => ?_))))
 ·replace h26 := dQ h26
  refine CW.skip (KW.then (CW.seq (CW.block (CW.seq ?_))))
  obtain ⟨p, hp⟩ := Ac (xs := (L.filter A3)) (i := i) oQ
  have hpL : p ∈ L := (List.mem_filter.1 (List.mem_of_getElem? hp)).1
  obtain ⟨Bp, op_, ap, hcp⟩ := (Ed (hS.own 3 rfl) (fun _ => rfl)) i p hp
  have hEw := T4 (hw p hpL)
  refine CW.region (LW.pp (.Aj underlying27 sizeOf32 (j := i) (.t rfl) (.t rfl) oQ ap) (LW.pp (.la isAgg32 sizeOf32 rfl (hcp)) (Ah (.Az zeroValue32) rfl ?_)))
  rintro _ w6 ⟨B8, rfl, MB8⟩
  refine LW.E (.Ay sizeOf32 rfl (.t rfl) (.t rfl) (VP.one _) MB8.blk rfl) ?_
  intro w7 LB8
  have NB8 := MB8.set LB8
  replace hS := hS.Cj NB8
  refine LW.S (CW.region (Ah (Mk.REv.makeMap (Q := Si)) rfl ?_))
  rintro _ w8 ⟨B29, rfl, M_, u_, e_, z_⟩
  replace hS := hS.add u_ (A' := Mk.Cf Si B29 []) M_ (fun i (e : i = B29) => by omega)
  refine LW.A rfl (LW.S (CW.seq ?_))
  obtain ⟨v00, h00, hs00⟩ := hC.at_ (j := 0) cQ
  obtain ⟨adP, cpP, rfl, hEP⟩ := (show Sl w0 v00 19 Fact.cells b.Processes from hs00)
  refine CW.region (LW.pp (.fA 0 underlying38 rfl sizeOf23 rfl) (LW.pp (.ld isAgg23 rfl ((hS.blk 0 rfl).cell h00)) (LW.pp (.Ci underlying23 (.t rfl)) (LW.pp (.move (.const _)) (LW.T (CW.block (Am (σ := Nat) (fun s w => (s ≤ b.Processes.length) ∧ (Wx.Sep no w0 w [Ck B2 bc 38, Mk.Cf Si B20 ((D).map BE.kv), Cf B21 ((E).map BE.kv), Al 32 3 VP.cells (.slice ad7 (L.filter A3).length cp7) (L.filter A3), S4 3 (D), S4 3 (E), Ck B8 p.cells 32, Mk.Cf Si B29 ((Fy (b.Processes.take s) p.vd.why).map Ry)])) (fun s => [(33, .eq (vi (s : Int)))]) ([(2, .eq _), (4, .eq _), (5, .eq _), (6, .eq _), (8, .eq _), (9, .eq _), (23, .eq _), (24, .eq _), (25, .eq _), (31, .eq _), (32, .eq _)]) (fun s => b.Processes.length - s) 0 ?_ ⟨rfl, rfl, rfl, rfl, rfl, rfl, rfl, rfl, rfl, rfl, rfl, rfl, trivial⟩ ?_)))))))
  ·exact ⟨Nat.zero_le _, hS⟩
  rintro j w9 ⟨hj, hS⟩
  refine CW.S (LW.pp (.lss (.t rfl) (.t rfl)) (LW.S (CW.cond (.t rfl) (fun h34 => ?_) (fun h34 => ?_))))
  ·replace h34 := dQ h34
   refine CW.skip (KW.then (CW.seq (CW.block (CW.seq ?_))))
   obtain ⟨y, hy⟩ := Ac (xs := b.Processes) (i := j) oQ
   obtain ⟨By, oy, ay, hcy⟩ := (Els.up hEP hS.Ce) j y hy
   refine CW.region (LW.pp (.Aj underlying23 sizeOf36 (j := j) (.t rfl) (.t rfl) oQ ay) (LW.pp (.la isAgg36 sizeOf36 rfl (hcy)) (Ah (.Az zeroValue36) rfl ?_)))
   rintro _ w10 ⟨B11, rfl, MB11⟩
   refine LW.E (.Ay sizeOf36 rfl (.t rfl) (.t rfl) (Fact.one _) MB11.blk rfl) ?_
   intro w11 LB11
   have NB11 := MB11.set LB11
   replace hS := hS.Cj NB11
   refine LW.S (CW.region (LW.pp (.fA 2 underlying32 rfl sizeOf30 rfl) (LW.pp (.ld isAgg30 rfl (Blk.Ai (v := p.uv) (hS.blk 6 rfl) rfl)) (LW.pp (.fA 1 underlying36 rfl sizeOf3 rfl) (LW.pp (.ld isAgg3 rfl ((hS.blk 8 rfl).Ai rfl)) (LW.K (eC (.u rfl rfl) (BI)) rfl (S3 p.ad p.cp p.vd.why y.ID _ (Els.up hEw hS.Ce) (hlw p hpL)) ?_))))))
   rintro _ w12 ⟨rfl, uw12⟩
   replace hS := hS.up uw12
   refine LW.T (CW.cond (.t rfl) (fun h41 => ?_) (fun h41 => ?_))
   ·replace h41 := dQ h41
    have hin : y.ID ∈ p.vd.why := by simpa using h41
    refine CW.region (LW.M rfl (LW.pp (.fA 5 underlying36 rfl sizeOf3 rfl) (LW.pp (.ld isAgg3 rfl ((hS.blk 8 rfl).Ai rfl)) (LW.pp (.fA 6 underlying36 rfl sizeOf3 rfl) (LW.pp (.ld isAgg3 rfl ((hS.blk 8 rfl).Ai rfl)) (LW.pp (.H8 (cs := (Ar2.mk y.Time y.Until).cells) underlying99 zeroValue99 sizeOf3 (.cons (.t rfl) (.cons (.t rfl) .nil)) rfl) (LW.E (Mk.SEv.mapUpdate (k := F3 y) underlying97 mN (show Si.ok (F3 y) from nE (hT y (List.mem_of_getElem? hy))) (.t rfl) (.t rfl) (.const _) (hS.get 7 rfl)) ?_)))))))
    rintro w13 ⟨Mu, Ku, zu⟩
    rw [bH] at Mu
    replace hS := hS.Dh 7 rfl (Mk.Jy Mu Ku)
    refine LW.nil (KW.inBlock (KW.then (CW.region (LW.pp (.inc (.t rfl) oQ) (LW.M rfl (LW.nil (KW.round ?_)))))))
    exact ⟨j + 1, ⟨by omega, by (rw [mT hy hin]; exact hS.take 8)⟩, ⟨rfl, rfl, rfl, rfl, rfl, rfl, rfl, rfl, rfl, rfl, rfl, rfl, trivial⟩, by omega⟩
   replace h41 := dQ h41
   have hin : ¬ y.ID ∈ p.vd.why := by simpa using h41
   refine CW.skip (KW.inBlock (KW.then (CW.region (LW.pp (.inc (.t rfl) oQ) (LW.M rfl (LW.nil (KW.round ?_)))))))
   exact ⟨j + 1, ⟨by omega, by (rw [rM hy hin]; exact hS.take 8)⟩, ⟨rfl, rfl, rfl, rfl, rfl, rfl, rfl, rfl, rfl, rfl, rfl, rfl, trivial⟩, by omega⟩
  replace h34 := dQ h34
  refine CW.exit (Aa (Aa (Ad (KW.then (CW.seq (CW.seq ?_))))))
  have hjl : j = b.Processes.length := by omega
  rw [hjl, List.take_length] at hS
  refine CW.region (LW.M rfl (Ah (Mk.REv.range underlying97 (.t rfl) (hS.get 7 rfl)) rfl ?_))
  rintro _ w14 ⟨r50, rfl, hR_, u_, e_, z_⟩
  replace hS := hS.Dh 7 rfl (Mk.Gq hR_ u_ e_)
  refine LW.T (CW.block (Am (σ := List Ar2 × List (BE Ar2)) (fun s w => (s.1.Nodup ∧ ∀ k ∈ s.1, k ∈ Fy (b.Processes) p.vd.why) ∧ (BeInv s.2 (O3 b.Processes (((L.filter A3).take i).map (·.vd)) p.vd s.1)) ∧ (Wx.Sep no w0 w [Ck B2 bc 38, Mk.Cf Si B20 ((s.2).map BE.kv), Cf B21 ((E).map BE.kv), Al 32 3 VP.cells (.slice ad7 (L.filter A3).length cp7) (L.filter A3), S4 3 (s.2), S4 3 (E), Ck B8 p.cells 32, Mk.Fq Si B29 r50 ((Fy (b.Processes) p.vd.why).map Ry) s.1])) (fun s => []) ([(2, .eq _), (4, .eq _), (5, .eq _), (6, .eq _), (8, .eq _), (23, .eq _), (24, .eq _), (25, .eq _), (50, .eq _)]) (fun s => (Fy (b.Processes) p.vd.why).length - s.1.length) ([], D) ?_ ⟨rfl, rfl, rfl, rfl, rfl, rfl, rfl, rfl, rfl, trivial⟩ ?_))
  ·exact ⟨⟨List.nodup_nil, fun _ h => (by cases h)⟩, by rw [mU]; exact hDI, hS⟩
  rintro ⟨V, D⟩ w15 ⟨hV, hDI, hS⟩
  dsimp only at hV hDI hS
  change CW _ _ _ _ _ _ _ ([] ++ _) _
  refine CW.S (Ah (Mk.REv.next (.t rfl) (hS.get 7 rfl)) rfl ?_)
  rintro _ w16 (⟨rfl, rfl, hPm⟩ | ⟨k0, u0, rfl, hNx⟩)
  ·skip
   refine LW.pp (.extract (.t rfl) rfl) (LW.S (CW.cond_false (.t rfl) (CW.exit (Aa (Aa (Ad (KW.then (CW.seq ?_))))))))
   rw [iF (by rw [Mz] at hPm; exact hPm)] at hDI
   refine CW.region (LW.pp (.Ee isAgg38 sizeOf38 (hC.size) (.t rfl) ((hS.blk 0 rfl).agg)) (LW.pp (.la isAgg32 sizeOf32 rfl ((hS.blk 6 rfl).agg)) (LW.K (eC (.u rfl rfl) (BL)) rfl (bD bc b p _ (hC.up hS.Ce) (Sl.up (hw p hpL) hS.Ce) (hlw p hpL) hlP hlL) ?_)))
   rintro _ w17 ⟨rfl, uw17⟩
   replace hS := hS.up uw17
   refine LW.A rfl (LW.S (CW.region (LW.M rfl (LW.pp (.neq (.t rfl) (.const _)) (LW.T (CW.cond (.t rfl) (fun h68 => ?_) (fun h68 => ?_)))))))
   ·replace h68 := dQ h68
    have hn : ¬ Eb b p.vd = 0 := by simpa using h68
    obtain ⟨v0, hv0⟩ := vB (E.map BE.kv) (Eb b p.vd)
    obtain ⟨E1, j1, e1, hE1, hj1, rfl, hl1, hputE⟩ := Yf hEI p.vd.w hv0
    replace hS := hS.Dh 5 rfl (mR hE1 (hS.get 5 rfl))
    have hbl := O4 b (((L.filter A3).take i).map (·.vd)) (Eb b p.vd)
    rw [List.length_map, List.length_take] at hbl
    refine CW.region (LW.M rfl (LW.M rfl (LW.M rfl (LW.M rfl (LW.pp (.vE underlying96 underlying3 zeroValue30 (.t rfl) (.t rfl) (hS.get 2 rfl) hv0) (LW.pp (.fA 0 underlying32 rfl sizeOf3 rfl) (LW.pp (.ld isAgg3 rfl (Blk.Ai (v := vi p.vd.w) (hS.blk 6 rfl) rfl)) (Ah (.buildSlice (xs := [p.vd.w]) (enc := Aq) (mk := vi) underlying30 sizeOf3 zeroValue3 rfl cQ (fun _ => rfl) (fun _ => rfl) (.cons (.t rfl) .nil) rfl) rfl ?_))))))))
    rintro _ w18 ⟨B76, cB76, rfl, NB76, yB76, xB76⟩
    replace hS := hS.up NB76.up
    have hE76 := xB76
    refine Ah (.A8 (enc := Aq) (bytes := 8) (i := Tryz.t3) underlying30 kQ rfl rfl rfl rfl cQ (fun _ => rfl) Ev (.t rfl) (.t rfl) (O1 (hS.get 5 rfl) (List.mem_of_getElem? hj1)) (Ak hE76) (by rw [hl1]; simp only [maxLen, List.length_cons, List.length_nil]; omega) (by rw [hl1]; simp only [List.length_cons, List.length_nil]; omega)) rfl ?_
    intro v77 w19 Gw19
    replace hS := hS.Dh 5 rfl (mS (g := (Eb b p.vd)) (v := v77) (l := Es b (((L.filter A3).take i).map (·.vd)) (Eb b p.vd) ++ [p.vd.w]) (hS.get 5 rfl) hj1 (by rw [← hl1]; exact Gw19))
    refine LW.E (.mapUpdate underlying96 underlying3 (.t rfl) (.t rfl) (.t rfl) (hS.get 2 rfl)) ?_
    rintro w20 ⟨Mu, Ku, zu⟩
    rw [rL, (hputE v77).1] at Mu
    replace hS := hS.Dh 2 rfl (Rr Mu Ku)
    refine LW.nil (KW.inBlock (KW.then (CW.region (LW.pp (.inc (.t rfl) oQ) (LW.M rfl (LW.nil (KW.round ?_)))))))
    exact ⟨(i + 1, D, E1.set j1 ⟨Eb b p.vd, v77, Es b (((L.filter A3).take i).map (·.vd)) (Eb b p.vd) ++ [p.vd.w]⟩), ⟨by show i + 1 ≤ _; omega, by show BeInv D (Gw _ (((L.filter A3).take (i + 1)).map (·.vd))); rw [Qb hp]; exact hDI, by show BeInv _ (Es b (((L.filter A3).take (i + 1)).map (·.vd))); rw [Qb hp, iG hn]; exact (hputE v77).2, by exact hS.take 6⟩, ⟨rfl, rfl, rfl, rfl, rfl, rfl, rfl, trivial⟩, by show (L.filter A3).length - (i + 1) < (L.filter A3).length - i; omega⟩
   replace h68 := dQ h68
   have hn : Eb b p.vd = 0 := by simpa using h68
   refine CW.skip (KW.inBlock (KW.then (CW.region (LW.pp (.inc (.t rfl) oQ) (LW.M rfl (LW.nil (KW.round ?_)))))))
   exact ⟨(i + 1, D, E), ⟨by show i + 1 ≤ _; omega, by show BeInv D (Gw _ (((L.filter A3).take (i + 1)).map (·.vd))); rw [Qb hp]; exact hDI, by show BeInv E (Es b (((L.filter A3).take (i + 1)).map (·.vd))); rw [Qb hp, mW hn]; exact hEI, by exact hS.take 6⟩, ⟨rfl, rfl, rfl, rfl, rfl, rfl, rfl, trivial⟩, by show (L.filter A3).length - (i + 1) < (L.filter A3).length - i; omega⟩
  skip
  have zw16 := hNx.size
  replace hS := hS.Dh 7 rfl (Mk.H9 hNx)
  have hk0c : k0 ∈ Fy (b.Processes) p.vd.why := by have h5 := List.mem_map_of_mem (f := Prod.fst) hNx.mem; rw [Mz] at h5; exact h5
  have hk0V := hNx.fresh
  have hV2 : (V ++ [k0]).Nodup ∧ ∀ k ∈ V ++ [k0], k ∈ Fy (b.Processes) p.vd.why := ⟨List.nodup_append.2 ⟨hV.1, by simp, fun a ha c hc => by simp at hc; subst hc; exact fun e => hk0V (e ▸ ha)⟩, fun k hk => (List.mem_append.1 hk).elim (hV.2 k) (fun h => by cases List.mem_singleton.1 h; exact hk0c)⟩
  have hVl := hV2.1.length_le_of_subset hV2.2
  rw [List.length_append, List.length_singleton] at hVl
  have hko := dW (fun f hf => nE (hT f hf)) k0 hk0c
  refine LW.pp (.extract (.t rfl) rfl) (LW.S (CW.cond_true (.t rfl) (CW.skip (KW.then (CW.block (CW.seq ?_))))))
  have hbl := mX b.Processes (((L.filter A3).take i).map (·.vd)) p.vd V k0
  rw [List.length_map, List.length_take] at hbl
  refine CW.region (Ah (.entry (.t rfl) hNx.entry) rfl ?_)
  rintro _ _ ⟨rfl, rfl⟩
  refine LW.pp (.extract (.t rfl) rfl) (Ah (.Az zeroValue99) rfl ?_)
  rintro _ w21 ⟨B12, rfl, MB12⟩
  refine LW.E (.Ay sizeOf99 rfl (.t rfl) (.t rfl) (Ar2.one _) MB12.blk rfl) ?_
  intro w22 LB12
  have NB12 := MB12.set LB12
  replace hS := hS.Cj NB12
  refine LW.T ?_
  have zB20 := (show Mk.IMap Si _ _ _ from hS.get 1 rfl).lt
  refine CW.region (LW.M rfl (LW.pp (.la isAgg99 sizeOf99 rfl ((hS.blk 8 rfl).agg)) (LW.pp (.fA 0 underlying32 rfl sizeOf3 rfl) (LW.pp (.ld isAgg3 rfl (Blk.Ai (v := vi p.vd.w) (hS.blk 6 rfl) rfl)) (Ah (.buildSlice (xs := [p.vd.w]) (enc := Aq) (mk := vi) underlying30 sizeOf3 zeroValue3 rfl cQ (fun _ => rfl) (fun _ => rfl) (.cons (.t rfl) .nil) rfl) rfl ?_)))))
  rintro _ w23 ⟨B60, cB60, rfl, NB60, yB60, xB60⟩
  have eB60 := NB60.at_
  have zB60 := NB60.size
  replace hS := hS.up NB60.up
  have hE60 := xB60
  refine Ah (Mk.REv.mapEntry underlying95 mN hko zeroValue30 (.t rfl) (.t rfl) (hS.get 1 rfl)) rfl ?_
  rintro _ w24 ⟨v0, st0, rfl, hv0, hMd, Ks, zs⟩
  replace hE60 := hE60.sto Ks oQ
  replace hS := hS.Dh 1 rfl (rP hMd Ks)
  obtain ⟨D1, j1, e1, hD1, hj1, rfl, hl1, hput⟩ := Yf hDI p.vd.w hv0
  replace hS := hS.Dh 4 rfl (mR hD1 (hS.get 4 rfl))
  refine LW.pp (.extract (.t rfl) rfl) (Ah (.A8 (enc := Aq) (bytes := 8) (i := Tryz.t3) underlying30 kQ rfl rfl rfl rfl cQ (fun _ => rfl) Ev (.t rfl) (.t rfl) (O1 (hS.get 4 rfl) (List.mem_of_getElem? hj1)) (Ak hE60) (by rw [hl1]; simp only [maxLen, List.length_cons, List.length_nil]; omega) (by rw [hl1]; simp only [List.length_cons, List.length_nil]; omega)) rfl ?_)
  intro v62 w25 Gw25
  replace hS := hS.Dh 4 rfl (mS (g := k0) (v := v62) (l := O3 b.Processes (((L.filter A3).take i).map (·.vd)) p.vd V k0 ++ [p.vd.w]) (hS.get 4 rfl) hj1 (by rw [← hl1]; exact Gw25))
  refine LW.pp (.extract (.t rfl) rfl) (LW.E (Mk.SEv.entryStore (.t rfl) (.t rfl) (.t rfl) (hS.get 1 rfl)) ?_)
  rintro w26 ⟨Mu, Ku, zu⟩
  rw [(hput v62).1] at Mu
  replace hS := hS.Dh 1 rfl (iK Mu Ku)
  refine LW.nil (KW.inBlock (KW.round ?_))
  exact ⟨(V ++ [k0], D1.set j1 ⟨k0, v62, O3 b.Processes (((L.filter A3).take i).map (·.vd)) p.vd V k0 ++ [p.vd.w]⟩), ⟨hV2, by show BeInv _ (O3 _ _ _ (V ++ [k0])); rw [mV hk0V]; exact (hput v62).2, hS.take 8⟩, ⟨rfl, rfl, rfl, rfl, rfl, rfl, rfl, rfl, rfl, trivial⟩, by show _ - (V ++ [k0]).length < _ - V.length; rw [List.length_append, List.length_singleton]; omega⟩
 replace h26 := dQ h26
 refine CW.exit (Aa (Aa (Ad (KW.then (CW.seq ?_)))))
 have hil : i = (L.filter A3).length := by omega
 rw [hil, List.take_length] at hDI hEI
 have hDl := rN hDI
 have hEl := rO hEI
 rw [List.length_map] at hEl
 have zB20 := (show Mk.IMap Si _ _ _ from hS.get 1 rfl).lt
 have zB21 := (show IMap _ _ _ from hS.get 2 rfl).lt
 refine CW.region (LW.pp (.assign (.func _)) (LW.S (CW.region (LW.C (LW.S (CW.S (LW.M rfl (LW.K (eC (.o rfl) (BO)) rfl (iE _ _) ?_))))))))
 rintro _ w27 ⟨⟨BK, rfl, hBK, zK⟩, uw27⟩
 replace hS := hS.up uw27
 have zBK := hBK.lt
 have zz := hS.Ce.size
 refine LW.M rfl (LW.K (eC (.u rfl rfl) (BN)) rfl (Yj _ _ _ _ _ _ wV (fun W X Y u hX hY => bE X Y BK B20 _ W (fun i h => (hY i h).2) (fun h => by have := hX _ h; omega) (fun h => by have := (hY _ h).1; omega) (hBK.up u) ((show Mk.IMap Si _ _ _ from hS.get 1 rfl).up u)) (by rw [List.length_map]; omega) (fun ks h => by have := h.length_eq; rw [J5, List.length_map] at this; omega)) ?_)
 rintro v82 w28 ⟨ks, hPk, hO82, hf82, uw28⟩
 have zw28 := uw28.size
 replace hBK := hBK.up uw28
 replace hS := hS.add uw28 (A' := Al 99 2 Ar2.cells v82 (ks.mergeSort R4)) (hO82) (hf82)
 rw [J5] at hPk
 rw [Yh hDI hPk] at hS
 obtain ⟨ad82, cp82, rfl, _⟩ := (hS.own 6 rfl).sl (fun _ => rfl)
 refine LW.pp (.Ci underlying103 (.t rfl)) (LW.pp (.move (.const _)) (LW.nil ?_))
 have hTkl : (D0 b.Processes ((L.filter A3).map (·.vd))).length ≤ 100000 := by rw [← Yh hDI hPk, List.length_mergeSort, hPk.length_eq, List.length_map]; omega
 replace hS := hS.J9 (OwnS.nil _ 0 64 1 TP.cells)
 refine KW.then (CW.block (Am (σ := Nat × Go.Value × List TP) (fun s w => (s.1 ≤ (D0 b.Processes ((L.filter A3).map (·.vd))).length) ∧ (s.2.2.map TP.l = ((D0 b.Processes ((L.filter A3).map (·.vd))).take s.1).map (Gw b.Processes ((L.filter A3).map (·.vd)))) ∧ (∀ t ∈ s.2.2, ∃ e ∈ D, e.v = t.v ∧ e.l = t.l) ∧ (Wx.Sep no w0 w [Ck B2 bc 38, Mk.Cf Si B20 ((D).map BE.kv), Cf B21 ((E).map BE.kv), Al 32 3 VP.cells (.slice ad7 (L.filter A3).length cp7) (L.filter A3), S4 3 (D), S4 3 (E), Al 99 2 Ar2.cells (.slice ad82 (D0 b.Processes ((L.filter A3).map (·.vd))).length cp82) (D0 b.Processes ((L.filter A3).map (·.vd))), Al 64 1 TP.cells s.2.1 s.2.2])) (fun s => [(84, .eq (vi (s.1 : Int))), (15, .eq (s.2.1))]) ([(4, .eq _), (5, .eq _), (6, .eq _), (82, .eq _), (83, .eq _)]) (fun s => (D0 b.Processes ((L.filter A3).map (·.vd))).length - s.1) (0, .slice none 0 0, []) ?_ ⟨rfl, rfl, rfl, rfl, rfl, rfl, rfl, trivial⟩ ?_))
 ·exact ⟨Nat.zero_le _, rfl, (fun _ h => (by cases h)), hS⟩
 rintro ⟨k, v, Ts⟩ w29 ⟨hk, hTs, hTe, hS⟩
 dsimp only at hk hTs hTe hS
 change CW _ _ _ _ _ _ _ ([(84, .eq (vi (k : Int))), (15, .eq (v))] ++ _) _
 refine CW.S (LW.pp (.lss (.t rfl) (.t rfl)) (LW.S (CW.cond (.t rfl) (fun h85 => ?_) (fun h85 => ?_))))
 ·replace h85 := dQ h85
  refine CW.skip (KW.then (CW.seq (CW.block (CW.seq ?_))))
  obtain ⟨g, hg⟩ := Ac (xs := (D0 b.Processes ((L.filter A3).map (·.vd)))) (i := k) oQ
  obtain ⟨Bg, og, ag, hcg⟩ := (Ed (hS.own 6 rfl) (fun _ => rfl)) k g hg
  obtain ⟨e, he, heg⟩ := iH hDI (List.mem_of_getElem? hg)
  obtain ⟨ade, cpe, hev, _⟩ := (O1 (hS.get 4 rfl) he).sl (fun _ => rfl)
  have hko := mZ (fun f hf => nE (hT f hf)) g (List.mem_of_getElem? hg)
  have hTl := congrArg List.length hTs
  simp only [List.length_map, List.length_take] at hTl
  refine CW.region (LW.pp (.Aj underlying103 sizeOf99 (j := k) (.t rfl) (.t rfl) oQ ag) (LW.pp (.la isAgg99 sizeOf99 rfl (hcg)) (Ah (.Az zeroValue99) rfl ?_)))
  rintro _ w30 ⟨B17, rfl, MB17⟩
  refine LW.E (.Ay sizeOf99 rfl (.t rfl) (.t rfl) (Ar2.one _) MB17.blk rfl) ?_
  intro w31 LB17
  have NB17 := MB17.set LB17
  replace hS := hS.Cj NB17
  refine LW.T (CW.region (LW.M rfl (LW.M rfl (LW.pp (.la isAgg99 sizeOf99 rfl ((hS.blk 8 rfl).agg)) (LW.pp (Mk.PEv.C1 (ok := false) underlying95 mN hko (.t rfl) (.t rfl) (hS.get 1 rfl) (List.mem_map.2 ⟨e, he, by show (e.g, e.v) = _; rw [heg, hev]⟩)) (LW.pp (.build (cs := (TP.mk ade e.l cpe).cells) underlying64 zeroValue64 El (.cons (.t rfl) .nil) rfl) (Ah (.buildSlice (xs := [TP.mk ade e.l cpe]) (enc := TP.cells) (mk := fun t : TP => .agg t.cells) underlying51 sizeOf64 zeroValue64 rfl cQ (fun _ => rfl) (fun _ => rfl) (.cons (.t rfl) .nil) rfl) rfl ?_)))))))
  rintro _ w32 ⟨B93, cB93, rfl, NB93, yB93, xB93⟩
  replace hS := hS.up NB93.up
  have hE93 := xB93
  refine Ah (.A8 (enc := TP.cells) (bytes := 24) (i := Tryz.t64) underlying51 kQ rfl rfl rfl rfl cQ (fun _ => rfl) TP.one (.t rfl) (.t rfl) (hS.own 7 rfl) (Ak hE93) (by simp only [maxLen, List.length_cons, List.length_nil]; omega) (by simp only [List.length_cons, List.length_nil]; omega)) rfl ?_
  intro v94 w33 Gw33
  replace hS := hS.Dh 7 rfl Gw33
  refine LW.A rfl (LW.nil (KW.inBlock (KW.then (CW.region (LW.pp (.inc (.t rfl) oQ) (LW.M rfl (LW.nil (KW.round ?_))))))))
  exact ⟨(k + 1, v94, Ts ++ [TP.mk ade e.l cpe]), ⟨by show k + 1 ≤ _; omega, by show (Ts ++ [_]).map TP.l = _; rw [List.map_append, hTs, Dq hg, ← heg, ← hDI.val e he]; rfl, fun t ht => (List.mem_append.1 ht).elim (hTe t) (fun h => ⟨e, he, by rw [List.mem_singleton.1 h]; exact ⟨hev, rfl⟩⟩), hS.take 8⟩, ⟨rfl, rfl, rfl, rfl, rfl, rfl, rfl, trivial⟩, by show (D0 b.Processes ((L.filter A3).map (·.vd))).length - (k + 1) < (D0 b.Processes ((L.filter A3).map (·.vd))).length - k; omega⟩
 replace h85 := dQ h85
 refine CW.exit (Aa (Aa (Ad (KW.then (CW.seq (CW.seq ?_))))))
 have hkl : k = (D0 b.Processes ((L.filter A3).map (·.vd))).length := by omega
 rw [hkl, List.take_length] at hTs
 refine CW.region (LW.M rfl (LW.K (eC (.o rfl) (BP)) rfl (Hk.J2 _ _) ?_))
 rintro _ w34 ⟨⟨BJ, rfl, hBJ, zJ⟩, uw34⟩
 replace hS := hS.up uw34
 have zBJ := hBJ.lt
 refine LW.K (eC (.o rfl) (wE)) rfl (Hs.Jv _ _ _ _ _ _ wX (fun W X u hX => Hk.Iz X _ BJ B21 _ W (fun i h => h.elim) (fun h => by have := hX _ h; omega) (fun h => h.elim) (hBJ.up u) ((show IMap _ _ _ from hS.get 2 rfl).up u)) (by rw [List.length_map]; omega) (fun ks h => by have := h.length_eq; rw [J5, List.length_map] at this; omega)) ?_
 rintro v98 w35 ⟨ks2, hPj, hO98, uw35⟩
 have zw35 := uw35.size
 replace hBJ := hBJ.up uw35
 replace hS := hS.add uw35 (A' := Al 3 1 Aq v98 (ks2.mergeSort fun x y => decide (x ≤ y))) (hO98.mono (Nat.zero_le _)) (fun i h => hO98.base i h)
 rw [J5] at hPj
 rw [Yi hEI hPj] at hS
 obtain ⟨ad98, cp98, rfl, _⟩ := (hS.own 8 rfl).sl (fun _ => rfl)
 refine LW.pp (.Ci underlying30 (.t rfl)) (LW.pp (.move (.const _)) (LW.nil ?_))
 have hLkl : (D7 b ((L.filter A3).map (·.vd))).length ≤ 100000 := by rw [← Yi hEI hPj, List.length_mergeSort, hPj.length_eq, List.length_map]; omega
 refine KW.then (CW.block (Am (σ := Nat × Go.Value × List TP) (fun s w => (s.1 ≤ (D7 b ((L.filter A3).map (·.vd))).length) ∧ (s.2.2.map TP.l = (D0 b.Processes ((L.filter A3).map (·.vd))).map (Gw b.Processes ((L.filter A3).map (·.vd))) ++ ((D7 b ((L.filter A3).map (·.vd))).take s.1).map (Es b ((L.filter A3).map (·.vd)))) ∧ (∀ t ∈ s.2.2, (∃ e ∈ D, e.v = t.v ∧ e.l = t.l) ∨ ∃ e ∈ E, e.v = t.v ∧ e.l = t.l) ∧ (Wx.Sep no w0 w [Ck B2 bc 38, Mk.Cf Si B20 ((D).map BE.kv), Cf B21 ((E).map BE.kv), Al 32 3 VP.cells (.slice ad7 (L.filter A3).length cp7) (L.filter A3), S4 3 (D), S4 3 (E), Al 99 2 Ar2.cells (.slice ad82 (D0 b.Processes ((L.filter A3).map (·.vd))).length cp82) (D0 b.Processes ((L.filter A3).map (·.vd))), Al 64 1 TP.cells s.2.1 s.2.2, Al 3 1 Aq (.slice ad98 (D7 b ((L.filter A3).map (·.vd))).length cp98) (D7 b ((L.filter A3).map (·.vd)))])) (fun s => [(100, .eq (vi (s.1 : Int))), (15, .eq (s.2.1))]) ([(4, .eq _), (6, .eq _), (98, .eq _), (99, .eq _)]) (fun s => (D7 b ((L.filter A3).map (·.vd))).length - s.1) (0, v, Ts) ?_ ⟨rfl, rfl, rfl, rfl, rfl, rfl, trivial⟩ ?_))
 ·exact ⟨Nat.zero_le _, by show Ts.map TP.l = _ ++ []; rw [hTs, List.append_nil], fun t ht => .inl (hTe t ht), hS⟩
 rintro ⟨j, v, Ts⟩ w36 ⟨hj, hTs2, hTe2, hS⟩
 dsimp only at hj hTs2 hTe2 hS
 change CW _ _ _ _ _ _ _ ([(100, .eq (vi (j : Int))), (15, .eq (v))] ++ _) _
 refine CW.S (LW.pp (.lss (.t rfl) (.t rfl)) (LW.S (CW.cond (.t rfl) (fun h101 => ?_) (fun h101 => ?_))))
 ·replace h101 := dQ h101
  refine CW.skip (KW.then (CW.seq (CW.block (CW.seq ?_))))
  obtain ⟨m, hm⟩ := Ac (xs := (D7 b ((L.filter A3).map (·.vd)))) (i := j) oQ
  obtain ⟨Bm, om, am, hcm⟩ := (Ed (hS.own 8 rfl) (fun _ => rfl)) j m hm
  obtain ⟨e, he, heg⟩ := iI hEI (List.mem_of_getElem? hm)
  obtain ⟨ade, cpe, hev, _⟩ := (O1 (hS.get 5 rfl) he).sl (fun _ => rfl)
  have hTl := congrArg List.length hTs2
  simp only [List.length_append, List.length_map, List.length_take] at hTl
  refine CW.region (LW.pp (.Aj underlying30 sizeOf3 (j := j) (.t rfl) (.t rfl) oQ am) (LW.pp (.ld isAgg3 rfl (hcm.nth (j := 0) rfl)) (LW.A rfl (LW.T (CW.region (LW.M rfl (LW.M rfl (LW.M rfl (LW.pp (.C1 (ok := false) underlying96 underlying3 (.t rfl) (.t rfl) (hS.get 2 rfl) (List.mem_map.2 ⟨e, he, by show (e.g, e.v) = _; rw [heg, hev]⟩)) (LW.pp (.build (cs := (TP.mk ade e.l cpe).cells) underlying64 zeroValue64 El (.cons (.t rfl) .nil) rfl) (Ah (.buildSlice (xs := [TP.mk ade e.l cpe]) (enc := TP.cells) (mk := fun t : TP => .agg t.cells) underlying51 sizeOf64 zeroValue64 rfl cQ (fun _ => rfl) (fun _ => rfl) (.cons (.t rfl) .nil) rfl) rfl ?_)))))))))))
  rintro _ w37 ⟨B109, cB109, rfl, NB109, yB109, xB109⟩
  replace hS := hS.up NB109.up
  have hE109 := xB109
  refine Ah (.A8 (enc := TP.cells) (bytes := 24) (i := Tryz.t64) underlying51 kQ rfl rfl rfl rfl cQ (fun _ => rfl) TP.one (.t rfl) (.t rfl) (hS.own 7 rfl) (Ak hE109) (by simp only [maxLen, List.length_cons, List.length_nil]; omega) (by simp only [List.length_cons, List.length_nil]; omega)) rfl ?_
  intro v110 w38 Gw38
  replace hS := hS.Dh 7 rfl Gw38
  refine LW.A rfl (LW.nil (KW.inBlock (KW.then (CW.region (LW.pp (.inc (.t rfl) oQ) (LW.M rfl (LW.nil (KW.round ?_))))))))
  exact ⟨(j + 1, v110, Ts ++ [TP.mk ade e.l cpe]), ⟨by show j + 1 ≤ _; omega, by show (Ts ++ [_]).map TP.l = _; rw [List.map_append, hTs2, Dq hm, List.append_assoc, ← heg, ← hEI.val e he]; rfl, fun t ht => (List.mem_append.1 ht).elim (hTe2 t) (fun h => .inr ⟨e, he, by rw [List.mem_singleton.1 h]; exact ⟨hev, rfl⟩⟩), hS.take 9⟩, ⟨rfl, rfl, rfl, rfl, rfl, rfl, trivial⟩, by show (D7 b ((L.filter A3).map (·.vd))).length - (j + 1) < (D7 b ((L.filter A3).map (·.vd))).length - j; omega⟩
 replace h101 := dQ h101
 refine CW.exit (Aa (Aa (Ad (KW.then (CW.seq ?_)))))
 have hjl : j = (D7 b ((L.filter A3).map (·.vd))).length := by omega
 rw [hjl, List.take_length] at hTs2
 obtain ⟨ado, cpo, rfl, hEo⟩ := (hS.own 7 rfl).sl (fun _ => rfl)
 have hco := (hS.own 7 rfl).cap
 refine CW.region (LW.M rfl (LW.M rfl (LW.pp (.Ci underlying51 (.t rfl)) (LW.pp (.jN (i := Ts.length) (j := 16) (.t rfl) (.const _)) (LW.pp (.K9 underlying51 sizeOf64 (.t rfl) (.t rfl) (by have := hco.1; omega)) (LW.A rfl (LW.T (CW.ret (Ae rfl rfl ⟨_, rfl, ?_⟩)))))))))
 refine ⟨Ts.take 16, ?_, ?_, fun t ht => ?_, hS.Ce⟩
 ·rw [List.map_take, hTs2]; unfold Gk R6; rw [← dX]
 ·exact Yl hEo
 rcases hTe2 t (List.mem_of_mem_take ht) with ⟨e, he, h1, h2⟩ | ⟨e, he, h1, h2⟩
 · rw [← h1, ← h2]; exact (O1 (hS.get 4 rfl) he).sl (fun _ => rfl)
 rw [← h1, ← h2]; exact (O1 (hS.get 5 rfl) he).sl (fun _ => rfl)
end Go.Proofs.YtmimclgihlhaeaaGreat
end
section
namespace Go.Wx
def iL {α : Type} (le : α → α → Bool) (x : α) : List α → List α
 | [] => [x]
 | y :: l => if le x y then x :: y :: l else y :: iL le x l
def S5 {α : Type} (le : α → α → Bool) (l : List α) : List α := l.foldr (iL le) []
theorem O5 {α : Type} (le : α → α → Bool) (x : α) : ∀ l : List α, (iL le x l).Perm (x :: l)
 | [] => List.Perm.refl _
 | y :: l => by
   unfold iL
   split
   · exact List.Perm.refl _
   exact ((O5 le x l).cons y).trans (List.Perm.swap _ _ _)
theorem T7 {α : Type} (le : α → α → Bool) : ∀ l : List α, (S5 le l).Perm l
 | [] => List.Perm.refl _
 | y :: l => (O5 le y (S5 le l)).trans ((T7 le l).cons y)
theorem Pp {α : Type} {le : α → α → Bool} (ht : ∀ a b c, le a b = true → le b c = true → le a c = true) (hb : ∀ a b, (le a b || le b a) = true) (x : α) : ∀ l : List α, l.Pairwise (fun a b => le a b = true) → (iL le x l).Pairwise fun a b => le a b = true
 | [], _ => List.pairwise_singleton _ _
 | y :: l, h => by
   have h1 := List.pairwise_cons.1 h
   unfold iL
   split
   · rename_i hxy
     exact List.pairwise_cons.2 ⟨fun z hz => (List.mem_cons.1 hz).elim (fun e => e ▸ hxy) fun hz => ht _ _ _ hxy (h1.1 z hz), h⟩
   rename_i hxy
   refine List.pairwise_cons.2 ⟨fun z hz => ?_, Pp ht hb x l h1.2⟩
   rcases List.mem_cons.1 ((O5 le x l).mem_iff.1 hz) with rfl | hz
   · have := hb z y
     simp [hxy] at this
     exact this
   exact h1.1 z hz
theorem Pq {α : Type} {le : α → α → Bool} (ht : ∀ a b c, le a b = true → le b c = true → le a c = true) (hb : ∀ a b, (le a b || le b a) = true) : ∀ l : List α, (S5 le l).Pairwise fun a b => le a b = true
 | [] => List.Pairwise.nil
 | y :: l => Pp ht hb y _ (Pq ht hb l)
theorem dY {α : Type} {le : α → α → Bool} (ht : ∀ a b c, le a b = true → le b c = true → le a c = true) (hb : ∀ a b, (le a b || le b a) = true) (ha : ∀ a b, le a b = true → le b a = true → a = b) (l : List α) : l.mergeSort le = S5 le l :=
 List.Perm.eq_of_pairwise (le := fun x y => le x y = true) (fun x y _ _ h1 h2 => ha x y h1 h2) (List.pairwise_mergeSort ht hb l) (Pq ht hb l) ((List.mergeSort_perm l _).trans (T7 le l).symm)
def vP (x y : Int) : Bool := decide (x ≤ y)
theorem O6 (l : List Int) : Cc l = S5 vP l :=
 dY (le := vP) (fun a b c h k => by have h3 := of_decide_eq_true h; have h4 := of_decide_eq_true k; exact decide_eq_true oQ) (fun a b => by unfold vP; simp; omega) (fun a b h k => by have h3 := of_decide_eq_true h; have h4 := of_decide_eq_true k; omega) l
theorem iM (l : List Ar2) : l.mergeSort R4 = S5 R4 l := dY Lo Lp (fun a b h k => Ny ((Is b a).1 k) ((Is a b).1 h)) l
def nG (w : Int) (L : List (Int × Bool)) : Vd := ⟨w, (Cn L).1, S5 vP (Cn L).2⟩
def sT (b : Base) (x : Exc) : List Vd := if Hi x = true then (S5 vP ((Sw b.Swaps (Kz b.Lots) b.Processes).filter Cu)).map fun w => nG w (lookW (Lt b.Swaps b.Gaps x b.Processes) w) else []
theorem vF (b : Base) (x : Exc) : K1 b x = sT b x := by
 have h : Px = nG := funext fun w => funext fun L => by unfold Px nG; rw [O6]
 unfold K1 sT Bq
 rw [O6, h]
def dZ (b : Base) (O : List Vd) : List (List Int) := (S5 R4 (P2 (O.flatMap fun p => Fy b.Processes p.why))).map (Gw b.Processes O) ++ (S5 vP (P2 ((O.map (Eb b)).filter fun n => decide (n ≠ 0)))).map (Es b O)
theorem nH (b : Base) (O : List Vd) : R6 b O = dZ b O := by
 unfold R6 dZ D0 D7
 rw [iM, show (P2 ((O.map (Eb b)).filter fun n => decide (n ≠ 0))).mergeSort (fun x y => decide (x ≤ y)) = Cc _ from rfl, O6]
def zY : Exc := ⟨2, 0, 100, 120, 5⟩
def nI : Fact := { Fx with Kind := 11, Version := 1, ID := 1, Tool := 2, Time := 24, Until := 30 }
def nJ : Fact := { Fx with Kind := 4, Version := 1, Wafer := 2, Lot := 6, Product := 1 }
def nK : List Fact := [Fa 11 1 90 105, Fa 12 2 90 104, Fa 13 3 126 130, Fa 14 4 10 20, Fa 15 5 10 18, nI, nJ]
def v22 : List Vd := [⟨1, 2, [11]⟩, ⟨2, 1, [12]⟩, ⟨3, 0, []⟩, ⟨4, 1, [14]⟩, ⟨5, 0, []⟩]
theorem DN : K1 (Ri nK 0) zY = v22 := by rw [vF]; kernel_rfl
theorem DB : Gk (Ri nK 0) v22 = [[4], [2], [2]] := by unfold Gk; rw [nH]; kernel_rfl
theorem AM : (Ri nK 0).Processes = [Fa 11 1 90 105, Fa 12 2 90 104, Fa 13 3 126 130, Fa 14 4 10 20, Fa 15 5 10 18] := by kernel_rfl
theorem bM : ∀ p ∈ (Ri nK 0).Processes, Hf p := by
 rw [AM]
 intro p hp
 simp only [List.mem_cons, List.not_mem_nil, or_false] at hp
 rcases hp with rfl | rfl | rfl | rfl | rfl <;> simp [Hf, Fa]
theorem eD : (Ri nK 0).Gaps.length = 1 := by kernel_rfl
theorem eE : (Ri nK 0).Swaps.length = 0 := by kernel_rfl
theorem Sa : (Ri nK 0).Lots.length = 1 := by kernel_rfl
theorem nL (L : List VP) : Ga L = ((L.map (·.vd)).filter fun v => decide (v.t = 1)).map (·.w) := by
 rw [← dX, List.map_map]
 rfl
def TsOk (w : World) (Ts : List TP) : Prop := ∀ t ∈ Ts, Sl w t.v 1 Aq t.l
theorem TsOk.up {w w' : World} {Ts : List TP} (h : TsOk w Ts) (u : Up w w') : TsOk w' Ts := fun t ht => Sl.up (h t ht) u
theorem zZ {α : Type} (w : World) (k : Nat) (enc : α → Array Go.Value) : Sl w (.slice none 0 0) k enc [] := ⟨none, 0, rfl, fun i x hx => by simp at hx⟩
end Go.Wx
namespace Go.Proofs.YtmimclgihlhaeaaGreat
open Go.Proofs.Tryz
open Go.Wx Go.RowKit
set_option maxHeartbeats 4000000 in
theorem bN (w : World) : Ret Tryz.prog 10 #[] w fun r w' => r = .bool true ∧ Up w w' := by
 obtain ⟨w0, rfl⟩ : ∃ w0, w0 = w := ⟨_, rfl⟩
 have hS := Sep.start no w0
 refine cS (n := 69) (m := 9) func10 rfl rfl rfl (CW.S (LW.C (LW.S (CW.region (LW.pp (.build (cs := zY.cells) underlying25 zeroValue25 Gy (.cons (.const _) (.cons (.const _) (.cons (.const _) (.cons (.const _) .nil)))) kQ) (Ah (.Az zeroValue25) rfl ?_))))))
 rintro _ w1 ⟨B1, rfl, MB1⟩
 refine LW.E (.Ay sizeOf25 rfl (.t rfl) (.t rfl) (Exc.one _) MB1.blk rfl) ?_
 intro w2 LB1
 have NB1 := MB1.set LB1
 replace hS := hS.Cj NB1
 refine LW.S (CW.region (LW.K (eC (.cons (.const _) (.cons (.const _) (.cons (.const _) (.cons (.const _) .nil)))) (jK)) rfl (Fz _ _ _ _ _) ?_))
 rintro _ w3 ⟨rfl, uw3⟩
 replace hS := hS.up uw3
 refine LW.K (eC (.cons (.const _) (.cons (.const _) (.cons (.const _) (.cons (.const _) .nil)))) (jK)) rfl (Fz _ _ _ _ _) ?_
 rintro _ w4 ⟨rfl, uw4⟩
 replace hS := hS.up uw4
 refine LW.K (eC (.cons (.const _) (.cons (.const _) (.cons (.const _) (.cons (.const _) .nil)))) (jK)) rfl (Fz _ _ _ _ _) ?_
 rintro _ w5 ⟨rfl, uw5⟩
 replace hS := hS.up uw5
 refine LW.K (eC (.cons (.const _) (.cons (.const _) (.cons (.const _) (.cons (.const _) .nil)))) (jK)) rfl (Fz _ _ _ _ _) ?_
 rintro _ w6 ⟨rfl, uw6⟩
 replace hS := hS.up uw6
 refine LW.K (eC (.cons (.const _) (.cons (.const _) (.cons (.const _) (.cons (.const _) .nil)))) (jK)) rfl (Fz _ _ _ _ _) ?_
 rintro _ w7 ⟨rfl, uw7⟩
 replace hS := hS.up uw7
 refine LW.pp (.build (cs := nI.cells) underlying36 zeroValue36 C3 (.cons (.const _) (.cons (.const _) (.cons (.const _) (.cons (.const _) (.cons (.const _) (.cons (.const _) .nil)))))) kQ) (LW.pp (.build (cs := nJ.cells) underlying36 zeroValue36 C3 (.cons (.const _) (.cons (.const _) (.cons (.const _) (.cons (.const _) (.cons (.const _) .nil))))) kQ) (Ah (.buildSlice (xs := [Fa 11 1 90 105, Fa 12 2 90 104, Fa 13 3 126 130, Fa 14 4 10 20, Fa 15 5 10 18, nI, nJ]) (enc := Fact.cells) (mk := fun f : Fact => .agg f.cells) underlying23 sizeOf36 zeroValue36 rfl cQ (fun _ => rfl) (fun _ => rfl) (.cons (.t rfl) (.cons (.t rfl) (.cons (.t rfl) (.cons (.t rfl) (.cons (.t rfl) (.cons (.t rfl) (.cons (.t rfl) .nil))))))) rfl) rfl ?_))
 rintro _ w8 ⟨B15, cB15, rfl, NB15, yB15, xB15⟩
 replace hS := hS.up NB15.up
 have hE15 := xB15
 refine LW.K (eC (.cons (.t rfl) (.cons (.const _) .nil)) (vV)) rfl (lE _ _ nK 0 _ hE15 cQ) ?_
 rintro _ w9 ⟨bc, rfl, hC, uw9⟩
 replace hS := hS.up uw9
 refine Ah (.Az zeroValue38) rfl ?_
 rintro _ w10 ⟨B2, rfl, MB2⟩
 refine LW.E (.Ay sizeOf38 hC.size (.t rfl) (.t rfl) hC.one MB2.blk rfl) ?_
 intro w11 LB2
 have NB2 := MB2.set LB2
 replace hC := hC.up NB2.up
 replace hS := hS.Cj NB2
 refine LW.S (CW.region (LW.pp (.Ee isAgg38 sizeOf38 (hC.size) (.t rfl) ((hS.blk 1 rfl).agg)) (LW.pp (.la isAgg25 sizeOf25 rfl ((hS.blk 0 rfl).agg)) (LW.K (eC (.u rfl rfl) (sW)) rfl (Oy bc (Ri nK 0) zY _ hC bM (by rw [AM]; decide) (by rw [eD]; decide) (by rw [Sa]; decide) (by rw [eE]; decide)) ?_))))
 rintro _ w12 ⟨v19, L19, rfl, hm19, hT19⟩
 rw [DN] at hm19
 have hl19 : L19.length = 5 := by have h5 := congrArg List.length hm19; rw [List.length_map] at h5; exact h5
 have hy19 : ∀ p ∈ L19, p.vd.why.length ≤ 1 := fun p hp => by
  have h5 : p.vd ∈ v22 := by rw [← hm19]; exact List.mem_map.2 ⟨p, hp, rfl⟩
  simp only [v22, List.mem_cons, List.not_mem_nil, or_false] at h5
  rcases h5 with h | h | h | h | h <;> rw [h] <;> decide
 replace hC := hC.up hT19.Ce
 replace hS := hS.join hT19
 obtain ⟨ad19, cp19, rfl, _⟩ := (hS.own 2 rfl).sl (fun _ => rfl)
 refine LW.A rfl (LW.S (CW.region (Ah (.buildSlice (xs := [11]) (enc := Aq) (mk := vi) underlying30 sizeOf3 zeroValue3 rfl cQ (fun _ => rfl) (fun _ => rfl) (.cons (.const _) .nil) rfl) rfl ?_)))
 rintro _ w13 ⟨B20, cB20, rfl, NB20, yB20, xB20⟩
 replace hC := hC.up NB20.up
 replace hS := hS.up NB20.up
 have hE20 := xB20
 refine LW.pp (.build (cs := (VP.mk ⟨1, 2, [11]⟩ (some ⟨B20, 0, none⟩) 1).cells) underlying32 zeroValue32 Ek (.cons (.const _) (.cons (.const _) (.cons (.t rfl) .nil))) rfl) (Ah (.buildSlice (xs := [12]) (enc := Aq) (mk := vi) underlying30 sizeOf3 zeroValue3 rfl cQ (fun _ => rfl) (fun _ => rfl) (.cons (.const _) .nil) rfl) rfl ?_)
 rintro _ w14 ⟨B22, cB22, rfl, NB22, yB22, xB22⟩
 replace hC := hC.up NB22.up
 replace hS := hS.up NB22.up
 replace hE20 := hE20.up NB22.up
 have hE22 := xB22
 refine LW.pp (.build (cs := (VP.mk ⟨2, 1, [12]⟩ (some ⟨B22, 0, none⟩) 1).cells) underlying32 zeroValue32 Ek (.cons (.const _) (.cons (.const _) (.cons (.t rfl) .nil))) rfl) (LW.pp (.build (cs := (VP.mk ⟨3, 0, []⟩ none 0).cells) underlying32 zeroValue32 Ek (.cons (.const _) .nil) rfl) (Ah (.buildSlice (xs := [14]) (enc := Aq) (mk := vi) underlying30 sizeOf3 zeroValue3 rfl cQ (fun _ => rfl) (fun _ => rfl) (.cons (.const _) .nil) rfl) rfl ?_))
 rintro _ w15 ⟨B25, cB25, rfl, NB25, yB25, xB25⟩
 replace hC := hC.up NB25.up
 replace hS := hS.up NB25.up
 replace hE20 := hE20.up NB25.up
 replace hE22 := hE22.up NB25.up
 have hE25 := xB25
 refine LW.pp (.build (cs := (VP.mk ⟨4, 1, [14]⟩ (some ⟨B25, 0, none⟩) 1).cells) underlying32 zeroValue32 Ek (.cons (.const _) (.cons (.const _) (.cons (.t rfl) .nil))) rfl) (LW.pp (.build (cs := (VP.mk ⟨5, 0, []⟩ none 0).cells) underlying32 zeroValue32 Ek (.cons (.const _) .nil) rfl) (Ah (.buildSlice (xs := [(VP.mk ⟨1, 2, [11]⟩ (some ⟨B20, 0, none⟩) 1), (VP.mk ⟨2, 1, [12]⟩ (some ⟨B22, 0, none⟩) 1), (VP.mk ⟨3, 0, []⟩ none 0), (VP.mk ⟨4, 1, [14]⟩ (some ⟨B25, 0, none⟩) 1), (VP.mk ⟨5, 0, []⟩ none 0)]) (enc := VP.cells) (mk := fun p : VP => .agg p.cells) underlying27 sizeOf32 zeroValue32 rfl cQ (fun _ => rfl) (fun _ => rfl) (.cons (.t rfl) (.cons (.t rfl) (.cons (.t rfl) (.cons (.t rfl) (.cons (.t rfl) .nil))))) rfl) rfl ?_))
 rintro _ w16 ⟨B28, cB28, rfl, NB28, yB28, xB28⟩
 replace hC := hC.up NB28.up
 replace hS := hS.up NB28.up
 replace hE20 := hE20.up NB28.up
 replace hE22 := hE22.up NB28.up
 replace hE25 := hE25.up NB28.up
 have hE28 := xB28
 refine LW.A rfl (LW.S (CW.region (LW.M rfl (LW.K (eC (.o rfl) (vY)) rfl (X7 ad19 cp19 L19 _ (Ed (hS.own 2 rfl) (fun _ => rfl)) (by rw [hl19]; decide)) ?_))))
 rintro v30 w17 ⟨hO30, uw17⟩
 replace hC := hC.up uw17
 replace hE20 := hE20.up uw17
 replace hE22 := hE22.up uw17
 replace hE25 := hE25.up uw17
 replace hE28 := hE28.up uw17
 replace hS := hS.add uw17 (A' := Al 3 1 Aq v30 (Ga L19)) (hO30.mono (Nat.zero_le _)) (fun i h => hO30.base i h)
 rw [nL, hm19] at hS
 refine LW.A rfl (LW.S (CW.region (LW.pp (.Ee isAgg38 sizeOf38 (hC.size) (.t rfl) ((hS.blk 1 rfl).agg)) (LW.M rfl (LW.K (eC (.u rfl rfl) (wA)) rfl (T6 bc (Ri nK 0) ad19 cp19 L19 _ hC bM (Ed (hS.own 2 rfl) (fun _ => rfl)) (Nv (hS.get 3 rfl)) (fun p hp => Nat.le_trans (hy19 p hp) cQ) (by rw [hl19]; decide) (by rw [AM]; decide) (by rw [Sa]; decide)) ?_)))))
 rintro v33 w18 ⟨Ts, hTl, hTs, hTw, uw18⟩
 have zw18 := uw18.size
 replace hC := hC.up uw18
 replace hS := hS.up uw18
 replace hE20 := hE20.up uw18
 replace hE22 := hE22.up uw18
 replace hE25 := hE25.up uw18
 replace hE28 := hE28.up uw18
 rw [hm19, DB] at hTl
 obtain ⟨ad33, cp33, rfl, hE33⟩ := hTs
 replace hE33 : Els w18 ad33 1 TP.cells Ts := hE33
 replace hTw : TsOk w18 Ts := hTw
 refine LW.A rfl (LW.S (CW.region (LW.M rfl (LW.M rfl (LW.K (eC (.u rfl rfl) (vX)) rfl (R9 ad19 cp19 _ _ L19 [(VP.mk ⟨1, 2, [11]⟩ (some ⟨B20, 0, none⟩) 1), (VP.mk ⟨2, 1, [12]⟩ (some ⟨B22, 0, none⟩) 1), (VP.mk ⟨3, 0, []⟩ none 0), (VP.mk ⟨4, 1, [14]⟩ (some ⟨B25, 0, none⟩) 1), (VP.mk ⟨5, 0, []⟩ none 0)] _ (Ed (hS.own 2 rfl) (fun _ => rfl)) hE28 (Nv (hS.get 3 rfl)) (fun p hp => (by simp only [List.mem_cons, List.not_mem_nil, or_false] at hp; rcases hp with rfl | rfl | rfl | rfl | rfl <;> first | exact Ak hE20 | exact Ak hE22 | exact Ak hE25 | exact zZ _ _ _)) (fun p hp => Nat.le_trans (hy19 p hp) cQ) (fun p hp => (by simp only [List.mem_cons, List.not_mem_nil, or_false] at hp; rcases hp with rfl | rfl | rfl | rfl | rfl <;> exact Nat.le_of_ble_eq_true rfl)) (by rw [hl19]; decide)) ?_)))))
 rintro _ w19 ⟨rfl, uw19⟩
 replace hC := hC.up uw19
 replace hS := hS.up uw19
 replace hE20 := hE20.up uw19
 replace hE22 := hE22.up uw19
 replace hE25 := hE25.up uw19
 replace hE28 := hE28.up uw19
 replace hE33 := hE33.up uw19
 replace hTw := hTw.up uw19
 rw [show decide (L19.map (·.vd) = ([(VP.mk ⟨1, 2, [11]⟩ (some ⟨B20, 0, none⟩) 1), (VP.mk ⟨2, 1, [12]⟩ (some ⟨B22, 0, none⟩) 1), (VP.mk ⟨3, 0, []⟩ none 0), (VP.mk ⟨4, 1, [14]⟩ (some ⟨B25, 0, none⟩) 1), (VP.mk ⟨5, 0, []⟩ none 0)] : List VP).map (·.vd)) = true from decide_eq_true hm19]
 refine LW.M rfl (LW.Y (LW.M rfl (LW.Y (Ah (.buildSlice (xs := [2, 4]) (enc := Aq) (mk := vi) underlying30 sizeOf3 zeroValue3 rfl cQ (fun _ => rfl) (fun _ => rfl) (.cons (.const _) (.cons (.const _) .nil)) rfl) rfl ?_))))
 rintro _ w20 ⟨B39, cB39, rfl, NB39, yB39, xB39⟩
 replace hC := hC.up NB39.up
 replace hS := hS.up NB39.up
 replace hE20 := hE20.up NB39.up
 replace hE22 := hE22.up NB39.up
 replace hE25 := hE25.up NB39.up
 replace hE28 := hE28.up NB39.up
 replace hE33 := hE33.up NB39.up
 replace hTw := hTw.up NB39.up
 have hE39 := xB39
 refine LW.Y (LW.K (eC (.u rfl rfl) (pA)) rfl (Hw _ _ _ [2, 4] _ ((hS.own 4 rfl).sl (fun _ => rfl)) (Ak hE39) cQ cQ) ?_)
 rintro _ w21 ⟨rfl, uw21⟩
 replace hC := hC.up uw21
 replace hS := hS.up uw21
 replace hE20 := hE20.up uw21
 replace hE22 := hE22.up uw21
 replace hE25 := hE25.up uw21
 replace hE28 := hE28.up uw21
 replace hE33 := hE33.up uw21
 replace hTw := hTw.up uw21
 replace hE39 := hE39.up uw21
 rw [show decide ((v22.filter fun v => decide (v.t = 1)).map (·.w) = [2, 4]) = true from by kernel_rfl]
 refine LW.pp (.Ao (.t rfl) (fun hp => (by exact .tmp rfl))) (LW.M rfl (LW.Y (LW.M rfl (LW.Y (Ah (.buildSlice (xs := [4]) (enc := Aq) (mk := vi) underlying30 sizeOf3 zeroValue3 rfl cQ (fun _ => rfl) (fun _ => rfl) (.cons (.const _) .nil) rfl) rfl ?_)))))
 rintro _ w22 ⟨B44, cB44, rfl, NB44, yB44, xB44⟩
 replace hC := hC.up NB44.up
 replace hS := hS.up NB44.up
 replace hE20 := hE20.up NB44.up
 replace hE22 := hE22.up NB44.up
 replace hE25 := hE25.up NB44.up
 replace hE28 := hE28.up NB44.up
 replace hE33 := hE33.up NB44.up
 replace hTw := hTw.up NB44.up
 replace hE39 := hE39.up NB44.up
 have hE44 := xB44
 refine LW.Y (LW.pp (.build (cs := (TP.mk (some ⟨B44, 0, none⟩) [4] 1).cells) underlying64 zeroValue64 El (.cons (.t rfl) .nil) rfl) (LW.Y (Ah (.buildSlice (xs := [2]) (enc := Aq) (mk := vi) underlying30 sizeOf3 zeroValue3 rfl cQ (fun _ => rfl) (fun _ => rfl) (.cons (.const _) .nil) rfl) rfl ?_)))
 rintro _ w23 ⟨B46, cB46, rfl, NB46, yB46, xB46⟩
 replace hC := hC.up NB46.up
 replace hS := hS.up NB46.up
 replace hE20 := hE20.up NB46.up
 replace hE22 := hE22.up NB46.up
 replace hE25 := hE25.up NB46.up
 replace hE28 := hE28.up NB46.up
 replace hE33 := hE33.up NB46.up
 replace hTw := hTw.up NB46.up
 replace hE39 := hE39.up NB46.up
 replace hE44 := hE44.up NB46.up
 have hE46 := xB46
 refine LW.Y (LW.pp (.build (cs := (TP.mk (some ⟨B46, 0, none⟩) [2] 1).cells) underlying64 zeroValue64 El (.cons (.t rfl) .nil) rfl) (LW.Y (Ah (.buildSlice (xs := [2]) (enc := Aq) (mk := vi) underlying30 sizeOf3 zeroValue3 rfl cQ (fun _ => rfl) (fun _ => rfl) (.cons (.const _) .nil) rfl) rfl ?_)))
 rintro _ w24 ⟨B48, cB48, rfl, NB48, yB48, xB48⟩
 replace hC := hC.up NB48.up
 replace hS := hS.up NB48.up
 replace hE20 := hE20.up NB48.up
 replace hE22 := hE22.up NB48.up
 replace hE25 := hE25.up NB48.up
 replace hE28 := hE28.up NB48.up
 replace hE33 := hE33.up NB48.up
 replace hTw := hTw.up NB48.up
 replace hE39 := hE39.up NB48.up
 replace hE44 := hE44.up NB48.up
 replace hE46 := hE46.up NB48.up
 have hE48 := xB48
 refine LW.Y (LW.pp (.build (cs := (TP.mk (some ⟨B48, 0, none⟩) [2] 1).cells) underlying64 zeroValue64 El (.cons (.t rfl) .nil) rfl) (LW.Y (Ah (.buildSlice (xs := [(TP.mk (some ⟨B44, 0, none⟩) [4] 1), (TP.mk (some ⟨B46, 0, none⟩) [2] 1), (TP.mk (some ⟨B48, 0, none⟩) [2] 1)]) (enc := TP.cells) (mk := fun t : TP => .agg t.cells) underlying51 sizeOf64 zeroValue64 rfl cQ (fun _ => rfl) (fun _ => rfl) (.cons (.t rfl) (.cons (.t rfl) (.cons (.t rfl) .nil))) rfl) rfl ?_)))
 rintro _ w25 ⟨B50, cB50, rfl, NB50, yB50, xB50⟩
 replace hC := hC.up NB50.up
 replace hS := hS.up NB50.up
 replace hE20 := hE20.up NB50.up
 replace hE22 := hE22.up NB50.up
 replace hE25 := hE25.up NB50.up
 replace hE28 := hE28.up NB50.up
 replace hE33 := hE33.up NB50.up
 replace hTw := hTw.up NB50.up
 replace hE39 := hE39.up NB50.up
 replace hE44 := hE44.up NB50.up
 replace hE46 := hE46.up NB50.up
 replace hE48 := hE48.up NB50.up
 have hE50 := xB50
 refine LW.Y (LW.K (eC (.u rfl rfl) (vZ)) rfl (Po ad33 cp33 _ _ Ts [(TP.mk (some ⟨B44, 0, none⟩) [4] 1), (TP.mk (some ⟨B46, 0, none⟩) [2] 1), (TP.mk (some ⟨B48, 0, none⟩) [2] 1)] _ hE33 hE50 hTw (fun p hp => (by simp only [List.mem_cons, List.not_mem_nil, or_false] at hp; rcases hp with rfl | rfl | rfl <;> first | exact Ak hE44 | exact Ak hE46 | exact Ak hE48)) (fun p hp => (by have h5 : p.l ∈ ([[4], [2], [2]] : List (List Int)) := (by rw [← hTl]; exact List.mem_map.2 ⟨p, hp, rfl⟩); simp only [List.mem_cons, List.not_mem_nil, or_false] at h5; rcases h5 with h | h | h <;> rw [h] <;> decide)) (fun p hp => (by simp only [List.mem_cons, List.not_mem_nil, or_false] at hp; rcases hp with rfl | rfl | rfl <;> exact Nat.le_of_ble_eq_true rfl)) (by have h5 := congrArg List.length hTl; rw [List.length_map] at h5; rw [h5]; decide)) ?_)
 rintro _ w26 ⟨rfl, uw26⟩
 replace hC := hC.up uw26
 replace hS := hS.up uw26
 replace hE20 := hE20.up uw26
 replace hE22 := hE22.up uw26
 replace hE25 := hE25.up uw26
 replace hE28 := hE28.up uw26
 replace hE33 := hE33.up uw26
 replace hTw := hTw.up uw26
 replace hE39 := hE39.up uw26
 replace hE44 := hE44.up uw26
 replace hE46 := hE46.up uw26
 replace hE48 := hE48.up uw26
 rw [show decide (Ts.map (·.l) = ([(TP.mk (some ⟨B44, 0, none⟩) [4] 1), (TP.mk (some ⟨B46, 0, none⟩) [2] 1), (TP.mk (some ⟨B48, 0, none⟩) [2] 1)] : List TP).map (·.l)) = true from decide_eq_true hTl]
 refine LW.pp (.Ao (.t rfl) (fun hp => (by exact .tmp rfl))) (LW.M rfl (LW.Y (LW.pp (.la isAgg25 sizeOf25 rfl ((hS.blk 0 rfl).agg)) (LW.Y (LW.K (eC (.o rfl) (oZ)) rfl (J4 zY _) ?_)))))
 rintro _ w27 ⟨rfl, uw27⟩
 replace hC := hC.up uw27
 replace hS := hS.up uw27
 replace hE20 := hE20.up uw27
 replace hE22 := hE22.up uw27
 replace hE25 := hE25.up uw27
 replace hE28 := hE28.up uw27
 replace hE33 := hE33.up uw27
 replace hTw := hTw.up uw27
 replace hE39 := hE39.up uw27
 replace hE44 := hE44.up uw27
 replace hE46 := hE46.up uw27
 replace hE48 := hE48.up uw27
 rw [show Hi zY = true from by kernel_rfl]
 refine LW.pp (.Ao (.t rfl) (fun hp => (by exact .tmp rfl))) (LW.M rfl (LW.Y (LW.pp (.build (cs := (Exc.mk 0 0 5 0 0).cells) underlying25 zeroValue25 Gy (.cons (.const _) .nil) kQ) (LW.Y (LW.K (eC (.o rfl) (oZ)) rfl (J4 (Exc.mk 0 0 5 0 0) _) ?_)))))
 rintro _ w28 ⟨rfl, uw28⟩
 replace hC := hC.up uw28
 replace hS := hS.up uw28
 replace hE20 := hE20.up uw28
 replace hE22 := hE22.up uw28
 replace hE25 := hE25.up uw28
 replace hE28 := hE28.up uw28
 replace hE33 := hE33.up uw28
 replace hTw := hTw.up uw28
 replace hE39 := hE39.up uw28
 replace hE44 := hE44.up uw28
 replace hE46 := hE46.up uw28
 replace hE48 := hE48.up uw28
 rw [show Hi (Exc.mk 0 0 5 0 0) = false from by kernel_rfl]
 refine LW.Y (LW.pp (.tr (PEv.not (.t rfl)) (rfl)) (LW.pp (.Ao (.t rfl) (fun hp => (by exact .tmp rfl))) (LW.M rfl (LW.Y (LW.pp (.Ee isAgg38 sizeOf38 (hC.size) (.t rfl) ((hS.blk 1 rfl).agg)) (LW.Y (LW.pp (.build (cs := (Exc.mk 0 0 5 0 0).cells) underlying25 zeroValue25 Gy (.cons (.const _) .nil) kQ) (LW.Y (LW.K (eC (.u rfl rfl) (sW)) rfl (Oy bc (Ri nK 0) (Exc.mk 0 0 5 0 0) _ hC bM (by rw [AM]; decide) (by rw [eD]; decide) (by rw [Sa]; decide) (by rw [eE]; decide)) ?_)))))))))
 rintro _ w29 ⟨v65, L65, rfl, hm65, hT65⟩
 have hn65 : L65 = [] := List.map_eq_nil_iff.1 (hm65.trans kQ)
 subst hn65
 replace hS := hS.join hT65
 obtain ⟨ad65, cp65, rfl, _⟩ := (hS.own 5 rfl).sl (fun _ => rfl)
 refine LW.Y (LW.pp (.Ci underlying27 (.t rfl)) (LW.Y (LW.pp (.tr (PEv.eql (.t rfl) (.const _)) (rfl)) (LW.pp (.Ao (.t rfl) (fun hp => (by exact .tmp rfl))) (LW.A rfl (LW.T (CW.ret (Ae rfl rfl ⟨_, rfl, ?_⟩))))))))
 exact ⟨rfl, hS.Ce⟩
end Go.Proofs.YtmimclgihlhaeaaGreat
end
section
namespace Go.Wx
theorem bO (D : List (Int × List (Int × Bool))) (w id : Int) (s : Bool) (v : Int) : lookW (Rt D w id s) v = if v = w then Gt (lookW D w) id s else lookW D v := by
 unfold Rt
 split
 · rename_i hm
   unfold lookW
   rw [List.find?_map]
   have hp : ((fun e : Int × List (Int × Bool) => decide (e.1 = v)) ∘ fun e => if e.1 = w then (w, Gt e.2 id s) else e) = fun e => decide (e.1 = v) := funext fun e => by
     simp only [Function.comp]
     split
     · rename_i h; rw [h]
     rfl
   rw [hp]
   by_cases hv : v = w
   · rw [if_pos hv, hv]
     cases hf : D.find? fun e => decide (e.1 = w) with
     | none =>
       obtain ⟨e, he, ew⟩ := List.mem_map.1 hm
       exact absurd (List.find?_eq_none.1 hf e he) (by simp [ew])
     | some e =>
       have he : e.1 = w := of_decide_eq_true (List.find?_some (p := fun e : Int × List (Int × Bool) => decide (e.1 = w)) hf)
       simp [he]
   rw [if_neg hv]
   cases hf : D.find? fun e => decide (e.1 = v) with
   | none => rfl
   | some e =>
     have he : e.1 = v := of_decide_eq_true (List.find?_some (p := fun e : Int × List (Int × Bool) => decide (e.1 = v)) hf)
     have hn : ¬ e.1 = w := by rw [he]; exact hv
     simp [hn]
 rename_i hm
 have hf : D.find? (fun e => decide (e.1 = w)) = none := List.find?_eq_none.2 fun e he h => hm (List.mem_map.2 ⟨e, he, of_decide_eq_true h⟩)
 unfold lookW
 rw [List.find?_append]
 by_cases hv : v = w
 · rw [if_pos hv, hv, hf]; simp
 rw [if_neg hv]
 have : [(w, Gt [] id s)].find? (fun e => decide (e.1 = v)) = none := by
   rw [List.find?_cons, decide_eq_false (fun h => hv h.symm)]; rfl
 rw [this, Option.or_none]
theorem iN (L : List (Int × Bool)) (id : Int) (s : Bool) (k : Int) : (k, true) ∈ Gt L id s ↔ (k, true) ∈ L ∨ (k = id ∧ s = true) := by
 unfold Gt
 split
 · rename_i hm
   obtain ⟨q, hq, hi⟩ := List.mem_map.1 hm
   rw [List.mem_map]
   constructor
   · rintro ⟨x, hx, h⟩
     split at h
     · rename_i h1
       simp only [Prod.mk.injEq, Bool.or_eq_true] at h
       obtain ⟨h2, h3⟩ := h
       rcases h3 with h3 | h3
       · refine .inl ?_
         rw [← h2, ← h1, ← h3]
         exact hx
       exact .inr ⟨h2.symm, h3⟩
     exact .inl (h ▸ hx)
   rintro (h | ⟨rfl, rfl⟩)
   · refine ⟨(k, true), h, ?_⟩
     by_cases e : k = id
     · simp [e]
     simp [e]
   exact ⟨q, hq, by rw [if_pos hi, Bool.or_true]⟩
 simp
def Gc (ss gs : List Fact) (x : Exc) (w : Int) (p : Fact) : Bool := Dj x p && Ov gs x p && decide (Iy ss p.Time p.Wafer = w)
def Pr (ss gs : List Fact) (x : Exc) (w : Int) (l : List Fact) : List (Int × Bool) := l.foldl (fun L p => if Gc ss gs x w p then Gt L p.ID (Dk x p) else L) []
theorem K4 (ss gs : List Fact) (x : Exc) (w : Int) (l : List Fact) (p : Fact) : Pr ss gs x w (l ++ [p]) = if Gc ss gs x w p then Gt (Pr ss gs x w l) p.ID (Dk x p) else Pr ss gs x w l := by
 unfold Pr
 rw [List.foldl_append]
 rfl
theorem iO (ss gs : List Fact) (x : Exc) (l : List Fact) (p : Fact) : Lt ss gs x (l ++ [p]) = if Dj x p && Ov gs x p then Rt (Lt ss gs x l) (Iy ss p.Time p.Wafer) p.ID (Dk x p) else Lt ss gs x l := by
 unfold Lt
 rw [List.foldl_append]
 rfl
theorem T8 (ss gs : List Fact) (x : Exc) (w : Int) (l : List Fact) : lookW (Lt ss gs x l) w = Pr ss gs x w l := by
 refine Fc (p := fun l => lookW (Lt ss gs x l) w = Pr ss gs x w l) rfl (fun l p h => ?_) l
 rw [iO, K4]
 unfold Gc
 cases h1 : Dj x p && Ov gs x p with
 | false => simpa using h
 | true =>
   rw [if_pos rfl, bO, Bool.true_and]
   by_cases e : w = Iy ss p.Time p.Wafer
   · rw [if_pos e, ← e, h]; simp
   rw [if_neg e, h, if_neg]
   simpa using fun h' : Iy ss p.Time p.Wafer = w => e h'.symm
theorem rQ (ss gs : List Fact) (x : Exc) (w : Int) (l : List Fact) (k : Int) : k ∈ (Pr ss gs x w l).map (·.1) ↔ ∃ p ∈ l, Gc ss gs x w p = true ∧ p.ID = k := by
 refine Fc (p := fun l => k ∈ (Pr ss gs x w l).map (·.1) ↔ ∃ p ∈ l, Gc ss gs x w p = true ∧ p.ID = k) (by simp [Pr]) (fun l p h => ?_) l
 rw [K4]
 have e : (∃ q ∈ l ++ [p], Gc ss gs x w q = true ∧ q.ID = k) ↔ (∃ q ∈ l, Gc ss gs x w q = true ∧ q.ID = k) ∨ (Gc ss gs x w p = true ∧ p.ID = k) := by
   simp only [List.mem_append, List.mem_singleton]
   constructor
   · rintro ⟨f, hf | rfl, h2⟩
     · exact .inl ⟨f, hf, h2⟩
     exact .inr h2
   rintro (⟨f, hf, h2⟩ | h2)
   · exact ⟨f, .inl hf, h2⟩
   exact ⟨p, .inr rfl, h2⟩
 rw [e]
 cases h1 : Gc ss gs x w p with
 | false => rw [if_neg Bool.false_ne_true, h]; simp
 | true => rw [if_pos rfl, gW, h]; exact or_congr Iff.rfl ⟨fun e => ⟨rfl, e.symm⟩, fun e => e.2.symm⟩
theorem nM (ss gs : List Fact) (x : Exc) (w : Int) (l : List Fact) (k : Int) : (k, true) ∈ Pr ss gs x w l ↔ ∃ p ∈ l, (Gc ss gs x w p && Dk x p) = true ∧ p.ID = k := by
 refine Fc (p := fun l => (k, true) ∈ Pr ss gs x w l ↔ ∃ p ∈ l, (Gc ss gs x w p && Dk x p) = true ∧ p.ID = k) (by simp [Pr]) (fun l p h => ?_) l
 rw [K4]
 have e : (∃ q ∈ l ++ [p], (Gc ss gs x w q && Dk x q) = true ∧ q.ID = k) ↔ (∃ q ∈ l, (Gc ss gs x w q && Dk x q) = true ∧ q.ID = k) ∨ ((Gc ss gs x w p && Dk x p) = true ∧ p.ID = k) := by
   simp only [List.mem_append, List.mem_singleton]
   constructor
   · rintro ⟨f, hf | rfl, h2⟩
     · exact .inl ⟨f, hf, h2⟩
     exact .inr h2
   rintro (⟨f, hf, h2⟩ | h2)
   · exact ⟨f, .inl hf, h2⟩
   exact ⟨p, .inr rfl, h2⟩
 rw [e]
 cases h1 : Gc ss gs x w p with
 | false => rw [if_neg Bool.false_ne_true, h]; simp
 | true => rw [if_pos rfl, iN, h, Bool.true_and]; exact or_congr Iff.rfl ⟨fun e => ⟨e.2, e.1.symm⟩, fun e => ⟨e.2.symm, e.1⟩⟩
theorem nN {n : Int} (h0 : -9223372036854775808 ≤ n) (h1 : n < 9223372036854775808) : wI n = n := Dt h0 oQ
theorem vG {k : Nat} {y : I5} (h : eY y) : Hf (Vw k y) := by
 obtain ⟨ha, hb, hc, hd, he⟩ := h
 have p1 := Mr (c := y.c) (n := 200) hc cQ
 have p2 := Mr (c := y.d) (n := 20) hd cQ
 have p3 := Mr (c := y.d) (n := 9) hd cQ
 have q1 := nN (n := Bn y.c 200 + Bn y.d 20) oQ oQ
 have q2 := nN (n := Bn y.c 200 + Bn y.d 9) oQ oQ
 have q3 := nN (n := (Bn y.c 200).tdiv 4) (by rw [Int.tdiv_eq_ediv_of_nonneg p1.1]; omega) (by rw [Int.tdiv_eq_ediv_of_nonneg p1.1]; omega)
 have q4 := Int.tdiv_eq_ediv_of_nonneg (b := 4) p1.1
 unfold Vw
 split
 · unfold Hf nC; dsimp only; rw [q2]; omega
 split
 · unfold Hf Vk; dsimp only [Fx, Ta]; omega
 split
 · unfold Hf bK; dsimp only [Fx, Ta]; rw [q3, q4]; omega
 unfold Hf bJ; dsimp only; rw [q1]; omega
theorem nO {xs : List I5} {f : Fact} (h : f ∈ Lu xs) : ∃ k y, y ∈ xs ∧ k < 30 ∧ f = Vw k y := by
 unfold Lu at h
 obtain ⟨k, hk, e⟩ := List.mem_mapIdx.1 h
 rw [List.length_take] at hk
 exact ⟨k, _, List.mem_of_mem_take (List.getElem_mem (by rw [List.length_take]; exact hk)), by omega, e.symm⟩
theorem Vl (l : List Fact) (d : Int) {j : Nat} (hj : j < 11) : (Xm (Ri l d) j).length ≤ l.length :=
 (gT l d hj).length_le_of_subset fun _ hx => ((dK hj).1 hx).1.1
theorem rR {l : List Fact} (h : l.length ≤ 100) (d : Int) : (Ri l d).Processes.length ≤ 100 ∧ (Ri l d).Gaps.length ≤ 100 ∧ (Ri l d).Lots.length ≤ 100 ∧ (Ri l d).Swaps.length ≤ 100 :=
 ⟨Nat.le_trans (Vl l d (j := 0) cQ) h, Nat.le_trans (Vl l d (j := 10) cQ) h, Nat.le_trans (Vl l d (j := 3) cQ) h, Nat.le_trans (Vl l d (j := 2) cQ) h⟩
end Go.Wx
namespace Go.Proofs.YtmimclgihlhaeaaGreat
open Go.Proofs.Tryz
open Go.Wx Go.RowKit
end Go.Proofs.YtmimclgihlhaeaaGreat
end
section
namespace Go.Wx
theorem I0 {α : Type} {l : List α} {k : Nat} {x : α} (p : α → Bool) (h : l[k]? = some x) : (l.take (k + 1)).any p = ((l.take k).any p || p x) := by rw [List.take_add_one, h, List.any_append]; simp
end Go.Wx
namespace Go.Proofs.YtmimclgihlhaeaaGreat
open Go.Proofs.Tryz
open Go.Wx Go.RowKit
end Go.Proofs.YtmimclgihlhaeaaGreat
end
section
namespace Go.Wx
theorem Ig {ks : List Int} {k : Int} (h : ks.Nodup) : (Dy ks k).Nodup := by
 unfold Dy
 split
 · exact h
 rename_i e
 exact List.nodup_append.2 ⟨h, by simp, fun a ha c hc => by rw [List.mem_singleton] at hc; subst hc; exact fun e2 => e (e2 ▸ ha)⟩
theorem Vm {α : Type} (g : α → Int) : ∀ (l : List α) (ks : List Int), (ks.Nodup → (l.foldl (fun ks x => Dy ks (g x)) ks).Nodup) ∧ ∀ k, k ∈ l.foldl (fun ks x => Dy ks (g x)) ks ↔ k ∈ ks ∨ ∃ x ∈ l, g x = k
 | [], ks => ⟨fun h => h, fun k => by simp⟩
 | x :: l, ks => by
   have ih := Vm g l (Dy ks (g x))
   rw [List.foldl_cons]
   refine ⟨fun h => ih.1 (Ig h), fun k => ?_⟩
   rw [ih.2 k, Kw]
   constructor
   · rintro ((h | h) | ⟨y, hy, e⟩)
     · exact .inl h
     · exact .inr ⟨x, List.mem_cons_self, h.symm⟩
     exact .inr ⟨y, List.mem_cons_of_mem _ hy, e⟩
   rintro (h | ⟨y, hy, e⟩)
   · exact .inl (.inl h)
   rcases List.mem_cons.1 hy with rfl | hy
   · exact .inl (.inr e.symm)
   exact .inr ⟨y, hy, e⟩
theorem T9 {ks : List Int} {k : Int} : k ∈ Cc ks ↔ k ∈ ks := (List.mergeSort_perm ks _).mem_iff
def iP (b : Base) (x : Exc) (w : Int) : Vd := Px w (Pr b.Swaps b.Gaps x w b.Processes)
theorem nP {b : Base} {x : Exc} (hx : Hi x = true) : K1 b x = (Bq b.Lots b.Processes b.Swaps).map (iP b x) := by
 unfold K1 iP
 rw [if_pos hx]
 exact List.map_congr_left fun w _ => by rw [T8]
theorem iQ (ss gs : List Fact) (x : Exc) (w : Int) (l : List Fact) : ((Pr ss gs x w l).map (·.1)).Nodup := by
 refine Fc (p := fun l => ((Pr ss gs x w l).map (·.1)).Nodup) List.nodup_nil (fun l p h => ?_) l
 rw [K4]
 split
 · exact Mt h _ _
 exact h
theorem AA {V : List (Int × Bool)} {k : Int} : k ∈ (V.filter (·.2)).map (·.1) ↔ (k, true) ∈ V := by
 rw [List.mem_map]
 constructor
 · rintro ⟨⟨a, c⟩, hq, rfl⟩
   obtain ⟨h1, h2⟩ := List.mem_filter.1 hq
   have h3 : c = true := h2
   rwa [h3] at h1
 exact fun h => ⟨_, List.mem_filter.2 ⟨h, rfl⟩, rfl⟩
theorem Ym {V : List (Int × Bool)} (h : (V.map (·.1)).Nodup) : ((V.filter (·.2)).map (·.1)).Nodup := h.sublist (List.Sublist.map _ List.filter_sublist)
end Go.Wx
namespace Go.Proofs.YtmimclgihlhaeaaGreat
open Go.Proofs.Tryz
open Go.Wx Go.RowKit
end Go.Proofs.YtmimclgihlhaeaaGreat
end
section
namespace Go.Wx
theorem G9 {ks : List Int} (h : ks.Nodup) : (Cc ks).Pairwise (· < ·) := by
 have h1 : (Cc ks).Pairwise fun x y => decide (x ≤ y) = true := List.pairwise_mergeSort (fun a b c h1 h2 => by simp at h1 h2 ⊢; omega) (fun a b => by simp; omega) ks
 have h2 : (Cc ks).Pairwise (· ≠ ·) := ((List.mergeSort_perm ks _).nodup_iff).2 h
 exact (h1.and h2).imp fun {a b} h => by have := of_decide_eq_true h.1; have := h.2; omega
theorem nQ {w : World} {b e c n : Nat} {ad : Option Addr} {l : List Fact} {u : Nat} (h : OwnS w b e 19 Fact.cells (.slice ad u c) l) (hn : n ≤ l.length) : Sl w (.slice ad n c) 19 Fact.cells (l.take n) := by
 have hE := h.CU (fun _ => rfl)
 refine ⟨ad, c, by rw [List.length_take, Nat.min_eq_left hn], fun i x hx => hE i x ?_⟩
 rw [List.getElem?_take] at hx
 split at hx
 · exact hx
 cases hx
theorem rS {a b : Fact} (h : a.Time ≠ b.Time) : F7 (Cg a) (Cg b) = decide (a.Time < b.Time) := by show (decide (a.Time < b.Time) || (decide (a.Time = b.Time) && decide (a.ID < b.ID))) = _; rw [decide_eq_false h]; simp
theorem rT {a b : Fact} (h : a.Time = b.Time) : F7 (Cg a) (Cg b) = decide (a.ID < b.ID) := by show (decide (a.Time < b.Time) || (decide (a.Time = b.Time) && decide (a.ID < b.ID))) = _; rw [decide_eq_true h, decide_eq_false (show ¬ a.Time < b.Time by omega)]; simp
theorem nR {L : List Fact} {i k : Nat} {x : Fact} (hx : L[i]? = some x) (hk : k ≤ (D8 Cg (L.take i)).length) (hgt : ∀ y ∈ (D8 Cg (L.take i)).drop k, F7 (Cg x) (Cg y) = true) (hle : k = 0 ∨ ∃ y, (D8 Cg (L.take i))[k - 1]? = some y ∧ F7 (Cg x) (Cg y) = false) :
   D8 Cg (L.take (i + 1)) = ((D8 Cg (L.take i)).take k ++ [x]) ++ (D8 Cg (L.take i)).drop k := by
 have h := (StS.snoc (E8 (key := Cg) (L.take i)) hk hgt hle).eq
 rw [Ar hx, ← h]
 unfold Bo
 simp
theorem sU {α : Type} {l : List α} {k : Nat} {u : α} (hk : 0 < k) (hu : l[k - 1]? = some u) : l.drop (k - 1) = u :: l.drop k := by
 have h := (List.getElem?_eq_some_iff.1 hu)
 obtain ⟨h1, h2⟩ := h
 rw [List.drop_eq_getElem_cons h1, h2]
 congr 2
 omega
theorem iR (l : List Fact) : (D8 Cg l).length = l.length := (E8 l).same.length
theorem nS (p : Fact → Bool) (l : List Fact) : Jg p l = D8 Cg (l.filter p) := rfl
theorem iS {w : World} {b e c u : Nat} {ad : Option Addr} {l : List Fact} (h : OwnS w b e 19 Fact.cells (.slice ad u c) l) {k : Nat} (hk : k ≤ l.length) : ∃ x B o, 0 < k → l[k - 1]? = some x ∧ ad = some ⟨B, o, none⟩ ∧ AggAt w B (o + (k - 1) * 19) x.cells := by
 by_cases h0 : 0 < k
 · obtain ⟨x, hx⟩ := Ac (xs := l) (i := k - 1) oQ
   obtain ⟨B, o, h1, h2⟩ := h.CU (fun _ => rfl) (k - 1) x hx
   exact ⟨x, B, o, fun _ => ⟨hx, h1, h2⟩⟩
 exact ⟨Fx, 0, 0, fun h => absurd h h0⟩
theorem O7 {L : List Fact} {k : Nat} {x : Fact} (hk : 0 < k) (hx : L[k - 1]? = some x) (m : Int) : gP (L.drop (k - 1)) m = sN x (gP (L.drop k) m) := by rw [sU hk hx]; rfl
theorem AB {x : Fact} {k : Int} (h : k = x.Wafer) : sN x k = x.Other := if_pos h
theorem AD {x : Fact} {k : Int} (h : ¬ k = x.Wafer) (h2 : k = x.Other) : sN x k = x.Wafer := (if_neg h).trans (if_pos h2)
theorem AE {x : Fact} {k : Int} (h : ¬ k = x.Wafer) (h2 : ¬ k = x.Other) : sN x k = k := (if_neg h).trans (if_neg h2)
theorem Ua (w t : Int) (o : Option Fact) (x : Fact) : (((Cu w && decide (x.Wafer = w)) && decide (x.Time ≤ t)) && (!o.isSome || decide ((o.getD Fx).Time < x.Time))) = G7 w t o x := by
 unfold G7
 cases o <;> rfl
theorem N3 {l : List Fact} {w t : Int} {k : Nat} {x : Fact} (hx : l[k]? = some x) : Eh (l.take (k + 1)) w t = if G7 w t (Eh (l.take k) w t) x = true then some x else Eh (l.take k) w t := by rw [Ar hx, Gj]; rfl
theorem iT (l : List Fact) (w t : Int) : D6 l w t = (((Eh l w t).getD Fx).Lot, ((Eh l w t).getD Fx).Product) := by
 unfold D6
 cases Eh l w t <;> rfl
def SlC (w : World) (v : Go.Value) (xs : List Int) : Prop := ∃ ad cp, v = .slice ad xs.length cp ∧ Els w ad 1 Aq xs ∧ xs.length ≤ cp
theorem SlC.up {w w' : World} {v : Go.Value} {xs : List Int} (h : SlC w v xs) (u : Up w w') : SlC w' v xs := let ⟨ad, c, e, hE, hc⟩ := h; ⟨ad, c, e, Els.up hE u, hc⟩
theorem SlC.sl {w : World} {v : Go.Value} {xs : List Int} (h : SlC w v xs) : Sl w v 1 Aq xs := let ⟨ad, c, e, hE, _⟩ := h; ⟨ad, c, e, hE⟩
theorem SlC.nil (w : World) : SlC w (.slice none 0 0) [] := ⟨none, 0, rfl, fun i x h => by simp at h, Nat.le_refl _⟩
theorem nT (w : World) : SlC w (.slice none 0 0) (Cc []) := by rw [show Cc [] = [] by simp [Cc]]; exact SlC.nil w
theorem nU {w : World} {b e : Nat} {v : Go.Value} {xs : List Int} (h : OwnS w b e 1 Aq v xs) : SlC w v xs := by
 obtain ⟨ad, cp, rfl, hE⟩ := h.sl (fun _ => rfl)
 exact ⟨ad, cp, rfl, hE, No h⟩
def DC (n : Int) : K2 := (n, 0)
theorem eF {A B : List Int} (hA : A.Pairwise (· < ·)) (hB : B.Pairwise (· < ·)) (h : ∀ k, k ∈ A ↔ k ∈ B) : A = B := by
 have nA : A.Nodup := hA.imp fun {a b} h e => by omega
 have nB : B.Nodup := hB.imp fun {a b} h e => by omega
 refine gU (key := DC) (hA.imp fun {a b} h => ?_) (hB.imp fun {a b} h => ?_) ((List.perm_ext_iff_of_nodup nA nB).2 h) fun x _ y _ e => (Prod.mk.inj e).1
 · rw [Il]; show ¬ (b < a ∨ (b = a ∧ (0 : Int) < 0)); omega
 rw [Il]; show ¬ (b < a ∨ (b = a ∧ (0 : Int) < 0)); omega
theorem eG {ks : List Int} (h : ks.Pairwise (· < ·)) : ks.Nodup := h.imp fun {a b} h e => by omega
theorem Ub {ks : List Int} (h : ks.Pairwise (· < ·)) {n : Int} (hn : n ∈ ks) : ks = Cc (Dy ks n) := eF h (G9 (Ig (eG h))) fun k => by rw [T9, Kw]; exact ⟨.inl, fun h => h.elim id fun e => e ▸ hn⟩
theorem eH {ks : List Int} (h : ks.Pairwise (· < ·)) {n : Int} {k : Nat} (h1 : ∀ y ∈ ks.take k, y < n) (h2 : ∀ y ∈ ks.drop k, n < y) : (ks.take k ++ [n]) ++ ks.drop k = Cc (Dy ks n) := by
 refine eF ?_ (G9 (Ig (eG h))) fun j => ?_
 · rw [List.append_assoc]
   refine List.pairwise_append.2 ⟨h.sublist (List.take_sublist _ _), List.pairwise_cons.2 ⟨h2, h.sublist (List.drop_sublist _ _)⟩, fun a ha b hb => ?_⟩
   have := h1 a ha
   rcases List.mem_cons.1 hb with rfl | hb
   · exact this
   have := h2 b hb; omega
 rw [T9, Kw, List.mem_append, List.mem_append, List.mem_singleton]
 have e : j ∈ ks ↔ j ∈ ks.take k ∨ j ∈ ks.drop k := by rw [← List.mem_append, List.take_append_drop]
 rw [e]
 constructor
 · rintro ((h | h) | h)
   · exact .inl (.inl h)
   · exact .inr h
   exact .inl (.inr h)
 rintro ((h | h) | h)
 · exact .inl (.inl h)
 · exact .inr h
 exact .inl (.inr h)
theorem eI {ks : List Int} (h : ks.Pairwise (· < ·)) {n : Int} {k : Nat} (hk : k < ks.length → ∃ u, ks[k]? = some u ∧ n < u) : ∀ y ∈ ks.drop k, n < y := fun y hy => by
 obtain ⟨j, hj⟩ := List.mem_iff_getElem?.1 hy
 rw [List.getElem?_drop] at hj
 have hlt := (List.getElem?_eq_some_iff.1 hj).1
 obtain ⟨u, hu, hnu⟩ := hk oQ
 by_cases e : j = 0
 · subst e
   rw [Nat.add_zero, hu] at hj
   cases hj; exact hnu
 obtain ⟨l1, e1⟩ := List.getElem?_eq_some_iff.1 hu
 obtain ⟨l2, e2⟩ := List.getElem?_eq_some_iff.1 hj
 have := List.pairwise_iff_getElem.1 h k (k + j) l1 l2 oQ
 rw [e1, e2] at this
 omega
theorem eJ {w : World} {ad : Option Addr} {ks : List Int} (hE : Els w ad 1 Aq ks) (k : Nat) : ∃ u B o, k < ks.length → ks[k]? = some u ∧ ad = some ⟨B, o, none⟩ ∧ AggAt w B (o + k * 1) (Aq u) := by
 by_cases h0 : k < ks.length
 · obtain ⟨x, hx⟩ := Ac (xs := ks) (i := k) h0
   obtain ⟨B, o, h1, h2⟩ := hE k x hx
   exact ⟨x, B, o, fun _ => ⟨hx, h1, h2⟩⟩
 exact ⟨0, 0, 0, fun h => absurd h h0⟩
theorem Gx (X : List Int) (n : Int) : Cc (Dy (Cc X) n) = Cc (Dy X n) := by
 unfold Cc
 refine Gr ?_
 have hp : (X.mergeSort fun x y => decide (x ≤ y)).Perm X := List.mergeSort_perm X _
 unfold Dy
 by_cases h : n ∈ X
 · rw [if_pos h, if_pos (hp.mem_iff.2 h)]; exact hp
 rw [if_neg h, if_neg (fun e => h (hp.mem_iff.1 e))]; exact hp.append_right _
theorem N4 (X : List Int) {n : Int} (h : Cu n = true) : (Dy X n).filter Cu = Dy (X.filter Cu) n := by
 unfold Dy
 by_cases e : n ∈ X
 · rw [if_pos e, if_pos (List.mem_filter.2 ⟨e, h⟩)]
 rw [if_neg e, if_neg (fun h2 => e (List.mem_filter.1 h2).1), List.filter_append]
 congr 1
 exact List.filter_cons_of_pos h
theorem Ps (X : List Int) {n : Int} (h : Cu n = false) : (Dy X n).filter Cu = X.filter Cu := by
 unfold Dy
 by_cases e : n ∈ X
 · rw [if_pos e]
 rw [if_neg e, List.filter_append, List.filter_cons_of_neg (by rw [h]; exact Bool.false_ne_true), List.filter_nil, List.append_nil]
theorem Sb (l : List Fact) : (Kz l).Nodup := (Vm (fun f : Fact => f.Wafer) l []).1 List.nodup_nil
theorem bP (ss ps : List Fact) {ks : List Int} (h : ks.Nodup) : (Sw ss ks ps).Nodup := (Vm (fun f : Fact => Iy ss f.Time f.Wafer) ps ks).1 h
end Go.Wx
namespace Go.Proofs.YtmimclgihlhaeaaGreat
open Go.Proofs.Tryz
open Go.Wx Go.RowKit
theorem Lq (n : Int) (w : World) : Ret Tryz.prog 96 #[vi n] w fun r w' => r = .bool (Cu n) ∧ Up w w' := by
 have hW := Up.refl w
 refine cS (n := 9) (m := 9) func96 rfl rfl rfl (CW.S (LW.C (LW.S (CW.region (LW.M rfl (LW.pp (.geq (.t rfl) (.const _)) (LW.M rfl (LW.g rfl rfl rfl rfl rfl rfl rfl (fun hc => PEv.move (.t rfl)) (LW.g rfl rfl rfl rfl rfl rfl rfl (fun hc => PEv.leq vQ (.const _)) (LW.pp (.Ao (.t rfl) (fun hp => (by exact .cond rfl (by simp_all)))) (LW.A rfl (LW.T (CW.ret (Ae rfl rfl ⟨_, rfl, ?_⟩))))))))))))))
 exact ⟨rfl, hW⟩
theorem Yn (a b : Fact) (w : World) : Ret Tryz.prog 180 #[.agg a.cells, .agg b.cells] w fun r w' => r = .bool (F7 (Cg a) (Cg b)) ∧ Up w w' := by
 have hW := Up.refl w
 refine cS (n := 20) (m := 9) func180 rfl rfl rfl (CW.S (Ah (.C7 (.t rfl)) rfl ?_))
 rintro _ w1 ⟨B2, rfl, NB2⟩
 replace hW := hW.up NB2.up
 have hB2 := NB2.blk
 refine Ah (.C7 (.t rfl)) rfl ?_
 rintro _ w2 ⟨B3, rfl, NB3⟩
 replace hW := hW.up NB3.up
 replace hB2 := hB2.up NB3.up
 have hB3 := NB3.blk
 refine LW.C (LW.S (CW.S (LW.pp (.fA 5 underlying36 rfl sizeOf3 rfl) (LW.pp (.ld isAgg3 rfl (hB2.Ai rfl)) (LW.pp (.fA 5 underlying36 rfl sizeOf3 rfl) (LW.pp (.ld isAgg3 rfl (hB3.Ai rfl)) (LW.pp (.neq (.t rfl) (.t rfl)) (LW.T (CW.cond (.t rfl) (fun h9 => ?_) (fun h9 => ?_))))))))))
 ·have hne : a.Time ≠ b.Time := by simpa using h9
  refine CW.S (LW.pp (.fA 5 underlying36 rfl sizeOf3 rfl) (LW.pp (.ld isAgg3 rfl (hB2.Ai rfl)) (LW.pp (.fA 5 underlying36 rfl sizeOf3 rfl) (LW.pp (.ld isAgg3 rfl (hB3.Ai rfl)) (LW.pp (.lss (.t rfl) (.t rfl)) (LW.A rfl (LW.T (CW.ret (Af (Ae rfl rfl ⟨_, rfl, ?_⟩))))))))))
  exact ⟨by rw [rS hne], hW⟩
 have heq : a.Time = b.Time := by simpa using h9
 refine CW.skip (KW.then (CW.S (LW.pp (.fA 1 underlying36 rfl sizeOf3 rfl) (LW.pp (.ld isAgg3 rfl (hB2.Ai rfl)) (LW.pp (.fA 1 underlying36 rfl sizeOf3 rfl) (LW.pp (.ld isAgg3 rfl (hB3.Ai rfl)) (LW.pp (.lss (.t rfl) (.t rfl)) (LW.A rfl (LW.T (CW.ret (Ae rfl rfl ⟨_, rfl, ?_⟩)))))))))))
 exact ⟨by rw [rT heq], hW⟩
set_option maxHeartbeats 1000000 in
theorem Vn (ad : Option Addr) (cp : Nat) (l : List Fact) (w : World) (hE0 : Els w ad 19 Fact.cells l) (hl : l.length ≤ 1000000000) : Ret Tryz.prog 156 #[.slice ad l.length cp] w fun r w' => OwnS w' w.heap.size 36 19 Fact.cells r (D8 Cg l) ∧ Up w w' := by
 obtain ⟨w0, rfl⟩ : ∃ w0, w0 = w := ⟨_, rfl⟩
 have hS := Sep.start no w0
 refine cS (n := 49) (m := 9) func156 rfl rfl rfl (CW.S (LW.C (LW.S (CW.region (LW.C (LW.S (CW.seq ?_)))))))
 replace hS := hS.J9 (OwnS.nil _ 0 36 19 Fact.cells)
 refine CW.region (LW.C (LW.T (CW.block (Am (σ := Nat × Go.Value) (fun s w => (s.1 ≤ l.length) ∧ (Wx.Sep no w0 w [Al 36 19 Fact.cells s.2 (D8 Cg (l.take s.1))])) (fun s => [(4, .eq (vi (s.1 : Int))), (3, .eq (s.2))]) ([(0, .eq _), (2, .eq _)]) (fun s => l.length - s.1) (0, .slice none 0 0) ?_ ⟨rfl, rfl, rfl, rfl, trivial⟩ ?_))))
 ·exact ⟨Nat.zero_le _, hS⟩
 rintro ⟨i, v⟩ w1 ⟨hi, hS⟩
 dsimp only at hi hS
 change CW _ _ _ _ _ _ _ ([(4, .eq (vi (i : Int))), (3, .eq (v))] ++ _) _
 refine CW.seq (CW.S (LW.M rfl (LW.M rfl (LW.pp (.Ci underlying23 (.t rfl)) (LW.pp (.lss (.t rfl) (.t rfl)) (LW.T (CW.cond (.t rfl) (fun h10 => ?_) (fun h10 => ?_))))))))
 ·replace h10 := dQ h10
  refine CW.skip (KW.then (CW.seq (CW.block (CW.seq ?_))))
  obtain ⟨x, hx⟩ := Ac (xs := l) (i := i) oQ
  obtain ⟨adv, cpv, rfl, _⟩ := (hS.own 0 rfl).sl (fun _ => rfl)
  have hSl := iR (l.take i)
  have hil : (l.take i).length = i ∧ i < l.length := by rw [List.length_take]; omega
  refine CW.region (LW.M rfl (LW.pp (.Ci underlying23 (.t rfl)) (LW.A rfl (LW.S (CW.block (Am (σ := Nat) (fun s w => (s ≤ (D8 Cg (l.take i)).length) ∧ (∀ y ∈ (D8 Cg (l.take i)).drop s, F7 (Cg x) (Cg y) = true) ∧ (Wx.Sep no w0 w [Al 36 19 Fact.cells (.slice adv (D8 Cg (l.take i)).length cpv) ((D8 Cg (l.take i)))])) (fun s => [(5, .eq (vi (s : Int)))]) ([(0, .eq _), (2, .eq _), (3, .eq _), (4, .eq _)]) (fun s => s) (D8 Cg (l.take i)).length ?_ ⟨rfl, rfl, rfl, rfl, rfl, trivial⟩ ?_))))))
  ·exact ⟨Nat.le_refl _, (fun y hy => by rw [List.drop_length] at hy; cases hy), hS⟩
  rintro k w2 ⟨hk, hgt, hS⟩
  refine CW.seq (CW.seq ?_)
  obtain ⟨Bx, ox, ax, hcx⟩ := (Els.up hE0 hS.Ce) i x hx
  obtain ⟨u, Bu, ou, hau⟩ := iS (hS.own 0 rfl) hk
  refine Ch kQ kQ rfl rfl (HW.pp (.move (.t rfl)) (HW.pp (.gtr (.t rfl) (.const _)) (HW.pp (.move (.t rfl)) (HW.g rfl rfl rfl rfl rfl rfl (fun hc => PEv.move (.t rfl)) (HW.g rfl rfl rfl rfl rfl rfl (fun hc => PEv.move (.t rfl)) (HW.g rfl rfl rfl rfl rfl rfl (fun hc => PEv.Aj underlying23 sizeOf36 vQ vQ oQ ax) (HW.g rfl rfl rfl rfl rfl rfl (fun hc => PEv.Ee isAgg36 sizeOf36 rfl vQ (hcx)) (HW.g rfl rfl rfl rfl rfl rfl (fun hc => PEv.move (.t rfl)) (HW.g rfl rfl rfl rfl rfl rfl (fun hc => PEv.move (.t rfl)) (HW.g rfl rfl rfl rfl rfl rfl (fun hc => PEv.val (v' := vi ((k - 1 : Nat) : Int)) (PEv.sub vQ (.const _) oQ oQ) (by have h0 := (show 0 < k by simp at hc; omega); congr 1; omega)) (HW.g rfl rfl rfl rfl rfl rfl (fun hc => PEv.Aj underlying23 sizeOf36 vQ vQ (by have h0 := (show 0 < k by simp at hc; omega); omega) (hau (show 0 < k by simp at hc; omega)).2.1) (HW.g rfl rfl rfl rfl rfl rfl (fun hc => PEv.Ee isAgg36 sizeOf36 rfl vQ ((hau (show 0 < k by simp at hc; omega)).2.2)) (HW.gc rfl rfl rfl rfl rfl rfl (fun hc a w _ ha => Aw (.cons vQ (.cons vQ .nil)) (yM) a ha) (fun hc w hu => Yn x u w) (HW.pp (.Ao (.t rfl) (fun hp => (by exact .cond rfl (by (rw [hp]; rfl))))) (HW.nil ?_)))))))))))))))
  intro w3 uw3
  replace hS := hS.up uw3
  refine KW.then (CW.cond (.t rfl) (fun h28 => ?_) (fun h28 => ?_))
  ·replace h28 := dQ h28
   have h28k : 0 < k ∧ F7 (Cg x) (Cg u) = true := by simp only [Bool.and_eq_true, decide_eq_true_eq] at h28; exact ⟨by omega, h28.2⟩
   have hu := (hau h28k.1).1
   refine CW.skip (KW.then (CW.block (CW.region (LW.M rfl (LW.pp (.sub (.t rfl) (.const _) oQ oQ) (LW.A rfl (LW.nil (KW.inBlock (KW.round ?_)))))))))
   exact ⟨k - 1, ⟨by omega, (fun y hy => by rw [sU h28k.1 hu] at hy; exact (List.mem_cons.1 hy).elim (fun e => e ▸ h28k.2) (hgt y)), hS⟩, ⟨by have h0 := h28k.1; rw [show ((k - 1 : Nat) : Int) = (k : Int) - 1 by omega]; rfl, rfl, rfl, rfl, rfl, trivial⟩, by omega⟩
  replace h28 := dQ h28
  have hle : k = 0 ∨ ∃ y, (D8 Cg (l.take i))[k - 1]? = some y ∧ F7 (Cg x) (Cg y) = false := by
   by_cases h0 : 0 < k
   · refine .inr ⟨u, (hau h0).1, ?_⟩
     rw [decide_eq_true (show (0 : Int) < (k : Int) by omega), Bool.true_and] at h28
     exact h28
   exact .inl oQ
  refine CW.exit (Aa (Aa (Ad (KW.then (CW.S (LW.C (LW.S ?_)))))))
  replace hS := hS.J9 (OwnS.nil _ 0 36 19 Fact.cells)
  refine CW.region (LW.M rfl (LW.M rfl (LW.M rfl (LW.pp (.K9 underlying23 sizeOf36 (.t rfl) (.t rfl) (by have := No (hS.own 0 rfl); omega)) (Ah (.A8 (enc := Fact.cells) (bytes := 160) (i := Tryz.t36) underlying23 kQ rfl rfl rfl rfl cQ (fun _ => rfl) Fact.one (.t rfl) (.t rfl) (hS.own 1 rfl) (nQ (hS.own 0 rfl) oQ) (by have := And.intro hSl hil; simp [maxLen]; omega) (by have := And.intro hSl hil; simp; omega)) rfl ?_)))))
  intro v35 w4 Gw4
  replace hS := hS.Dh 1 rfl Gw4
  refine LW.A rfl (LW.S ?_)
  obtain ⟨Bx, ox, ax, hcx⟩ := (Els.up hE0 hS.Ce) i x hx
  refine CW.region (LW.M rfl (LW.M rfl (LW.M rfl (LW.pp (.Aj underlying23 sizeOf36 (.t rfl) (.t rfl) oQ ax) (LW.pp (.la isAgg36 sizeOf36 rfl (hcx)) (Ah (.buildSlice (xs := [x]) (enc := Fact.cells) (mk := fun f : Fact => .agg f.cells) underlying23 sizeOf36 zeroValue36 rfl cQ (fun _ => rfl) (fun _ => rfl) (.cons (.t rfl) .nil) rfl) rfl ?_))))))
  rintro _ w5 ⟨B41, cB41, rfl, NB41, yB41, xB41⟩
  replace hS := hS.up NB41.up
  have hE41 := xB41
  refine Ah (.A8 (enc := Fact.cells) (bytes := 160) (i := Tryz.t36) underlying23 kQ rfl rfl rfl rfl cQ (fun _ => rfl) Fact.one (.t rfl) (.t rfl) (hS.own 1 rfl) (Ak hE41) (by have := And.intro hSl hil; simp [maxLen]; omega) (by have := And.intro hSl hil; simp; omega)) rfl ?_
  intro v42 w6 Gw6
  replace hS := hS.Dh 1 rfl Gw6
  refine LW.A rfl (LW.T (CW.region (LW.M rfl (LW.M rfl (LW.M rfl (LW.pp (.sliceFrom underlying23 sizeOf36 (.t rfl) (.t rfl) oQ) (Ah (.A8 (enc := Fact.cells) (bytes := 160) (i := Tryz.t36) underlying23 kQ rfl rfl rfl rfl cQ (fun _ => rfl) Fact.one (.t rfl) (.t rfl) (hS.own 1 rfl) (Els.drop ((hS.own 0 rfl).CU (fun _ => rfl)) (No (hS.own 0 rfl))) (by have := And.intro hSl hil; simp [maxLen]; omega) (by have := And.intro hSl hil; simp; omega)) rfl ?_)))))))
  intro v47 w7 Gw7
  replace hS := hS.Dh 1 rfl Gw7
  refine LW.A rfl (LW.nil (KW.inBlock (KW.then (CW.region (LW.M rfl (LW.pp (.inc (.t rfl) oQ) (LW.A rfl (LW.nil (KW.round ?_)))))))))
  exact ⟨(i + 1, v47), ⟨by show i + 1 ≤ _; omega, by rw [nR hx hk hgt hle]; exact hS.sub (List.sublist_cons_self _ _)⟩, ⟨rfl, rfl, rfl, rfl, trivial⟩, by show l.length - (i + 1) < l.length - i; omega⟩
 replace h10 := dQ h10
 refine CW.exit (Aa (Aa (Ad (KW.then (CW.S (LW.M rfl (LW.A rfl (LW.T (CW.ret (Ae rfl rfl ⟨_, rfl, ?_⟩))))))))))
 have hil : i = l.length := by omega
 rw [hil, List.take_length] at hS
 exact ⟨J0 hS, hS.Ce⟩
theorem bQ (bc : Array Go.Value) (b : Base) (time : Int) (w : World) (hC : BaseC w bc b) (hl : b.Swaps.length ≤ 1000000000) : Ret Tryz.prog 98 #[.agg bc, vi time] w fun r w' => OwnS w' w.heap.size 36 19 Fact.cells r (Jg (He time) b.Swaps) ∧ Up w w' := by
 obtain ⟨w0, rfl⟩ : ∃ w0, w0 = w := ⟨_, rfl⟩
 have hS := Sep.start no w0
 refine cS (n := 40) (m := 9) func98 rfl rfl rfl (CW.S (Ah (.C7 (.t rfl)) rfl ?_))
 rintro _ w1 ⟨B2, rfl, NB2⟩
 replace hS := hS.Cj NB2
 refine LW.C (LW.S ?_)
 obtain ⟨v2, h2, ad, cp, rfl, hE0⟩ := hC.DF
 refine CW.region (LW.C (LW.S (CW.seq ?_)))
 replace hS := hS.J9 (OwnS.nil _ 0 36 19 Fact.cells)
 refine CW.region (LW.C (LW.T (CW.block (Am (σ := Nat × Go.Value) (fun s w => (s.1 ≤ b.Swaps.length) ∧ (Wx.Sep no w0 w [Ck B2 bc 38, Al 36 19 Fact.cells s.2 ((b.Swaps.take s.1).filter (He time))])) (fun s => [(6, .eq (vi (s.1 : Int))), (5, .eq (s.2))]) ([(1, .eq _), (2, .eq _), (4, .eq _)]) (fun s => b.Swaps.length - s.1) (0, .slice none 0 0) ?_ ⟨rfl, rfl, rfl, rfl, rfl, trivial⟩ ?_))))
 ·exact ⟨Nat.zero_le _, hS⟩
 rintro ⟨k, v⟩ w2 ⟨hk, hS⟩
 change CW _ _ _ _ _ _ _ ([(6, .eq (vi (k : Int))), (5, .eq (v))] ++ _) _
 refine CW.seq (CW.S (LW.M rfl (LW.pp (.fA 2 underlying38 rfl sizeOf23 rfl) (LW.pp (.ld isAgg23 rfl ((hS.blk 0 rfl).cell h2)) (LW.pp (.Ci underlying23 (.t rfl)) (LW.pp (.lss (.t rfl) (.t rfl)) (LW.T (CW.cond (.t rfl) (fun h12 => ?_) (fun h12 => ?_)))))))))
 ·replace h12 := dQ h12
  refine CW.skip (KW.then (CW.seq (CW.block (CW.seq ?_))))
  have hE := Els.up hE0 hS.Ce
  refine CW.region (LW.pp (.fA 2 underlying38 rfl sizeOf23 rfl) (LW.pp (.ld isAgg23 rfl ((hS.blk 0 rfl).cell h2)) (LW.M rfl ?_)))
  obtain ⟨x, hx⟩ := Ac (xs := b.Swaps) (i := k) oQ
  obtain ⟨Bx, ox, ax, hcx⟩ := hE _ x hx
  refine LW.pp (.Aj underlying23 sizeOf36 (.t rfl) (.t rfl) oQ ax) (LW.pp (.la isAgg36 sizeOf36 rfl (hcx)) (Ah (.Az zeroValue36) rfl ?_))
  rintro _ w3 ⟨B7, rfl, MB7⟩
  refine LW.E (.Ay sizeOf36 rfl (.t rfl) (.t rfl) (Fact.one _) MB7.blk rfl) ?_
  intro w4 LB7
  have NB7 := MB7.set LB7
  replace hcx := hcx.up NB7.up
  replace hS := hS.Cj NB7
  refine LW.S (CW.region (LW.pp (.fA 7 underlying36 rfl sizeOf3 rfl) (LW.pp (.ld isAgg3 rfl ((hS.blk 2 rfl).Ai rfl)) (LW.K (eC (.o rfl) (fC)) rfl (Lq _ _) ?_))))
  rintro _ w5 ⟨rfl, uw5⟩
  replace hS := hS.up uw5
  refine LW.M rfl (LW.g rfl rfl rfl rfl rfl rfl rfl (fun hc => PEv.fA 8 underlying36 rfl sizeOf3 rfl) (LW.g rfl rfl rfl rfl rfl rfl rfl (fun hc => PEv.load isAgg3 vQ ((hS.blk 2 rfl).Ai rfl)) (LW.gc rfl rfl rfl rfl rfl rfl rfl rfl (fun hc => Aw (.cons vQ .nil) (fC)) (fun hc => Lq _ _) ?_)))
  intro w6 uw6
  replace hS := hS.up uw6
  refine LW.pp (.Ao (.t rfl) (fun hp => (by exact .cond rfl (by (rw [hp]; rfl))))) (LW.M rfl (LW.g rfl rfl rfl rfl rfl rfl rfl (fun hc => PEv.fA 5 underlying36 rfl sizeOf3 rfl) (LW.g rfl rfl rfl rfl rfl rfl rfl (fun hc => PEv.load isAgg3 vQ ((hS.blk 2 rfl).Ai rfl)) (LW.g rfl rfl rfl rfl rfl rfl rfl (fun hc => PEv.move (.t rfl)) (LW.g rfl rfl rfl rfl rfl rfl rfl (fun hc => PEv.leq vQ vQ) (LW.pp (.Ao (.t rfl) (fun hp => (by exact .cond rfl (by (rw [hp]; rfl))))) (LW.T (CW.cond (.t rfl) (fun h33 => ?_) (fun h33 => ?_)))))))))
  ·replace h33 := dQ h33
   have hfl := Rj (He time) b.Swaps k
   refine CW.region (LW.M rfl (LW.pp (.la isAgg36 sizeOf36 rfl ((hS.blk 2 rfl).agg)) (Ah (.buildSlice (xs := [x]) (enc := Fact.cells) (mk := fun f : Fact => .agg f.cells) underlying23 sizeOf36 zeroValue36 rfl cQ (fun _ => rfl) (fun _ => rfl) (.cons (.t rfl) .nil) rfl) rfl ?_)))
   rintro _ w7 ⟨B36, cB36, rfl, NB36, yB36, xB36⟩
   replace hS := hS.up NB36.up
   have hE36 := xB36
   refine Ah (.A8 (enc := Fact.cells) (bytes := 160) (i := Tryz.t36) underlying23 kQ rfl rfl rfl rfl cQ (fun _ => rfl) Fact.one (.t rfl) (.t rfl) (hS.own 1 rfl) (Ak hE36) (by have := hfl; simp [maxLen]; omega) (by have := hfl; simp; omega)) rfl ?_
   intro v37 w8 Gw8
   replace hS := hS.Dh 1 rfl Gw8
   refine LW.A rfl (LW.nil (KW.inBlock (KW.then (CW.region (LW.M rfl (LW.pp (.inc (.t rfl) oQ) (LW.A rfl (LW.nil (KW.round ?_)))))))))
   exact ⟨(k + 1, v37), ⟨by show k + 1 ≤ _; omega, by (rw [Z9 hx (show He time x = true from h33)]; exact hS.take 2)⟩, ⟨rfl, rfl, rfl, rfl, rfl, trivial⟩, by show b.Swaps.length - (k + 1) < b.Swaps.length - k; omega⟩
  replace h33 := dQ h33
  refine CW.skip (KW.inBlock (KW.then (CW.region (LW.M rfl (LW.pp (.inc (.t rfl) oQ) (LW.A rfl (LW.nil (KW.round ?_))))))))
  exact ⟨(k + 1, v), ⟨by show k + 1 ≤ _; omega, by (rw [lF hx (show He time x = false from h33)]; exact hS.take 2)⟩, ⟨rfl, rfl, rfl, rfl, rfl, trivial⟩, by show b.Swaps.length - (k + 1) < b.Swaps.length - k; omega⟩
 replace h12 := dQ h12
 refine CW.exit (Aa (Aa (Ad (KW.then (CW.seq ?_)))))
 have hkl : k = b.Swaps.length := by omega
 rw [hkl, List.take_length] at hS
 have hzz := hS.Ce.size
 obtain ⟨adv, cpv, rfl, _⟩ := (hS.own 1 rfl).sl (fun _ => rfl)
 refine CW.region (LW.M rfl (LW.K (eC (.o rfl) (xX)) rfl (Vn adv cpv (b.Swaps.filter (He time)) _ ((hS.own 1 rfl).els (fun _ => rfl)) (Nat.le_trans (List.length_filter_le _ _) hl)) ?_))
 rintro v39 w9 ⟨hO39, uw9⟩
 have zw9 := uw9.size
 replace hS := hS.up uw9
 rw [← nS] at hO39
 replace hO39 := hO39.mono (show w0.heap.size ≤ _ by omega)
 refine LW.A rfl (LW.T (CW.ret (Ae rfl rfl ⟨_, rfl, ?_⟩)))
 exact ⟨hO39, hS.Ce⟩
theorem Yo (bc : Array Go.Value) (b : Base) (mark time : Int) (w : World) (hC : BaseC w bc b) (hl : b.Swaps.length ≤ 1000000000) : Ret Tryz.prog 42 #[.agg bc, vi mark, vi time] w fun r w' => r = vi (Iy b.Swaps time mark) ∧ Up w w' := by
 have hW := Up.refl w
 obtain ⟨w0, rfl⟩ : ∃ w0, w0 = w := ⟨_, rfl⟩
 refine cS (n := 47) (m := 9) func42 rfl rfl rfl (CW.S (Ah (.C7 (.t rfl)) rfl ?_))
 rintro _ w1 ⟨B3, rfl, NB3⟩
 have eB3 := NB3.at_
 replace hC := hC.up NB3.up
 replace hW := hW.up NB3.up
 have hB3 := NB3.blk
 refine LW.C (LW.S (CW.S (LW.M rfl (LW.K (eC (.o rfl) (fC)) rfl (Lq _ _) ?_))))
 rintro _ w2 ⟨rfl, uw2⟩
 replace hC := hC.up uw2
 replace hW := hW.up uw2
 replace hB3 := hB3.up uw2
 refine LW.pp (.not (.t rfl)) (LW.T (CW.cond (.t rfl) (fun h11 => ?_) (fun h11 => ?_)))
 ·have hi : Cu mark = false := by simpa using h11
  refine CW.S (LW.C (LW.T (CW.ret (Af (Ae rfl rfl ⟨_, rfl, ?_⟩)))))
  exact ⟨by rw [dI, if_neg (by rw [hi]; exact Bool.false_ne_true)], hW⟩
 have hi : Cu mark = true := by simpa using h11
 refine CW.skip (KW.then (CW.S (LW.pp (.Ee isAgg38 sizeOf38 (hC.size) (.t rfl) (hB3.agg)) (LW.M rfl (LW.K (eC (.u rfl rfl) (CP)) rfl (bQ bc b time _ hC hl) ?_)))))
 rintro v14 w3 ⟨hO14, uw3⟩
 replace hC := hC.up uw3
 replace hW := hW.up uw3
 replace hB3 := hB3.up uw3
 obtain ⟨adL, cpL, rfl, hEL⟩ := hO14.sl (fun _ => rfl)
 replace hEL : Els w3 adL 19 Fact.cells (Jg (He time) b.Swaps) := hEL
 clear hO14
 have hoL := Xs (He time) b.Swaps
 refine LW.A rfl (LW.S (CW.S (LW.M rfl (LW.pp (.Ci underlying23 (.t rfl)) (LW.pp (.sub (.t rfl) (.const _) oQ oQ) (LW.A rfl (LW.T (CW.block (Am (σ := Nat × Int) (fun s w => (s.1 ≤ (Jg (He time) b.Swaps).length) ∧ (s.2 = gP ((Jg (He time) b.Swaps).drop s.1) mark) ∧ (Up w3 w)) (fun s => [(8, .eq (vi ((s.1 : Int) - 1))), (1, .eq (vi s.2))]) ([(6, .eq _), (7, .eq _)]) (fun s => s.1) ((Jg (He time) b.Swaps).length, mark) ?_ ⟨rfl, rfl, rfl, rfl, trivial⟩ ?_)))))))))
 ·exact ⟨Nat.le_refl _, by rw [List.drop_length]; rfl, Up.refl _⟩
 rintro ⟨k, m⟩ w4 ⟨hk, hm, hL1⟩
 dsimp only at hk hm
 change CW _ _ _ _ _ _ _ ([(8, .eq (vi ((k : Int) - 1))), (1, .eq (vi m))] ++ _) _
 replace hC := hC.up hL1
 replace hW := hW.up hL1
 replace hB3 := hB3.up hL1
 replace hEL := hEL.up hL1
 refine CW.seq (CW.S (LW.M rfl (LW.pp (.geq (.t rfl) (.const _)) (LW.T (CW.cond (.t rfl) (fun h19 => ?_) (fun h19 => ?_))))))
 ·replace h19 := dQ h19
  refine CW.skip (KW.then (CW.seq (CW.block (CW.seq ?_))))
  have h0 : 0 < k := by omega
  obtain ⟨x, hx⟩ := Ac (xs := (Jg (He time) b.Swaps)) (i := k - 1) oQ
  obtain ⟨Bx, ox, ax, hcx⟩ := hEL (k - 1) x hx
  rw [show ((k : Int) - 1) = ((k - 1 : Nat) : Int) by omega]
  refine CW.region (LW.M rfl (LW.M rfl (LW.M rfl (LW.pp (.Aj underlying23 sizeOf36 (.t rfl) (.t rfl) oQ ax) (LW.pp (.fA 7 underlying36 rfl sizeOf3 rfl) (LW.pp (.ld isAgg3 rfl (hcx.nth (j := 7) rfl)) (LW.pp (.eql (.t rfl) (.t rfl)) (LW.T (CW.cond (.t rfl) (fun h28 => ?_) (fun h28 => ?_))))))))))
  ·replace h28 := dQ h28
   refine CW.region (LW.M rfl (LW.M rfl (LW.pp (.Aj underlying23 sizeOf36 (.t rfl) (.t rfl) oQ ax) (LW.pp (.fA 8 underlying36 rfl sizeOf3 rfl) (LW.pp (.ld isAgg3 rfl (hcx.nth (j := 8) rfl)) (LW.A rfl (LW.nil (KW.inBlock (KW.then (CW.region (LW.M rfl (LW.pp (.sub (.t rfl) (.const _) oQ oQ) (LW.A rfl (LW.nil (KW.round ?_)))))))))))))))
   exact ⟨(k - 1, x.Other), ⟨by show k - 1 ≤ _; omega, by rw [O7 h0 hx, ← hm, AB h28], hL1⟩, ⟨rfl, rfl, rfl, rfl, trivial⟩, by show k - 1 < k; omega⟩
  replace h28 := dQ h28
  refine CW.S (LW.M rfl (LW.M rfl (LW.M rfl (LW.pp (.Aj underlying23 sizeOf36 (.t rfl) (.t rfl) oQ ax) (LW.pp (.fA 8 underlying36 rfl sizeOf3 rfl) (LW.pp (.ld isAgg3 rfl (hcx.nth (j := 8) rfl)) (LW.pp (.eql (.t rfl) (.t rfl)) (LW.T (CW.cond (.t rfl) (fun h40 => ?_) (fun h40 => ?_))))))))))
  ·replace h40 := dQ h40
   refine CW.region (LW.M rfl (LW.M rfl (LW.pp (.Aj underlying23 sizeOf36 (.t rfl) (.t rfl) oQ ax) (LW.pp (.fA 7 underlying36 rfl sizeOf3 rfl) (LW.pp (.ld isAgg3 rfl (hcx.nth (j := 7) rfl)) (LW.A rfl (LW.nil (KW.inBlock (KW.then (CW.region (LW.M rfl (LW.pp (.sub (.t rfl) (.const _) oQ oQ) (LW.A rfl (LW.nil (KW.round ?_)))))))))))))))
   exact ⟨(k - 1, x.Wafer), ⟨by show k - 1 ≤ _; omega, by rw [O7 h0 hx, ← hm, AD h28 h40], hL1⟩, ⟨rfl, rfl, rfl, rfl, trivial⟩, by show k - 1 < k; omega⟩
  replace h40 := dQ h40
  refine CW.skip (KW.inBlock (KW.then (CW.region (LW.M rfl (LW.pp (.sub (.t rfl) (.const _) oQ oQ) (LW.A rfl (LW.nil (KW.round ?_))))))))
  exact ⟨(k - 1, m), ⟨by show k - 1 ≤ _; omega, by rw [O7 h0 hx, ← hm, AE h28 h40], hL1⟩, ⟨rfl, rfl, rfl, rfl, trivial⟩, by show k - 1 < k; omega⟩
 replace h19 := dQ h19
 refine CW.exit (Aa (Aa (Ad (KW.then (CW.S (LW.M rfl (LW.A rfl (LW.T (CW.ret (Ae rfl rfl ⟨_, rfl, ?_⟩))))))))))
 exact ⟨by rw [dI, if_pos hi, hm, show k = 0 by omega]; rfl, hW⟩
theorem nV (bc : Array Go.Value) (b : Base) (wafer time : Int) (w : World) (hC : BaseC w bc b) (hl : b.Lots.length ≤ 1000000000) : Ret Tryz.prog 112 #[.agg bc, vi wafer, vi time] w fun r w' => r = .tuple #[vi (D6 b.Lots wafer time).1, vi (D6 b.Lots wafer time).2] ∧ Up w w' := by
 obtain ⟨w0, rfl⟩ : ∃ w0, w0 = w := ⟨_, rfl⟩
 have hS := Sep.start no w0
 refine cS (n := 55) (m := 9) func112 rfl rfl rfl (CW.S (Ah (.C7 (.t rfl)) rfl ?_))
 rintro _ w1 ⟨B3, rfl, NB3⟩
 replace hS := hS.Cj NB3
 refine LW.C (LW.C (LW.S (CW.region (LW.pp (.build (cs := Fx.cells) underlying36 zeroValue36 C3 .nil rfl) (Ah (.Az zeroValue36) rfl ?_)))))
 rintro _ w2 ⟨B8, rfl, MB8⟩
 refine LW.E (.Ay sizeOf36 rfl (.t rfl) (.t rfl) (Fact.one _) MB8.blk rfl) ?_
 intro w3 LB8
 have NB8 := MB8.set LB8
 replace hS := hS.Cj NB8
 refine LW.S (CW.region (LW.C (LW.S (CW.S (LW.C (LW.T (CW.block (Am (σ := Nat × Option Fact) (fun s w => (s.1 ≤ b.Lots.length) ∧ (s.2 = Eh (b.Lots.take s.1) wafer time) ∧ (Wx.Sep no w0 w [Ck B3 bc 38, Ck B8 (s.2.getD Fx).cells 36])) (fun s => [(10, .eq (vi (s.1 : Int))), (9, .eq (.bool s.2.isSome))]) ([(1, .eq _), (2, .eq _), (3, .eq _), (6, .eq _), (7, .eq _), (8, .eq _)]) (fun s => b.Lots.length - s.1) (0, none) ?_ ⟨rfl, rfl, rfl, rfl, rfl, rfl, rfl, rfl, trivial⟩ ?_))))))))
 ·exact ⟨Nat.zero_le _, rfl, hS⟩
 rintro ⟨k, ob⟩ w4 ⟨hk, ho, hS⟩
 change CW _ _ _ _ _ _ _ ([(10, .eq (vi (k : Int))), (9, .eq (.bool ob.isSome))] ++ _) _
 refine CW.seq (CW.seq ?_)
 obtain ⟨v3, h3, ad, cp, rfl, hE0⟩ := hC.vU
 refine CW.region (LW.M rfl (LW.pp (.fA 3 underlying38 rfl sizeOf23 rfl) (LW.pp (.ld isAgg23 rfl ((hS.blk 0 rfl).cell h3)) (LW.pp (.Ci underlying23 (.t rfl)) (LW.pp (.lss (.t rfl) (.t rfl)) (LW.T (CW.cond (.t rfl) (fun h17 => ?_) (fun h17 => ?_))))))))
 ·replace h17 := dQ h17
  refine CW.skip (KW.then (CW.seq (CW.block (CW.seq ?_))))
  have hE := Els.up hE0 hS.Ce
  refine CW.region (LW.pp (.fA 3 underlying38 rfl sizeOf23 rfl) (LW.pp (.ld isAgg23 rfl ((hS.blk 0 rfl).cell h3)) (LW.M rfl ?_)))
  obtain ⟨x, hx⟩ := Ac (xs := b.Lots) (i := k) oQ
  obtain ⟨Bx, ox, ax, hcx⟩ := hE _ x hx
  refine LW.pp (.Aj underlying23 sizeOf36 (.t rfl) (.t rfl) oQ ax) (LW.pp (.la isAgg36 sizeOf36 rfl (hcx)) (Ah (.Az zeroValue36) rfl ?_))
  rintro _ w5 ⟨B11, rfl, MB11⟩
  refine LW.E (.Ay sizeOf36 rfl (.t rfl) (.t rfl) (Fact.one _) MB11.blk rfl) ?_
  intro w6 LB11
  have NB11 := MB11.set LB11
  replace hcx := hcx.up NB11.up
  replace hS := hS.Cj NB11
  refine LW.S (CW.region (LW.M rfl (LW.K (eC (.o rfl) (fC)) rfl (Lq _ _) ?_)))
  rintro _ w7 ⟨rfl, uw7⟩
  replace hS := hS.up uw7
  refine LW.M rfl (LW.g rfl rfl rfl rfl rfl rfl rfl (fun hc => PEv.fA 7 underlying36 rfl sizeOf3 rfl) (LW.g rfl rfl rfl rfl rfl rfl rfl (fun hc => PEv.load isAgg3 vQ ((hS.blk 2 rfl).Ai rfl)) (LW.g rfl rfl rfl rfl rfl rfl rfl (fun hc => PEv.move (.t rfl)) (LW.g rfl rfl rfl rfl rfl rfl rfl (fun hc => PEv.eql vQ vQ) (LW.pp (.Ao (.t rfl) (fun hp => (by exact .cond rfl (by (rw [hp]; rfl))))) (LW.M rfl (LW.g rfl rfl rfl rfl rfl rfl rfl (fun hc => PEv.fA 5 underlying36 rfl sizeOf3 rfl) (LW.g rfl rfl rfl rfl rfl rfl rfl (fun hc => PEv.load isAgg3 vQ ((hS.blk 2 rfl).Ai rfl)) (LW.g rfl rfl rfl rfl rfl rfl rfl (fun hc => PEv.move (.t rfl)) (LW.g rfl rfl rfl rfl rfl rfl rfl (fun hc => PEv.leq vQ vQ) (LW.pp (.Ao (.t rfl) (fun hp => (by exact .cond rfl (by (rw [hp]; rfl))))) (LW.M rfl (LW.g rfl rfl rfl rfl rfl rfl rfl (fun hc => PEv.move (.t rfl)) (LW.g rfl rfl rfl rfl rfl rfl rfl (fun hc => PEv.not vQ) (LW.g rfl rfl rfl rfl rfl rfl rfl (fun hc => PEv.move vQ) (LW.gg rfl rfl rfl rfl rfl rfl rfl (fun hc => PEv.fA 5 underlying36 rfl sizeOf3 rfl) (LW.gg rfl rfl rfl rfl rfl rfl rfl (fun hc => PEv.load isAgg3 vQ ((hS.blk 2 rfl).Ai rfl)) (LW.gg rfl rfl rfl rfl rfl rfl rfl (fun hc => PEv.fA 5 underlying36 rfl sizeOf3 rfl) (LW.gg rfl rfl rfl rfl rfl rfl rfl (fun hc => PEv.load isAgg3 vQ ((hS.blk 1 rfl).Ai rfl)) (LW.gg rfl rfl rfl rfl rfl rfl rfl (fun hc => PEv.gtr vQ vQ) (LW.g rfl rfl rfl rfl rfl rfl rfl (fun hc => PEv.A7 vQ (fun hp => (by exact .cond rfl (by (rw [hc, hp]; rfl))))) (LW.pp (.Ao (.t rfl) (fun hp => (by exact .cond rfl (by (rw [hp]; rfl))))) (LW.T (CW.cond (.t rfl) (fun h49 => ?_) (fun h49 => ?_)))))))))))))))))))))))))
  ·replace h49 := dQ h49
   rw [Ua] at h49
   refine CW.S (LW.pp (.la isAgg36 sizeOf36 rfl ((hS.blk 2 rfl).agg)) (LW.E (.Ay sizeOf36 rfl (.t rfl) (.t rfl) (Fact.one _) (hS.blk 1 rfl) rfl) ?_))
   intro w8 Nw8
   replace hS := hS.Gf 1 rfl (show Set_ _ w8 _ (((some x).getD Fx).cells) _ from Nw8)
   refine LW.T (CW.region (LW.C (LW.nil (KW.inBlock (KW.then (CW.region (LW.M rfl (LW.pp (.inc (.t rfl) oQ) (LW.A rfl (LW.nil (KW.round ?_)))))))))))
   exact ⟨(k + 1, some x), ⟨by show k + 1 ≤ _; omega, by rw [N3 hx, ← ho, if_pos h49], hS.take 2⟩, ⟨rfl, rfl, rfl, rfl, rfl, rfl, rfl, rfl, trivial⟩, by show b.Lots.length - (k + 1) < b.Lots.length - k; omega⟩
  replace h49 := dQ h49
  rw [Ua] at h49
  refine CW.skip (KW.inBlock (KW.then (CW.region (LW.M rfl (LW.pp (.inc (.t rfl) oQ) (LW.A rfl (LW.nil (KW.round ?_))))))))
  exact ⟨(k + 1, ob), ⟨by show k + 1 ≤ _; omega, by rw [N3 hx, ← ho, if_neg (by rw [h49]; exact Bool.false_ne_true)], hS.take 2⟩, ⟨rfl, rfl, rfl, rfl, rfl, rfl, rfl, rfl, trivial⟩, by show b.Lots.length - (k + 1) < b.Lots.length - k; omega⟩
 replace h17 := dQ h17
 refine CW.exit (Aa (Aa (Ad (KW.then (CW.seq ?_)))))
 have hkl : k = b.Lots.length := by omega
 rw [hkl, List.take_length] at ho
 refine Ch kQ kQ rfl rfl (HW.pp (.fA 9 underlying36 rfl sizeOf3 rfl) (HW.pp (.ld isAgg3 rfl ((hS.blk 1 rfl).Ai rfl)) (HW.pp (.fA 10 underlying36 rfl sizeOf3 rfl) (HW.pp (.ld isAgg3 rfl ((hS.blk 1 rfl).Ai rfl)) (HW.pp (.assign (.t rfl)) (HW.pp (.assign (.t rfl)) (HW.nil ?_)))))))
 intro w9 uw9
 replace hS := hS.up uw9
 refine KW.then (CW.ret (Ge rfl rfl rfl ⟨_, rfl, ?_⟩))
 exact ⟨by rw [iT, ← ho], hS.Ce⟩
theorem Yp (ad : Option Addr) (cp : Nat) (ks : List Int) (n : Int) (w : World) (hE : Els w ad 1 Aq ks) (hcp : ks.length ≤ cp) (hks : ks.length ≤ 10000000) (hlt : ks.Pairwise (· < ·)) : Ret Tryz.prog 97 #[.slice ad ks.length cp, vi n] w fun r w' => SlC w' r (Cc (Dy ks n)) ∧ Up w w' := by
 obtain ⟨w0, rfl⟩ : ∃ w0, w0 = w := ⟨_, rfl⟩
 have hS := Sep.start no w0
 refine cS (n := 48) (m := 9) func97 rfl rfl rfl (CW.S (LW.C (LW.S (CW.region (LW.C (LW.S (CW.block (Am (σ := Nat) (fun s w => (s ≤ ks.length) ∧ (∀ y ∈ ks.take s, y < n) ∧ (Wx.Sep no w0 w [])) (fun s => [(5, .eq (vi (s : Int)))]) ([(0, .eq _), (1, .eq _), (4, .eq _)]) (fun s => ks.length - s) 0 ?_ ⟨rfl, rfl, rfl, rfl, trivial⟩ ?_))))))))
 ·exact ⟨Nat.zero_le _, (fun y hy => by cases hy), hS⟩
 rintro k w1 ⟨hk, hlo, hS⟩
 refine CW.seq (CW.seq ?_)
 obtain ⟨u, Bu, ou, hau⟩ := eJ (Els.up hE hS.Ce) k
 refine CW.region (LW.M rfl (LW.M rfl (LW.pp (.Ci underlying30 (.t rfl)) (LW.pp (.lss (.t rfl) (.t rfl)) (LW.M rfl (LW.g rfl rfl rfl rfl rfl rfl rfl (fun hc => PEv.move (.t rfl)) (LW.g rfl rfl rfl rfl rfl rfl rfl (fun hc => PEv.move (.t rfl)) (LW.g rfl rfl rfl rfl rfl rfl rfl (fun hc => PEv.Aj underlying30 sizeOf3 vQ vQ (by have h0 := (show k < ks.length by simp at hc; omega); omega) (hau (show k < ks.length by simp at hc; omega)).2.1) (LW.g rfl rfl rfl rfl rfl rfl rfl (fun hc => PEv.load isAgg3 vQ (((hau (show k < ks.length by simp at hc; omega)).2.2).nth (j := 0) rfl)) (LW.g rfl rfl rfl rfl rfl rfl rfl (fun hc => PEv.move (.t rfl)) (LW.g rfl rfl rfl rfl rfl rfl rfl (fun hc => PEv.lss vQ vQ) (LW.pp (.Ao (.t rfl) (fun hp => (by exact .cond rfl (by (rw [hp]; rfl))))) (LW.T (CW.cond (.t rfl) (fun h18 => ?_) (fun h18 => ?_)))))))))))))))
 ·have h18k : k < ks.length ∧ u < n := by simp only [Bool.and_eq_true, decide_eq_true_eq] at h18; omega
  have hu := (hau h18k.1).1
  refine CW.skip (KW.then (CW.block (CW.region (LW.M rfl (LW.pp (.inc (.t rfl) oQ) (LW.A rfl (LW.nil (KW.inBlock (KW.round ?_)))))))))
  exact ⟨k + 1, ⟨by omega, (fun y hy => by rw [Ar hu, List.mem_append, List.mem_singleton] at hy; exact hy.elim (hlo y) (fun e => by rw [e]; exact h18k.2)), hS⟩, ⟨rfl, rfl, rfl, rfl, trivial⟩, by omega⟩
 have h18k : k < ks.length → ¬ u < n := fun h h2 => by rw [decide_eq_true (show (k : Int) < (ks.length : Int) by omega), decide_eq_true h2] at h18; cases h18
 refine CW.exit (Aa (Aa (Ad (KW.then (CW.seq (CW.S (LW.M rfl (LW.M rfl (LW.pp (.Ci underlying30 (.t rfl)) (LW.pp (.lss (.t rfl) (.t rfl)) (LW.M rfl (LW.g rfl rfl rfl rfl rfl rfl rfl (fun hc => PEv.move (.t rfl)) (LW.g rfl rfl rfl rfl rfl rfl rfl (fun hc => PEv.move (.t rfl)) (LW.g rfl rfl rfl rfl rfl rfl rfl (fun hc => PEv.Aj underlying30 sizeOf3 vQ vQ (by have h0 := (show k < ks.length by simp at hc; omega); omega) (hau (show k < ks.length by simp at hc; omega)).2.1) (LW.g rfl rfl rfl rfl rfl rfl rfl (fun hc => PEv.load isAgg3 vQ (((hau (show k < ks.length by simp at hc; omega)).2.2).nth (j := 0) rfl)) (LW.g rfl rfl rfl rfl rfl rfl rfl (fun hc => PEv.move (.t rfl)) (LW.g rfl rfl rfl rfl rfl rfl rfl (fun hc => PEv.eql vQ vQ) (LW.pp (.Ao (.t rfl) (fun hp => (by exact .cond rfl (by (rw [hp]; rfl))))) (LW.T (CW.cond (.t rfl) (fun h32 => ?_) (fun h32 => ?_)))))))))))))))))))))
 ·have h32k : k < ks.length ∧ u = n := by simp only [Bool.and_eq_true, decide_eq_true_eq] at h32; omega
  have hu := (hau h32k.1).1
  refine CW.S (LW.M rfl (LW.A rfl (LW.T (CW.ret (Af (Ae rfl rfl ⟨_, rfl, ?_⟩))))))
  exact ⟨by rw [← Ub hlt (List.mem_of_getElem? (h32k.2 ▸ hu))]; exact ⟨ad, cp, rfl, Els.up hE hS.Ce, hcp⟩, hS.Ce⟩
 have hk2 : k < ks.length → ∃ u, ks[k]? = some u ∧ n < u := fun h => ⟨u, (hau h).1, by
  have h2 : ¬ u = n := fun e => by rw [decide_eq_true (show (k : Int) < (ks.length : Int) by omega), decide_eq_true e] at h32; cases h32
  have := h18k h
  omega⟩
 refine CW.skip (KW.then (CW.S (LW.C (LW.S ?_))))
 replace hS := hS.J9 (OwnS.nil _ 0 3 1 Aq)
 have hdg := eI hlt hk2
 refine CW.region (LW.M rfl (LW.M rfl (LW.M rfl (LW.pp (.K9 underlying30 sizeOf3 (.t rfl) (.t rfl) oQ) (Ah (.A8 (enc := Aq) (bytes := 8) (i := Tryz.t3) underlying30 kQ rfl rfl rfl rfl cQ (fun _ => rfl) Ev (.t rfl) (.t rfl) (hS.own 0 rfl) (by have := (Els.take (j := k) hE); exact ⟨ad, cp, by rw [List.length_take, Nat.min_eq_left hk], Els.up this hS.Ce⟩) (by have := hks; simp [maxLen]; omega) (by have := hks; simp; omega)) rfl ?_)))))
 intro v38 w2 Gw2
 replace hS := hS.Dh 0 rfl Gw2
 refine LW.A rfl (LW.S (CW.region (LW.M rfl (LW.M rfl (Ah (.buildSlice (xs := [n]) (enc := Aq) (mk := vi) underlying30 sizeOf3 zeroValue3 rfl cQ (fun _ => rfl) (fun _ => rfl) (.cons (.t rfl) .nil) rfl) rfl ?_)))))
 rintro _ w3 ⟨B41, cB41, rfl, NB41, yB41, xB41⟩
 replace hS := hS.up NB41.up
 have hE41 := xB41
 refine Ah (.A8 (enc := Aq) (bytes := 8) (i := Tryz.t3) underlying30 kQ rfl rfl rfl rfl cQ (fun _ => rfl) Ev (.t rfl) (.t rfl) (hS.own 0 rfl) (Ak hE41) (by have := hks; simp [maxLen]; omega) (by have := hks; simp; omega)) rfl ?_
 intro v42 w4 Gw4
 replace hS := hS.Dh 0 rfl Gw4
 refine LW.A rfl (LW.S (CW.region (LW.M rfl (LW.M rfl (LW.M rfl (LW.pp (.sliceFrom underlying30 sizeOf3 (.t rfl) (.t rfl) oQ) (Ah (.A8 (enc := Aq) (bytes := 8) (i := Tryz.t3) underlying30 kQ rfl rfl rfl rfl cQ (fun _ => rfl) Ev (.t rfl) (.t rfl) (hS.own 0 rfl) (Els.drop (Els.up hE hS.Ce) hcp) (by have := hks; simp [maxLen]; omega) (by have := hks; simp; omega)) rfl ?_)))))))
 intro v47 w5 Gw5
 replace hS := hS.Dh 0 rfl Gw5
 refine LW.A rfl (LW.T (CW.ret (Ae rfl rfl ⟨_, rfl, ?_⟩)))
 exact ⟨by rw [← eH hlt hlo hdg]; exact nU (hS.own 0 rfl), hS.Ce⟩
theorem Yq (bc : Array Go.Value) (b : Base) (w : World) (hC : BaseC w bc b) (hs : b.Swaps.length ≤ 1000000000) (hl : b.Lots.length ≤ 1000000) (hp : b.Processes.length ≤ 1000000) : Ret Tryz.prog 39 #[.agg bc] w fun r w' => Sl w' r 1 Aq (Bq b.Lots b.Processes b.Swaps) ∧ Up w w' := by
 have hW := Up.refl w
 obtain ⟨w0, rfl⟩ : ∃ w0, w0 = w := ⟨_, rfl⟩
 refine cS (n := 56) (m := 9) func39 rfl rfl rfl (CW.S (Ah (.C7 (.t rfl)) rfl ?_))
 rintro _ w1 ⟨B1, rfl, NB1⟩
 have eB1 := NB1.at_
 replace hC := hC.up NB1.up
 replace hW := hW.up NB1.up
 have hB1 := NB1.blk
 refine LW.C (LW.S (CW.region (LW.C (LW.S (CW.S (LW.C (LW.T (CW.block (Am (σ := Nat × Go.Value) (fun s w => (s.1 ≤ b.Lots.length) ∧ (Up w0 w) ∧ (Blk w B1 bc 38) ∧ (BaseC w bc b) ∧ (SlC w s.2 (Cc ((Kz (b.Lots.take s.1)).filter Cu)))) (fun s => [(4, .eq (vi (s.1 : Int))), (3, .eq (s.2))]) ([(1, .eq _), (2, .eq _)]) (fun s => b.Lots.length - s.1) (0, .slice none 0 0) ?_ ⟨rfl, rfl, rfl, rfl, trivial⟩ ?_)))))))))
 ·exact ⟨Nat.zero_le _, hW, hB1, hC, nT _⟩
 rintro ⟨k, v⟩ w2 ⟨hk, hW, hB1, hC, hV⟩
 dsimp only at hk hV
 change CW _ _ _ _ _ _ _ ([(4, .eq (vi (k : Int))), (3, .eq (v))] ++ _) _
 refine CW.seq (CW.seq ?_)
 obtain ⟨v3, h3, ad, cp, rfl, hE⟩ := hC.vU
 refine CW.region (LW.M rfl (LW.pp (.fA 3 underlying38 rfl sizeOf23 rfl) (LW.pp (.ld isAgg23 rfl (hB1.cell h3)) (LW.pp (.Ci underlying23 (.t rfl)) (LW.pp (.lss (.t rfl) (.t rfl)) (LW.T (CW.cond (.t rfl) (fun h11 => ?_) (fun h11 => ?_))))))))
 ·replace h11 := dQ h11
  refine CW.skip (KW.then (CW.seq (CW.block (CW.seq ?_))))
  obtain ⟨x, hx⟩ := Ac (xs := b.Lots) (i := k) oQ
  obtain ⟨Bx, ox, ax, hcx⟩ := hE k x hx
  have hlk := Nat.le_trans (List.length_filter_le Cu _) (Ns (b.Lots.take k))
  have hlk2 : (b.Lots.take k).length ≤ k := by rw [List.length_take]; omega
  refine CW.region (LW.pp (.fA 3 underlying38 rfl sizeOf23 rfl) (LW.pp (.ld isAgg23 rfl (hB1.cell h3)) (LW.M rfl (LW.pp (.Aj underlying23 sizeOf36 (.t rfl) (.t rfl) oQ ax) (LW.pp (.fA 7 underlying36 rfl sizeOf3 rfl) (LW.pp (.ld isAgg3 rfl (hcx.nth (j := 7) rfl)) (LW.K (eC (.o rfl) (fC)) rfl (Lq _ _) ?_)))))))
  rintro _ w3 ⟨rfl, uw3⟩
  replace hW := hW.up uw3
  replace hB1 := hB1.up uw3
  replace hC := hC.up uw3
  replace hV := hV.up uw3
  refine LW.T (CW.cond (.t rfl) (fun h20 => ?_) (fun h20 => ?_))
  ·replace h20 := dQ h20
   have hid := h20
   obtain ⟨v3, h3, ad, cp, rfl, hE⟩ := hC.vU
   obtain ⟨Bx, ox, ax, hcx⟩ := hE k x hx
   obtain ⟨adv, cpv, rfl, hEv, hcv⟩ := hV
   refine CW.region (LW.M rfl (LW.pp (.fA 3 underlying38 rfl sizeOf23 rfl) (LW.pp (.ld isAgg23 rfl (hB1.cell h3)) (LW.M rfl (LW.pp (.Aj underlying23 sizeOf36 (.t rfl) (.t rfl) oQ ax) (LW.pp (.fA 7 underlying36 rfl sizeOf3 rfl) (LW.pp (.ld isAgg3 rfl (hcx.nth (j := 7) rfl)) (LW.K (eC (.u rfl rfl) (wL)) rfl (Yp adv cpv (Cc ((Kz (b.Lots.take k)).filter Cu)) x.Wafer _ hEv hcv (by rw [Co]; omega) (G9 ((Sb _).filter _))) ?_))))))))
   rintro v28 w4 ⟨hV2, uw4⟩
   have zw4 := uw4.size
   replace hW := hW.up uw4
   replace hB1 := hB1.up uw4
   replace hC := hC.up uw4
   rw [Gx, ← N4 _ hid] at hV2
   refine LW.A rfl (LW.nil (KW.inBlock (KW.then (CW.region (LW.M rfl (LW.pp (.inc (.t rfl) oQ) (LW.A rfl (LW.nil (KW.round ?_)))))))))
   exact ⟨(k + 1, v28), ⟨by show k + 1 ≤ _; omega, hW, hB1, hC, by rw [Ot hx]; exact hV2⟩, ⟨rfl, rfl, rfl, rfl, trivial⟩, by show b.Lots.length - (k + 1) < b.Lots.length - k; omega⟩
  replace h20 := dQ h20
  have hid := h20
  refine CW.skip (KW.inBlock (KW.then (CW.region (LW.M rfl (LW.pp (.inc (.t rfl) oQ) (LW.A rfl (LW.nil (KW.round ?_))))))))
  exact ⟨(k + 1, v), ⟨by show k + 1 ≤ _; omega, hW, hB1, hC, by rw [Ot hx]; (rw [Ps _ hid]; exact hV)⟩, ⟨rfl, rfl, rfl, rfl, trivial⟩, by show b.Lots.length - (k + 1) < b.Lots.length - k; omega⟩
 replace h11 := dQ h11
 refine CW.exit (Aa (Aa (Ad (KW.then (CW.seq (CW.seq ?_))))))
 have hkl : k = b.Lots.length := by omega
 rw [hkl, List.take_length] at hV
 refine CW.region (LW.C (LW.T (CW.block (Am (σ := Nat × Go.Value) (fun s w => (s.1 ≤ b.Processes.length) ∧ (Up w0 w) ∧ (Blk w B1 bc 38) ∧ (BaseC w bc b) ∧ (SlC w s.2 (Cc ((Sw b.Swaps (Kz b.Lots) (b.Processes.take s.1)).filter Cu)))) (fun s => [(5, .eq (vi (s.1 : Int))), (3, .eq (s.2))]) ([(1, .eq _), (2, .eq _)]) (fun s => b.Processes.length - s.1) (0, v) ?_ ⟨rfl, rfl, rfl, rfl, trivial⟩ ?_))))
 ·exact ⟨Nat.zero_le _, hW, hB1, hC, hV⟩
 rintro ⟨j, v⟩ w5 ⟨hj, hW, hB1, hC, hV⟩
 dsimp only at hj hV
 change CW _ _ _ _ _ _ _ ([(5, .eq (vi (j : Int))), (3, .eq (v))] ++ _) _
 refine CW.seq (CW.seq ?_)
 obtain ⟨v0, h0, ad0, cp0, rfl, hEp⟩ := hC.DE
 refine CW.region (LW.M rfl (LW.pp (.fA 0 underlying38 rfl sizeOf23 rfl) (LW.pp (.ld isAgg23 rfl (hB1.cell h0)) (LW.pp (.Ci underlying23 (.t rfl)) (LW.pp (.lss (.t rfl) (.t rfl)) (LW.T (CW.cond (.t rfl) (fun h33 => ?_) (fun h33 => ?_))))))))
 ·replace h33 := dQ h33
  refine CW.skip (KW.then (CW.seq (CW.block (CW.seq ?_))))
  obtain ⟨y, hy⟩ := Ac (xs := b.Processes) (i := j) oQ
  obtain ⟨By, oy, ay, hcy⟩ := hEp j y hy
  have hlk := Nat.le_trans (List.length_filter_le Cu _) (Rp b.Swaps (Kz b.Lots) (b.Processes.take j))
  have hlk2 : (b.Processes.take j).length ≤ j := by rw [List.length_take]; omega
  have hlk3 := Ns b.Lots
  refine C2 13 kQ kQ kQ kQ kQ rfl rfl (HW.pp (.Ee isAgg38 sizeOf38 (hC.size) (.t rfl) (hB1.agg)) (HW.pp (.fA 0 underlying38 rfl sizeOf23 rfl) (HW.pp (.ld isAgg23 rfl (hB1.cell h0)) (HW.pp (.move (.t rfl)) (HW.pp (.Aj underlying23 sizeOf36 (.t rfl) (.t rfl) oQ ay) (HW.pp (.fA 7 underlying36 rfl sizeOf3 rfl) (HW.pp (.ld isAgg3 rfl (hcy.nth (j := 7) rfl)) (HW.pp (.fA 0 underlying38 rfl sizeOf23 rfl) (HW.pp (.ld isAgg23 rfl (hB1.cell h0)) (HW.pp (.move (.t rfl)) (HW.pp (.Aj underlying23 sizeOf36 (.t rfl) (.t rfl) oQ ay) (HW.pp (.fA 5 underlying36 rfl sizeOf3 rfl) (HW.pp (.ld isAgg3 rfl (hcy.nth (j := 5) rfl)) (HW.nil ?_))))))))))))))
  intro w6 uw6
  replace hW := hW.up uw6
  replace hB1 := hB1.up uw6
  replace hC := hC.up uw6
  replace hV := hV.up uw6
  refine LW.K (eC (.cons (.t rfl) (.cons (.t rfl) (.cons (.t rfl) .nil))) (wC)) rfl (Yo bc b y.Wafer y.Time _ hC hs) ?_
  rintro _ w7 ⟨rfl, uw7⟩
  replace hW := hW.up uw7
  replace hB1 := hB1.up uw7
  replace hC := hC.up uw7
  replace hV := hV.up uw7
  refine LW.A rfl (LW.S (CW.region (LW.M rfl (LW.K (eC (.o rfl) (fC)) rfl (Lq _ _) ?_))))
  rintro _ w8 ⟨rfl, uw8⟩
  replace hW := hW.up uw8
  replace hB1 := hB1.up uw8
  replace hC := hC.up uw8
  replace hV := hV.up uw8
  refine LW.T (CW.cond (.t rfl) (fun h51 => ?_) (fun h51 => ?_))
  ·replace h51 := dQ h51
   have hid := h51
   obtain ⟨adv, cpv, rfl, hEv, hcv⟩ := hV
   refine CW.region (LW.M rfl (LW.M rfl (LW.K (eC (.u rfl rfl) (wL)) rfl (Yp adv cpv (Cc ((Sw b.Swaps (Kz b.Lots) (b.Processes.take j)).filter Cu)) (Iy b.Swaps y.Time y.Wafer) _ hEv hcv (by rw [Co]; omega) (G9 ((bP _ _ (Sb _)).filter _))) ?_)))
   rintro v54 w9 ⟨hV2, uw9⟩
   have zw9 := uw9.size
   replace hW := hW.up uw9
   replace hB1 := hB1.up uw9
   replace hC := hC.up uw9
   rw [Gx, ← N4 _ hid] at hV2
   refine LW.A rfl (LW.nil (KW.inBlock (KW.then (CW.region (LW.M rfl (LW.pp (.inc (.t rfl) oQ) (LW.A rfl (LW.nil (KW.round ?_)))))))))
   exact ⟨(j + 1, v54), ⟨by show j + 1 ≤ _; omega, hW, hB1, hC, by rw [Ou hy]; exact hV2⟩, ⟨rfl, rfl, rfl, rfl, trivial⟩, by show b.Processes.length - (j + 1) < b.Processes.length - j; omega⟩
  replace h51 := dQ h51
  have hid := h51
  refine CW.skip (KW.inBlock (KW.then (CW.region (LW.M rfl (LW.pp (.inc (.t rfl) oQ) (LW.A rfl (LW.nil (KW.round ?_))))))))
  exact ⟨(j + 1, v), ⟨by show j + 1 ≤ _; omega, hW, hB1, hC, by rw [Ou hy]; (rw [Ps _ hid]; exact hV)⟩, ⟨rfl, rfl, rfl, rfl, trivial⟩, by show b.Processes.length - (j + 1) < b.Processes.length - j; omega⟩
 replace h33 := dQ h33
 refine CW.exit (Aa (Aa (Ad (KW.then (CW.S (LW.M rfl (LW.A rfl (LW.T (CW.ret (Ae rfl rfl ⟨_, rfl, ?_⟩))))))))))
 have hjl : j = b.Processes.length := by omega
 rw [hjl, List.take_length] at hV
 exact ⟨hV.sl, hW⟩
end Go.Proofs.YtmimclgihlhaeaaGreat
end
