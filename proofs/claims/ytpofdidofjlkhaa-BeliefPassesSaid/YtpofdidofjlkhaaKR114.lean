import Derived.Test.YtpofdidofjlkhaaKR113
import Derived.Ground.SlgcProg
import Derived.Ground.SlsfProg
import Derived.Shelf.SlicesG.Cmp
import Derived.Shelf.SlSortCmp.NoneTotal
section
namespace Go.Proofs
open Go.Proofs.Try
open Go.Shelf
def Try.cmpW_ren : Go.Shelf.Ren := ⟨fun | 5 => 50 | 7 => 66 | n => n, fun | 22 => 3 | 3 => 3 | 4 => 4 | n => n, fun | n => n⟩
theorem Try.cmpW : Go.Proofs.SlLaysC2.n5 Try.prog Try.cmpW_ren := {
 mixed := by kernel_rfl
 f5 := ⟨Try.f50.name, by decide, func50.trans (congrArg some kQ)⟩
 f7 := ⟨Try.f66.name, by decide, func66.trans (congrArg some kQ)⟩
 t3 := underlying3
 a3 := isAgg3
 z3 := sizeOf3
 v3 := zeroValue3
 t4 := underlying4
 a4 := isAgg4
 z4 := sizeOf4
 v4 := zeroValue4
 t22 := underlying3
 a22 := isAgg3
 z22 := sizeOf3
 v22 := zeroValue3 }
def Try.sortW_ren : Go.Shelf.Ren := ⟨fun | 6 => 27 | 15 => 48 | 14 => 47 | 28 => 64 | 29 => 65 | 20 => 56 | 21 => 57 | 22 => 58 | 23 => 59 | 24 => 60 | 25 => 61 | 26 => 62 | 27 => 63 | 46 => 67 | 47 => 68 | 48 => 69 | 49 => 70 | 50 => 71 | 57 => 72 | n => n, fun | 22 => 38 | 24 => 43 | 25 => 70 | 3 => 3 | 39 => 85 | 0 => 0 | 53 => 99 | 55 => 101 | 4 => 4 | 46 => 93 | 45 => 92 | 50 => 46 | 5 => 5 | 9 => 9 | 66 => 104 | 70 => 108 | 76 => 110 | 77 => 111 | n => n, fun | n => n⟩
theorem Try.sortW : Go.Proofs.SlLaysF0.n6 Try.prog Try.sortW_ren := {
 mixed := by kernel_rfl
 f6 := ⟨Try.f27.name, by decide, func27.trans (congrArg some kQ)⟩
 f14 := ⟨Try.f47.name, by decide, func47.trans (congrArg some kQ)⟩
 f15 := func48.trans (congrArg some kQ)
 f20 := ⟨Try.f56.name, by decide, func56.trans (congrArg some kQ)⟩
 f21 := ⟨Try.f57.name, by decide, func57.trans (congrArg some kQ)⟩
 f22 := ⟨Try.f58.name, by decide, func58.trans (congrArg some kQ)⟩
 f23 := ⟨Try.f59.name, by decide, func59.trans (congrArg some kQ)⟩
 f24 := ⟨Try.f60.name, by decide, func60.trans (congrArg some kQ)⟩
 f25 := ⟨Try.f61.name, by decide, func61.trans (congrArg some kQ)⟩
 f26 := ⟨Try.f62.name, by decide, func62.trans (congrArg some kQ)⟩
 f27 := ⟨Try.f63.name, by decide, func63.trans (congrArg some kQ)⟩
 f28 := func64.trans (congrArg some kQ)
 f29 := func65.trans (congrArg some kQ)
 f46 := ⟨Try.f67.name, by decide, func67.trans (congrArg some kQ)⟩
 f47 := func68.trans (congrArg some kQ)
 f48 := func69.trans (congrArg some kQ)
 f49 := ⟨Try.f70.name, by decide, func70.trans (congrArg some kQ)⟩
 f50 := ⟨Try.f71.name, by decide, func71.trans (congrArg some kQ)⟩
 f57 := ⟨Try.f72.name, by decide, func72.trans (congrArg some kQ)⟩
 t0 := underlying0
 a0 := isAgg0
 z0 := sizeOf0
 v0 := zeroValue0
 t3 := underlying3
 a3 := isAgg3
 z3 := sizeOf3
 v3 := zeroValue3
 t4 := underlying4
 a4 := isAgg4
 z4 := sizeOf4
 v4 := zeroValue4
 t5 := underlying5
 a5 := isAgg5
 z5 := sizeOf5
 v5 := zeroValue5
 t9 := underlying9
 a9 := isAgg9
 z9 := sizeOf9
 v9 := zeroValue9
 t22 := underlying38
 a22 := isAgg38
 z22 := sizeOf38
 v22 := zeroValue38
 t25 := underlying70
 a25 := isAgg70
 z25 := sizeOf70
 v25 := zeroValue70
 t39 := underlying85
 a39 := isAgg85
 z39 := sizeOf85
 v39 := zeroValue85
 t45 := underlying92
 a45 := isAgg92
 z45 := sizeOf92
 v45 := zeroValue92
 t46 := underlying93
 a46 := isAgg93
 z46 := sizeOf93
 v46 := zeroValue93
 t50 := underlying46
 a50 := isAgg46
 z50 := sizeOf46
 v50 := zeroValue46
 t53 := underlying99
 a53 := isAgg99
 z53 := sizeOf99
 v53 := zeroValue99
 t55 := underlying101
 a55 := isAgg101
 z55 := sizeOf101
 v55 := zeroValue101
 t66 := underlying104
 a66 := isAgg104
 z66 := sizeOf104
 v66 := zeroValue104
 t70 := underlying108
 a70 := isAgg108
 z70 := sizeOf108
 v70 := zeroValue108
 t76 := underlying110
 a76 := isAgg110
 z76 := sizeOf110
 v76 := zeroValue110
 t77 := underlying111
 a77 := isAgg111
 z77 := sizeOf111
 v77 := zeroValue111 }
end Go.Proofs
end
section
namespace Go.Wx
open Go.RowKit
theorem flat_set {α : Type} (f : α → List Value) (k : Nat) (hf : ∀ x, (f x).length = k) : ∀ (xs : List α) (i : Nat) (y : α), i < xs.length → (xs.set i y).flatMap f = (xs.flatMap f).take (i * k) ++ f y ++ (xs.flatMap f).drop (i * k + k)
 | [], _, _, h => by simp at h
 | x :: xs, 0, y, _ => by
   rw [List.set_cons_zero, List.flatMap_cons, List.flatMap_cons, Nat.zero_mul, List.take_zero, List.nil_append, Nat.zero_add, List.drop_left' (hf x)]
 | x :: xs, i + 1, y, h => by
   rw [List.set_cons_succ, List.flatMap_cons, List.flatMap_cons, flat_set f k hf xs i y (by simpa using h)]
   have e1 : (i + 1) * k = (f x).length + i * k := by rw [hf, Nat.add_mul, Nat.one_mul, Nat.add_comm]
   have e2 : (i + 1) * k + k = (f x).length + (i * k + k) := by rw [e1, Nat.add_assoc]
   rw [e1, Nat.add_assoc, List.take_length_add_append, List.drop_length_add_append]
   simp [List.append_assoc]
section
variable {P : Program} {n : Nat} {ds : List Deferred} {l : Env} {w : World} {ty : TypeId} {ps : String} {af : Array Edge} {g : Option (Nat × Bool)}
theorem SEv.storeOwn {α : Type} {enc : α → Array Value} {k b : Nat} {e T : TypeId} {x y : Operand} {B m cp i : Nat} {xs : List α} {z : α} (hs : ∀ w, (sizeOf T).run P w = .ok k w) (hk : ∀ x, (enc x).size = k) (h1 : ∀ x, (enc x).all (·.oneCell') = true) (hx : Val l x (.pointer (some ⟨B, 0 + i * k, none⟩))) (hy : Val l y (.agg (enc z))) (ho : OwnS w b e k enc (.slice (some ⟨B, 0, none⟩) m cp) xs) (hi : i < m) :
   SEv P n ds l w ⟨none, .store T x y, ty, ps, af, g⟩ (fun w' => OwnS w' b e k enc (.slice (some ⟨B, 0, none⟩) m cp) (xs.set i z) ∧ Fr (· = B) w w' ∧ w'.heap.size = w.heap.size) := fun a ha => by
 have hkl : ∀ x, (enc x).toList.length = k := fun x => by rw [Array.length_toList, hk]
 have hfl := flat_length (fun x => (enc x).toList) k hkl xs
 obtain ⟨hl, ⟨e', _⟩ | ⟨g', cap, cur, e', hb, hg, hcap, hcm, hcs, htk⟩⟩ := ho
 · cases e'
 cases e'
 have hik : i * k + k ≤ xs.length * k := by
   have : (i + 1) * k ≤ xs.length * k := Nat.mul_le_mul_right k hi
   rw [Nat.add_mul, Nat.one_mul] at this
   exact this
 have hmk : xs.length * k ≤ cp * k := Nat.mul_le_mul_right k oQ
 obtain ⟨w', hr, hset⟩ := SEv.storePart (P := P) (n := n) (ds := ds) (l := l) (w := w) (ty := ty) (ps := ps) (af := af) (g := g) hs (hk z) hx hy (h1 z) (show Blk w B cur e from hg) (by rw [hk, hcs]; omega) a ha
 refine ⟨w', hr, ⟨by rw [List.length_set, flat_length _ k hkl, List.length_set], .inr ⟨B, cp, _, by rw [List.length_set], hb, hset.blk, by rw [List.length_set]; omega, hcm, ?_, ?_⟩⟩, hset.sto.fr, hset.size⟩
 · have hz := hkl z
   simp only [setFrom, List.size_toArray, List.length_append, List.length_take, List.length_drop, Array.length_toList]
   rw [Array.length_toList] at hz
   omega
 have hz := hkl z
 rw [List.length_set, flat_set _ k hkl xs i z (by omega)]
 simp only [setFrom]
 rw [hz, Nat.zero_add, List.take_append, List.take_append]
 have hcl : cur.toList.length = cp * k := by rw [Array.length_toList]; exact hcs
 have t1 : (cur.toList.take (i * k)).take (xs.length * k) = cur.toList.take (i * k) := by rw [List.take_take, Nat.min_eq_right (by omega)]
 have t2 : (cur.toList.take (i * k)).length = i * k := by rw [List.length_take]; omega
 have t3 : ((enc z).toList).take (xs.length * k - i * k) = (enc z).toList := List.take_of_length_le oQ
 have t4 : (cur.toList.take (i * k) ++ (enc z).toList).length = i * k + k := by rw [List.length_append, t2, hz]
 rw [t1, t2, t3, t4]
 have s1 : (xs.flatMap fun x => (enc x).toList).take (i * k) = cur.toList.take (i * k) := by rw [← htk, List.take_take, Nat.min_eq_left (by omega)]
 have s2 : (xs.flatMap fun x => (enc x).toList).drop (i * k + k) = (cur.toList.drop (i * k + k)).take (xs.length * k - (i * k + k)) := by rw [← htk, List.drop_take]
 rw [s1, s2]
theorem SEv.storeOwnA {α : Type} {enc : α → Array Value} {k : Nat} {e T : TypeId} {x y : Operand} {B m cp i : Nat} {xs : List α} {z : α} (hs : ∀ w, (sizeOf T).run P w = .ok k w) (hk : ∀ x, (enc x).size = k) (h1 : ∀ x, (enc x).all (·.oneCell') = true) (hx : Val l x (.pointer (some ⟨B, 0 + i * k, none⟩))) (hy : Val l y (.agg (enc z))) (ho : OwnS w 0 e k enc (.slice (some ⟨B, 0, none⟩) m cp) xs) (hi : i < m) :
   SEv P n ds l w ⟨none, .store T x y, ty, ps, af, g⟩ (fun w' => Stp (aOwn e k enc (.slice (some ⟨B, 0, none⟩) m cp) xs) (aOwn e k enc (.slice (some ⟨B, 0, none⟩) m cp) (xs.set i z)) w w') := fun a ha =>
 let ⟨w', hr, h2, h3, _⟩ := SEv.storeOwn (ty := ty) (ps := ps) (af := af) (g := g) hs hk h1 hx hy ho hi a ha
 ⟨w', hr, ⟨h3.mono (fun i (e : i = B) => by rw [e]; rfl), h2, fun _ h => .inl h⟩⟩
end
end Go.Wx
end
section
namespace Go.Wx
open Go.Sort
def orL : List Int → Int
 | [] => 0
 | x :: l => if x = 0 then orL l else x
theorem orL_zero {l : List Int} {k : Nat} (h : ∀ x ∈ l.take k, x = 0) : orL l = orL (l.drop k) := by
 induction l generalizing k with
 | nil => simp
 | cons a l ih =>
   cases k with
   | zero => rfl
   | succ k =>
     rw [List.take_succ_cons] at h
     have h0 := h a List.mem_cons_self
     rw [List.drop_succ_cons, ← ih fun x hx => h x (List.mem_cons_of_mem _ hx)]
     show (if a = 0 then orL l else a) = _
     rw [if_pos h0]
theorem orL_at {l : List Int} {k : Nat} {x : Int} (h : ∀ y ∈ l.take k, y = 0) (hx : l[k]? = some x) (hn : x ≠ 0) : orL l = x := by
 obtain ⟨hk, e⟩ := List.getElem?_eq_some_iff.1 hx
 rw [orL_zero h, List.drop_eq_getElem_cons hk, e]
 show (if x = 0 then _ else x) = x
 rw [if_neg hn]
theorem orL_none {l : List Int} {k : Nat} (h : ∀ y ∈ l.take k, y = 0) (hk : l.length ≤ k) : orL l = 0 := by
 rw [orL_zero h, List.drop_eq_nil_of_le hk]
 rfl
theorem orW (x y : Wd) : orL [Lib.compareInt x.l y.l, Lib.compareInt x.r y.r, Lib.compareInt x.p y.p] = cmpW x y := by
 unfold cmpW
 generalize Lib.compareInt x.l y.l = a
 generalize Lib.compareInt x.r y.r = b
 generalize Lib.compareInt x.p y.p = c
 show (if a = 0 then (if b = 0 then (if c = 0 then 0 else c) else b) else a) = _
 by_cases h1 : a = 0
 · by_cases h2 : b = 0
   · by_cases h3 : c = 0 <;> simp [h1, h2, h3]
   simp [h1, h2]
 simp [h1]
instance : Inhabited Wd := ⟨⟨0, 0, 0⟩⟩
end Go.Wx
namespace Go.Proofs.Ytpofdidofjlkhaa
open Go.Proofs.Try
open Go.Wx Go.RowKit
theorem or_any (ad : Option Addr) (cp : Nat) (l : List Int) (w : World) (hE0 : Els w ad 1 eInt l) (hl : l.length ≤ 1000) : Ret Try.prog 49 #[.slice ad l.length cp] w fun r w' => r = vi (orL l) ∧ w' = w := by
 obtain ⟨w0, rfl⟩ : ∃ w0, w0 = w := ⟨_, rfl⟩
 refine cS (n := 18) (m := 9) func49 rfl rfl rfl ?_
 refine CW.S (LW.C (LW.S (CW.region (LW.C (LW.S (CW.S (LW.M rfl ?_)))))))
 refine LW.pp (.lenS underlying102 (.t rfl)) ?_
 refine LW.pp (.move (.const _)) ?_
 refine LW.T (CW.block ?_)
 refine CW.loopB (σ := Nat) (fun s w => (s ≤ l.length) ∧ (∀ y ∈ l.take s, y = 0) ∧ (w = w0)) (fun s => [(8, .eq (vi (s : Int)))]) ([(3, .eq _), (6, .eq _), (7, .eq _)]) (fun s => l.length - s) 0 ?_ ⟨rfl, rfl, rfl, rfl, trivial⟩ ?_
 ·exact ⟨Nat.zero_le _, by simp, rfl⟩
 rintro k w1 ⟨hk, hn, hE⟩
 refine CW.S ?_
 refine LW.pp (.lss (.t rfl) (.t rfl)) ?_
 refine LW.S ?_
 refine CW.cond (.t rfl) (fun h9 => ?_) (fun h9 => ?_)
 ·replace h9 := dQ h9
  refine CW.skip (KW.then (CW.seq (CW.block (CW.seq ?_))))
  subst hE
  obtain ⟨y, hy⟩ : ∃ y, l[k]? = some y := ⟨_, List.getElem?_eq_getElem (by simp at h9; omega)⟩
  obtain ⟨Bx, ox, rfl, hcy⟩ := hE0 k y hy
  refine CW.region ?_
  refine LW.pp (.indexAddr' underlying102 sizeOf3 (j := k) (.t rfl) (.t rfl) oQ rfl) ?_
  refine LW.pp (.ld isAgg3 rfl (hcy.nth (j := 0) rfl)) ?_
  refine LW.A rfl (LW.S (CW.region (LW.M rfl (LW.M rfl ?_))))
  refine LW.pp (.neq (.t rfl) (.t rfl)) ?_
  refine LW.T ?_
  refine CW.cond (.t rfl) (fun h14 => ?_) (fun h14 => ?_)
  ·replace h14 := dQ h14
   refine CW.S (LW.M rfl (LW.A rfl (LW.T (CW.ret (KW.block_ret (KW.then_ret (KW.then_ret (KW.block_ret (KW.then_ret ?_)))))))))
   refine KW.ret1 rfl rfl ⟨_, rfl, ?_⟩
   first | exact ⟨congrArg vi (orL_at hn hy (by simpa using h14)).symm, rfl⟩ | exact ⟨congrArg vi (orL_none hn (by simp at h9; omega)).symm, hE⟩
  replace h14 := dQ h14
  refine CW.skip (KW.inBlock (KW.then (CW.region ?_)))
  refine LW.pp (.inc (.t rfl) oQ) ?_
  refine LW.M rfl (LW.nil (KW.round ?_))
  exact ⟨k + 1, ⟨by simp at h9; omega, fun z hz => by rw [List.take_add_one, hy] at hz; rcases List.mem_append.1 hz with h | h; exact hn z h; rw [List.mem_singleton.1 h]; simpa using h14, rfl⟩, ⟨rfl, rfl, rfl, rfl, trivial⟩, by simp at h9; omega⟩
 replace h9 := dQ h9
 refine CW.exit (KW.then_exit (KW.then_exit (KW.block_hit (KW.then (CW.S (LW.M rfl (LW.A rfl (LW.T (CW.ret ?_)))))))))
 refine KW.ret1 rfl rfl ⟨_, rfl, ?_⟩
 first | exact ⟨congrArg vi (orL_at hn hy (by simpa using h14)).symm, rfl⟩ | exact ⟨congrArg vi (orL_none hn (by simp at h9; omega)).symm, hE⟩
theorem cmpC_any (a b : Int) (w : World) : Ret Try.prog 50 #[vi a, vi b] w fun r w' => r = vi (Lib.compareInt a b) ∧ w' = w :=
 (AnyG.cmp_Compare_int Try.cmpW a b w).mono fun _ _ ⟨h1, h2⟩ => ⟨_, h1, rfl, h2⟩
theorem compare_any (x y : Wd) (w : World) : Ret Try.prog 28 #[.agg x.cells, .agg y.cells] w fun r w' => r = vi (cmpW x y) ∧ Dr w w' := by
 have hD := Dr.refl w
 refine cS (n := 22) (m := 9) func28 rfl rfl rfl ?_
 refine CW.S ?_
 refine LW.rr (.boxD (.t rfl)) rfl ?_
 rintro _ w1 ⟨B2, rfl, NB2, dB2⟩
 replace hD := hD.trans (Dr.same NB2.up dB2)
 have hB2 := NB2.blk
 refine LW.rr (.boxD (.t rfl)) rfl ?_
 rintro _ w2 ⟨B3, rfl, NB3, dB3⟩
 replace hB2 := hB2.up NB3.up
 replace hD := hD.trans (Dr.same NB3.up dB3)
 have hB3 := NB3.blk
 refine LW.C (LW.S ?_)
 have hDw := hD
 refine CW.freeD 17 [.eq (.pointer (some ⟨B2, 0, none⟩)), .eq (vi x.l), .eq (.pointer (some ⟨B3, 0, none⟩)), .eq (vi y.l), .eq (vi (Lib.compareInt x.l y.l)), .eq (.pointer (some ⟨B2, 1, none⟩)), .eq (vi x.r), .eq (.pointer (some ⟨B3, 1, none⟩)), .eq (vi y.r), .eq (vi (Lib.compareInt x.r y.r)), .eq (.pointer (some ⟨B2, 2, none⟩)), .eq (vi x.p), .eq (.pointer (some ⟨B3, 2, none⟩)), .eq (vi y.p), .eq (vi (Lib.compareInt x.p y.p)), .pred (fun v w => Sl w v 1 eInt [Lib.compareInt x.l y.l, Lib.compareInt x.r y.r, Lib.compareInt x.p y.p]), .eq (vi (orL [Lib.compareInt x.l y.l, Lib.compareInt x.r y.r, Lib.compareInt x.p y.p]))] [21] kQ rfl kQ kQ kQ kQ kQ kQ kQ ⟨PhD.eq _, PhD.eq _, PhD.eq _, PhD.eq _, PhD.eq _, PhD.eq _, PhD.eq _, PhD.eq _, PhD.eq _, PhD.eq _, PhD.eq _, PhD.eq _, PhD.eq _, PhD.eq _, PhD.eq _, PhD.pred fun _ _ _ h u => Sl.up h u, PhD.eq _, trivial⟩ ?_ ?_
 ·intro W hD0
  have hU := ((Dr.drew w2).trans hD0).up
  refine aC ⟨rfl, TD.p (PEv.fA 0 underlying43 rfl sizeOf3 rfl) rfl⟩ ?_
  refine aC ⟨rfl, TD.p (PEv.ld isAgg3 rfl ((hB2.up hU).celln rfl)) rfl⟩ ?_
  refine aC ⟨rfl, TD.p (PEv.fA 0 underlying43 rfl sizeOf3 rfl) rfl⟩ ?_
  refine aC ⟨rfl, TD.p (PEv.ld isAgg3 rfl ((hB3.up hU).celln rfl)) rfl⟩ ?_
  refine aC ⟨rfl, TD.c (eC (.u rfl rfl) (en50)) (cmpC_any x.l y.l _) (by rintro _ W1 ⟨rfl, rfl⟩; exact ⟨Dr.refl _, rfl⟩)⟩ ?_
  refine aC ⟨rfl, TD.p (PEv.fA 1 underlying43 rfl sizeOf3 rfl) rfl⟩ ?_
  refine aC ⟨rfl, TD.p (PEv.ld isAgg3 rfl ((hB2.up hU).celln rfl)) rfl⟩ ?_
  refine aC ⟨rfl, TD.p (PEv.fA 1 underlying43 rfl sizeOf3 rfl) rfl⟩ ?_
  refine aC ⟨rfl, TD.p (PEv.ld isAgg3 rfl ((hB3.up hU).celln rfl)) rfl⟩ ?_
  refine aC ⟨rfl, TD.c (eC (.u rfl rfl) (en50)) (cmpC_any x.r y.r _) (by rintro _ W1 ⟨rfl, rfl⟩; exact ⟨Dr.refl _, rfl⟩)⟩ ?_
  refine aC ⟨rfl, TD.p (PEv.fA 2 underlying43 rfl sizeOf3 rfl) rfl⟩ ?_
  refine aC ⟨rfl, TD.p (PEv.ld isAgg3 rfl ((hB2.up hU).celln rfl)) rfl⟩ ?_
  refine aC ⟨rfl, TD.p (PEv.fA 2 underlying43 rfl sizeOf3 rfl) rfl⟩ ?_
  refine aC ⟨rfl, TD.p (PEv.ld isAgg3 rfl ((hB3.up hU).celln rfl)) rfl⟩ ?_
  refine aC ⟨rfl, TD.c (eC (.u rfl rfl) (en50)) (cmpC_any x.p y.p _) (by rintro _ W1 ⟨rfl, rfl⟩; exact ⟨Dr.refl _, rfl⟩)⟩ ?_
  refine aC ⟨rfl, TD.r (REv.buildSliceD (xs := [Lib.compareInt x.l y.l, Lib.compareInt x.r y.r, Lib.compareInt x.p y.p]) (enc := eInt) (mk := vi) underlying102 sizeOf3 zeroValue3 rfl cQ (fun _ => rfl) (fun _ => rfl) (.cons (.t rfl) (.cons (.t rfl) (.cons (.t rfl) .nil))) rfl) (by rintro _ W1 ⟨h, e⟩; exact ⟨Dr.same h.q.1 e, h.q.2⟩)⟩ ?_
  refine aC ⟨rfl, TD.open (d := 20) rfl (by rintro _ ⟨ad, cp, rfl, hE⟩; exact TD.c (eC (.o rfl) (en49)) (or_any ad cp [Lib.compareInt x.l y.l, Lib.compareInt x.r y.r, Lib.compareInt x.p y.p] _ hE (Nat.le_of_ble_eq_true rfl)) (by rintro _ W1 ⟨rfl, rfl⟩; exact ⟨Dr.refl _, rfl⟩))⟩ ?_
  exact allL.nil
 intro w3 g hD0 hg
 have hD := (Dr.drew w2).trans hD0
 have e4 : g 21 = vi (orL [Lib.compareInt x.l y.l, Lib.compareInt x.r y.r, Lib.compareInt x.p y.p]) := hg 16 _ 21 cQ rfl rfl
 change LW _ _ _ _ _ _ _ _ ((21, .eq (g 21)) :: _) _
 rw [e4]
 replace hD := hDw.trans hD
 refine LW.A rfl (LW.T (CW.ret ?_))
 refine KW.ret1 rfl rfl ⟨_, rfl, ?_⟩
 exact ⟨congrArg vi (orW x y), hD⟩
theorem sortW_any (v : Go.Value) (l : List Wd) (w : World) (h : OwnS w 0 43 3 Wd.cells v l) (hlen : l.length < 4611686018427387904) : Ret Try.prog 27 #[v, .func (.func 28) #[] #[]] w fun r w' => r = .tuple #[] ∧ Stp (aOwn 43 3 Wd.cells v l) (aOwn 43 3 Wd.cells v (l.mergeSort fun x y => !(Go.Proofs.ltOf cmpW) y x)) w w' := by
 have hc := h
 obtain ⟨h1, ⟨rfl, hn⟩ | ⟨g, cap, cur, rfl, _, hb, _⟩⟩ := h
 · have hks : l = [] := List.eq_nil_of_length_eq_zero hn
   subst hks
   refine Calls.mono (AnyF.slices_SortFunc_none Try.sortW none 0 _ w) ?_
   rintro e' w' ⟨rfl, rfl⟩
   refine ⟨_, rfl, rfl, ?_⟩
   rw [List.mergeSort_nil]
   exact Stp.refl hc
 have hcmp : CmpLays Try.prog 28 #[] (fun x : Wd => x.cells.toList) 3 cmpW g 0 l.toArray.size w := fun m os dk _ x y => by
   refine Calls.mono (compare_any x y _) ?_
   rintro e' w' ⟨v, rfl, rfl, hD⟩
   exact ⟨rfl, hD.grow⟩
 have hK := holdsK_own (enc := Wd.cells) (k := 3) (fun _ => rfl) hc
 refine Calls.mono (AnyQ.slices_SortFunc_total Try.sortW 3 isAgg43 sizeOf43 (fun x : Wd => x.cells.toList) (fun _ => rfl) (fun x v hv => by simp [Wd.cells] at hv; rcases hv with rfl | rfl | rfl <;> rfl) cmpW swoW 28 #[] g 0 cap l.toArray w en28 hcmp hK (lt_of_block hb) (by simpa using hlen) totW) ?_
 rintro e' w' ⟨rfl, n, os, rfl⟩
 refine ⟨_, rfl, rfl, ?_⟩
 have h2 := stp_sort (enc := Wd.cells) (k := 3) (n := n) (os := os) (ts := (l.mergeSort fun x y => !(Go.Proofs.ltOf cmpW) y x)) (fun _ => rfl) (by rw [List.length_mergeSort]) hc
 simpa using h2
end Go.Proofs.Ytpofdidofjlkhaa
end
section
namespace Go.Wx
open Go.RowKit
theorem OwnS.elB {α : Type} {enc : α → Array Value} {b k n cp : Nat} {e : TypeId} {w : World} {ad : Option Addr} {xs : List α} (h : OwnS w b e k enc (.slice ad n cp) xs) (hk : ∀ x, (enc x).size = k) : Els w ad k enc xs := by
 obtain ⟨ad', c, e1, hE⟩ := h.sl hk
 cases e1
 exact hE
theorem OwnS.adr {α : Type} {enc : α → Array Value} {b k n cp : Nat} {e : TypeId} {w : World} {ad : Option Addr} {xs : List α} (h : OwnS w b e k enc (.slice ad n cp) xs) (hne : 0 < xs.length) : ∃ g, ad = some ⟨g, 0, none⟩ := by
 obtain ⟨_, ⟨e1, e2⟩ | ⟨g, cap, cur, e1, _⟩⟩ := h
 · omega
 cases e1; exact ⟨g, rfl⟩
end Go.Wx
end
section
namespace Go.Wx
theorem flat_size {α : Type} {enc : α → Array Go.Value} {k : Nat} (hk : ∀ x, (enc x).size = k) : ∀ xs : List α, (xs.flatMap fun x => (enc x).toList).length = xs.length * k
 | [] => by simp
 | x :: xs => by rw [List.flatMap_cons, List.length_append, flat_size hk xs, Array.length_toList, hk, List.length_cons, Nat.add_mul]; omega
theorem flat_take {α : Type} {enc : α → Array Go.Value} {k i : Nat} (hk : ∀ x, (enc x).size = k) {xs : List α} (hi : i ≤ xs.length) : (xs.flatMap fun x => (enc x).toList).take (i * k) = (xs.take i).flatMap fun x => (enc x).toList := by
 have e : xs = xs.take i ++ xs.drop i := (List.take_append_drop i xs).symm
 have hl : ((xs.take i).flatMap fun x => (enc x).toList).length = i * k := by rw [flat_size hk, List.length_take, Nat.min_eq_left hi]
 rw [show (xs.flatMap fun x => (enc x).toList) = ((xs.take i).flatMap fun x => (enc x).toList) ++ ((xs.drop i).flatMap fun x => (enc x).toList) by rw [← List.flatMap_append, List.take_append_drop], ← hl, List.take_left']
 rfl
section
variable {P : Program} {n : Nat} {ds : List Deferred} {l : Env} {w : World} {d : Option Tmp} {ty : TypeId} {ps : String} {af : Array Edge} {g : Option (Nat × Bool)}
theorem REv.clearTail {α : Type} {enc : α → Array Go.Value} {T e : TypeId} {k i cp : Nat} {x : Operand} {z : Go.Value} {ad : Option Addr} {xs : List α} (hT : P.underlying T = some (.slice e)) (hz : ∀ w, (zeroValue e).run P w = .ok z w) (hzs : z.cells.size = k) (h1 : z.cells.all (·.oneCell') = true) (hk : ∀ x, (enc x).size = k)
   (hx : Val l x (.slice (if cp = i then ad else ad.map (·.add (i * k))) (xs.length - i) (cp - i))) (hi : i ≤ xs.length) (ho : OwnS w 0 e k enc (.slice ad xs.length cp) xs) :
   REv P n ds l w ⟨d, .call { callee := .builtin .clear, args := #[x], argTypes := #[T] }, ty, ps, af, g⟩ (fun _ w' => Stp (aOwn e k enc (.slice ad xs.length cp) xs) (aOwn e k enc (.slice ad i cp) (xs.take i)) w w') := fun a ha => by
 by_cases h0 : xs.length - i = 0
 · have hie : i = xs.length := by omega
   subst hie
   refine ⟨.tuple #[], w, ?_, Fr.refl _ _, (show OwnS w 0 e k enc (.slice ad xs.length cp) (xs.take xs.length) by rw [List.take_length]; exact ho), fun i h => .inl h⟩
   have hx' := ha.ev hx
   rw [h0] at hx'
   simp only [execOp, resolve, invoke, builtin, Builtin.clear_]
   split at hx' <;> (try cases ad) <;> simp [hx', run_underlying hT, Result.andThen]
 obtain ⟨hlen, ⟨he, hn⟩ | ⟨g', cap', cur, he, _, hg, hcap, hcm, hcs, htake⟩⟩ := ho
 · exact absurd hn oQ
 cases he
 rw [if_neg (show ¬ cp = i by omega)] at hx
 have hzc : (Builtin.zeroCells z.cells (xs.length - i)).size = (xs.length - i) * k := by rw [← hzs]; simp [Builtin.zeroCells]
 have hle : xs.length * k ≤ cur.size := by rw [hcs]; exact Nat.mul_le_mul_right k hcap
 have hsum : i * k + (xs.length - i) * k = xs.length * k := by rw [← Nat.add_mul]; congr 1; omega
 have hst := run_storeCells_at P g' (i * k) e (Builtin.zeroCells z.cells (xs.length - i)).toList 0 cur w hg (by rw [Array.length_toList, hzc]; omega) (fun u hu => by
   simp only [Builtin.zeroCells, Array.toList_map, List.mem_map] at hu
   obtain ⟨i, _, rfl⟩ := hu
   by_cases hk : z.cells.size = 0
   · have : z.cells = #[] := Array.eq_empty_of_size_eq_zero hk
     simp [this] at *
   have hlt : i % z.cells.size < z.cells.size := Nat.mod_lt _ oQ
   rw [getElem!_pos z.cells _ hlt]
   exact Array.all_eq_true_iff_forall_mem.1 h1 _ (Array.getElem_mem hlt))
 refine ⟨.tuple #[], w.setRow g' (cur.toList.take (i * k + 0) ++ (Builtin.zeroCells z.cells (xs.length - i)).toList ++ cur.toList.drop (i * k + 0 + (Builtin.zeroCells z.cells (xs.length - i)).toList.length)).toArray, ?_, ⟨rfl, rfl, rfl, by simp, fun i hi hne => setRow_other w g' i _ (fun e => hne (by rw [e]; rfl))⟩, ?_, fun i h => .inl h⟩
 · obtain ⟨m, hm⟩ : ∃ m, xs.length - i = m + 1 := ⟨xs.length - i - 1, by omega⟩
   rw [hm] at hst hx ⊢
   have ead : (⟨g', 0, none⟩ : Addr).add (i * k) = ⟨g', i * k, none⟩ := by
     unfold Addr.add
     by_cases h : i * k = 0 <;> simp [h]
   simp only [Option.map_some] at hx
   rw [ead] at hx
   simp [execOp, resolve, invoke, builtin, ha.ev hx, Builtin.clear_, run_underlying hT, Result.andThen, hz]
   rw [hst]
   simp
 show OwnS _ 0 e k enc (.slice (some ⟨g', 0, none⟩) i cp) (xs.take i)
 have hf := flat_take hk hi
 refine ⟨by rw [flat_size hk, List.length_take, Nat.min_eq_left hi], .inr ⟨g', cp, _, by rw [List.length_take, Nat.min_eq_left hi], Nat.zero_le _, setRow_heap w g' cur _ e (0, 0) hg, by rw [List.length_take]; omega, hcm, ?_, ?_⟩⟩
 · simp only [List.size_toArray, List.length_append, List.length_take, List.length_drop, Array.length_toList, hzc]
   omega
 rw [List.length_take, Nat.min_eq_left hi, ← hf, ← htake]
 simp only [Nat.add_zero, List.append_assoc]
 rw [List.take_append_of_le_length (by rw [List.length_take, Array.length_toList]; omega), List.take_take, List.take_take]
 congr 1
 omega
end
theorem cptF_one (l : List Wd) (h : l.length < 2) : cptF l = l := by
 match l, h with
 | [], _ => rfl
 | [a], _ => rfl
 | _ :: _ :: _, h => simp only [List.length_cons] at h; omega
theorem cptF_take1 (l : List Wd) : cptF (l.take 1) = l.take 1 := cptF_one _ (by rw [List.length_take]; omega)
theorem take_last {l : List Wd} {k : Nat} {y : Wd} (hk : 0 < k) (hy : l[k - 1]? = some y) : (l.take k).getLast? = some y := by
 have hl := (List.getElem?_eq_some_iff.1 hy).1
 rw [List.getLast?_eq_getElem?, List.length_take, show min k l.length - 1 = k - 1 by omega, List.getElem?_take_of_lt oQ, hy]
theorem cptF_yes {l : List Wd} {k : Nat} {x y : Wd} (hk : 0 < k) (hx : l[k]? = some x) (hy : l[k - 1]? = some y) (hn : ¬ x = y) : cptF (l.take (k + 1)) = cptF (l.take k) ++ [x] := by
 rw [List.take_add_one, hx, Option.toList_some, cptF_snoc, cptF_last, take_last hk hy, if_neg]
 intro e
 cases e
 exact hn rfl
theorem cptF_no {l : List Wd} {k : Nat} {x y : Wd} (hk : 0 < k) (hx : l[k]? = some x) (hy : l[k - 1]? = some y) (hn : x = y) : cptF (l.take (k + 1)) = cptF (l.take k) := by
 rw [List.take_add_one, hx, Option.toList_some, cptF_snoc, cptF_last, take_last hk hy, if_pos (by rw [hn])]
theorem cptF_next {l : List Wd} {k : Nat} {x y : Wd} (hk : 0 < k) (h : cptF (l.take k) = l.take k) (hx : l[k]? = some x) (hy : l[k - 1]? = some y) (hn : ¬ x = y) : cptF (l.take (k + 1)) = l.take (k + 1) := by
 rw [cptF_yes hk hx hy hn, h, List.take_add_one, hx]
 rfl
structure CptX (l M : List Wd) (j i : Nat) : Prop where
 len : M.length = l.length
 lt : i < j
 kept : M.take i = cptF (l.take j)
 rest : ∀ q, i ≤ q → M[q]? = l[q]?
theorem CptX.start {l : List Wd} {k : Nat} {x y : Wd} (hk : 0 < k) (h : cptF (l.take k) = l.take k) (hx : l[k]? = some x) (hy : l[k - 1]? = some y) (hn : x = y) : CptX l l (k + 1) k :=
 ⟨rfl, Nat.lt_succ_self k, by rw [cptF_no hk hx hy hn, h], fun _ _ => rfl⟩
theorem CptX.yes {l M : List Wd} {j i : Nat} {x y : Wd} (h : CptX l M j i) (hx : l[j]? = some x) (hy : l[j - 1]? = some y) (hn : ¬ x = y) : CptX l (M.set i x) (j + 1) (i + 1) := by
 have hlt := h.lt
 have hj := (List.getElem?_eq_some_iff.1 hx).1
 have hl := h.len
 refine ⟨by rw [List.length_set, hl], by omega, ?_, fun q hq => ?_⟩
 · rw [cptF_yes oQ hx hy hn, ← h.kept, List.take_add_one, List.getElem?_set_self oQ, List.take_set_of_le (Nat.le_refl i)]
   rfl
 rw [List.getElem?_set_ne (by omega)]
 exact h.rest q oQ
theorem CptX.no {l M : List Wd} {j i : Nat} {x y : Wd} (h : CptX l M j i) (hx : l[j]? = some x) (hy : l[j - 1]? = some y) (hn : x = y) : CptX l M (j + 1) i := by
 have hlt := h.lt
 exact ⟨h.len, by omega, by rw [cptF_no oQ hx hy hn]; exact h.kept, h.rest⟩
theorem CptX.done {l M : List Wd} {j i : Nat} (h : CptX l M j i) (hj : l.length ≤ j) : M.take i = cptF l := by
 rw [h.kept, List.take_of_length_le hj]
end Go.Wx
namespace Go.Proofs.Ytpofdidofjlkhaa
open Go.Proofs.Try
open Go.Wx Go.RowKit
theorem compactW_any (ad : Option Addr) (cp : Nat) (l : List Wd) (w : World) (ho : OwnS w 0 43 3 Wd.cells (.slice ad l.length cp) l) (hl : l.length ≤ 1000000000) : Ret Try.prog 29 #[.slice ad l.length cp] w fun r w' => Stp (aOwn 43 3 Wd.cells (.slice ad l.length cp) (l)) (aOwn 43 3 Wd.cells (r) (cptF l)) w w' := by
 obtain ⟨w0, rfl⟩ : ∃ w0, w0 = w := ⟨_, rfl⟩
 have hS : Wx.Sep (aOwn 43 3 Wd.cells (.slice ad l.length cp) (l)).foot w0 w0 [aOwn 43 3 Wd.cells (.slice ad l.length cp) (l)] := Sep.cons ho (fun _ h => h) (Sep.start _ _) (by simp)
 refine cS (n := 61) (m := 9) func29 rfl rfl rfl ?_
 refine CW.S (LW.C (LW.S (CW.S (LW.M rfl ?_))))
 refine LW.pp (.lenS underlying38 (.t rfl)) ?_
 refine LW.pp (.lss (.t rfl) (.const _)) ?_
 refine LW.T ?_
 refine CW.cond (.t rfl) (fun h8 => ?_) (fun h8 => ?_)
 ·replace h8 := dQ h8
  have hc1 := cptF_one l oQ
  refine CW.S (LW.M rfl (LW.A rfl (LW.T (CW.ret (KW.then_ret ?_)))))
  refine KW.ret1 rfl rfl ⟨_, rfl, ?_⟩
  first | exact ⟨hS.fr, by rw [hc1]; exact hS.get 0 rfl, fun _ h => .inl h⟩ | exact ⟨hS.fr, by rw [← hD.done (by omega)]; exact hS.get 0 rfl, fun _ h => .inl h⟩ | exact ⟨hS.fr, by rw [show k = l.length by omega, List.take_length] at hn; rw [hn]; exact hS.get 0 rfl, fun _ h => .inl h⟩
 replace h8 := dQ h8
 obtain ⟨g, rfl⟩ := OwnS.adr (hS.own 0 rfl) oQ
 have hcp := (OwnS.cap (hS.own 0 rfl)).1
 refine CW.skip (KW.then (CW.seq (CW.S (LW.C (LW.T (CW.block ?_))))))
 refine CW.loopB (σ := Nat) (fun s w => (0 < s) ∧ (s ≤ l.length) ∧ (cptF (l.take s) = l.take s) ∧ (Wx.Sep (aOwn 43 3 Wd.cells (.slice (some ⟨g, 0, none⟩) l.length cp) (l)).foot w0 w [aOwn 43 3 Wd.cells (.slice (some ⟨g, 0, none⟩) l.length cp) (l)])) (fun s => [(3, .eq (vi (s : Int)))]) ([(0, .eq _)]) (fun s => l.length - s) 1 ?_ ⟨rfl, rfl, trivial⟩ ?_
 ·exact ⟨Nat.one_pos, by omega, cptF_take1 l, hS⟩
 rintro k w1 ⟨hk1, hkl, hn, hS⟩
 refine CW.seq (CW.S (LW.M rfl (LW.M rfl ?_)))
 refine LW.pp (.lenS underlying38 (.t rfl)) ?_
 refine LW.pp (.lss (.t rfl) (.t rfl)) ?_
 refine LW.T ?_
 refine CW.cond (.t rfl) (fun h13 => ?_) (fun h13 => ?_)
 ·replace h13 := dQ h13
  refine CW.skip (KW.then (CW.seq (CW.block (CW.seq ?_))))
  obtain ⟨x, hx⟩ : ∃ x, l[k]? = some x := ⟨_, List.getElem?_eq_getElem oQ⟩
  obtain ⟨y, hy⟩ : ∃ y, l[k - 1]? = some y := ⟨_, List.getElem?_eq_getElem oQ⟩
  obtain ⟨Bx, ox, ax, hcx⟩ := (OwnS.elB (hS.own 0 rfl) (fun _ => rfl)) k x hx
  cases ax
  obtain ⟨By, oy, ay, hcy⟩ := (OwnS.elB (hS.own 0 rfl) (fun _ => rfl)) (k - 1) y hy
  cases ay
  refine CW.draws kQ kQ rfl rfl ?_
  refine HW.pp (.move (.t rfl)) ?_
  refine HW.pp (.move (.t rfl)) ?_
  refine HW.pp (.indexAddr' underlying38 sizeOf43 (j := k) (.t rfl) (.t rfl) oQ rfl) ?_
  refine HW.pp (.la isAgg43 sizeOf43 rfl (hcx)) ?_
  refine HW.pp (.move (.t rfl)) ?_
  refine HW.pp (.move (.t rfl)) ?_
  refine HW.pp (.as (v' := vi ((k - 1 : Nat) : Int)) (PEv.sub (.t rfl) (.const _) oQ oQ) (congrArg vi oQ)) ?_
  refine HW.pp (.indexAddr' underlying38 sizeOf43 (j := (k - 1)) (.t rfl) (.t rfl) oQ rfl) ?_
  refine HW.pp (.la isAgg43 sizeOf43 rfl (hcy)) ?_
  refine HW.pp (.eqlA eqGuardType43 (Try.eqWd _ _) (.t rfl) (.t rfl)) ?_
  refine HW.nil ?_
  intro w2 uw2
  have zw2 := uw2.size
  replace hS := hS.up uw2
  refine KW.then ?_
  refine CW.cond (.t rfl) (fun h25 => ?_) (fun h25 => ?_)
  ·replace h25 := dQ h25
   have hxy : x = y := by simpa using h25
   have hD0 := CptX.start hk1 hn hx hy hxy
   refine CW.S (LW.M rfl (LW.M rfl ?_))
   refine LW.pp (.as (v' := .slice (some ⟨g, 0 + k * 3, none⟩) (l.length - k) (cp - k)) (PEv.sliceFrom underlying38 sizeOf43 (.t rfl) (.t rfl) oQ) (by rw [if_neg oQ, Option.map_some, add_none])) ?_
   refine LW.A rfl (LW.S (CW.S (LW.C (LW.T (CW.block ?_)))))
   refine CW.loopB (σ := Nat × Nat × List Wd) (fun s w => (1 ≤ s.1) ∧ (k + s.1 ≤ l.length) ∧ (CptX l s.2.2 (k + s.1) s.2.1) ∧ (Wx.Sep (aOwn 43 3 Wd.cells (.slice (some ⟨g, 0, none⟩) l.length cp) (l)).foot w0 w [aOwn 43 3 Wd.cells (.slice (some ⟨g, 0, none⟩) l.length cp) (s.2.2)])) (fun s => [(5, .eq (vi (s.1 : Int))), (3, .eq (vi (s.2.1 : Int)))]) ([(0, .eq _), (4, .eq _)]) (fun s => l.length - s.1) (1, k, l) ?_ ⟨rfl, rfl, rfl, rfl, trivial⟩ ?_
   ·exact ⟨Nat.le_refl 1, by show k + 1 ≤ _; omega, hD0, hS⟩
   rintro ⟨m, i, M⟩ w3 ⟨hm1, hml, hD, hS⟩
   dsimp only at hm1 hml hD hS
   change CW _ _ _ _ _ _ _ ([(5, .eq (vi (m : Int))), (3, .eq (vi (i : Int)))] ++ _) _
   refine CW.seq (CW.S (LW.M rfl (LW.M rfl ?_)))
   refine LW.pp (.lenS underlying38 (.t rfl)) ?_
   refine LW.pp (.lss (.t rfl) (.t rfl)) ?_
   refine LW.T ?_
   refine CW.cond (.t rfl) (fun h32 => ?_) (fun h32 => ?_)
   ·replace h32 := dQ h32
    refine CW.skip (KW.then (CW.seq (CW.block (CW.seq ?_))))
    obtain ⟨x, hx⟩ : ∃ x, l[(k + m)]? = some x := ⟨_, List.getElem?_eq_getElem oQ⟩
    obtain ⟨y, hy⟩ : ∃ y, l[(k + m) - 1]? = some y := ⟨_, List.getElem?_eq_getElem oQ⟩
    have hDl := hD.len
    have hDt := hD.lt
    obtain ⟨Bx, ox, ax, hcx⟩ := (OwnS.elB (hS.own 0 rfl) (fun _ => rfl)) (k + m) x ((hD.rest _ oQ).trans hx)
    cases ax
    obtain ⟨By, oy, ay, hcy⟩ := (OwnS.elB (hS.own 0 rfl) (fun _ => rfl)) (k + m - 1) y ((hD.rest _ oQ).trans hy)
    cases ay
    replace hcx : AggAt w3 g (0 + k * 3 + m * 3) x.cells := by rw [show 0 + k * 3 + m * 3 = 0 + (k + m) * 3 by omega]; exact hcx
    replace hcy : AggAt w3 g (0 + k * 3 + (m - 1) * 3) y.cells := by rw [show 0 + k * 3 + (m - 1) * 3 = 0 + (k + m - 1) * 3 by omega]; exact hcy
    refine CW.draws kQ kQ rfl rfl ?_
    refine HW.pp (.move (.t rfl)) ?_
    refine HW.pp (.move (.t rfl)) ?_
    refine HW.pp (.indexAddr' underlying38 sizeOf43 (j := m) (.t rfl) (.t rfl) oQ rfl) ?_
    refine HW.pp (.la isAgg43 sizeOf43 rfl (hcx)) ?_
    refine HW.pp (.move (.t rfl)) ?_
    refine HW.pp (.move (.t rfl)) ?_
    refine HW.pp (.as (v' := vi ((m - 1 : Nat) : Int)) (PEv.sub (.t rfl) (.const _) oQ oQ) (congrArg vi oQ)) ?_
    refine HW.pp (.indexAddr' underlying38 sizeOf43 (j := (m - 1)) (.t rfl) (.t rfl) oQ rfl) ?_
    refine HW.pp (.la isAgg43 sizeOf43 rfl (hcy)) ?_
    refine HW.pp (.neqA eqGuardType43 (Try.eqWd _ _) (.t rfl) (.t rfl)) ?_
    refine HW.nil ?_
    intro w4 uw4
    have zw4 := uw4.size
    replace hS := hS.up uw4
    replace hcx := hcx.up uw4
    refine KW.then ?_
    refine CW.cond (.t rfl) (fun h44 => ?_) (fun h44 => ?_)
    ·replace h44 := dQ h44
     have hxy : ¬ x = y := by simpa using h44
     refine CW.S (LW.M rfl (LW.M rfl (LW.M rfl (LW.M rfl ?_))))
     refine LW.pp (.indexAddr' underlying38 sizeOf43 (j := m) (.t rfl) (.t rfl) oQ rfl) ?_
     refine LW.pp (.la isAgg43 sizeOf43 rfl (hcx)) ?_
     refine LW.pp (.indexAddr' underlying38 sizeOf43 (j := i) (.t rfl) (.t rfl) oQ rfl) ?_
     refine LW.E (.storeOwnA (enc := Wd.cells) (k := 3) (z := x) (i := i) sizeOf43 (fun _ => rfl) Wd.one (.t rfl) (.t rfl) (hS.own 0 rfl) (by have := hD.lt; omega)) ?_
     intro w5 Gw5
     have zw5 := Gw5.fr.size
     replace hS := hS.stp 0 rfl Gw5
     change Wx.Sep _ _ _ [_] at hS
     refine LW.T (CW.region (LW.M rfl ?_))
     refine LW.pp (.inc (.t rfl) oQ) ?_
     refine LW.A rfl (LW.nil (KW.inBlock (KW.then (CW.region (LW.M rfl ?_)))))
     refine LW.pp (.inc (.t rfl) oQ) ?_
     refine LW.A rfl (LW.nil (KW.round ?_))
     first | exact ⟨(m + 1, i + 1, M.set i x), ⟨by show 1 ≤ m + 1; omega, by show k + (m + 1) ≤ _; omega, by show CptX l (M.set i x) (k + (m + 1)) (i + 1); rw [← Nat.add_assoc]; exact hD.yes hx hy hxy, hS⟩, ⟨rfl, rfl, rfl, rfl, trivial⟩, by show l.length - (m + 1) < l.length - m; omega⟩ | exact ⟨(m + 1, i, M), ⟨by show 1 ≤ m + 1; omega, by show k + (m + 1) ≤ _; omega, by show CptX l M (k + (m + 1)) i; rw [← Nat.add_assoc]; exact hD.no hx hy hxy, hS⟩, ⟨rfl, rfl, rfl, rfl, trivial⟩, by show l.length - (m + 1) < l.length - m; omega⟩
    replace h44 := dQ h44
    have hxy : x = y := by simpa using h44
    refine CW.skip (KW.inBlock (KW.then (CW.region (LW.M rfl ?_))))
    refine LW.pp (.inc (.t rfl) oQ) ?_
    refine LW.A rfl (LW.nil (KW.round ?_))
    first | exact ⟨(m + 1, i + 1, M.set i x), ⟨by show 1 ≤ m + 1; omega, by show k + (m + 1) ≤ _; omega, by show CptX l (M.set i x) (k + (m + 1)) (i + 1); rw [← Nat.add_assoc]; exact hD.yes hx hy hxy, hS⟩, ⟨rfl, rfl, rfl, rfl, trivial⟩, by show l.length - (m + 1) < l.length - m; omega⟩ | exact ⟨(m + 1, i, M), ⟨by show 1 ≤ m + 1; omega, by show k + (m + 1) ≤ _; omega, by show CptX l M (k + (m + 1)) i; rw [← Nat.add_assoc]; exact hD.no hx hy hxy, hS⟩, ⟨rfl, rfl, rfl, rfl, trivial⟩, by show l.length - (m + 1) < l.length - m; omega⟩
   replace h32 := dQ h32
   have hDl := hD.len
   have hDt := hD.lt
   refine CW.exit (KW.then_exit (KW.then_exit (KW.block_hit (KW.then (CW.S (LW.M rfl (LW.M rfl ?_)))))))
   refine LW.pp (.sliceFrom underlying38 sizeOf43 (.t rfl) (.t rfl) oQ) ?_
   refine LW.rn (REv.clearTail (enc := Wd.cells) (k := 3) underlying38 zeroValue43 rfl (by simp [Value.cells, Value.oneCell']) (fun _ => rfl) (xs := M) (i := i) (by rw [hD.len]; exact .tmp rfl) (by have := hD.len; have := hD.lt; omega) (by rw [hD.len]; exact hS.own 0 rfl)) rfl rfl rfl ?_
   intro v_ w6 Gw6
   rw [hD.len] at Gw6
   have zw6 := Gw6.fr.size
   replace hS := hS.stp 0 rfl Gw6
   change Wx.Sep _ _ _ [_] at hS
   refine LW.S (CW.region (LW.M rfl (LW.M rfl ?_)))
   refine LW.pp (.sliceHi underlying38 sizeOf43 (.t rfl) (.t rfl) oQ) ?_
   refine LW.A rfl (LW.T (CW.ret (KW.block_ret (KW.then_ret (KW.then_ret (KW.block_ret (KW.then_ret ?_)))))))
   refine KW.ret1 rfl rfl ⟨_, rfl, ?_⟩
   first | exact ⟨hS.fr, by rw [hc1]; exact hS.get 0 rfl, fun _ h => .inl h⟩ | exact ⟨hS.fr, by rw [← hD.done (by omega)]; exact hS.get 0 rfl, fun _ h => .inl h⟩ | exact ⟨hS.fr, by rw [show k = l.length by omega, List.take_length] at hn; rw [hn]; exact hS.get 0 rfl, fun _ h => .inl h⟩
  replace h25 := dQ h25
  have hxy : ¬ x = y := by simpa using h25
  refine CW.skip (KW.inBlock (KW.then (CW.region (LW.M rfl ?_))))
  refine LW.pp (.inc (.t rfl) oQ) ?_
  refine LW.A rfl (LW.nil (KW.round ?_))
  exact ⟨k + 1, ⟨Nat.succ_pos k, by omega, cptF_next hk1 hn hx hy hxy, hS⟩, ⟨rfl, rfl, trivial⟩, by first | omega | (dsimp only; omega)⟩
 replace h13 := dQ h13
 refine CW.exit (KW.then_exit (KW.then_exit (KW.block_hit (KW.then (CW.S (LW.M rfl (LW.A rfl (LW.T (CW.ret ?_)))))))))
 refine KW.ret1 rfl rfl ⟨_, rfl, ?_⟩
 first | exact ⟨hS.fr, by rw [hc1]; exact hS.get 0 rfl, fun _ h => .inl h⟩ | exact ⟨hS.fr, by rw [← hD.done (by omega)]; exact hS.get 0 rfl, fun _ h => .inl h⟩ | exact ⟨hS.fr, by rw [show k = l.length by omega, List.take_length] at hn; rw [hn]; exact hS.get 0 rfl, fun _ h => .inl h⟩
end Go.Proofs.Ytpofdidofjlkhaa
end
section
namespace Go.Wx
open Go.Wx.Mk
theorem KW.retAT {P : Program} {n : Nat} {l : Env} {w : World} {fn : Func} {RR : Ending → World → Prop} {t u : Tmp} {T : TypeId} {B k : Nat} {cs : Array Go.Value} {x : Go.Value} (hr : fn.results = #[.cell t T, .tmp u]) (hv : lk l t = some (.eq (.pointer (some ⟨B, 0, none⟩)))) (hu : lk l u = some (.eq x)) (hT : ∀ w, (isAgg T).run P w = .ok true w) (hs : ∀ w, (sizeOf T).run P w = .ok k w) (hk : cs.size = k)
   (hc : AggAt w B 0 cs) (hR : RR (.returned (.tuple #[.agg cs, x])) w) : KW n [] (bodyPost P fn RR .ret) l w := fun a ha =>
 ⟨ha.defers, .tuple #[.agg cs, x], by
   have h1 : a.tmps.getD t undef = .pointer (some ⟨B, 0, none⟩) := ha.val _ _ hv
   have h2 : a.tmps.getD u undef = x := ha.val _ _ hu
   rw [Array.getD_eq_getD_getElem?] at h1 h2
   simp [results, hr, h1, h2, asAddr, run_loadVarA hT hs hk hc], hR⟩
theorem cptF_le (l : List Wd) : (cptF l).length ≤ l.length := by
 refine snoc_ind (p := fun l => (cptF l).length ≤ l.length) (Nat.le_refl _) (fun l x ih => ?_) l
 rw [cptF_snoc, List.length_append]
 split
 · simp only [List.length_singleton]; omega
 rw [List.length_append]; simp only [List.length_singleton]; omega
theorem any_take_no {l : List Wd} {k : Nat} {x : Wd} {p : Wd → Bool} (hx : l[k]? = some x) (hn : ∀ y ∈ l.take k, p y = false) (h : p x = false) : ∀ y ∈ l.take (k + 1), p y = false := fun y hy => by
 rw [List.take_add_one, hx] at hy
 rcases List.mem_append.1 hy with hy | hy
 · exact hn y hy
 rw [List.mem_singleton.1 hy]; exact h
theorem any_yes {l : List Wd} {k : Nat} {x : Wd} {p : Wd → Bool} (hx : l[k]? = some x) (h : p x = true) : l.any p = true := List.any_eq_true.2 ⟨x, List.mem_of_getElem? hx, h⟩
theorem any_no {l : List Wd} {k : Nat} {p : Wd → Bool} (hn : ∀ y ∈ l.take k, p y = false) (hk : l.length ≤ k) : l.any p = false := by
 rw [List.take_of_length_le hk] at hn
 exact List.any_eq_false.2 fun x hx => by rw [hn x hx]; exact Bool.false_ne_true
theorem ws_ne {L : List Sit} {M : List Wd} (h : WsOf (· ∈ L) M) (hL : L ≠ []) : M ≠ [] := fun e => by
 obtain ⟨s, hs⟩ := List.exists_mem_of_ne_nil _ hL
 have := (h.mem s.w).2 ⟨s, hs, rfl⟩
 rw [e] at this
 cases this
end Go.Wx
namespace Go.Proofs.Ytpofdidofjlkhaa
open Go.Proofs.Try
open Go.Wx Go.RowKit
theorem stp_map {D b : Nat} {L : List Sit} {job tool : Int} {w w' : World} (hz : (aBel ⟨D, b, L, job, tool⟩).holds w) (h : Stp (Mk.aIMap sitK b (L.map unS)) (Mk.aIMap sitK b (L.map unS)) w w') : Stp (aBel ⟨D, b, L, job, tool⟩) (aBel ⟨D, b, L, job, tool⟩) w w' :=
 ⟨h.fr.mono (fun i (e : i = b) => .inr e), ⟨(aBlk D (belC b job tool) 59).keep w w' hz.1 (fun i (e : i = D) hi => h.fr.block i hi (fun e2 => hz.2.2 (by have e3 : i = b := e2; rw [← e, ← e3]))) h.fr.size, h.holds, hz.2.2⟩, fun _ h => .inl h⟩
theorem hasB_any (cf : Nat) (lb : Array Go.Value) (p : Sit → Bool) (hen : ∀ args w, (callFunc cf args).run Try.prog w = .ok (.enter cf args) w) (D b : Nat) (L : List Sit) (job tool : Int) (w : World) (hz : (aBel ⟨D, b, L, job, tool⟩).holds w) (hp : ∀ W, Fr (· = b) w W → ∀ s, s ∈ L → Ret Try.prog cf (#[.agg s.cells] ++ lb) W fun r W' => r = .bool (p s) ∧ Up W W') : Ret Try.prog 18 #[.map (some b), .func (.func cf) #[] lb] w fun r w' => r = .bool (L.any p) ∧ Stp (aBel ⟨D, b, L, job, tool⟩) (aBel ⟨D, b, L, job, tool⟩) w w' :=
 Calls.mono (has_any cf lb p hen b L w hz.2.1 hp) fun _ _ ⟨v, h1, h2, h3⟩ => ⟨v, h1, h2, stp_map hz h3⟩
theorem Worlds_any (D b : Nat) (L : List Sit) (job tool : Int) (w : World) (hz : (aBel ⟨D, b, L, job, tool⟩).holds w) (hL : L.length ≤ 1000000) : Ret Try.prog 11 #[.pointer (some ⟨D, 0, none⟩)] w fun r w' => ∃ M, WsOf (· ∈ L) M ∧ M.length ≤ L.length ∧ (aOwn 43 3 Wd.cells r (M)).holds w' ∧ (∀ i, (aOwn 43 3 Wd.cells r (M)).foot i → w.heap.size ≤ i) ∧ Stp (aBel ⟨D, b, L, job, tool⟩) (aBel ⟨D, b, L, job, tool⟩) w w' := by
 obtain ⟨w0, rfl⟩ : ∃ w0, w0 = w := ⟨_, rfl⟩
 have hS := bel_open hz
 refine cS (n := 25) (m := 9) func11 rfl rfl rfl ?_
 refine CW.S (LW.C (LW.S (CW.S (LW.M rfl ?_))))
 refine LW.pp (.fa (PEv.eqlNil underlying24 (.t rfl)) (rfl)) ?_
 refine LW.T ?_
 refine CW.cond_false (.t rfl) ?_
 refine CW.skip (KW.then (CW.S (LW.C (LW.S (CW.S (LW.M rfl ?_))))))
 refine LW.pp (.nilCheck (.t rfl)) ?_
 refine LW.pp (.fA 0 underlying59 rfl sizeOf55 rfl) ?_
 refine LW.pp (.ld isAgg55 rfl ((hS.blk 0 rfl).celln rfl)) ?_
 refine LW.rr (Mk.REv.range (Q := sitK) underlying55 (.t rfl) (hS.get 1 rfl)) rfl ?_
 rintro _ w1 ⟨r11, rfl, hR_, uR, eR, zR⟩
 replace hS := hS.stp 1 rfl (Mk.stp_range hR_ uR eR)
 change Wx.Sep _ _ _ [_, _] at hS
 clear hR_
 refine LW.T (CW.block ?_)
 refine CW.loopB (σ := Go.Value × List Sit) (fun s w => (s.2.Nodup ∧ ∀ k ∈ s.2, k ∈ L) ∧ (Wx.Sep (aBel ⟨D, b, L, job, tool⟩).foot w0 w [aBlk D (belC b job tool) 59, Mk.aIRng sitK b r11 (L.map unS) s.2, aOwn 43 3 Wd.cells s.1 (s.2.map Sit.w)])) (fun s => [(3, .eq (s.1))]) ([(2, .eq _), (11, .eq _)]) (fun s => L.length - s.2.length) (.slice none 0 0, []) ?_ ⟨rfl, rfl, rfl, trivial⟩ ?_
 ·exact ⟨⟨List.nodup_nil, fun _ h => (by cases h)⟩, hS.add (Up.refl _) (A' := aOwn 43 3 Wd.cells (.slice none 0 0) (([] : List Sit).map Sit.w)) (OwnS.nil _ _ _ _ _) (fun i h => by cases h)⟩
 rintro ⟨v, V⟩ w2 ⟨hV, hS⟩
 dsimp only at hV hS
 change CW _ _ _ _ _ _ _ ([(3, .eq (v))] ++ _) _
 refine CW.S ?_
 refine LW.rr (Mk.REv.next (.t rfl) (hS.get 1 rfl)) rfl ?_
 rintro _ w3 (⟨rfl, rfl, hPm⟩ | ⟨k0, u0, rfl, hNx⟩)
 ·skip
  refine LW.pp (.extract (.t rfl) rfl) (LW.S ?_)
  refine CW.cond_false (.t rfl) ?_
  refine CW.exit (KW.then_exit (KW.then_exit (KW.block_hit (KW.then (CW.seq ?_)))))
  have hVL : V.length = L.length := by have := hPm.length_eq; rwa [unS_keys] at this
  have hVm : (V.map Sit.w).length = V.length := List.length_map _
  have hVs : ((V.map Sit.w).mergeSort fun x y => !(Go.Proofs.ltOf cmpW) y x).length = (V.map Sit.w).length := List.length_mergeSort _
  refine CW.region (LW.M rfl ?_)
  refine LW.K (eC (.cons (.t rfl) (.cons (.func _) .nil)) (en27)) rfl (sortW_any v (V.map Sit.w) _ (hS.own 2 rfl) oQ) ?_
  rintro _ w4 ⟨rfl, uw4⟩
  have zw4 := uw4.fr.size
  replace hS := hS.stp 2 rfl uw4
  change Wx.Sep _ _ _ [_, _, _] at hS
  refine LW.S ?_
  obtain ⟨ad, cp, rfl, _⟩ := (hS.own 2 rfl).sl (fun _ => rfl)
  refine CW.region (LW.M rfl ?_)
  refine LW.K (eC (.o rfl) (en29)) rfl (compactW_any ad cp _ _ (hS.own 2 rfl) oQ) ?_
  rintro v24 w5 uw5
  have zw5 := uw5.fr.size
  replace hS := hS.stp 2 rfl uw5
  change Wx.Sep _ _ _ [_, _, _] at hS
  refine LW.A rfl (LW.T (CW.ret ?_))
  refine KW.ret1 rfl rfl ⟨_, rfl, ?_⟩
  have hS2 := hS.stp 1 rfl (Mk.stp_rngEnd (hS.get 1 rfl))
  have hVk := hPm
  rw [unS_keys] at hVk
  exact ⟨_, WsOf.of (fun s => hVk.mem_iff), Nat.le_trans (cptF_le _) oQ, hS2.get 2 rfl, fun i hi => (hS2.foot 2 rfl i hi).elim (fun h => h.elim (fun e => absurd hi (hS2.ne (i := 0) (j := 2) cQ rfl rfl i e)) (fun e => absurd hi (hS2.ne (i := 1) (j := 2) cQ rfl rfl i e))) id, stp_bel hS2.fr (hS2.blk 0 rfl) (hS2.get 1 rfl) hz.2.2 (.inl rfl)⟩
 skip
 have zw3 := hNx.size
 replace hS := hS.stp 1 rfl (Mk.stp_next hNx)
 change Wx.Sep _ _ _ [_, _, _] at hS
 obtain ⟨hk0, hu0⟩ := unS_mem hNx.mem
 subst hu0
 have hf0 := hNx.fresh
 have hV2 : (V ++ [k0]).Nodup ∧ ∀ k ∈ V ++ [k0], k ∈ L := ⟨List.nodup_append.2 ⟨hV.1, by simp, fun a ha c hc => by simp at hc; subst hc; exact fun e => hf0 (e ▸ ha)⟩, fun k hk => (List.mem_append.1 hk).elim (hV.2 k) (fun h => by cases List.mem_singleton.1 h; exact hk0)⟩
 have hVl := hV2.1.length_le_of_subset hV2.2
 rw [List.length_append, List.length_singleton] at hVl
 have hVm : (V.map Sit.w).length = V.length := List.length_map _
 refine LW.pp (.extract (.t rfl) rfl) (LW.S ?_)
 refine CW.cond_true (.t rfl) ?_
 refine CW.skip (KW.then (CW.block (CW.S ?_)))
 refine LW.rr (.entry (.t rfl) hNx.entry) rfl ?_
 rintro _ _ ⟨rfl, rfl⟩
 refine LW.pp (.extract (.t rfl) rfl) ?_
 refine LW.rr (.allocA zeroValue51) rfl ?_
 rintro _ w6 ⟨B4, rfl, MB4⟩
 refine LW.E (.storeA sizeOf51 rfl (.t rfl) (.t rfl) (Sit.one _) MB4.blk rfl) ?_
 intro w7 LB4
 have NB4 := MB4.set LB4
 clear LB4 MB4
 have eB4 := NB4.at_
 have zB4 := NB4.size
 replace hS := hS.addB NB4
 change Wx.Sep _ _ _ [_, _, _, _] at hS
 refine LW.T (CW.region (LW.M rfl ?_))
 refine LW.pp (.fA 0 underlying51 rfl sizeOf43 rfl) ?_
 refine LW.pp (.la isAgg43 sizeOf43 rfl ((hS.blk 3 rfl).agg.sitW)) ?_
 refine LW.rr (.buildSlice (xs := [k0.w]) (enc := Wd.cells) (mk := fun x : Wd => .agg x.cells) underlying38 sizeOf43 zeroValue43 rfl cQ (fun _ => rfl) (fun _ => rfl) (.cons (.t rfl) .nil) rfl) rfl ?_
 rintro _ w8 ⟨B19, cB19, rfl, NB19, yB19, xB19⟩
 have eB19 := NB19.at_
 have zB19 := NB19.size
 replace hS := hS.up NB19.up
 have hE19 := xB19
 refine LW.rr (.appendF (enc := Wd.cells) (bytes := 24) (i := Try.t43) underlying38 kQ rfl rfl rfl rfl cQ (fun _ => rfl) Wd.one (.t rfl) (.t rfl) (hS.own 2 rfl) (Sl.of_els hE19) (by simp only [maxLen, List.length_cons, List.length_nil]; omega) (by simp only [List.length_cons, List.length_nil]; omega)) rfl ?_
 intro v20 w9 Gw9
 have zw9 := Gw9.fr.size
 replace hS := hS.stp 2 rfl Gw9
 change Wx.Sep _ _ _ [_, _, _, _] at hS
 refine LW.A rfl (LW.nil (KW.inBlock (KW.round ?_)))
 exact ⟨(v20, V ++ [k0]), ⟨hV2, by rw [List.map_append]; exact hS.take 3⟩, ⟨rfl, rfl, rfl, trivial⟩, by show L.length - (V ++ [k0]).length < L.length - V.length; rw [List.length_append, List.length_singleton]; omega⟩
theorem indexW_any (cf : Nat) (lb : Array Go.Value) (p : Wd → Bool) (hen : ∀ args w, (callFunc cf args).run Try.prog w = .ok (.enter cf args) w) (ad : Option Addr) (cp : Nat) (l : List Wd) (w : World) (hE0 : Els w ad 3 Wd.cells l) (hl : l.length ≤ 1000000000) (hp : ∀ W, Up w W → ∀ x, x ∈ l → Ret Try.prog cf (#[.agg (Wd.cells x)] ++ lb) W fun r W' => r = .bool (p x) ∧ Up W W') : Ret Try.prog 51 #[.slice ad l.length cp, .func (.func cf) #[] lb] w fun r w' => ((∃ k : Nat, r = vi (k : Int) ∧ l.any p = true) ∨ (r = vi (-1) ∧ l.any p = false)) ∧ Up w w' := by
 have hW := Up.refl w
 obtain ⟨w0, rfl⟩ : ∃ w0, w0 = w := ⟨_, rfl⟩
 refine cS (n := 19) (m := 9) func51 rfl rfl rfl ?_
 refine CW.S (LW.C (LW.S (CW.S (LW.M rfl ?_))))
 refine LW.pp (.lenS underlying38 (.t rfl)) ?_
 refine LW.pp (.move (.const _)) ?_
 refine LW.T (CW.block ?_)
 refine CW.loopB (σ := Nat) (fun s w => (s ≤ l.length) ∧ (∀ y ∈ l.take s, p y = false) ∧ (Up w0 w)) (fun s => [(8, .eq (vi (s : Int)))]) ([(0, .eq _), (1, .eq _), (7, .eq _)]) (fun s => l.length - s) 0 ?_ ⟨rfl, rfl, rfl, rfl, trivial⟩ ?_
 ·exact ⟨Nat.zero_le _, by simp, hW⟩
 rintro k w1 ⟨hk, hn, hW⟩
 refine CW.S ?_
 refine LW.pp (.lss (.t rfl) (.t rfl)) ?_
 refine LW.S ?_
 refine CW.cond (.t rfl) (fun h9 => ?_) (fun h9 => ?_)
 ·replace h9 := dQ h9
  refine CW.skip (KW.then (CW.seq (CW.block (CW.S (LW.M rfl (LW.A rfl (LW.S ?_)))))))
  obtain ⟨y, hy⟩ : ∃ y, l[k]? = some y := ⟨_, List.getElem?_eq_getElem oQ⟩
  obtain ⟨Bx, ox, rfl, hcy⟩ := (Els.up hE0 hW) k y hy
  refine CW.region (LW.M rfl (LW.M rfl (LW.M rfl ?_)))
  refine LW.pp (.indexAddr' underlying38 sizeOf43 (j := k) (.t rfl) (.t rfl) oQ rfl) ?_
  refine LW.pp (.la isAgg43 sizeOf43 rfl (hcy)) ?_
  refine LW.K (enter_call (.t rfl) (.cons (.t rfl) .nil) (hen)) rfl (hp _ hW y (List.mem_of_getElem? hy)) ?_
  rintro _ w2 ⟨rfl, uw2⟩
  have zw2 := uw2.size
  replace hW := hW.up uw2
  refine LW.T ?_
  refine CW.cond (.t rfl) (fun h16 => ?_) (fun h16 => ?_)
  ·replace h16 := dQ h16
   refine CW.S (LW.M rfl (LW.A rfl (LW.T (CW.ret (KW.block_ret (KW.then_ret (KW.then_ret (KW.block_ret (KW.then_ret ?_)))))))))
   refine KW.ret1 rfl rfl ⟨_, rfl, ?_⟩
   first | exact ⟨.inl ⟨k, rfl, any_yes hy (by simpa using h16)⟩, hW⟩ | exact ⟨.inr ⟨rfl, any_no hn oQ⟩, hW⟩
  replace h16 := dQ h16
  refine CW.skip (KW.inBlock (KW.then (CW.region ?_)))
  refine LW.pp (.inc (.t rfl) oQ) ?_
  refine LW.M rfl (LW.nil (KW.round ?_))
  exact ⟨k + 1, ⟨by omega, any_take_no hy hn (by simpa using h16), hW⟩, ⟨rfl, rfl, rfl, rfl, trivial⟩, by first | omega | (dsimp only; omega)⟩
 replace h9 := dQ h9
 refine CW.exit (KW.then_exit (KW.then_exit (KW.block_hit (KW.then (CW.S (LW.C (LW.T (CW.ret ?_))))))))
 refine KW.ret1 rfl rfl ⟨_, rfl, ?_⟩
 first | exact ⟨.inl ⟨k, rfl, any_yes hy (by simpa using h16)⟩, hW⟩ | exact ⟨.inr ⟨rfl, any_no hn oQ⟩, hW⟩
theorem containsW_any (cf : Nat) (lb : Array Go.Value) (p : Wd → Bool) (hen : ∀ args w, (callFunc cf args).run Try.prog w = .ok (.enter cf args) w) (ad : Option Addr) (cp : Nat) (l : List Wd) (w : World) (hE0 : Els w ad 3 Wd.cells l) (hl : l.length ≤ 1000000000) (hp : ∀ W, Up w W → ∀ x, x ∈ l → Ret Try.prog cf (#[.agg (Wd.cells x)] ++ lb) W fun r W' => r = .bool (p x) ∧ Up W W') : Ret Try.prog 32 #[.slice ad l.length cp, .func (.func cf) #[] lb] w fun r w' => r = .bool (l.any p) ∧ Up w w' := by
 have hW := Up.refl w
 refine cS (n := 9) (m := 9) func32 rfl rfl rfl ?_
 refine CW.S (LW.C (LW.S (CW.region (LW.M rfl (LW.M rfl ?_)))))
 refine LW.K (eC (.u rfl rfl) (en51)) rfl (indexW_any cf lb p hen ad cp l _ (Els.up hE0 hW) hl (fun W u x hx => hp W (hW.trans u) x hx)) ?_
 rintro v7 w1 ⟨hix, uw1⟩
 have zw1 := uw1.size
 replace hW := hW.up uw1
 obtain ⟨q, hq, hqv⟩ : ∃ q : Int, v7 = vi q ∧ decide (q ≥ 0) = l.any p := by rcases hix with ⟨k, e, h⟩ | ⟨e, h⟩; exact ⟨_, e, by rw [h]; exact decide_eq_true oQ⟩; exact ⟨_, e, by rw [h]; rfl⟩
 subst hq
 refine LW.pp (.geq (.t rfl) (.const _)) ?_
 refine LW.A rfl (LW.T (CW.ret ?_))
 refine KW.ret1 rfl rfl ⟨_, rfl, ?_⟩
 exact ⟨congrArg Go.Value.bool hqv, hW⟩
theorem idle1_any (x y : Wd) (Bl : Nat) (ad : Option Addr) (cp : Nat) (l : List Wd) (w : World) (hl : l[0]? = some y) (hB : Blk w Bl #[.slice ad l.length cp] 38) (hE : Els w ad 3 Wd.cells l) : Ret Try.prog 31 #[.agg x.cells, .pointer (some ⟨Bl, 0, none⟩)] w fun r w' => r = .bool (decide (x.r > 0) || !decide (x.l = y.l)) ∧ Up w w' := by
 have hW := Up.refl w
 refine cS (n := 16) (m := 9) func31 rfl rfl rfl ?_
 refine CW.seq ?_
 obtain ⟨Bx, ox, rfl, hcy⟩ := hE 0 y hl
 refine CW.region ?_
 refine LW.rr (.boxA (.t rfl)) rfl ?_
 rintro _ w1 ⟨B2, rfl, NB2⟩
 have eB2 := NB2.at_
 have zB2 := NB2.size
 replace hB := hB.up NB2.up
 replace hcy := hcy.up NB2.up
 replace hW := hW.up NB2.up
 have hB2 := NB2.blk
 refine LW.C (LW.S ?_)
 refine CW.draws kQ kQ rfl rfl ?_
 refine HW.pp (.fA 1 underlying43 rfl sizeOf3 rfl) ?_
 refine HW.pp (.ld isAgg3 rfl (hB2.celln rfl)) ?_
 refine HW.pp (.gtr (.t rfl) (.const _)) ?_
 refine HW.pp (.move (.t rfl)) ?_
 refine HW.g rfl rfl rfl rfl rfl rfl (fun hc => PEv.fA 0 underlying43 rfl sizeOf3 rfl) ?_
 refine HW.g rfl rfl rfl rfl rfl rfl (fun hc => PEv.load isAgg3 vQ (hB2.celln rfl)) ?_
 refine HW.g rfl rfl rfl rfl rfl rfl (fun hc => PEv.ld isAgg38 rfl (hB.celln rfl)) ?_
 refine HW.g rfl rfl rfl rfl rfl rfl (fun hc => PEv.indexAddr' (j := 0) underlying38 sizeOf43 vQ (.const _) (by have := (List.getElem?_eq_some_iff.1 hl).1; omega) rfl) ?_
 refine HW.g rfl rfl rfl rfl rfl rfl (fun hc => PEv.fieldAddr (off := 0) underlying43 rfl rfl sizeOf3 rfl vQ) ?_
 refine HW.g rfl rfl rfl rfl rfl rfl (fun hc => PEv.load isAgg3 vQ (hcy.nth (j := 0) rfl)) ?_
 refine HW.g rfl rfl rfl rfl rfl rfl (fun hc => PEv.neq vQ vQ) ?_
 refine HW.pp (.pick_or (.t rfl) (fun hp => (by first | exact .const _ | exact .tmp rfl | exact .cond rfl (by first | assumption | simp_all)))) ?_
 refine HW.pp (.assign (.t rfl)) ?_
 refine HW.nil ?_
 intro w2 uw2
 have zw2 := uw2.size
 replace hB := hB.up uw2
 replace hcy := hcy.up uw2
 replace hW := hW.up uw2
 replace hB2 := hB2.up uw2
 refine KW.then (CW.ret ?_)
 refine KW.ret1 rfl rfl ⟨_, rfl, ?_⟩
 exact ⟨rfl, hW⟩
theorem Idle_under (D b : Nat) (L : List Sit) (job tool : Int) (w : World) (hz : (aBel ⟨D, b, L, job, tool⟩).holds w) (hL : L.length ≤ 1000000) (hne : L ≠ []) (hu : L.any (fun s => s.u) = true) : Ret Try.prog 15 #[.pointer (some ⟨D, 0, none⟩)] w fun r w' => r = .tuple #[vi 0, .bool false] ∧ Stp (aBel ⟨D, b, L, job, tool⟩) (aBel ⟨D, b, L, job, tool⟩) w w' := by
 obtain ⟨w0, rfl⟩ : ∃ w0, w0 = w := ⟨_, rfl⟩
 have hS : Wx.Sep (aBel ⟨D, b, L, job, tool⟩).foot w0 w0 [aBel ⟨D, b, L, job, tool⟩] := Sep.cons (A := aBel ⟨D, b, L, job, tool⟩) hz (fun _ h => h) (Sep.start _ _) (by simp)
 refine cS (n := 26) (m := 9) func15 rfl rfl rfl ?_
 refine CW.S (LW.C (LW.C (LW.S (CW.region (LW.M rfl ?_)))))
 refine LW.K (eC (.o rfl) (en11)) rfl (Worlds_any D b L job tool _ (hS.get 0 rfl) hL) ?_
 rintro vW w1 ⟨M, hMw, hMl, hMo, hMn, hMs⟩
 have zM := hMs.fr.size
 have hMne := ws_ne hMw hne
 have hMp := List.length_pos_iff.2 hMne
 replace hS := hS.stpAdd 0 rfl hMs hMo hMn (fun i h1 h2 => by have := (aBel ⟨D, b, L, job, tool⟩).lt _ (hS.get 0 rfl) i h1; have := hMn i h2; omega)
 change Wx.Sep _ _ _ [_, _] at hS
 obtain ⟨ad, cp, rfl, _⟩ := (hS.own 1 rfl).sl (fun _ => rfl)
 refine LW.rr (.alloc1 zeroValue38 rfl) rfl ?_
 rintro _ w2 ⟨B4, rfl, MB4⟩
 refine LW.E (.store sizeOf38 (.t rfl) (.t rfl) rfl MB4.blk cQ) ?_
 intro w3 LB4
 have NB4 := MB4.set LB4
 clear LB4 MB4
 have eB4 := NB4.at_
 have zB4 := NB4.size
 replace hS := hS.addB NB4
 change Wx.Sep _ _ _ [_, _, _] at hS
 refine LW.S (CW.S ?_)
 refine LW.pp (.ld isAgg38 rfl ((hS.blk 2 rfl).celln rfl)) ?_
 refine LW.pp (.lenS underlying38 (.t rfl)) ?_
 refine LW.pp (.fa (PEv.eql (.t rfl) (.const _)) (decide_eq_false oQ)) ?_
 refine LW.M rfl ?_
 refine LW.Y ?_
 refine LW.M rfl ?_
 refine LW.Y ?_
 refine LW.pp (.nilCheck (.t rfl)) ?_
 refine LW.Y ?_
 refine LW.pp (.fA 0 underlying59 rfl sizeOf55 rfl) ?_
 refine LW.Y ?_
 refine LW.pp (.ld isAgg55 rfl ((hS.get 0 rfl).1.celln rfl)) ?_
 refine LW.Y ?_
 refine LW.K (eC (.cons (.t rfl) (.cons (.func _) .nil)) (en18)) rfl (hasB_any 30 #[] (fun s => s.u) en30 D b L job tool _ (hS.get 0 rfl) (fun W _ s _ => open_any s W)) ?_
 rintro _ w4 ⟨rfl, uw4⟩
 have zw4 := uw4.fr.size
 replace hS := hS.stp 0 rfl uw4
 change Wx.Sep _ _ _ [_, _, _] at hS
 rw [hu]
 refine LW.pp (.pick_or (.t rfl) (fun hp => (by first | exact .const _ | exact .tmp rfl | exact .cond rfl (by first | assumption | simp_all)))) ?_
 refine LW.T ?_
 refine CW.cond_true (.t rfl) ?_
 refine CW.S (LW.C (LW.C (LW.T (CW.ret (KW.then_ret ?_)))))
 refine KW.ret2 rfl rfl rfl ⟨_, rfl, ?_⟩
 exact ⟨rfl, hS.fr, hS.get 0 rfl, fun i hi => .inl hi⟩
theorem Idle_one (D b : Nat) (L : List Sit) (job tool : Int) (w : World) (hz : (aBel ⟨D, b, L, job, tool⟩).holds w) (hL : L.length ≤ 1000000) (hne : L ≠ []) (hu : L.any (fun s => s.u) = false) (x : Wd) (hx : ∀ M, WsOf (· ∈ L) M → M = [x]) (hr : x.r ≤ 0) : Ret Try.prog 15 #[.pointer (some ⟨D, 0, none⟩)] w fun r w' => r = .tuple #[vi x.l, .bool true] ∧ Stp (aBel ⟨D, b, L, job, tool⟩) (aBel ⟨D, b, L, job, tool⟩) w w' := by
 obtain ⟨w0, rfl⟩ : ∃ w0, w0 = w := ⟨_, rfl⟩
 have hS : Wx.Sep (aBel ⟨D, b, L, job, tool⟩).foot w0 w0 [aBel ⟨D, b, L, job, tool⟩] := Sep.cons (A := aBel ⟨D, b, L, job, tool⟩) hz (fun _ h => h) (Sep.start _ _) (by simp)
 refine cS (n := 26) (m := 9) func15 rfl rfl rfl ?_
 refine CW.S (LW.C (LW.C (LW.S (CW.region (LW.M rfl ?_)))))
 refine LW.K (eC (.o rfl) (en11)) rfl (Worlds_any D b L job tool _ (hS.get 0 rfl) hL) ?_
 rintro vW w1 ⟨M, hMw, hMl, hMo, hMn, hMs⟩
 have zM := hMs.fr.size
 have hMne := ws_ne hMw hne
 have hMp := List.length_pos_iff.2 hMne
 replace hS := hS.stpAdd 0 rfl hMs hMo hMn (fun i h1 h2 => by have := (aBel ⟨D, b, L, job, tool⟩).lt _ (hS.get 0 rfl) i h1; have := hMn i h2; omega)
 change Wx.Sep _ _ _ [_, _] at hS
 obtain ⟨ad, cp, rfl, _⟩ := (hS.own 1 rfl).sl (fun _ => rfl)
 obtain rfl := hx M hMw
 refine LW.rr (.alloc1 zeroValue38 rfl) rfl ?_
 rintro _ w2 ⟨B4, rfl, MB4⟩
 refine LW.E (.store sizeOf38 (.t rfl) (.t rfl) rfl MB4.blk cQ) ?_
 intro w3 LB4
 have NB4 := MB4.set LB4
 clear LB4 MB4
 have eB4 := NB4.at_
 have zB4 := NB4.size
 replace hS := hS.addB NB4
 change Wx.Sep _ _ _ [_, _, _] at hS
 refine LW.S (CW.S ?_)
 refine LW.pp (.ld isAgg38 rfl ((hS.blk 2 rfl).celln rfl)) ?_
 refine LW.pp (.lenS underlying38 (.t rfl)) ?_
 refine LW.pp (.fa (PEv.eql (.t rfl) (.const _)) (decide_eq_false (by simp))) ?_
 refine LW.M rfl ?_
 refine LW.Y ?_
 refine LW.M rfl ?_
 refine LW.Y ?_
 refine LW.pp (.nilCheck (.t rfl)) ?_
 refine LW.Y ?_
 refine LW.pp (.fA 0 underlying59 rfl sizeOf55 rfl) ?_
 refine LW.Y ?_
 refine LW.pp (.ld isAgg55 rfl ((hS.get 0 rfl).1.celln rfl)) ?_
 refine LW.Y ?_
 refine LW.K (eC (.cons (.t rfl) (.cons (.func _) .nil)) (en18)) rfl (hasB_any 30 #[] (fun s => s.u) en30 D b L job tool _ (hS.get 0 rfl) (fun W _ s _ => open_any s W)) ?_
 rintro _ w4 ⟨rfl, uw4⟩
 have zw4 := uw4.fr.size
 replace hS := hS.stp 0 rfl uw4
 change Wx.Sep _ _ _ [_, _, _] at hS
 rw [hu]
 refine LW.pp (.pick_or (.t rfl) (fun hp => (by first | exact .const _ | exact .tmp rfl | exact .cond rfl (by first | assumption | simp_all)))) ?_
 refine LW.T ?_
 refine CW.cond_false (.t rfl) ?_
 refine CW.skip (KW.then (CW.S ?_))
 refine LW.pp (.makeFunc (.cons (.t rfl) .nil)) ?_
 refine LW.A rfl (LW.S (CW.S ?_))
 refine LW.pp (.ld isAgg38 rfl ((hS.blk 2 rfl).celln rfl)) ?_
 refine LW.M rfl ?_
 refine LW.K (eC (.u rfl rfl) (en32)) rfl (containsW_any 31 _ (fun y => decide (y.r > 0) || !decide (y.l = x.l)) en31 ad cp [x] _ ((hS.own 1 rfl).elsS (fun _ => rfl)) (by simp) (fun W u y hy => idle1_any y x B4 ad cp [x] W rfl ((hS.blk 2 rfl).up u) (Els.up ((hS.own 1 rfl).elsS (fun _ => rfl)) u))) ?_
 rintro _ w5 ⟨rfl, uw5⟩
 have zw5 := uw5.size
 replace hS := hS.up uw5
 rw [show ([x].any fun y => decide (y.r > 0) || !decide (y.l = x.l)) = false by rw [List.any_cons, List.any_nil, decide_eq_false oQ, decide_eq_true rfl]; rfl]
 refine LW.T ?_
 refine CW.cond_false (.t rfl) ?_
 refine CW.skip (KW.then (CW.seq ?_))
 obtain ⟨Bx, ox, ax, hcx⟩ := ((hS.own 1 rfl).elsS (fun _ => rfl)) 0 x rfl
 refine CW.region ?_
 refine LW.pp (.ld isAgg38 rfl ((hS.blk 2 rfl).celln rfl)) ?_
 refine LW.pp (.indexAddr' (j := 0) underlying38 sizeOf43 (.t rfl) (.const _) Nat.one_pos ax) ?_
 refine LW.pp (.fA 0 underlying43 rfl sizeOf3 rfl) ?_
 refine LW.pp (.ld isAgg3 rfl (hcx.nth (j := 0) rfl)) ?_
 refine LW.A rfl (LW.C (LW.T (CW.ret ?_)))
 refine KW.ret2 rfl rfl rfl ⟨_, rfl, ?_⟩
 exact ⟨rfl, hS.fr, hS.get 0 rfl, fun i hi => .inl hi⟩
theorem Known_one (D b : Nat) (L : List Sit) (job tool : Int) (w : World) (hz : (aBel ⟨D, b, L, job, tool⟩).holds w) (hL : L.length ≤ 1000000) (hne : L ≠ []) (hu : L.any (fun s => s.u) = false) (x : Wd) (hx : ∀ M, WsOf (· ∈ L) M → M = [x]) : Ret Try.prog 16 #[.pointer (some ⟨D, 0, none⟩)] w fun r w' => r = .tuple #[.agg x.cells, .bool true] ∧ Stp (aBel ⟨D, b, L, job, tool⟩) (aBel ⟨D, b, L, job, tool⟩) w w' := by
 obtain ⟨w0, rfl⟩ : ∃ w0, w0 = w := ⟨_, rfl⟩
 have hS : Wx.Sep (aBel ⟨D, b, L, job, tool⟩).foot w0 w0 [aBel ⟨D, b, L, job, tool⟩] := Sep.cons (A := aBel ⟨D, b, L, job, tool⟩) hz (fun _ h => h) (Sep.start _ _) (by simp)
 refine cS (n := 22) (m := 9) func16 rfl rfl rfl ?_
 refine CW.S ?_
 refine LW.rr (.allocA zeroValue43) rfl ?_
 rintro _ w1 ⟨B2, rfl, NB2⟩
 have eB2 := NB2.at_
 have zB2 := NB2.size
 replace hS := hS.addB NB2
 change Wx.Sep _ _ _ [_, _] at hS
 refine LW.C (LW.S (CW.S (LW.M rfl ?_)))
 refine LW.K (eC (.o rfl) (en11)) rfl (Worlds_any D b L job tool _ (hS.get 0 rfl) hL) ?_
 rintro vW w2 ⟨M, hMw, hMl, hMo, hMn, hMs⟩
 have zM := hMs.fr.size
 have hMne := ws_ne hMw hne
 have hMp := List.length_pos_iff.2 hMne
 replace hS := hS.stpAdd 0 rfl hMs hMo hMn (fun i h1 h2 => by have := (aBel ⟨D, b, L, job, tool⟩).lt _ (hS.get 0 rfl) i h1; have := hMn i h2; omega)
 change Wx.Sep _ _ _ [_, _, _] at hS
 obtain ⟨ad, cp, rfl, _⟩ := (hS.own 2 rfl).sl (fun _ => rfl)
 obtain rfl := hx M hMw
 refine LW.A rfl (LW.S (CW.region (LW.M rfl ?_)))
 refine LW.pp (.lenS underlying38 (.t rfl)) ?_
 refine LW.pp (.tr (PEv.eql (.t rfl) (.const _)) (decide_eq_true (by simp))) ?_
 refine LW.M rfl ?_
 refine LW.Y ?_
 refine LW.M rfl ?_
 refine LW.Y ?_
 refine LW.pp (.nilCheck (.t rfl)) ?_
 refine LW.Y ?_
 refine LW.pp (.fA 0 underlying59 rfl sizeOf55 rfl) ?_
 refine LW.Y ?_
 refine LW.pp (.ld isAgg55 rfl ((hS.get 0 rfl).1.celln rfl)) ?_
 refine LW.Y ?_
 refine LW.K (eC (.cons (.t rfl) (.cons (.func _) .nil)) (en18)) rfl (hasB_any 30 #[] (fun s => s.u) en30 D b L job tool _ (hS.get 0 rfl) (fun W _ s _ => open_any s W)) ?_
 rintro _ w3 ⟨rfl, uw3⟩
 have zw3 := uw3.fr.size
 replace hS := hS.stp 0 rfl uw3
 change Wx.Sep _ _ _ [_, _, _] at hS
 rw [hu]
 refine LW.Y ?_
 refine LW.pp (.not (.t rfl)) ?_
 refine LW.pp (.pick_and (.t rfl) (fun hp => (by first | exact .const _ | exact .tmp rfl | exact .cond rfl (by first | assumption | simp_all)))) ?_
 refine LW.T ?_
 refine CW.cond_true (.t rfl) ?_
 refine CW.seq ?_
 obtain ⟨Bx, ox, ax, hcx⟩ := ((hS.own 2 rfl).elsS (fun _ => rfl)) 0 x rfl
 refine CW.region (LW.M rfl ?_)
 refine LW.pp (.indexAddr' (j := 0) underlying38 sizeOf43 (.t rfl) (.const _) Nat.one_pos ax) ?_
 refine LW.pp (.la isAgg43 sizeOf43 rfl (hcx)) ?_
 refine LW.E (.storeA sizeOf43 rfl (.t rfl) (.t rfl) (Wd.one _) (hS.blk 1 rfl) rfl) ?_
 intro w4 Nw4
 have zw4 := Nw4.size
 replace hS := hS.putB 1 rfl (show Set_ _ w4 _ (x.cells) _ from Nw4)
 change Wx.Sep _ _ _ [_, _, _] at hS
 refine LW.C (LW.T (CW.ret (KW.then_ret ?_)))
 refine KW.retAT rfl rfl rfl isAgg43 sizeOf43 rfl (hS.blk 1 rfl).agg ⟨_, rfl, ?_⟩
 exact ⟨rfl, hS.fr, hS.get 0 rfl, fun i hi => .inl hi⟩
end Go.Proofs.Ytpofdidofjlkhaa
end
section
namespace Go.Wx
theorem hasW_yes {l : List Wd} {k : Nat} {x y : Wd} (hy : l[k]? = some y) (h : y = x) : x ∈ l := h ▸ List.mem_of_getElem? hy
theorem sameW_step {l m : List Wd} {k : Nat} {y z : Wd} (hy : l[k]? = some y) (hz : m[k]? = some z) (hn : l.take k = m.take k) (h : y = z) : l.take (k + 1) = m.take (k + 1) := by rw [List.take_add_one, List.take_add_one, hy, hz, hn, h]
theorem sameW_no {l m : List Wd} {k : Nat} {y z : Wd} (hy : l[k]? = some y) (hz : m[k]? = some z) (h : ¬ y = z) : ¬ l = m := fun e => by
 rw [e, hz] at hy
 exact h (Option.some.inj hy).symm
theorem sameW_len {l m : List Wd} (h : (!decide ((l.length : Int) = (m.length : Int))) = true) : ¬ l = m := fun e => by
 rw [e] at h
 simp at h
theorem sameW_all {l m : List Wd} {k : Nat} (h : l.length = m.length) (hk : l.length ≤ k) (hn : l.take k = m.take k) : l = m := by
 rwa [List.take_of_length_le hk, List.take_of_length_le (by omega)] at hn
end Go.Wx
namespace Go.Proofs.Ytpofdidofjlkhaa
open Go.Proofs.Try
open Go.Wx Go.RowKit
theorem at_any (a b c : Int) (w : World) : Ret Try.prog 14 #[vi a, vi b, vi c] w fun r w' => r = .agg (Wd.mk a b c).cells ∧ Up w w' := by
 obtain ⟨w0, rfl⟩ : ∃ w0, w0 = w := ⟨_, rfl⟩
 have hS := Sep.start no w0
 refine cS (n := 11) (m := 9) func14 rfl rfl rfl ?_
 refine CW.S ?_
 refine LW.rr (.allocA zeroValue43) rfl ?_
 rintro _ w1 ⟨B6, rfl, NB6⟩
 have eB6 := NB6.at_
 have zB6 := NB6.size
 replace hS := hS.addB NB6
 change Wx.Sep _ _ _ [_] at hS
 refine LW.S (CW.region (LW.M rfl (LW.M rfl (LW.M rfl ?_))))
 refine LW.pp (.build (cs := (Wd.mk a b c).cells) underlying43 zeroValue43 Try.places43 (.cons (.t rfl) (.cons (.t rfl) (.cons (.t rfl) .nil))) rfl) ?_
 refine LW.E (.storeA sizeOf43 rfl (.t rfl) (.t rfl) (Wd.one _) (hS.blk 0 rfl) rfl) ?_
 intro w2 Nw2
 have zw2 := Nw2.size
 replace hS := hS.putB 0 rfl Nw2
 change Wx.Sep _ _ _ [_] at hS
 refine LW.T (CW.ret ?_)
 refine KW.retA rfl rfl isAgg43 sizeOf43 rfl ((hS.blk 0 rfl).agg) ⟨_, rfl, ?_⟩
 exact ⟨rfl, hS.upd⟩
theorem hasW_any (ad : Option Addr) (cp : Nat) (l : List Wd) (x : Wd) (w : World) (hl : l.length ≤ 1000000000) (hE0 : Els w ad 3 Wd.cells l) : Ret Try.prog 13 #[.slice ad l.length cp, .agg x.cells] w fun r w' => r = .bool (decide (x ∈ l)) ∧ Up w w' := by
 have hW := Up.refl w
 obtain ⟨w0, rfl⟩ : ∃ w0, w0 = w := ⟨_, rfl⟩
 refine cS (n := 18) (m := 9) func13 rfl rfl rfl ?_
 refine CW.S ?_
 refine LW.rr (.boxA (.t rfl)) rfl ?_
 rintro _ w1 ⟨B3, rfl, NB3⟩
 have eB3 := NB3.at_
 have zB3 := NB3.size
 replace hW := hW.up NB3.up
 have hB3 := NB3.blk
 refine LW.C (LW.S (CW.S (LW.C (LW.T (CW.block ?_)))))
 refine CW.loopB (σ := Nat) (fun s w => (s ≤ l.length) ∧ (∀ y ∈ l.take s, y ≠ x) ∧ (Up w0 w) ∧ (Blk w B3 x.cells 43)) (fun s => [(5, .eq (vi (s : Int)))]) ([(0, .eq _), (3, .eq _)]) (fun s => l.length - s) 0 ?_ ⟨rfl, rfl, rfl, trivial⟩ ?_
 ·exact ⟨Nat.zero_le _, by simp, hW, hB3⟩
 rintro k w2 ⟨hk, hn, hW, hB3⟩
 refine CW.seq (CW.S (LW.M rfl (LW.M rfl ?_)))
 refine LW.pp (.lenS underlying38 (.t rfl)) ?_
 refine LW.pp (.lss (.t rfl) (.t rfl)) ?_
 refine LW.T ?_
 refine CW.cond (.t rfl) (fun h9 => ?_) (fun h9 => ?_)
 ·replace h9 := dQ h9
  refine CW.skip (KW.then (CW.seq (CW.block (CW.seq ?_))))
  obtain ⟨y, hy⟩ : ∃ y, l[k]? = some y := ⟨_, List.getElem?_eq_getElem oQ⟩
  obtain ⟨Bx, ox, rfl, hcy⟩ := (Els.up hE0 hW) k y hy
  refine CW.draws kQ kQ rfl rfl ?_
  refine HW.pp (.move (.t rfl)) ?_
  refine HW.pp (.move (.t rfl)) ?_
  refine HW.pp (.indexAddr' underlying38 sizeOf43 (j := k) (.t rfl) (.t rfl) oQ rfl) ?_
  refine HW.pp (.la isAgg43 sizeOf43 rfl (hcy)) ?_
  refine HW.pp (.la isAgg43 sizeOf43 rfl (hB3.agg)) ?_
  refine HW.pp (.eqlA eqGuardType43 (Try.eqWd _ _) (.t rfl) (.t rfl)) ?_
  refine HW.nil ?_
  intro w3 uw3
  have zw3 := uw3.size
  replace hW := hW.up uw3
  replace hB3 := hB3.up uw3
  refine KW.then ?_
  refine CW.cond (.t rfl) (fun h17 => ?_) (fun h17 => ?_)
  ·replace h17 := dQ h17
   refine CW.S (LW.C (LW.T (CW.ret (KW.block_ret (KW.then_ret (KW.then_ret (KW.block_ret (KW.then_ret ?_))))))))
   refine KW.ret1 rfl rfl ⟨_, rfl, ?_⟩
   first | exact ⟨congrArg Go.Value.bool (decide_eq_true (hasW_yes hy (by simpa using h17))).symm, hW⟩ | exact ⟨congrArg Go.Value.bool (decide_eq_false (fun h => hn x (by rw [show k = l.length by omega, List.take_length]; exact h) rfl)).symm, hW⟩
  replace h17 := dQ h17
  refine CW.skip (KW.inBlock (KW.then (CW.region (LW.M rfl ?_))))
  refine LW.pp (.inc (.t rfl) oQ) ?_
  refine LW.A rfl (LW.nil (KW.round ?_))
  exact ⟨k + 1, ⟨by omega, fun z hz => by rw [List.take_add_one, hy] at hz; rcases List.mem_append.1 hz with h | h; exact hn z h; rw [List.mem_singleton.1 h]; simpa using h17, hW, hB3⟩, ⟨rfl, rfl, rfl, trivial⟩, by first | omega | (dsimp only; omega)⟩
 replace h9 := dQ h9
 refine CW.exit (KW.then_exit (KW.then_exit (KW.block_hit (KW.then (CW.S (LW.C (LW.T (CW.ret ?_))))))))
 refine KW.ret1 rfl rfl ⟨_, rfl, ?_⟩
 first | exact ⟨congrArg Go.Value.bool (decide_eq_true (hasW_yes hy (by simpa using h17))).symm, hW⟩ | exact ⟨congrArg Go.Value.bool (decide_eq_false (fun h => hn x (by rw [show k = l.length by omega, List.take_length]; exact h) rfl)).symm, hW⟩
theorem SameW_any (ad ad2 : Option Addr) (cp cp2 : Nat) (l m : List Wd) (w : World) (hl : l.length ≤ 1000000000) (_hm : m.length ≤ 1000000000) (hE0 : Els w ad 3 Wd.cells l) (hF0 : Els w ad2 3 Wd.cells m) : Ret Try.prog 12 #[.slice ad l.length cp, .slice ad2 m.length cp2] w fun r w' => r = .bool (decide (l = m)) ∧ Up w w' := by
 have hW := Up.refl w
 obtain ⟨w0, rfl⟩ : ∃ w0, w0 = w := ⟨_, rfl⟩
 refine cS (n := 26) (m := 9) func12 rfl rfl rfl ?_
 refine CW.S (LW.C (LW.S (CW.S (LW.M rfl ?_))))
 refine LW.pp (.lenS underlying38 (.t rfl)) ?_
 refine LW.M rfl ?_
 refine LW.pp (.lenS underlying38 (.t rfl)) ?_
 refine LW.pp (.neq (.t rfl) (.t rfl)) ?_
 refine LW.T ?_
 refine CW.cond (.t rfl) (fun h10 => ?_) (fun h10 => ?_)
 ·replace h10 := dQ h10
  have hlen := h10
  refine CW.S (LW.C (LW.T (CW.ret (KW.then_ret ?_))))
  refine KW.ret1 rfl rfl ⟨_, rfl, ?_⟩
  first | exact ⟨congrArg Go.Value.bool (decide_eq_false (sameW_len hlen)).symm, hW⟩ | exact ⟨congrArg Go.Value.bool (decide_eq_false (sameW_no hy hz (by simpa using h25))).symm, hW⟩ | exact ⟨congrArg Go.Value.bool (decide_eq_true (sameW_all hlm oQ hn)).symm, hW⟩
 replace h10 := dQ h10
 have hlen := h10
 refine CW.skip (KW.then (CW.seq (CW.seq ?_)))
 have hlm : l.length = m.length := by simp at hlen; omega
 refine CW.region (LW.C (LW.T (CW.block ?_)))
 refine CW.loopB (σ := Nat) (fun s w => (s ≤ l.length) ∧ (l.take s = m.take s) ∧ (Up w0 w)) (fun s => [(5, .eq (vi (s : Int)))]) ([(0, .eq _), (1, .eq _)]) (fun s => l.length - s) 0 ?_ ⟨rfl, rfl, rfl, trivial⟩ ?_
 ·exact ⟨Nat.zero_le _, rfl, hW⟩
 rintro k w1 ⟨hk, hn, hW⟩
 refine CW.seq (CW.S (LW.M rfl (LW.M rfl ?_)))
 refine LW.pp (.lenS underlying38 (.t rfl)) ?_
 refine LW.pp (.lss (.t rfl) (.t rfl)) ?_
 refine LW.T ?_
 refine CW.cond (.t rfl) (fun h14 => ?_) (fun h14 => ?_)
 ·replace h14 := dQ h14
  refine CW.skip (KW.then (CW.seq (CW.block (CW.seq ?_))))
  obtain ⟨y, hy⟩ : ∃ y, l[k]? = some y := ⟨_, List.getElem?_eq_getElem oQ⟩
  obtain ⟨z, hz⟩ : ∃ z, m[k]? = some z := ⟨_, List.getElem?_eq_getElem oQ⟩
  obtain ⟨Bx, ox, rfl, hcy⟩ := (Els.up hE0 hW) k y hy
  obtain ⟨Bz, oz, rfl, hcz⟩ := (Els.up hF0 hW) k z hz
  refine CW.draws kQ kQ rfl rfl ?_
  refine HW.pp (.move (.t rfl)) ?_
  refine HW.pp (.move (.t rfl)) ?_
  refine HW.pp (.indexAddr' underlying38 sizeOf43 (j := k) (.t rfl) (.t rfl) oQ rfl) ?_
  refine HW.pp (.la isAgg43 sizeOf43 rfl (hcy)) ?_
  refine HW.pp (.move (.t rfl)) ?_
  refine HW.pp (.move (.t rfl)) ?_
  refine HW.pp (.indexAddr' underlying38 sizeOf43 (j := k) (.t rfl) (.t rfl) oQ rfl) ?_
  refine HW.pp (.la isAgg43 sizeOf43 rfl (hcz)) ?_
  refine HW.pp (.neqA eqGuardType43 (Try.eqWd _ _) (.t rfl) (.t rfl)) ?_
  refine HW.nil ?_
  intro w2 uw2
  have zw2 := uw2.size
  replace hW := hW.up uw2
  refine KW.then ?_
  refine CW.cond (.t rfl) (fun h25 => ?_) (fun h25 => ?_)
  ·replace h25 := dQ h25
   refine CW.S (LW.C (LW.T (CW.ret (KW.block_ret (KW.then_ret (KW.then_ret (KW.block_ret (KW.then_ret ?_))))))))
   refine KW.ret1 rfl rfl ⟨_, rfl, ?_⟩
   first | exact ⟨congrArg Go.Value.bool (decide_eq_false (sameW_len hlen)).symm, hW⟩ | exact ⟨congrArg Go.Value.bool (decide_eq_false (sameW_no hy hz (by simpa using h25))).symm, hW⟩ | exact ⟨congrArg Go.Value.bool (decide_eq_true (sameW_all hlm oQ hn)).symm, hW⟩
  replace h25 := dQ h25
  refine CW.skip (KW.inBlock (KW.then (CW.region (LW.M rfl ?_))))
  refine LW.pp (.inc (.t rfl) oQ) ?_
  refine LW.A rfl (LW.nil (KW.round ?_))
  exact ⟨k + 1, ⟨by omega, sameW_step hy hz hn (by simpa using h25), hW⟩, ⟨rfl, rfl, rfl, trivial⟩, by first | omega | (dsimp only; omega)⟩
 replace h14 := dQ h14
 refine CW.exit (KW.then_exit (KW.then_exit (KW.block_hit (KW.then (CW.S (LW.C (LW.T (CW.ret ?_))))))))
 refine KW.ret1 rfl rfl ⟨_, rfl, ?_⟩
 first | exact ⟨congrArg Go.Value.bool (decide_eq_false (sameW_len hlen)).symm, hW⟩ | exact ⟨congrArg Go.Value.bool (decide_eq_false (sameW_no hy hz (by simpa using h25))).symm, hW⟩ | exact ⟨congrArg Go.Value.bool (decide_eq_true (sameW_all hlm oQ hn)).symm, hW⟩
end Go.Proofs.Ytpofdidofjlkhaa
end
section
namespace Go.Wx
open Go.Wx.Mk
def rngS (s : Sit) : Prop := (0 ≤ s.l ∧ s.l ≤ 12) ∧ (0 ≤ s.r ∧ s.r ≤ 12) ∧ (-1 ≤ s.p ∧ s.p ≤ 3)
structure Bel.In (b : Bel) : Prop where
 ne : ∃ s, b.S s
 rng : ∀ s, b.S s → rngS s
 job : 0 ≤ b.job ∧ b.job ≤ 12
 tool : 0 ≤ b.tool ∧ b.tool ≤ 3
theorem h00 : (0 : Int) ≤ 0 ∧ (0 : Int) ≤ 12 := by decide
theorem h03 : (0 : Int) ≤ 0 ∧ (0 : Int) ≤ 3 := by decide
theorem hm1 : (-1 : Int) ≤ -1 ∧ (-1 : Int) ≤ 3 := by decide
theorem rng_next {job tool : Int} (hj : 0 ≤ job ∧ job ≤ 12) (ht : 0 ≤ tool ∧ tool ≤ 3) {s v : Sit} (h : rngS s) (hv : v ∈ nextF job tool s) : rngS v := by
 obtain ⟨⟨h1, h2⟩, ⟨h3, h4⟩, h5⟩ := h
 unfold nextF at hv
 split at hv
 · rcases List.mem_cons.1 hv with rfl | hv
   · exact ⟨⟨h3, h4⟩, h00, hm1⟩
   rw [List.mem_singleton.1 hv]; exact ⟨⟨h1, h2⟩, h00, hm1⟩
 split at hv
 · rw [List.mem_singleton.1 hv]
   refine ⟨⟨h1, h2⟩, hj, ?_, ?_⟩
   · show -1 ≤ tool; omega
   exact ht.2
 cases hv
theorem Bel.In.cl {b : Bel} (h : b.In) {s : Sit} (k : b.cl s) : rngS s := by
 induction k with
 | base hs => exact h.rng _ hs
 | step _ hv ih => exact rng_next h.job h.tool ih hv
theorem Bel.In.new {l : Int} (h : 0 ≤ l ∧ l ≤ 12) : (Bel.new l).In := ⟨⟨_, rfl⟩, fun s e => by rw [e]; exact ⟨h, h00, hm1⟩, h00, h03⟩
theorem Bel.In.cmd {b : Bel} (h : b.In) {j t : Int} (hj : 0 ≤ j ∧ j ≤ 12) (ht : 0 ≤ t ∧ t ≤ 3) : (b.cmd j t).2.In := by
 unfold Bel.cmd
 split
 · exact h
 obtain ⟨s, hs⟩ := h.ne
 exact ⟨⟨_, s, hs, rfl⟩, fun v ⟨s, hs, e⟩ => by rw [← e]; exact h.rng s hs, hj, ht⟩
theorem Bel.In.pass {b : Bel} (h : b.In) : b.pass.In := by
 obtain ⟨s, hs⟩ := h.ne
 exact ⟨⟨s, .base hs⟩, fun v hv => h.cl hv, h.job, h.tool⟩
theorem Bel.In.keep {b : Bel} (h : b.In) (f : Wd → Bool) (o : Bool) : (b.keep f o).2.In := by
 unfold Bel.keep
 split
 · rename_i hx
   obtain ⟨s, hs, hf⟩ := hx
   refine ⟨⟨_, s, ⟨hs, hf⟩, rfl⟩, fun v ⟨s, hs, e⟩ => ?_, h.job, h.tool⟩
   have := h.cl hs.1
   rw [← e]
   split
   · exact this
   exact this
 exact h
theorem Bel.In.restart {b : Bel} (h : b.In) (t : Int) : (b.restart t).In := h.keep _ _
theorem Bel.In.report {b : Bel} (h : b.In) (k n : Int) : (b.report k n).2.In := by
 unfold Bel.report
 split
 · exact h
 split
 · exact h.keep _ _
 exact h
def allS : List Sit := (List.range 13).flatMap fun (l : Nat) => (List.range 13).flatMap fun (r : Nat) => (List.range 5).flatMap fun (p : Nat) => [⟨(l : Int), (r : Int), (p : Int) - 1, false⟩, ⟨(l : Int), (r : Int), (p : Int) - 1, true⟩]
theorem allS_len : allS.length = 1690 := by kernel_rfl
theorem allS_mem {s : Sit} (h : rngS s) : s ∈ allS := by
 obtain ⟨l, r, p, u⟩ := s
 obtain ⟨⟨h1, h2⟩, ⟨h3, h4⟩, h5, h6⟩ := h
 dsimp only at h1 h2 h3 h4 h5 h6
 unfold allS
 refine List.mem_flatMap.2 ⟨l.toNat, List.mem_range.2 oQ, List.mem_flatMap.2 ⟨r.toNat, List.mem_range.2 oQ, List.mem_flatMap.2 ⟨(p + 1).toNat, List.mem_range.2 oQ, ?_⟩⟩⟩
 have e1 : (l.toNat : Int) = l := by omega
 have e2 : (r.toNat : Int) = r := by omega
 have e3 : ((p + 1).toNat : Int) - 1 = p := by omega
 rw [e1, e2, e3]
 cases u <;> simp
theorem Bel.In.len {z : Bz} (h : z.bel.In) (hn : z.L.Nodup) : z.L.length ≤ 1690 := by
 rw [← allS_len]
 exact hn.length_le_of_subset fun s hs => allS_mem (h.rng s hs)
theorem Bel.In.jobI {z : Bz} (h : z.bel.In) : inI z.job := by
 have := h.job
 have e : z.bel.job = z.job := rfl
 unfold inI
 omega
theorem Bel.In.toolI {z : Bz} (h : z.bel.In) : inI z.tool := by
 have := h.tool
 have e : z.bel.tool = z.tool := rfl
 unfold inI
 omega
theorem Bel.In.neL {z : Bz} (h : z.bel.In) : z.L ≠ [] := fun e => by
 obtain ⟨s, hs⟩ := h.ne
 have hs' : s ∈ z.L := hs
 rw [e] at hs'
 cases hs'
theorem Bel.In.fix {L : List Sit} {j t : Int} (h : L ≠ []) (h1 : ∀ s ∈ L, rngS s) (hj : 0 ≤ j ∧ j ≤ 12) (ht : 0 ≤ t ∧ t ≤ 3) : (bl L j t).In := ⟨List.exists_mem_of_ne_nil _ h, h1, hj, ht⟩
structure Stp3 where
 C : Int
 A : Int
 B : Int
def Stp3.cells (x : Stp3) : Array Value := #[vi x.C, vi x.A, vi x.B]
theorem Bel.In.runs {l : List Stp3} {f : Bel → Stp3 → Bel} (hf : ∀ b x, b.In → x ∈ l → (f b x).In) : ∀ {b : Bel}, b.In → ∀ k, ((l.take k).foldl f b).In := by
 intro b h k
 have key : ∀ (m : List Stp3) (b : Bel), (∀ x ∈ m, x ∈ l) → b.In → (m.foldl f b).In := fun m => by
   induction m with
   | nil => exact fun b _ h => h
   | cons x m ih => exact fun b hm h => ih _ (fun y hy => hm y (List.mem_cons_of_mem _ hy)) (hf b x h (hm x List.mem_cons_self))
 exact key _ _ (fun x hx => List.mem_of_mem_take hx) h
def pickI (c n : Int) : Int := (if c < 0 then IntKind.i64.wrap (-(IntKind.i64.wrap (c + 1))) else c).tmod n
theorem pick_range {c n : Int} (hc : inI c) (hn : 0 < n) : 0 ≤ pickI c n ∧ pickI c n < n := by
 unfold pickI
 obtain ⟨h1, h2⟩ := hc
 split
 · rw [wrap_i64_in (i := c + 1) oQ oQ, wrap_i64_in oQ oQ, Int.tmod_eq_emod_of_nonneg (by omega)]; exact ⟨Int.emod_nonneg _ oQ, Int.emod_lt_of_pos _ hn⟩
 rw [Int.tmod_eq_emod_of_nonneg (by omega)]; exact ⟨Int.emod_nonneg _ oQ, Int.emod_lt_of_pos _ hn⟩
theorem wsbl {z : Bz} {L : List Sit} {j t : Int} {M : List Wd} (hb : z.bel = bl L j t) (h : WsOf (· ∈ z.L) M) : WsOf (bl L j t).S M := hb ▸ (show WsOf z.bel.S M from h)
theorem memL {z : Bz} {L : List Sit} {j t : Int} (hb : z.bel = bl L j t) (s : Sit) : s ∈ z.L ↔ s ∈ L := by
 have : z.bel.S s = (bl L j t).S s := by rw [hb]
 exact Iff.of_eq this
theorem anyU {z : Bz} {L : List Sit} {j t : Int} (hb : z.bel = bl L j t) : z.L.any (fun s => s.u) = L.any (fun s => s.u) := by
 rw [Bool.eq_iff_iff, List.any_eq_true, List.any_eq_true]
 exact ⟨fun ⟨s, h1, h2⟩ => ⟨s, (memL hb s).1 h1, h2⟩, fun ⟨s, h1, h2⟩ => ⟨s, (memL hb s).2 h1, h2⟩⟩
theorem inB : (bl [sB] 7 2).In := Bel.In.fix (by simp) (by simp [rngS, sB]) cQ cQ
theorem inBig : (bl [sB, sC, sD, sA] 7 2).In := Bel.In.fix (by simp) (by simp [rngS, sA, sB, sC, sD]) cQ cQ
theorem inADA : (bl [sA, sD, sA] 7 2).In := Bel.In.fix (by simp) (by simp [rngS, sA, sD]) cQ cQ
theorem inAA : (bl [sA, sA] 7 2).In := Bel.In.fix (by simp) (by simp [rngS, sA]) cQ cQ
def new4 (D b : Nat) : Bz := ⟨D, b, [⟨4, 0, -1, false⟩], 0, 0⟩
theorem new4_bel (D b : Nat) : (new4 D b).bel = Bel.new 4 := (bl_new 4).symm
theorem new_bel (D b : Nat) (l : Int) : (Bz.mk D b [⟨l, 0, -1, false⟩] 0 0).bel = Bel.new l := (bl_new l).symm
end Go.Wx
namespace Go.Proofs.Ytpofdidofjlkhaa
open Go.Proofs.Try
open Go.Wx Go.RowKit
theorem Command_z (j t : Int) (z : Bz) (D : Nat) (hD : z.D = D) (w : World) (hz : (aBel z).holds w) (hI : z.bel.In) : Ret Try.prog 7 #[.pointer (some ⟨D, 0, none⟩), vi j, vi t] w fun r w' => r = vi (z.bel.cmd j t).1 ∧ ∃ z', z'.D = D ∧ z'.bel = (z.bel.cmd j t).2 ∧ Stp (aBel z) (aBel z') w w' := by
 obtain ⟨D', b, L, job, tool⟩ := z
 obtain rfl : D' = D := hD
 have hL := Bel.In.len hI (IMap.ndL hz.2.1)
 exact Command_any j t _ b L job tool w hz (by have h5 : L.length ≤ 1690 := hL; omega) hI.jobI hI.toolI
theorem Pass_z  (z : Bz) (D : Nat) (hD : z.D = D) (w : World) (hz : (aBel z).holds w) (hI : z.bel.In) : Ret Try.prog 8 #[.pointer (some ⟨D, 0, none⟩)] w fun r w' => r = vi 0 ∧ ∃ z', z'.D = D ∧ z'.bel = z.bel.pass ∧ Stp (aBel z) (aBel z') w w' := by
 obtain ⟨D', b, L, job, tool⟩ := z
 obtain rfl : D' = D := hD
 have hL := Bel.In.len hI (IMap.ndL hz.2.1)
 exact Pass_any _ b L job tool w hz (by have h5 : L.length ≤ 1690 := hL; omega) hI.jobI hI.toolI
theorem Restart_z (t : Int) (z : Bz) (D : Nat) (hD : z.D = D) (w : World) (hz : (aBel z).holds w) (hI : z.bel.In) : Ret Try.prog 9 #[.pointer (some ⟨D, 0, none⟩), vi t] w fun r w' => r = vi 0 ∧ ∃ z', z'.D = D ∧ z'.bel = z.bel.restart t ∧ Stp (aBel z) (aBel z') w w' := by
 obtain ⟨D', b, L, job, tool⟩ := z
 obtain rfl : D' = D := hD
 have hL := Bel.In.len hI (IMap.ndL hz.2.1)
 exact Restart_any t _ b L job tool w hz (by have h5 : L.length ≤ 1690 := hL; omega) hI.jobI hI.toolI
theorem Report_z (k n : Int) (z : Bz) (D : Nat) (hD : z.D = D) (w : World) (hz : (aBel z).holds w) (hI : z.bel.In) : Ret Try.prog 10 #[.pointer (some ⟨D, 0, none⟩), .agg #[vi k, vi n]] w fun r w' => r = vi (z.bel.report k n).1 ∧ ∃ z', z'.D = D ∧ z'.bel = (z.bel.report k n).2 ∧ Stp (aBel z) (aBel z') w w' := by
 obtain ⟨D', b, L, job, tool⟩ := z
 obtain rfl : D' = D := hD
 have hL := Bel.In.len hI (IMap.ndL hz.2.1)
 exact Report_any k n _ b L job tool w hz (by have h5 : L.length ≤ 1690 := hL; omega) hI.jobI hI.toolI
theorem Worlds_z  (z : Bz) (D : Nat) (hD : z.D = D) (w : World) (hz : (aBel z).holds w) (hI : z.bel.In) : Ret Try.prog 11 #[.pointer (some ⟨D, 0, none⟩)] w fun r w' => ∃ M, WsOf z.bel.S M ∧ M.length ≤ 1690 ∧ (aOwn 43 3 Wd.cells r M).holds w' ∧ (∀ i, (aOwn 43 3 Wd.cells r M).foot i → w.heap.size ≤ i) ∧ Stp (aBel z) (aBel z) w w' := by
 obtain ⟨D', b, L, job, tool⟩ := z
 obtain rfl : D' = D := hD
 have hL := Bel.In.len hI (IMap.ndL hz.2.1)
 exact Calls.mono (Worlds_any _ b L job tool w hz (by have h5 : L.length ≤ 1690 := hL; omega)) fun _ _ ⟨v, e, M, h1, h2, h3⟩ => ⟨v, e, M, h1, Nat.le_trans h2 hL, h3⟩
theorem Idle_z0 (z : Bz) (D : Nat) (hD : z.D = D) (w : World) (hz : (aBel z).holds w) (hI : z.bel.In) (hu : z.L.any (fun s => s.u) = true) : Ret Try.prog 15 #[.pointer (some ⟨D, 0, none⟩)] w fun r w' => r = .tuple #[vi 0, .bool false] ∧ Stp (aBel z) (aBel z) w w' := by
 obtain ⟨D', b, L, job, tool⟩ := z
 obtain rfl : D' = D := hD
 have hL := Bel.In.len hI (IMap.ndL hz.2.1)
 exact Idle_under _ b L job tool w hz (by have h5 : L.length ≤ 1690 := hL; omega) hI.neL hu
theorem Idle_z1 (z : Bz) (D : Nat) (hD : z.D = D) (w : World) (hz : (aBel z).holds w) (hI : z.bel.In) (hu : z.L.any (fun s => s.u) = false) (x : Wd) (hx : ∀ M, WsOf (· ∈ z.L) M → M = [x]) (hr : x.r ≤ 0) : Ret Try.prog 15 #[.pointer (some ⟨D, 0, none⟩)] w fun r w' => r = .tuple #[vi x.l, .bool true] ∧ Stp (aBel z) (aBel z) w w' := by
 obtain ⟨D', b, L, job, tool⟩ := z
 obtain rfl : D' = D := hD
 have hL := Bel.In.len hI (IMap.ndL hz.2.1)
 exact Idle_one _ b L job tool w hz (by have h5 : L.length ≤ 1690 := hL; omega) hI.neL hu x hx hr
theorem Known_z (z : Bz) (D : Nat) (hD : z.D = D) (w : World) (hz : (aBel z).holds w) (hI : z.bel.In) (hu : z.L.any (fun s => s.u) = false) (x : Wd) (hx : ∀ M, WsOf (· ∈ z.L) M → M = [x]) : Ret Try.prog 16 #[.pointer (some ⟨D, 0, none⟩)] w fun r w' => r = .tuple #[.agg x.cells, .bool true] ∧ Stp (aBel z) (aBel z) w w' := by
 obtain ⟨D', b, L, job, tool⟩ := z
 obtain rfl : D' = D := hD
 have hL := Bel.In.len hI (IMap.ndL hz.2.1)
 exact Known_one _ b L job tool w hz (by have h5 : L.length ≤ 1690 := hL; omega) hI.neL hu x hx
theorem aBel_new {D b : Nat} {l : Int} {w : World} (hD : Blk w D (belC b 0 0) 59) (hM : Mk.IMap sitK w b ([Sit.mk l 0 (-1) false].map unS)) (hne : b ≠ D) : (aBel ⟨D, b, [⟨l, 0, -1, false⟩], 0, 0⟩).holds w := ⟨hD, hM, hne⟩
theorem New_no (l : Int) (w : World) (h : l < 0) : Ret Try.prog 5 #[vi l] w fun r w' => r = .tuple #[.pointer none, vi 270] ∧ Up w w' := by
 have hW := Up.refl w
 refine cS (n := 18) (m := 9) func5 rfl rfl rfl ?_
 refine CW.S (LW.C (LW.C (LW.S (CW.S (LW.M rfl ?_)))))
 refine LW.pp (.tr (PEv.lss (.t rfl) (.const _)) (decide_eq_true h)) ?_
 refine LW.M rfl ?_
 refine LW.N ?_
 refine LW.N ?_
 refine LW.pp (.pick_or (b := false) (.t rfl) (fun hp => absurd (show true = false from hp) cQ)) ?_
 refine LW.T ?_
 refine CW.cond_true (.t rfl) ?_
 refine CW.S (LW.C (LW.C (LW.T (CW.ret (KW.then_ret ?_)))))
 refine KW.ret2 rfl rfl rfl ⟨_, rfl, ?_⟩
 exact ⟨rfl, hW⟩
theorem pick_any (c n : Int) (w : World) (hn : n ≠ 0) : Ret Try.prog 6 #[vi c, vi n] w fun r w' => r = vi (pickI c n) ∧ Up w w' := by
 have hW := Up.refl w
 refine cS (n := 13) (m := 9) func6 rfl rfl rfl ?_
 refine CW.S (LW.C (LW.S (CW.S (LW.M rfl ?_))))
 refine LW.pp (.lss (.t rfl) (.const _)) ?_
 refine LW.T ?_
 refine CW.cond (.t rfl) (fun h6 => ?_) (fun h6 => ?_)
 ·replace h6 := dQ h6
  refine CW.region (LW.M rfl ?_)
  refine LW.pp (.add_w (.t rfl) (.const _)) ?_
  refine LW.pp (.neg underlying3 (.t rfl)) ?_
  refine LW.A rfl (LW.S (CW.region (LW.M rfl (LW.M rfl ?_))))
  refine LW.pp (.rem (.t rfl) (.t rfl) oQ) ?_
  refine LW.A rfl (LW.T (CW.ret ?_))
  refine KW.ret1 rfl rfl ⟨_, rfl, ?_⟩
  exact ⟨by first | (rw [pickI, if_pos h6]) | (rw [pickI, if_neg (by omega)]), hW⟩
 replace h6 := dQ h6
 refine CW.skip (KW.then (CW.S (LW.M rfl (LW.M rfl ?_))))
 refine LW.pp (.rem (.t rfl) (.t rfl) oQ) ?_
 refine LW.A rfl (LW.T (CW.ret ?_))
 refine KW.ret1 rfl rfl ⟨_, rfl, ?_⟩
 exact ⟨by first | (rw [pickI, if_pos h6]) | (rw [pickI, if_neg (by omega)]), hW⟩
end Go.Proofs.Ytpofdidofjlkhaa
end
section
namespace Go.Wx
open Go.Wx.Mk
end Go.Wx
namespace Go.Proofs.Ytpofdidofjlkhaa
open Go.Proofs.Try
open Go.Wx Go.RowKit
theorem sane_any (w : World) : Ret Try.prog 4 #[] w fun r w' => r = .bool true ∧ Up w w' := by
 obtain ⟨w0, rfl⟩ : ∃ w0, w0 = w := ⟨_, rfl⟩
 have hS := Sep.start no w0
 refine cS (n := 125) (m := 9) func4 rfl rfl rfl ?_
 refine CW.S (LW.C (LW.S (CW.region ?_)))
 refine LW.K (eC (.cons (.const _) .nil) (en5)) rfl (New_any 4 _ oQ) ?_
 rintro _ w1 ⟨B, b, rfl, hB, hMb, zB, zb, zlt, uw1⟩
 have zw1 := uw1.size
 replace hS := hS.add uw1 (A' := aBel (new4 B b)) (aBel_new hB hMb oQ) (fun i hi => by rcases hi with (e : i = B) | (e : i = b) <;> omega)
 change Wx.Sep _ _ _ [_] at hS
 refine LW.M rfl (LW.pp (.extract (.t rfl) rfl) (LW.pp (.extract (.t rfl) rfl) (LW.A rfl (LW.A rfl (LW.S (CW.region ?_))))))
 refine LW.K (eC (.cons (.const _) .nil) (en5)) rfl (New_no (-1) _ cQ) ?_
 rintro _ w2 ⟨rfl, uw2⟩
 have zw2 := uw2.size
 replace hS := hS.up uw2
 refine LW.M rfl (LW.pp (.extract (.t rfl) rfl) (LW.pp (.extract (.t rfl) rfl) (LW.A rfl (LW.A rfl (LW.S (CW.S (LW.M rfl ?_)))))))
 refine LW.pp (.fa (PEv.eqlNil underlying24 (.t rfl)) (rfl)) ?_
 refine LW.M rfl ?_
 refine LW.Y ?_
 refine LW.M rfl ?_
 refine LW.Y ?_
 refine LW.pp (.fa (PEv.neq (.t rfl) (.const _)) (rfl)) ?_
 refine LW.pp (.pick_or (.t rfl) (fun hp => (by first | exact .const _ | exact .tmp rfl | exact .cond rfl (by first | assumption | simp_all)))) ?_
 refine LW.M rfl ?_
 refine LW.Y ?_
 refine LW.M rfl ?_
 refine LW.Y ?_
 refine LW.pp (.fa (PEv.neq (.t rfl) (.const _)) (rfl)) ?_
 refine LW.pp (.pick_or (.t rfl) (fun hp => (by first | exact .const _ | exact .tmp rfl | exact .cond rfl (by first | assumption | simp_all)))) ?_
 refine LW.T ?_
 refine CW.cond_false (.t rfl) ?_
 refine CW.skip (KW.then (CW.S (LW.M rfl ?_)))
 refine LW.K (eC (.cons (.t rfl) (.cons (.const _) (.cons (.const _) .nil))) (en7)) rfl (Command_z 7 2 (new4 B b) B rfl _ (hS.get 0 rfl) (by rw [new4_bel]; exact Bel.In.new cQ)) ?_
 rintro _ w3 ⟨rfl, z1, hD1, hb1, uw3⟩
 have zw3 := uw3.fr.size
 replace hS := hS.stp 0 rfl uw3
 change Wx.Sep _ _ _ [_] at hS
 rw [new4_bel, sane1] at hb1 ⊢
 refine LW.A rfl (LW.S (CW.region (LW.M rfl ?_)))
 refine LW.K (eC (.o rfl) (en11)) rfl (Worlds_z z1 B hD1 _ (hS.get 0 rfl) (by rw [hb1]; exact inB)) ?_
 rintro vW_ w4 ⟨p, hpw, hpl, hpo, hpn, hps⟩
 have zp := hps.fr.size
 replace hS := hS.stpAdd 0 rfl hps hpo hpn (fun i h1 h2 => by have h3 := (aBel z1).lt _ (hS.get 0 rfl) i h1; have h4 := hpn i h2; omega)
 change Wx.Sep _ _ _ [_, _] at hS
 obtain ⟨adp, cpp, rfl, _⟩ := (hS.own 1 rfl).sl (fun _ => rfl)
 obtain rfl := saneW1 (wsbl hb1 hpw)
 refine LW.K (eC (.cons (.const _) (.cons (.const _) (.cons (.const _) .nil))) (en14)) rfl (at_any 4 0 (-1) _) ?_
 rintro _ w5 ⟨rfl, uw5⟩
 have zw5 := uw5.size
 replace hS := hS.up uw5
 refine LW.rr (.buildSlice (xs := ([⟨4, 0, -1⟩] : List Wd)) (enc := Wd.cells) (mk := fun x : Wd => .agg x.cells) underlying38 sizeOf43 zeroValue43 rfl cQ (fun _ => rfl) (fun _ => rfl) (.cons (.t rfl) .nil) rfl) rfl ?_
 rintro _ w6 ⟨B41, cB41, rfl, NB41, yB41, xB41⟩
 have eB41 := NB41.at_
 have zB41 := NB41.size
 replace hS := hS.up NB41.up
 have hE41 := xB41
 refine LW.K (eC (.u rfl rfl) (en12)) rfl (SameW_any adp _ cpp _ [⟨4, 0, -1⟩] [⟨4, 0, -1⟩] _ (Nat.le_of_ble_eq_true rfl) (Nat.le_of_ble_eq_true rfl) (OwnS.elsS (hS.own 1 rfl) (fun _ => rfl)) hE41) ?_
 rintro _ w7 ⟨rfl, uw7⟩
 have zw7 := uw7.size
 replace hS := hS.up uw7
 rw [decide_eq_true (rfl : ([⟨4, 0, -1⟩] : List Wd) = [⟨4, 0, -1⟩])]
 refine LW.A rfl (LW.nil ?_)
 replace hS := hS.take 1
 change Wx.Sep _ _ _ [_] at hS
 refine KW.then (CW.S (LW.M rfl ?_))
 refine LW.K (eC (.o rfl) (en15)) rfl (Idle_z0 z1 B hD1 _ (hS.get 0 rfl) (by rw [hb1]; exact inB) (by rw [anyU hb1]; rfl)) ?_
 rintro _ w8 ⟨rfl, uw8⟩
 have zw8 := uw8.fr.size
 replace hS := hS.stp 0 rfl uw8
 change Wx.Sep _ _ _ [_] at hS
 refine LW.M rfl (LW.pp (.extract (.t rfl) rfl) ?_)
 refine LW.pp (.fa (PEv.extract (.t rfl) rfl) (rfl)) ?_
 refine LW.A rfl (LW.A rfl (LW.S (CW.region (LW.M rfl ?_))))
 refine LW.K (eC (.o rfl) (en8)) rfl (Pass_z z1 B hD1 _ (hS.get 0 rfl) (by rw [hb1]; exact inB)) ?_
 rintro _ w9 ⟨rfl, z2, hD2, hb2, uw9⟩
 have zw9 := uw9.fr.size
 replace hS := hS.stp 0 rfl uw9
 change Wx.Sep _ _ _ [_] at hS
 rw [hb1, sane2] at hb2
 refine LW.S (CW.region (LW.M rfl ?_))
 refine LW.K (eC (.o rfl) (en11)) rfl (Worlds_z z2 B hD2 _ (hS.get 0 rfl) (by rw [hb2]; exact inBig)) ?_
 rintro vW_ w10 ⟨q, hqw, hql, hqo, hqn, hqs⟩
 have zq := hqs.fr.size
 replace hS := hS.stpAdd 0 rfl hqs hqo hqn (fun i h1 h2 => by have h3 := (aBel z2).lt _ (hS.get 0 rfl) i h1; have h4 := hqn i h2; omega)
 change Wx.Sep _ _ _ [_, _] at hS
 obtain ⟨adq, cpq, rfl, _⟩ := (hS.own 1 rfl).sl (fun _ => rfl)
 obtain rfl := saneW2 (wsbl hb2 hqw)
 refine LW.K (eC (.cons (.const _) (.cons (.const _) (.cons (.const _) .nil))) (en14)) rfl (at_any 4 0 (-1) _) ?_
 rintro _ w11 ⟨rfl, uw11⟩
 have zw11 := uw11.size
 replace hS := hS.up uw11
 refine LW.K (eC (.cons (.const _) (.cons (.const _) (.cons (.const _) .nil))) (en14)) rfl (at_any 4 7 (2) _) ?_
 rintro _ w12 ⟨rfl, uw12⟩
 have zw12 := uw12.size
 replace hS := hS.up uw12
 refine LW.K (eC (.cons (.const _) (.cons (.const _) (.cons (.const _) .nil))) (en14)) rfl (at_any 7 0 (-1) _) ?_
 rintro _ w13 ⟨rfl, uw13⟩
 have zw13 := uw13.size
 replace hS := hS.up uw13
 refine LW.rr (.buildSlice (xs := ([⟨4, 0, -1⟩, ⟨4, 7, 2⟩, ⟨7, 0, -1⟩] : List Wd)) (enc := Wd.cells) (mk := fun x : Wd => .agg x.cells) underlying38 sizeOf43 zeroValue43 rfl cQ (fun _ => rfl) (fun _ => rfl) (.cons (.t rfl) (.cons (.t rfl) (.cons (.t rfl) .nil))) rfl) rfl ?_
 rintro _ w14 ⟨B55, cB55, rfl, NB55, yB55, xB55⟩
 have eB55 := NB55.at_
 have zB55 := NB55.size
 replace hS := hS.up NB55.up
 have hE55 := xB55
 refine LW.K (eC (.u rfl rfl) (en12)) rfl (SameW_any adq _ cpq _ [⟨4, 0, -1⟩, ⟨4, 7, 2⟩, ⟨7, 0, -1⟩] [⟨4, 0, -1⟩, ⟨4, 7, 2⟩, ⟨7, 0, -1⟩] _ (Nat.le_of_ble_eq_true rfl) (Nat.le_of_ble_eq_true rfl) (OwnS.elsS (hS.own 1 rfl) (fun _ => rfl)) hE55) ?_
 rintro _ w15 ⟨rfl, uw15⟩
 have zw15 := uw15.size
 replace hS := hS.up uw15
 rw [decide_eq_true (rfl : ([⟨4, 0, -1⟩, ⟨4, 7, 2⟩, ⟨7, 0, -1⟩] : List Wd) = [⟨4, 0, -1⟩, ⟨4, 7, 2⟩, ⟨7, 0, -1⟩])]
 refine LW.A rfl (LW.nil ?_)
 replace hS := hS.take 1
 change Wx.Sep _ _ _ [_] at hS
 refine KW.then (CW.S (LW.M rfl ?_))
 refine LW.K (eC (.cons (.t rfl) (.cons (.const _) (.cons (.const _) .nil))) (en7)) rfl (Command_z 8 1 z2 B hD2 _ (hS.get 0 rfl) (by rw [hb2]; exact inBig)) ?_
 rintro _ w16 ⟨rfl, z3, hD3, hb3, uw16⟩
 have zw16 := uw16.fr.size
 replace hS := hS.stp 0 rfl uw16
 change Wx.Sep _ _ _ [_] at hS
 rw [hb2, sane3] at hb3 ⊢
 refine LW.A rfl (LW.S (CW.region (LW.M rfl ?_)))
 refine LW.K (eC (.cons (.t rfl) (.cons (.const _) .nil)) (en9)) rfl (Restart_z 2 z3 B hD3 _ (hS.get 0 rfl) (by rw [hb3]; exact inBig)) ?_
 rintro _ w17 ⟨rfl, z4, hD4, hb4, uw17⟩
 have zw17 := uw17.fr.size
 replace hS := hS.stp 0 rfl uw17
 change Wx.Sep _ _ _ [_] at hS
 rw [hb3, sane4] at hb4
 refine LW.S (CW.region (LW.M rfl ?_))
 refine LW.K (eC (.o rfl) (en11)) rfl (Worlds_z z4 B hD4 _ (hS.get 0 rfl) (by rw [hb4]; exact inADA)) ?_
 rintro vW_ w18 ⟨s, hsw, hsl, hso, hsn, hss⟩
 have zs := hss.fr.size
 replace hS := hS.stpAdd 0 rfl hss hso hsn (fun i h1 h2 => by have h3 := (aBel z4).lt _ (hS.get 0 rfl) i h1; have h4 := hsn i h2; omega)
 change Wx.Sep _ _ _ [_, _] at hS
 obtain ⟨ads, cps, rfl, _⟩ := (hS.own 1 rfl).sl (fun _ => rfl)
 obtain rfl := saneW3 (wsbl hb4 hsw)
 refine LW.K (eC (.cons (.const _) (.cons (.const _) (.cons (.const _) .nil))) (en14)) rfl (at_any 4 0 (-1) _) ?_
 rintro _ w19 ⟨rfl, uw19⟩
 have zw19 := uw19.size
 replace hS := hS.up uw19
 refine LW.K (eC (.cons (.const _) (.cons (.const _) (.cons (.const _) .nil))) (en14)) rfl (at_any 7 0 (-1) _) ?_
 rintro _ w20 ⟨rfl, uw20⟩
 have zw20 := uw20.size
 replace hS := hS.up uw20
 refine LW.rr (.buildSlice (xs := ([⟨4, 0, -1⟩, ⟨7, 0, -1⟩] : List Wd)) (enc := Wd.cells) (mk := fun x : Wd => .agg x.cells) underlying38 sizeOf43 zeroValue43 rfl cQ (fun _ => rfl) (fun _ => rfl) (.cons (.t rfl) (.cons (.t rfl) .nil)) rfl) rfl ?_
 rintro _ w21 ⟨B65, cB65, rfl, NB65, yB65, xB65⟩
 have eB65 := NB65.at_
 have zB65 := NB65.size
 replace hS := hS.up NB65.up
 have hE65 := xB65
 refine LW.K (eC (.u rfl rfl) (en12)) rfl (SameW_any ads _ cps _ [⟨4, 0, -1⟩, ⟨7, 0, -1⟩] [⟨4, 0, -1⟩, ⟨7, 0, -1⟩] _ (Nat.le_of_ble_eq_true rfl) (Nat.le_of_ble_eq_true rfl) (OwnS.elsS (hS.own 1 rfl) (fun _ => rfl)) hE65) ?_
 rintro _ w22 ⟨rfl, uw22⟩
 have zw22 := uw22.size
 replace hS := hS.up uw22
 rw [decide_eq_true (rfl : ([⟨4, 0, -1⟩, ⟨7, 0, -1⟩] : List Wd) = [⟨4, 0, -1⟩, ⟨7, 0, -1⟩])]
 refine LW.A rfl (LW.nil ?_)
 replace hS := hS.take 1
 change Wx.Sep _ _ _ [_] at hS
 refine KW.then (CW.S (LW.M rfl ?_))
 refine LW.pp (.build (cs := #[vi 2, vi 7]) underlying37 zeroValue37 Try.places37 (.cons (.const _) (.cons (.const _) .nil)) rfl) ?_
 refine LW.K (eC (.u rfl rfl) (en10)) rfl (Report_z 2 7 z4 B hD4 _ (hS.get 0 rfl) (by rw [hb4]; exact inADA)) ?_
 rintro _ w23 ⟨rfl, z5, hD5, hb5, uw23⟩
 have zw23 := uw23.fr.size
 replace hS := hS.stp 0 rfl uw23
 change Wx.Sep _ _ _ [_] at hS
 rw [hb4, sane5] at hb5 ⊢
 refine LW.A rfl (LW.S (CW.region (LW.M rfl ?_)))
 refine LW.pp (.build (cs := #[vi 4, vi 7]) underlying37 zeroValue37 Try.places37 (.cons (.const _) (.cons (.const _) .nil)) rfl) ?_
 refine LW.K (eC (.u rfl rfl) (en10)) rfl (Report_z 4 7 z5 B hD5 _ (hS.get 0 rfl) (by rw [hb5]; exact inADA)) ?_
 rintro _ w24 ⟨rfl, z6, hD6, hb6, uw24⟩
 have zw24 := uw24.fr.size
 replace hS := hS.stp 0 rfl uw24
 change Wx.Sep _ _ _ [_] at hS
 rw [hb5, sane6] at hb6 ⊢
 refine LW.A rfl (LW.S (CW.region (LW.M rfl ?_)))
 refine LW.K (eC (.o rfl) (en16)) rfl (Known_z z6 B hD6 _ (hS.get 0 rfl) (by rw [hb6]; exact inAA) (by rw [anyU hb6]; rfl) ⟨4, 0, -1⟩ (fun M h => saneW4 (wsbl hb6 h))) ?_
 rintro _ w25 ⟨rfl, uw25⟩
 have zw25 := uw25.fr.size
 replace hS := hS.stp 0 rfl uw25
 change Wx.Sep _ _ _ [_] at hS
 refine LW.M rfl (LW.pp (.extract (.t rfl) rfl) ?_)
 refine LW.pp (.tr (PEv.extract (.t rfl) rfl) (rfl)) ?_
 refine LW.rr (.allocA zeroValue43) rfl ?_
 rintro _ w26 ⟨B14, rfl, MB14⟩
 refine LW.E (.storeA sizeOf43 rfl (.t rfl) (.t rfl) (Wd.one _) MB14.blk rfl) ?_
 intro w27 LB14
 have NB14 := MB14.set LB14
 clear LB14 MB14
 have eB14 := NB14.at_
 have zB14 := NB14.size
 replace hS := hS.addB NB14
 change Wx.Sep _ _ _ [_, _] at hS
 refine LW.A rfl (LW.S (CW.region (LW.M rfl ?_)))
 refine LW.K (eC (.o rfl) (en15)) rfl (Idle_z1 z6 B hD6 _ (hS.get 0 rfl) (by rw [hb6]; exact inAA) (by rw [anyU hb6]; rfl) ⟨4, 0, -1⟩ (fun M h => saneW4 (wsbl hb6 h)) cQ) ?_
 rintro _ w28 ⟨rfl, uw28⟩
 have zw28 := uw28.fr.size
 replace hS := hS.stp 0 rfl uw28
 change Wx.Sep _ _ _ [_, _] at hS
 refine LW.M rfl (LW.pp (.extract (.t rfl) rfl) ?_)
 refine LW.pp (.tr (PEv.extract (.t rfl) rfl) (rfl)) ?_
 refine LW.A rfl (LW.A rfl (LW.S ?_))
 refine CW.draws kQ kQ rfl rfl ?_
 refine HW.pp (.move (.t rfl)) ?_
 refine HW.pp (.tr (PEv.eql (.t rfl) (.const _)) (rfl)) ?_
 refine HW.pp (.move (.t rfl)) ?_
 refine HW.yy (.move (.t rfl)) ?_
 refine HW.pp (.pick_and (.t rfl) (fun hp => (by first | exact .const _ | exact .tmp rfl | exact .cond rfl (by first | assumption | simp_all)))) ?_
 refine HW.pp (.move (.t rfl)) ?_
 refine HW.yy (.move (.t rfl)) ?_
 refine HW.yy (.not (.t rfl)) ?_
 refine HW.pp (.pick_and (.t rfl) (fun hp => (by first | exact .const _ | exact .tmp rfl | exact .cond rfl (by first | assumption | simp_all)))) ?_
 refine HW.pp (.move (.t rfl)) ?_
 refine HW.yy (.move (.t rfl)) ?_
 refine HW.pp (.pick_and (.t rfl) (fun hp => (by first | exact .const _ | exact .tmp rfl | exact .cond rfl (by first | assumption | simp_all)))) ?_
 refine HW.pp (.move (.t rfl)) ?_
 refine HW.yy (.move (.t rfl)) ?_
 refine HW.yy (.tr (PEv.eql (.t rfl) (.const _)) (rfl)) ?_
 refine HW.pp (.pick_and (.t rfl) (fun hp => (by first | exact .const _ | exact .tmp rfl | exact .cond rfl (by first | assumption | simp_all)))) ?_
 refine HW.pp (.move (.t rfl)) ?_
 refine HW.yy (.move (.t rfl)) ?_
 refine HW.pp (.pick_and (.t rfl) (fun hp => (by first | exact .const _ | exact .tmp rfl | exact .cond rfl (by first | assumption | simp_all)))) ?_
 refine HW.pp (.move (.t rfl)) ?_
 refine HW.yy (.move (.t rfl)) ?_
 refine HW.yy (.tr (PEv.eql (.t rfl) (.const _)) (rfl)) ?_
 refine HW.pp (.pick_and (.t rfl) (fun hp => (by first | exact .const _ | exact .tmp rfl | exact .cond rfl (by first | assumption | simp_all)))) ?_
 refine HW.pp (.move (.t rfl)) ?_
 refine HW.yy (.move (.t rfl)) ?_
 refine HW.yy (.tr (PEv.eql (.t rfl) (.const _)) (rfl)) ?_
 refine HW.pp (.pick_and (.t rfl) (fun hp => (by first | exact .const _ | exact .tmp rfl | exact .cond rfl (by first | assumption | simp_all)))) ?_
 refine HW.pp (.move (.t rfl)) ?_
 refine HW.yy (.move (.t rfl)) ?_
 refine HW.pp (.pick_and (.t rfl) (fun hp => (by first | exact .const _ | exact .tmp rfl | exact .cond rfl (by first | assumption | simp_all)))) ?_
 refine HW.pp (.move (.t rfl)) ?_
 refine HW.yy (.la isAgg43 sizeOf43 rfl ((hS.blk 1 rfl).agg)) ?_
 refine HW.yc rfl rfl rfl rfl rfl (fun a w _ ha => enter_call0 (.cons (.const _) (.cons (.const _) (.cons (.const _) .nil))) (en14) a ha) rfl (fun w hu => at_any 4 0 (-1) w) ?_
 refine HW.yy (.tr (PEv.eqlA eqGuardType43 (Try.eqWd _ _) (.t rfl) (.t rfl)) (decide_eq_true rfl)) ?_
 refine HW.pp (.pick_and (.t rfl) (fun hp => (by first | exact .const _ | exact .tmp rfl | exact .cond rfl (by first | assumption | simp_all)))) ?_
 refine HW.pp (.move (.t rfl)) ?_
 refine HW.yy (.move (.t rfl)) ?_
 refine HW.pp (.pick_and (.t rfl) (fun hp => (by first | exact .const _ | exact .tmp rfl | exact .cond rfl (by first | assumption | simp_all)))) ?_
 refine HW.pp (.move (.t rfl)) ?_
 refine HW.yy (.move (.t rfl)) ?_
 refine HW.yy (.tr (PEv.eql (.t rfl) (.const _)) (rfl)) ?_
 refine HW.pp (.pick_and (.t rfl) (fun hp => (by first | exact .const _ | exact .tmp rfl | exact .cond rfl (by first | assumption | simp_all)))) ?_
 refine HW.pp (.assign (.t rfl)) ?_
 refine HW.nil ?_
 intro w29 uw29
 have zw29 := uw29.size
 replace hS := hS.up uw29
 refine KW.then (CW.ret ?_)
 refine KW.ret1 rfl rfl ⟨_, rfl, ?_⟩
 exact ⟨rfl, hS.upd⟩
end Go.Proofs.Ytpofdidofjlkhaa
end
section
namespace Go.Wx
open Go.Wx.Mk
noncomputable def stepB (b : Bel) (x : Stp3) : Bel :=
 if pickI x.C 4 = 0 then (b.cmd (pickI x.A 13) (pickI x.B 4)).2 else if pickI x.C 4 = 1 then b.pass else if pickI x.C 4 = 2 then b.restart (pickI x.B 4) else (b.report (1 + pickI x.B 4) (pickI x.A 13)).2
theorem step0 {b : Bel} {x : Stp3} (h : pickI x.C 4 = 0) : stepB b x = (b.cmd (pickI x.A 13) (pickI x.B 4)).2 := if_pos h
theorem step1 {b : Bel} {x : Stp3} (h : pickI x.C 4 = 1) : stepB b x = b.pass := by unfold stepB; rw [if_neg oQ, if_pos h]
theorem step2 {b : Bel} {x : Stp3} (h : pickI x.C 4 = 2) : stepB b x = b.restart (pickI x.B 4) := by unfold stepB; rw [if_neg oQ, if_neg oQ, if_pos h]
theorem step3 {b : Bel} {x : Stp3} (h0 : ¬ pickI x.C 4 = 0) (h1 : ¬ pickI x.C 4 = 1) (h2 : ¬ pickI x.C 4 = 2) : stepB b x = (b.report (1 + pickI x.B 4) (pickI x.A 13)).2 := by unfold stepB; rw [if_neg h0, if_neg h1, if_neg h2]
def Stp3.ok (x : Stp3) : Prop := inI x.C ∧ inI x.A ∧ inI x.B
theorem step_in {b : Bel} {x : Stp3} (h : b.In) (hx : x.ok) : (stepB b x).In := by
 have h1 := pick_range (n := 13) hx.2.1 cQ
 have h2 := pick_range (n := 4) hx.2.2 cQ
 unfold stepB
 split
 · exact h.cmd oQ oQ
 split
 · exact h.pass
 split
 · exact h.restart _
 exact h.report _ _
noncomputable def runB (b : Bel) (l : List Stp3) (i : Nat) : Bel := (l.take i).foldl stepB b
theorem run_in {b : Bel} {l : List Stp3} (h : b.In) (hl : ∀ x ∈ l, x.ok) (i : Nat) : (runB b l i).In := Bel.In.runs (fun _ x hb hx => step_in hb (hl x hx)) h i
theorem run_next {b : Bel} {l : List Stp3} {i : Nat} {x : Stp3} (hx : l[i]? = some x) : runB b l (i + 1) = stepB (runB b l i) x := by
 unfold runB
 rw [List.take_add_one, hx, Option.toList_some, List.foldl_append]
 rfl
theorem run_end {b : Bel} {l : List Stp3} {i : Nat} (h1 : i ≤ l.length) (h2 : i ≤ 40) (h : ¬ (i < l.length ∧ i < 40)) : runB b l i = runB b l 40 := by
 unfold runB
 by_cases e : i = 40
 · rw [e]
 rw [List.take_of_length_le (i := i) oQ, List.take_of_length_le (i := 40) (by omega)]
def encP (D : Nat) : Array Go.Value := #[.pointer (some ⟨D, 0, none⟩)]
theorem ne_pos {M : List Wd} (h : M ≠ []) : ¬ ((M.length : Int) = 0) := fun e => h (List.eq_nil_of_length_eq_zero oQ)
theorem allIn {M N : List Wd} (h : ∀ x ∈ M, x ∈ N) {k : Nat} {x : Wd} (hx : M[k]? = some x) : decide (x ∈ N) = true := decide_eq_true (h x (List.mem_of_getElem? hx))
theorem ws_ne2 {b : Bel} {M : List Wd} (h : WsOf b.S M) (hI : b.In) : M ≠ [] := fun e => by
 obtain ⟨s, hs⟩ := hI.ne
 have := (h.mem s.w).2 ⟨s, hs, rfl⟩
 rw [e] at this
 cases this
theorem ws_same {a b : Bel} {M N : List Wd} (h : WsOf a.S M) (k : WsOf b.S N) (e : a = b) : M = N := by
 subst e
 exact h.uniq k fun _ => Iff.rfl
theorem ws_eq {a b : Bel} {M : List Wd} (h : WsOf a.S M) (e : a = b) : WsOf b.S M := e ▸ h
end Go.Wx
namespace Go.Proofs.Ytpofdidofjlkhaa
open Go.Proofs.Try
open Go.Wx Go.RowKit
set_option maxHeartbeats 1000000 in
theorem BeliefPasses_any (last kind n : Int) (ad : Option Addr) (cp : Nat) (l : List Stp3) (w : World) (hlast : inI last) (hE0 : Els w ad 3 Stp3.cells l) (hl : ∀ x ∈ l, x.ok) : Ret Try.prog 3 #[vi last, .slice ad l.length cp, vi kind, vi n] w fun r w' => r = .bool true ∧ Up w w' := by
 obtain ⟨w0, rfl⟩ : ∃ w0, w0 = w := ⟨_, rfl⟩
 have hS := Sep.start no w0
 refine cS (n := 175) (m := 9) func3 rfl rfl rfl ?_
 refine CW.S (LW.C (LW.S (CW.region ?_)))
 refine LW.K (eC .nil (en4)) rfl (sane_any _) ?_
 rintro _ w1 ⟨rfl, uw1⟩
 have zw1 := uw1.size
 replace hS := hS.up uw1
 refine LW.A rfl (LW.S ?_)
 have hpl := pick_range (c := last) (n := 4) hlast cQ
 refine CW.region (LW.M rfl ?_)
 refine LW.K (eC (.cons (.t rfl) (.cons (.const _) .nil)) (en6)) rfl (pick_any last 4 _ cQ) ?_
 rintro _ w2 ⟨rfl, uw2⟩
 have zw2 := uw2.size
 replace hS := hS.up uw2
 refine LW.K (eC (.o rfl) (en5)) rfl (New_any (pickI last 4) _ oQ) ?_
 rintro _ w3 ⟨Bx, bx_, rfl, hB, hMb, zBx, zbx, zltx, uw3⟩
 have zw3 := uw3.size
 replace hS := hS.add uw3 (A' := aBel ⟨Bx, bx_, [⟨pickI last 4, 0, -1, false⟩], 0, 0⟩) (aBel_new hB hMb oQ) (fun i hi => by rcases hi with (e : i = Bx) | (e : i = bx_) <;> omega)
 change Wx.Sep _ _ _ [_] at hS
 refine LW.M rfl (LW.pp (.extract (.t rfl) rfl) (LW.pp (.extract (.t rfl) rfl) (LW.A rfl (LW.A rfl (LW.S (CW.region (LW.M rfl ?_)))))))
 refine LW.K (eC (.cons (.t rfl) (.cons (.const _) .nil)) (en6)) rfl (pick_any last 4 _ cQ) ?_
 rintro _ w4 ⟨rfl, uw4⟩
 have zw4 := uw4.size
 replace hS := hS.up uw4
 refine LW.K (eC (.o rfl) (en5)) rfl (New_any (pickI last 4) _ oQ) ?_
 rintro _ w5 ⟨By, by_, rfl, hB, hMb, zBy, zby, zlty, uw5⟩
 have zw5 := uw5.size
 replace hS := hS.add uw5 (A' := aBel ⟨By, by_, [⟨pickI last 4, 0, -1, false⟩], 0, 0⟩) (aBel_new hB hMb oQ) (fun i hi => by rcases hi with (e : i = By) | (e : i = by_) <;> omega)
 change Wx.Sep _ _ _ [_, _] at hS
 refine LW.M rfl (LW.pp (.extract (.t rfl) rfl) (LW.pp (.extract (.t rfl) rfl) (LW.A rfl (LW.A rfl (LW.S (CW.S (LW.M rfl ?_)))))))
 refine LW.pp (.fa (PEv.neq (.t rfl) (.const _)) (rfl)) ?_
 refine LW.M rfl ?_
 refine LW.Y ?_
 refine LW.M rfl ?_
 refine LW.Y ?_
 refine LW.pp (.fa (PEv.neq (.t rfl) (.const _)) (rfl)) ?_
 refine LW.pp (.pick_or (.t rfl) (fun hp => (by first | exact .const _ | exact .tmp rfl | exact .cond rfl (by first | assumption | simp_all)))) ?_
 refine LW.M rfl ?_
 refine LW.Y ?_
 refine LW.M rfl ?_
 refine LW.Y ?_
 refine LW.pp (.fa (PEv.eqlNil underlying24 (.t rfl)) (rfl)) ?_
 refine LW.pp (.pick_or (.t rfl) (fun hp => (by first | exact .const _ | exact .tmp rfl | exact .cond rfl (by first | assumption | simp_all)))) ?_
 refine LW.M rfl ?_
 refine LW.Y ?_
 refine LW.M rfl ?_
 refine LW.Y ?_
 refine LW.pp (.fa (PEv.eqlNil underlying24 (.t rfl)) (rfl)) ?_
 refine LW.pp (.pick_or (.t rfl) (fun hp => (by first | exact .const _ | exact .tmp rfl | exact .cond rfl (by first | assumption | simp_all)))) ?_
 refine LW.T ?_
 refine CW.cond_false (.t rfl) ?_
 refine CW.skip (KW.then (CW.seq (CW.seq ?_)))
 have hIn0 : (Bel.new (pickI last 4)).In := Bel.In.new oQ
 have hI1 := run_in hIn0 hl 40
 refine CW.region (LW.M rfl (LW.M rfl ?_))
 refine LW.rr (.buildSlice (xs := [Bx, By]) (enc := encP) (mk := fun D => .pointer (some ⟨D, 0, none⟩)) underlying29 sizeOf24 zeroValue24 rfl cQ (fun _ => rfl) (fun _ => rfl) (.cons (.t rfl) (.cons (.t rfl) .nil)) rfl) rfl ?_
 intro v54 w6 hN54
 obtain ⟨u54, B54, rfl, e54, hO54⟩ := NewSl.own hN54 (fun _ => rfl) Nat.one_pos (Nat.le_of_ble_eq_true rfl)
 have z54 := u54.size
 replace hS := hS.add u54 (A' := aOwn 24 1 encP (.slice (some ⟨B54, 0, none⟩) 2 2) [Bx, By]) hO54 (fun i h => by cases h; exact Nat.le_of_eq e54.symm)
 change Wx.Sep _ _ _ [_, _, _] at hS
 refine LW.pp (.as (v' := vi 2) (PEv.lenS underlying29 (.t rfl)) rfl) ?_
 refine LW.pp (.move (.const _)) ?_
 refine LW.T (CW.block ?_)
 refine CW.loopB (σ := Nat × Bz × Bz) (fun s w => (s.1 ≤ 2) ∧ (s.2.1.D = Bx) ∧ (s.2.2.D = By) ∧ (s.2.1.bel = runB (Bel.new (pickI last 4)) l (if 1 ≤ s.1 then 40 else 0)) ∧ (s.2.2.bel = runB (Bel.new (pickI last 4)) l (if 2 ≤ s.1 then 40 else 0)) ∧ (Wx.Sep no w0 w [aBel s.2.1, aBel s.2.2, aOwn 24 1 encP (.slice (some ⟨B54, 0, none⟩) 2 2) [Bx, By]])) (fun s => [(56, .eq (vi (s.1 : Int)))]) ([(1, .eq _), (2, .eq _), (3, .eq _), (8, .eq _), (9, .eq _), (10, .eq _), (12, .eq _), (54, .eq _), (55, .eq _)]) (fun s => 2 - s.1) (0, ⟨Bx, bx_, [⟨pickI last 4, 0, -1, false⟩], 0, 0⟩, ⟨By, by_, [⟨pickI last 4, 0, -1, false⟩], 0, 0⟩) ?_ ⟨rfl, rfl, rfl, rfl, rfl, rfl, rfl, rfl, rfl, rfl, trivial⟩ ?_
 ·exact ⟨Nat.zero_le _, rfl, rfl, new_bel _ _ _, new_bel _ _ _, hS⟩
 rintro ⟨k, zx, zy⟩ w7 ⟨hk2, hxD, hyD, hxb, hyb, hS⟩
 dsimp only at hk2 hxD hyD hxb hyb hS
 change CW _ _ _ _ _ _ _ ([(56, .eq (vi (k : Int)))] ++ _) _
 refine CW.S ?_
 refine LW.pp (.lss (.t rfl) (.t rfl)) ?_
 refine LW.S ?_
 refine CW.cond (.t rfl) (fun h57 => ?_) (fun h57 => ?_)
 ·replace h57 := dQ h57
  refine CW.skip (KW.then (CW.seq (CW.block (CW.seq ?_))))
  cases hq8 : decide (k = 0) with
  | true =>
   have hk : k = 0 := by simpa using hq8
   subst hk
   obtain ⟨Bq, oq, aq, hcq⟩ := (OwnS.elsS (hS.own 2 rfl) (fun _ => rfl)) 0 Bx rfl
   cases aq
   have hk0_ := True.intro
   refine CW.region ?_
   refine LW.pp (.indexAddr' underlying29 sizeOf24 (j := 0) (.t rfl) (.t rfl) (Nat.le_of_ble_eq_true rfl) rfl) ?_
   refine LW.pp (.ld isAgg24 rfl (hcq.nth (j := 0) rfl)) ?_
   refine LW.A rfl (LW.S (CW.region (LW.C (LW.T (CW.block ?_)))))
   refine CW.loopB (σ := Nat × Bz) (fun s w => (s.1 ≤ l.length) ∧ (s.1 ≤ 40) ∧ (s.2.D = Bx) ∧ (s.2.bel = runB (Bel.new (pickI last 4)) l s.1) ∧ (Wx.Sep no w0 w [aBel s.2, aBel zy, aOwn 24 1 encP (.slice (some ⟨B54, 0, none⟩) 2 2) [Bx, By]])) (fun s => [(16, .eq (vi (s.1 : Int)))]) ([(1, .eq _), (2, .eq _), (3, .eq _), (8, .eq _), (9, .eq _), (10, .eq _), (12, .eq _), (15, .eq _), (54, .eq _), (55, .eq _), (56, .eq _)]) (fun s => l.length - s.1) (0, zx) ?_ ⟨rfl, rfl, rfl, rfl, rfl, rfl, rfl, rfl, rfl, rfl, rfl, rfl, trivial⟩ ?_
   ·exact ⟨Nat.zero_le _, Nat.zero_le _, hxD, hxb, hS⟩
   rintro ⟨i, z⟩ w8 ⟨hil, hi4, hzD, hzb, hS⟩
   dsimp only at hil hi4 hzD hzb hS
   change CW _ _ _ _ _ _ _ ([(16, .eq (vi (i : Int)))] ++ _) _
   refine CW.seq (CW.S (LW.M rfl (LW.M rfl ?_)))
   refine LW.pp (.lenS underlying22 (.t rfl)) ?_
   refine LW.pp (.lss (.t rfl) (.t rfl)) ?_
   refine LW.M rfl ?_
   refine LW.g rfl rfl rfl rfl rfl rfl rfl (fun hc => PEv.move (.t rfl)) ?_
   refine LW.g rfl rfl rfl rfl rfl rfl rfl (fun hc => PEv.lss vQ (.const _)) ?_
   refine LW.pp (.pick_and (.t rfl) (fun hp => (by first | exact .const _ | exact .tmp rfl | exact .cond rfl (by first | assumption | simp_all)))) ?_
   refine LW.T ?_
   refine CW.cond (.t rfl) (fun h67 => ?_) (fun h67 => ?_)
   ·replace h67 := dQ h67
    have h67a : i < l.length ∧ i < 40 := by have h5 := h67; simp at h5; omega
    refine CW.skip (KW.then (CW.seq (CW.block (CW.seq ?_))))
    obtain ⟨x, hx⟩ : ∃ x, l[i]? = some x := ⟨_, List.getElem?_eq_getElem oQ⟩
    obtain ⟨Be, oe, ax, hcx0⟩ := hE0 i x hx
    have hxo := hl x (List.mem_of_getElem? hx)
    have hpB := pick_range (n := 4) hxo.2.2 cQ
    have hpA := pick_range (n := 13) hxo.2.1 cQ
    refine CW.region (LW.M rfl (LW.M rfl ?_))
    refine LW.pp (.indexAddr' underlying22 sizeOf31 (j := i) (.t rfl) (.t rfl) oQ ax) ?_
    refine LW.pp (.fA 1 underlying31 rfl sizeOf3 rfl) ?_
    refine LW.pp (.ld isAgg3 rfl ((hcx0.up hS.upd).nth (j := 1) rfl)) ?_
    refine LW.K (eC (.cons (.t rfl) (.cons (.const _) .nil)) (en6)) rfl (pick_any x.A 13 _ cQ) ?_
    rintro _ w9 ⟨rfl, uw9⟩
    have zw9 := uw9.size
    replace hS := hS.up uw9
    refine LW.A rfl (LW.S (CW.region (LW.M rfl (LW.M rfl ?_))))
    refine LW.pp (.indexAddr' underlying22 sizeOf31 (j := i) (.t rfl) (.t rfl) oQ ax) ?_
    refine LW.pp (.fA 2 underlying31 rfl sizeOf3 rfl) ?_
    refine LW.pp (.ld isAgg3 rfl ((hcx0.up hS.upd).nth (j := 2) rfl)) ?_
    refine LW.K (eC (.cons (.t rfl) (.cons (.const _) .nil)) (en6)) rfl (pick_any x.B 4 _ cQ) ?_
    rintro _ w10 ⟨rfl, uw10⟩
    have zw10 := uw10.size
    replace hS := hS.up uw10
    refine LW.A rfl (LW.S (CW.region (LW.M rfl (LW.M rfl ?_))))
    refine LW.pp (.indexAddr' underlying22 sizeOf31 (j := i) (.t rfl) (.t rfl) oQ ax) ?_
    refine LW.pp (.fA 0 underlying31 rfl sizeOf3 rfl) ?_
    refine LW.pp (.ld isAgg3 rfl ((hcx0.up hS.upd).nth (j := 0) rfl)) ?_
    refine LW.K (eC (.cons (.t rfl) (.cons (.const _) .nil)) (en6)) rfl (pick_any x.C 4 _ cQ) ?_
    rintro _ w11 ⟨rfl, uw11⟩
    have zw11 := uw11.size
    replace hS := hS.up uw11
    refine LW.T (CW.block (CW.S ?_))
    refine LW.pp (.eql (.t rfl) (.const _)) ?_
    refine LW.A rfl (LW.T ?_)
    refine CW.cond (.t rfl) (fun h94 => ?_) (fun h94 => ?_)
    ·replace h94 := dQ h94
     refine CW.region (LW.M rfl (LW.M rfl (LW.M rfl ?_)))
     refine LW.K (eC (.cons (.t rfl) (.cons (.t rfl) (.cons (.t rfl) .nil))) (en7)) rfl (Command_z (pickI x.A 13) (pickI x.B 4) z Bx hzD _ (hS.get 0 rfl) (by rw [hzb]; exact run_in hIn0 hl i)) ?_
     rintro _ w12 ⟨rfl, z2, hD2, hb2, uw12⟩
     have zw12 := uw12.fr.size
     replace hS := hS.stp 0 rfl uw12
     change Wx.Sep _ _ _ [_, _, _] at hS
     have hnx : z2.bel = runB (Bel.new (pickI last 4)) l (i + 1) := by rw [run_next hx, ← hzb, step0 h94]; exact hb2
     refine LW.nil (KW.inBlock (KW.inBlock (KW.then (CW.region (LW.M rfl ?_)))))
     refine LW.pp (.inc (.t rfl) oQ) ?_
     refine LW.A rfl (LW.nil (KW.round ?_))
     exact ⟨(i + 1, z2), ⟨by show i + 1 ≤ _; omega, by show i + 1 ≤ _; omega, hD2, hnx, hS⟩, ⟨rfl, rfl, rfl, rfl, rfl, rfl, rfl, rfl, rfl, rfl, rfl, rfl, trivial⟩, by show l.length - (i + 1) < l.length - i; omega⟩
    replace h94 := dQ h94
    refine CW.S ?_
    refine LW.pp (.eql (.t rfl) (.const _)) ?_
    refine LW.A rfl (LW.T ?_)
    refine CW.cond (.t rfl) (fun h100 => ?_) (fun h100 => ?_)
    ·replace h100 := dQ h100
     refine CW.region (LW.M rfl ?_)
     refine LW.K (eC (.o rfl) (en8)) rfl (Pass_z  z Bx hzD _ (hS.get 0 rfl) (by rw [hzb]; exact run_in hIn0 hl i)) ?_
     rintro _ w13 ⟨rfl, z2, hD2, hb2, uw13⟩
     have zw13 := uw13.fr.size
     replace hS := hS.stp 0 rfl uw13
     change Wx.Sep _ _ _ [_, _, _] at hS
     have hnx : z2.bel = runB (Bel.new (pickI last 4)) l (i + 1) := by rw [run_next hx, ← hzb, step1 h100]; exact hb2
     refine LW.nil (KW.inBlock (KW.inBlock (KW.then (CW.region (LW.M rfl ?_)))))
     refine LW.pp (.inc (.t rfl) oQ) ?_
     refine LW.A rfl (LW.nil (KW.round ?_))
     exact ⟨(i + 1, z2), ⟨by show i + 1 ≤ _; omega, by show i + 1 ≤ _; omega, hD2, hnx, hS⟩, ⟨rfl, rfl, rfl, rfl, rfl, rfl, rfl, rfl, rfl, rfl, rfl, rfl, trivial⟩, by show l.length - (i + 1) < l.length - i; omega⟩
    replace h100 := dQ h100
    refine CW.S ?_
    refine LW.pp (.eql (.t rfl) (.const _)) ?_
    refine LW.A rfl (LW.T ?_)
    refine CW.cond (.t rfl) (fun h104 => ?_) (fun h104 => ?_)
    ·replace h104 := dQ h104
     refine CW.region (LW.M rfl (LW.M rfl ?_))
     refine LW.K (eC (.u rfl rfl) (en9)) rfl (Restart_z (pickI x.B 4) z Bx hzD _ (hS.get 0 rfl) (by rw [hzb]; exact run_in hIn0 hl i)) ?_
     rintro _ w14 ⟨rfl, z2, hD2, hb2, uw14⟩
     have zw14 := uw14.fr.size
     replace hS := hS.stp 0 rfl uw14
     change Wx.Sep _ _ _ [_, _, _] at hS
     have hnx : z2.bel = runB (Bel.new (pickI last 4)) l (i + 1) := by rw [run_next hx, ← hzb, step2 h104]; exact hb2
     refine LW.nil (KW.inBlock (KW.inBlock (KW.then (CW.region (LW.M rfl ?_)))))
     refine LW.pp (.inc (.t rfl) oQ) ?_
     refine LW.A rfl (LW.nil (KW.round ?_))
     exact ⟨(i + 1, z2), ⟨by show i + 1 ≤ _; omega, by show i + 1 ≤ _; omega, hD2, hnx, hS⟩, ⟨rfl, rfl, rfl, rfl, rfl, rfl, rfl, rfl, rfl, rfl, rfl, rfl, trivial⟩, by show l.length - (i + 1) < l.length - i; omega⟩
    replace h104 := dQ h104
    refine CW.region (LW.M rfl (LW.M rfl ?_))
    refine LW.pp (.add (.const _) (.t rfl) oQ oQ) ?_
    refine LW.M rfl ?_
    refine LW.pp (.build (cs := #[vi (1 + pickI x.B 4), vi (pickI x.A 13)]) underlying37 zeroValue37 Try.places37 (.cons (.t rfl) (.cons (.t rfl) .nil)) rfl) ?_
    refine LW.K (eC (.u rfl rfl) (en10)) rfl (Report_z (1 + pickI x.B 4) (pickI x.A 13) z Bx hzD _ (hS.get 0 rfl) (by rw [hzb]; exact run_in hIn0 hl i)) ?_
    rintro _ w15 ⟨rfl, z2, hD2, hb2, uw15⟩
    have zw15 := uw15.fr.size
    replace hS := hS.stp 0 rfl uw15
    change Wx.Sep _ _ _ [_, _, _] at hS
    have hnx : z2.bel = runB (Bel.new (pickI last 4)) l (i + 1) := by rw [run_next hx, ← hzb, step3 h94 h100 h104]; exact hb2
    refine LW.nil (KW.inBlock (KW.inBlock (KW.then (CW.region (LW.M rfl ?_)))))
    refine LW.pp (.inc (.t rfl) oQ) ?_
    refine LW.A rfl (LW.nil (KW.round ?_))
    exact ⟨(i + 1, z2), ⟨by show i + 1 ≤ _; omega, by show i + 1 ≤ _; omega, hD2, hnx, hS⟩, ⟨rfl, rfl, rfl, rfl, rfl, rfl, rfl, rfl, rfl, rfl, rfl, rfl, trivial⟩, by show l.length - (i + 1) < l.length - i; omega⟩
   replace h67 := dQ h67
   have h67b : ¬ (i < l.length ∧ i < 40) := by have h5 := h67; simp at h5; omega
   rw [run_end hil hi4 h67b] at hzb
   refine CW.exit (KW.then_exit (KW.then_exit (KW.block_hit (KW.inBlock (KW.then (CW.region ?_))))))
   refine LW.pp (.inc (.t rfl) oQ) ?_
   refine LW.M rfl (LW.nil (KW.round ?_))
   exact ⟨(1, z, zy), ⟨by show _ ≤ 2; omega, by first | exact hzD | exact hxD, by first | exact hyD | exact hzD, by first | exact hzb | exact hxb, by first | exact hyb | exact hzb, hS⟩, ⟨rfl, rfl, rfl, rfl, rfl, rfl, rfl, rfl, rfl, rfl, trivial⟩, by first | decide | omega | (dsimp only; omega)⟩
  | false =>
   have hk : k = 1 := by (have h5 : ¬ k = 0 := by simpa using hq8); omega
   subst hk
   obtain ⟨Bq, oq, aq, hcq⟩ := (OwnS.elsS (hS.own 2 rfl) (fun _ => rfl)) 1 By rfl
   cases aq
   have hk1_ := True.intro
   refine CW.region ?_
   refine LW.pp (.indexAddr' underlying29 sizeOf24 (j := 1) (.t rfl) (.t rfl) (Nat.le_of_ble_eq_true rfl) rfl) ?_
   refine LW.pp (.ld isAgg24 rfl (hcq.nth (j := 0) rfl)) ?_
   refine LW.A rfl (LW.S (CW.region (LW.C (LW.T (CW.block ?_)))))
   refine CW.loopB (σ := Nat × Bz) (fun s w => (s.1 ≤ l.length) ∧ (s.1 ≤ 40) ∧ (s.2.D = By) ∧ (s.2.bel = runB (Bel.new (pickI last 4)) l s.1) ∧ (Wx.Sep no w0 w [aBel zx, aBel s.2, aOwn 24 1 encP (.slice (some ⟨B54, 0, none⟩) 2 2) [Bx, By]])) (fun s => [(16, .eq (vi (s.1 : Int)))]) ([(1, .eq _), (2, .eq _), (3, .eq _), (8, .eq _), (9, .eq _), (10, .eq _), (12, .eq _), (15, .eq _), (54, .eq _), (55, .eq _), (56, .eq _)]) (fun s => l.length - s.1) (0, zy) ?_ ⟨rfl, rfl, rfl, rfl, rfl, rfl, rfl, rfl, rfl, rfl, rfl, rfl, trivial⟩ ?_
   ·exact ⟨Nat.zero_le _, Nat.zero_le _, hyD, hyb, hS⟩
   rintro ⟨i, z⟩ w16 ⟨hil, hi4, hzD, hzb, hS⟩
   dsimp only at hil hi4 hzD hzb hS
   change CW _ _ _ _ _ _ _ ([(16, .eq (vi (i : Int)))] ++ _) _
   refine CW.seq (CW.S (LW.M rfl (LW.M rfl ?_)))
   refine LW.pp (.lenS underlying22 (.t rfl)) ?_
   refine LW.pp (.lss (.t rfl) (.t rfl)) ?_
   refine LW.M rfl ?_
   refine LW.g rfl rfl rfl rfl rfl rfl rfl (fun hc => PEv.move (.t rfl)) ?_
   refine LW.g rfl rfl rfl rfl rfl rfl rfl (fun hc => PEv.lss vQ (.const _)) ?_
   refine LW.pp (.pick_and (.t rfl) (fun hp => (by first | exact .const _ | exact .tmp rfl | exact .cond rfl (by first | assumption | simp_all)))) ?_
   refine LW.T ?_
   refine CW.cond (.t rfl) (fun h67 => ?_) (fun h67 => ?_)
   ·replace h67 := dQ h67
    have h67a : i < l.length ∧ i < 40 := by have h5 := h67; simp at h5; omega
    refine CW.skip (KW.then (CW.seq (CW.block (CW.seq ?_))))
    obtain ⟨x, hx⟩ : ∃ x, l[i]? = some x := ⟨_, List.getElem?_eq_getElem oQ⟩
    obtain ⟨Be, oe, ax, hcx0⟩ := hE0 i x hx
    have hxo := hl x (List.mem_of_getElem? hx)
    have hpB := pick_range (n := 4) hxo.2.2 cQ
    have hpA := pick_range (n := 13) hxo.2.1 cQ
    refine CW.region (LW.M rfl (LW.M rfl ?_))
    refine LW.pp (.indexAddr' underlying22 sizeOf31 (j := i) (.t rfl) (.t rfl) oQ ax) ?_
    refine LW.pp (.fA 1 underlying31 rfl sizeOf3 rfl) ?_
    refine LW.pp (.ld isAgg3 rfl ((hcx0.up hS.upd).nth (j := 1) rfl)) ?_
    refine LW.K (eC (.cons (.t rfl) (.cons (.const _) .nil)) (en6)) rfl (pick_any x.A 13 _ cQ) ?_
    rintro _ w17 ⟨rfl, uw17⟩
    have zw17 := uw17.size
    replace hS := hS.up uw17
    refine LW.A rfl (LW.S (CW.region (LW.M rfl (LW.M rfl ?_))))
    refine LW.pp (.indexAddr' underlying22 sizeOf31 (j := i) (.t rfl) (.t rfl) oQ ax) ?_
    refine LW.pp (.fA 2 underlying31 rfl sizeOf3 rfl) ?_
    refine LW.pp (.ld isAgg3 rfl ((hcx0.up hS.upd).nth (j := 2) rfl)) ?_
    refine LW.K (eC (.cons (.t rfl) (.cons (.const _) .nil)) (en6)) rfl (pick_any x.B 4 _ cQ) ?_
    rintro _ w18 ⟨rfl, uw18⟩
    have zw18 := uw18.size
    replace hS := hS.up uw18
    refine LW.A rfl (LW.S (CW.region (LW.M rfl (LW.M rfl ?_))))
    refine LW.pp (.indexAddr' underlying22 sizeOf31 (j := i) (.t rfl) (.t rfl) oQ ax) ?_
    refine LW.pp (.fA 0 underlying31 rfl sizeOf3 rfl) ?_
    refine LW.pp (.ld isAgg3 rfl ((hcx0.up hS.upd).nth (j := 0) rfl)) ?_
    refine LW.K (eC (.cons (.t rfl) (.cons (.const _) .nil)) (en6)) rfl (pick_any x.C 4 _ cQ) ?_
    rintro _ w19 ⟨rfl, uw19⟩
    have zw19 := uw19.size
    replace hS := hS.up uw19
    refine LW.T (CW.block (CW.S ?_))
    refine LW.pp (.eql (.t rfl) (.const _)) ?_
    refine LW.A rfl (LW.T ?_)
    refine CW.cond (.t rfl) (fun h94 => ?_) (fun h94 => ?_)
    ·replace h94 := dQ h94
     refine CW.region (LW.M rfl (LW.M rfl (LW.M rfl ?_)))
     refine LW.K (eC (.cons (.t rfl) (.cons (.t rfl) (.cons (.t rfl) .nil))) (en7)) rfl (Command_z (pickI x.A 13) (pickI x.B 4) z By hzD _ (hS.get 1 rfl) (by rw [hzb]; exact run_in hIn0 hl i)) ?_
     rintro _ w20 ⟨rfl, z2, hD2, hb2, uw20⟩
     have zw20 := uw20.fr.size
     replace hS := hS.stp 1 rfl uw20
     change Wx.Sep _ _ _ [_, _, _] at hS
     have hnx : z2.bel = runB (Bel.new (pickI last 4)) l (i + 1) := by rw [run_next hx, ← hzb, step0 h94]; exact hb2
     refine LW.nil (KW.inBlock (KW.inBlock (KW.then (CW.region (LW.M rfl ?_)))))
     refine LW.pp (.inc (.t rfl) oQ) ?_
     refine LW.A rfl (LW.nil (KW.round ?_))
     exact ⟨(i + 1, z2), ⟨by show i + 1 ≤ _; omega, by show i + 1 ≤ _; omega, hD2, hnx, hS⟩, ⟨rfl, rfl, rfl, rfl, rfl, rfl, rfl, rfl, rfl, rfl, rfl, rfl, trivial⟩, by show l.length - (i + 1) < l.length - i; omega⟩
    replace h94 := dQ h94
    refine CW.S ?_
    refine LW.pp (.eql (.t rfl) (.const _)) ?_
    refine LW.A rfl (LW.T ?_)
    refine CW.cond (.t rfl) (fun h100 => ?_) (fun h100 => ?_)
    ·replace h100 := dQ h100
     refine CW.region (LW.M rfl ?_)
     refine LW.K (eC (.o rfl) (en8)) rfl (Pass_z  z By hzD _ (hS.get 1 rfl) (by rw [hzb]; exact run_in hIn0 hl i)) ?_
     rintro _ w21 ⟨rfl, z2, hD2, hb2, uw21⟩
     have zw21 := uw21.fr.size
     replace hS := hS.stp 1 rfl uw21
     change Wx.Sep _ _ _ [_, _, _] at hS
     have hnx : z2.bel = runB (Bel.new (pickI last 4)) l (i + 1) := by rw [run_next hx, ← hzb, step1 h100]; exact hb2
     refine LW.nil (KW.inBlock (KW.inBlock (KW.then (CW.region (LW.M rfl ?_)))))
     refine LW.pp (.inc (.t rfl) oQ) ?_
     refine LW.A rfl (LW.nil (KW.round ?_))
     exact ⟨(i + 1, z2), ⟨by show i + 1 ≤ _; omega, by show i + 1 ≤ _; omega, hD2, hnx, hS⟩, ⟨rfl, rfl, rfl, rfl, rfl, rfl, rfl, rfl, rfl, rfl, rfl, rfl, trivial⟩, by show l.length - (i + 1) < l.length - i; omega⟩
    replace h100 := dQ h100
    refine CW.S ?_
    refine LW.pp (.eql (.t rfl) (.const _)) ?_
    refine LW.A rfl (LW.T ?_)
    refine CW.cond (.t rfl) (fun h104 => ?_) (fun h104 => ?_)
    ·replace h104 := dQ h104
     refine CW.region (LW.M rfl (LW.M rfl ?_))
     refine LW.K (eC (.u rfl rfl) (en9)) rfl (Restart_z (pickI x.B 4) z By hzD _ (hS.get 1 rfl) (by rw [hzb]; exact run_in hIn0 hl i)) ?_
     rintro _ w22 ⟨rfl, z2, hD2, hb2, uw22⟩
     have zw22 := uw22.fr.size
     replace hS := hS.stp 1 rfl uw22
     change Wx.Sep _ _ _ [_, _, _] at hS
     have hnx : z2.bel = runB (Bel.new (pickI last 4)) l (i + 1) := by rw [run_next hx, ← hzb, step2 h104]; exact hb2
     refine LW.nil (KW.inBlock (KW.inBlock (KW.then (CW.region (LW.M rfl ?_)))))
     refine LW.pp (.inc (.t rfl) oQ) ?_
     refine LW.A rfl (LW.nil (KW.round ?_))
     exact ⟨(i + 1, z2), ⟨by show i + 1 ≤ _; omega, by show i + 1 ≤ _; omega, hD2, hnx, hS⟩, ⟨rfl, rfl, rfl, rfl, rfl, rfl, rfl, rfl, rfl, rfl, rfl, rfl, trivial⟩, by show l.length - (i + 1) < l.length - i; omega⟩
    replace h104 := dQ h104
    refine CW.region (LW.M rfl (LW.M rfl ?_))
    refine LW.pp (.add (.const _) (.t rfl) oQ oQ) ?_
    refine LW.M rfl ?_
    refine LW.pp (.build (cs := #[vi (1 + pickI x.B 4), vi (pickI x.A 13)]) underlying37 zeroValue37 Try.places37 (.cons (.t rfl) (.cons (.t rfl) .nil)) rfl) ?_
    refine LW.K (eC (.u rfl rfl) (en10)) rfl (Report_z (1 + pickI x.B 4) (pickI x.A 13) z By hzD _ (hS.get 1 rfl) (by rw [hzb]; exact run_in hIn0 hl i)) ?_
    rintro _ w23 ⟨rfl, z2, hD2, hb2, uw23⟩
    have zw23 := uw23.fr.size
    replace hS := hS.stp 1 rfl uw23
    change Wx.Sep _ _ _ [_, _, _] at hS
    have hnx : z2.bel = runB (Bel.new (pickI last 4)) l (i + 1) := by rw [run_next hx, ← hzb, step3 h94 h100 h104]; exact hb2
    refine LW.nil (KW.inBlock (KW.inBlock (KW.then (CW.region (LW.M rfl ?_)))))
    refine LW.pp (.inc (.t rfl) oQ) ?_
    refine LW.A rfl (LW.nil (KW.round ?_))
    exact ⟨(i + 1, z2), ⟨by show i + 1 ≤ _; omega, by show i + 1 ≤ _; omega, hD2, hnx, hS⟩, ⟨rfl, rfl, rfl, rfl, rfl, rfl, rfl, rfl, rfl, rfl, rfl, rfl, trivial⟩, by show l.length - (i + 1) < l.length - i; omega⟩
   replace h67 := dQ h67
   have h67b : ¬ (i < l.length ∧ i < 40) := by have h5 := h67; simp at h5; omega
   rw [run_end hil hi4 h67b] at hzb
   refine CW.exit (KW.then_exit (KW.then_exit (KW.block_hit (KW.inBlock (KW.then (CW.region ?_))))))
   refine LW.pp (.inc (.t rfl) oQ) ?_
   refine LW.M rfl (LW.nil (KW.round ?_))
   exact ⟨(2, zx, z), ⟨by show _ ≤ 2; omega, by first | exact hzD | exact hxD, by first | exact hyD | exact hzD, by first | exact hzb | exact hxb, by first | exact hyb | exact hzb, hS⟩, ⟨rfl, rfl, rfl, rfl, rfl, rfl, rfl, rfl, rfl, rfl, trivial⟩, by first | decide | omega | (dsimp only; omega)⟩
 replace h57 := dQ h57
 refine CW.exit (KW.then_exit (KW.then_exit (KW.block_hit (KW.then (CW.seq ?_)))))
 have hk2 : k = 2 := by omega
 subst hk2
 replace hxb : zx.bel = runB (Bel.new (pickI last 4)) l 40 := hxb
 replace hyb : zy.bel = runB (Bel.new (pickI last 4)) l 40 := hyb
 refine CW.region (LW.M rfl ?_)
 refine LW.K (eC (.o rfl) (en11)) rfl (Worlds_z zx Bx hxD _ (hS.get 0 rfl) (by rw [hxb]; exact hI1)) ?_
 rintro vW_ w24 ⟨p, hpw, hpl, hpo, hpn, hps⟩
 have zp := hps.fr.size
 replace hS := hS.stpAdd 0 rfl hps hpo hpn (fun i h1 h2 => by have h3 := (aBel zx).lt _ (hS.get 0 rfl) i h1; have h4 := hpn i h2; omega)
 change Wx.Sep _ _ _ [_, _, _, _] at hS
 obtain ⟨adp, cpp, rfl, _⟩ := (hS.own 3 rfl).sl (fun _ => rfl)
 refine LW.A rfl (LW.S (CW.region (LW.M rfl ?_)))
 refine LW.K (eC (.o rfl) (en8)) rfl (Pass_z zx Bx hxD _ (hS.get 0 rfl) (by rw [hxb]; exact hI1)) ?_
 rintro _ w25 ⟨rfl, zx2, hxD2, hxb2, uw25⟩
 have zw25 := uw25.fr.size
 replace hS := hS.stp 0 rfl uw25
 change Wx.Sep _ _ _ [_, _, _, _] at hS
 rw [hxb] at hxb2
 refine LW.S (CW.region (LW.M rfl ?_))
 refine LW.K (eC (.o rfl) (en11)) rfl (Worlds_z zx2 Bx hxD2 _ (hS.get 0 rfl) (by rw [hxb2]; exact hI1.pass)) ?_
 rintro vW_ w26 ⟨q, hqw, hql, hqo, hqn, hqs⟩
 have zq := hqs.fr.size
 replace hS := hS.stpAdd 0 rfl hqs hqo hqn (fun i h1 h2 => by have h3 := (aBel zx2).lt _ (hS.get 0 rfl) i h1; have h4 := hqn i h2; omega)
 change Wx.Sep _ _ _ [_, _, _, _, _] at hS
 obtain ⟨adq, cpq, rfl, _⟩ := (hS.own 4 rfl).sl (fun _ => rfl)
 refine LW.A rfl (LW.S (CW.region (LW.M rfl ?_)))
 refine LW.K (eC (.o rfl) (en8)) rfl (Pass_z zx2 Bx hxD2 _ (hS.get 0 rfl) (by rw [hxb2]; exact hI1.pass)) ?_
 rintro _ w27 ⟨rfl, zx3, hxD3, hxb3, uw27⟩
 have zw27 := uw27.fr.size
 replace hS := hS.stp 0 rfl uw27
 change Wx.Sep _ _ _ [_, _, _, _, _] at hS
 rw [hxb2, Bel.pass_pass] at hxb3
 refine LW.S (CW.seq ?_)
 have hpne := ws_ne2 (ws_eq hpw hxb) hI1
 refine CW.region (LW.M rfl (LW.M rfl ?_))
 refine LW.K (eC (.o rfl) (en11)) rfl (Worlds_z zx3 Bx hxD3 _ (hS.get 0 rfl) (by rw [hxb3]; exact hI1.pass)) ?_
 rintro vW_ w28 ⟨m, hmw, hml, hmo, hmn, hms⟩
 have zm := hms.fr.size
 replace hS := hS.stpAdd 0 rfl hms hmo hmn (fun i h1 h2 => by have h3 := (aBel zx3).lt _ (hS.get 0 rfl) i h1; have h4 := hmn i h2; omega)
 change Wx.Sep _ _ _ [_, _, _, _, _, _] at hS
 obtain ⟨adm, cpm, rfl, _⟩ := (hS.own 5 rfl).sl (fun _ => rfl)
 refine LW.K (eC (.u rfl rfl) (en12)) rfl (SameW_any adq adm cpq cpm q m _ oQ oQ (OwnS.elsS (hS.own 4 rfl) (fun _ => rfl)) (OwnS.elsS (hS.own 5 rfl) (fun _ => rfl))) ?_
 rintro _ w29 ⟨rfl, uw29⟩
 have zw29 := uw29.size
 replace hS := hS.up uw29
 have hqm : q = m := ws_same hqw hmw (hxb2.trans hxb3.symm)
 rw [decide_eq_true hqm]
 refine LW.pp (.not (.t rfl)) ?_
 refine LW.M rfl ?_
 refine LW.Y ?_
 refine LW.M rfl ?_
 refine LW.Y ?_
 refine LW.pp (.lenS underlying38 (.t rfl)) ?_
 refine LW.Y ?_
 refine LW.pp (.fa (PEv.eql (.t rfl) (.const _)) (decide_eq_false (ne_pos hpne))) ?_
 refine LW.pp (.pick_or (.t rfl) (fun hp => (by first | exact .const _ | exact .tmp rfl | exact .cond rfl (by first | assumption | simp_all)))) ?_
 refine LW.T ?_
 refine CW.cond_false (.t rfl) ?_
 refine CW.skip (KW.then (CW.seq (CW.seq ?_)))
 have hpq : ∀ x ∈ p, x ∈ q := pass_worlds (ws_eq hpw hxb) (ws_eq hqw hxb2)
 refine CW.region (LW.C (LW.T (CW.block ?_)))
 refine CW.loopB (σ := Nat) (fun s w => (s ≤ p.length) ∧ (Wx.Sep no w0 w [aBel zx3, aBel zy, aOwn 24 1 encP (.slice (some ⟨B54, 0, none⟩) 2 2) [Bx, By], aOwn 43 3 Wd.cells (.slice adp p.length cpp) p, aOwn 43 3 Wd.cells (.slice adq q.length cpq) q, aOwn 43 3 Wd.cells (.slice adm m.length cpm) m])) (fun s => [(21, .eq (vi (s : Int)))]) ([(2, .eq _), (3, .eq _), (9, .eq _), (12, .eq _), (19, .eq _), (20, .eq _)]) (fun s => p.length - s) 0 ?_ ⟨rfl, rfl, rfl, rfl, rfl, rfl, rfl, trivial⟩ ?_
 ·exact ⟨Nat.zero_le _, hS⟩
 rintro k w30 ⟨hkp, hS⟩
 refine CW.seq (CW.S (LW.M rfl (LW.M rfl ?_)))
 refine LW.pp (.lenS underlying38 (.t rfl)) ?_
 refine LW.pp (.lss (.t rfl) (.t rfl)) ?_
 refine LW.T ?_
 refine CW.cond (.t rfl) (fun h131 => ?_) (fun h131 => ?_)
 ·replace h131 := dQ h131
  refine CW.skip (KW.then (CW.seq (CW.block (CW.seq ?_))))
  obtain ⟨y, hy⟩ : ∃ y, p[k]? = some y := ⟨_, List.getElem?_eq_getElem oQ⟩
  obtain ⟨Bw, ow, aw, hcw⟩ := (OwnS.elsS (hS.own 3 rfl) (fun _ => rfl)) k y hy
  refine CW.region (LW.M rfl (LW.M rfl (LW.M rfl ?_)))
  refine LW.pp (.indexAddr' underlying38 sizeOf43 (j := k) (.t rfl) (.t rfl) oQ aw) ?_
  refine LW.pp (.la isAgg43 sizeOf43 rfl (hcw)) ?_
  refine LW.K (eC (.u rfl rfl) (en13)) rfl (hasW_any adq cpq q y _ oQ (OwnS.elsS (hS.own 4 rfl) (fun _ => rfl))) ?_
  rintro _ w31 ⟨rfl, uw31⟩
  have zw31 := uw31.size
  replace hS := hS.up uw31
  rw [allIn hpq hy]
  refine LW.pp (.not (.t rfl)) ?_
  refine LW.T ?_
  refine CW.cond_false (.t rfl) ?_
  refine CW.skip (KW.inBlock (KW.then (CW.region (LW.M rfl ?_))))
  refine LW.pp (.inc (.t rfl) oQ) ?_
  refine LW.A rfl (LW.nil (KW.round ?_))
  exact ⟨k + 1, ⟨by omega, hS⟩, ⟨rfl, rfl, rfl, rfl, rfl, rfl, rfl, trivial⟩, by first | omega | (dsimp only; omega)⟩
 replace h131 := dQ h131
 refine CW.exit (KW.then_exit (KW.then_exit (KW.block_hit (KW.then (CW.S (LW.M rfl (LW.M rfl (LW.M rfl ?_))))))))
 refine LW.pp (.build (cs := #[vi kind, vi n]) underlying37 zeroValue37 Try.places37 (.cons (.t rfl) (.cons (.t rfl) .nil)) rfl) ?_
 refine LW.K (eC (.u rfl rfl) (en10)) rfl (Report_z kind n zy By hyD _ (hS.get 1 rfl) (by rw [hyb]; exact hI1)) ?_
 rintro _ w32 ⟨rfl, zy2, hyD2, hyb2, uw32⟩
 have zw32 := uw32.fr.size
 replace hS := hS.stp 1 rfl uw32
 change Wx.Sep _ _ _ [_, _, _, _, _, _] at hS
 rw [hyb] at hyb2 ⊢
 refine LW.A rfl (LW.S (CW.region (LW.M rfl ?_)))
 refine LW.K (eC (.o rfl) (en11)) rfl (Worlds_z zy2 By hyD2 _ (hS.get 1 rfl) (by rw [hyb2]; exact hI1.report _ _)) ?_
 rintro vW_ w33 ⟨t, htw, htl, hto, htn, hts⟩
 have zt := hts.fr.size
 replace hS := hS.stpAdd 1 rfl hts hto htn (fun i h1 h2 => by have h3 := (aBel zy2).lt _ (hS.get 1 rfl) i h1; have h4 := htn i h2; omega)
 change Wx.Sep _ _ _ [_, _, _, _, _, _, _] at hS
 obtain ⟨adt, cpt, rfl, _⟩ := (hS.own 6 rfl).sl (fun _ => rfl)
 refine LW.A rfl (LW.S (CW.seq ?_))
 have hrep := report_worlds kind n (ws_eq hqw hxb2) (ws_eq htw hyb2)
 have htne := ws_ne2 (ws_eq htw hyb2) (hI1.report _ _)
 refine CW.region (LW.M rfl ?_)
 refine LW.pp (.neq (.t rfl) (.const _)) ?_
 refine LW.T ?_
 refine CW.cond (.t rfl) (fun h149 => ?_) (fun h149 => ?_)
 ·replace h149 := dQ h149
  refine CW.S (LW.M rfl (LW.M rfl ?_))
  refine LW.Y ?_
  refine LW.M rfl ?_
  refine LW.Y ?_
  refine LW.M rfl ?_
  refine LW.Y ?_
  refine LW.K (eC (.u rfl rfl) (en12)) rfl (SameW_any adt adp cpt cpp t p _ oQ oQ (OwnS.elsS (hS.own 6 rfl) (fun _ => rfl)) (OwnS.elsS (hS.own 3 rfl) (fun _ => rfl))) ?_
  rintro _ w34 ⟨rfl, uw34⟩
  have zw34 := uw34.size
  replace hS := hS.up uw34
  have htp : t = p := ws_same htw hpw (hyb2.trans ((hrep.1 (by simpa using h149)).trans hxb.symm))
  rw [decide_eq_true htp]
  refine LW.pp (.pick_and (.t rfl) (fun hp => (by first | exact .const _ | exact .tmp rfl | exact .cond rfl (by first | assumption | simp_all)))) ?_
  refine LW.A rfl (LW.T (CW.ret (KW.then_ret ?_)))
  refine KW.ret1 rfl rfl ⟨_, rfl, ?_⟩
  exact ⟨rfl, hS.upd⟩
 replace h149 := dQ h149
 refine CW.skip (KW.then (CW.seq (CW.S (LW.C (LW.T (CW.block ?_))))))
 refine CW.loopB (σ := Nat) (fun s w => (s ≤ t.length) ∧ (Wx.Sep no w0 w [aBel zx3, aBel zy2, aOwn 24 1 encP (.slice (some ⟨B54, 0, none⟩) 2 2) [Bx, By], aOwn 43 3 Wd.cells (.slice adp p.length cpp) p, aOwn 43 3 Wd.cells (.slice adq q.length cpq) q, aOwn 43 3 Wd.cells (.slice adm m.length cpm) m, aOwn 43 3 Wd.cells (.slice adt t.length cpt) t])) (fun s => [(24, .eq (vi (s : Int)))]) ([(9, .eq _), (20, .eq _), (23, .eq _)]) (fun s => t.length - s) 0 ?_ ⟨rfl, rfl, rfl, rfl, trivial⟩ ?_
 ·exact ⟨Nat.zero_le _, hS⟩
 rintro k w35 ⟨hkp, hS⟩
 refine CW.seq (CW.S (LW.M rfl (LW.M rfl ?_)))
 refine LW.pp (.lenS underlying38 (.t rfl)) ?_
 refine LW.pp (.lss (.t rfl) (.t rfl)) ?_
 refine LW.T ?_
 refine CW.cond (.t rfl) (fun h159 => ?_) (fun h159 => ?_)
 ·replace h159 := dQ h159
  refine CW.skip (KW.then (CW.seq (CW.block (CW.seq ?_))))
  obtain ⟨y, hy⟩ : ∃ y, t[k]? = some y := ⟨_, List.getElem?_eq_getElem oQ⟩
  obtain ⟨Bw, ow, aw, hcw⟩ := (OwnS.elsS (hS.own 6 rfl) (fun _ => rfl)) k y hy
  refine CW.region (LW.M rfl (LW.M rfl (LW.M rfl ?_)))
  refine LW.pp (.indexAddr' underlying38 sizeOf43 (j := k) (.t rfl) (.t rfl) oQ aw) ?_
  refine LW.pp (.la isAgg43 sizeOf43 rfl (hcw)) ?_
  refine LW.K (eC (.u rfl rfl) (en13)) rfl (hasW_any adq cpq q y _ oQ (OwnS.elsS (hS.own 4 rfl) (fun _ => rfl))) ?_
  rintro _ w36 ⟨rfl, uw36⟩
  have zw36 := uw36.size
  replace hS := hS.up uw36
  rw [allIn (hrep.2 (by simpa using h149)) hy]
  refine LW.pp (.not (.t rfl)) ?_
  refine LW.T ?_
  refine CW.cond_false (.t rfl) ?_
  refine CW.skip (KW.inBlock (KW.then (CW.region (LW.M rfl ?_))))
  refine LW.pp (.inc (.t rfl) oQ) ?_
  refine LW.A rfl (LW.nil (KW.round ?_))
  exact ⟨k + 1, ⟨by omega, hS⟩, ⟨rfl, rfl, rfl, rfl, trivial⟩, by first | omega | (dsimp only; omega)⟩
 replace h159 := dQ h159
 refine CW.exit (KW.then_exit (KW.then_exit (KW.block_hit (KW.then (CW.S (LW.M rfl (LW.M rfl ?_)))))))
 refine LW.Y ?_
 refine LW.M rfl ?_
 refine LW.Y ?_
 refine LW.pp (.lenS underlying38 (.t rfl)) ?_
 refine LW.Y ?_
 refine LW.pp (.tr (PEv.gtr (.t rfl) (.const _)) (decide_eq_true (by have := List.length_pos_iff.2 htne; omega))) ?_
 refine LW.pp (.pick_and (.t rfl) (fun hp => (by first | exact .const _ | exact .tmp rfl | exact .cond rfl (by first | assumption | simp_all)))) ?_
 refine LW.A rfl (LW.T (CW.ret ?_))
 refine KW.ret1 rfl rfl ⟨_, rfl, ?_⟩
 exact ⟨rfl, hS.upd⟩
end Go.Proofs.Ytpofdidofjlkhaa
end
section
namespace Go.Proofs
open Go.Proofs.Try
open Go.Proofs.Ytpofdidofjlkhaa Go.Wx Go.ChangeShapes Go.WideShapes Go.RowKit
theorem Try.elST {H : Type} {enc : TypeId × Value → H} {w : World} {b : Nat} {sp : Nat → Bool} {hd : Bool} (n : Nat) (cs : List Value) (x : DataW H × List MemPlace) (hl : cs.length = 3) (h : DataW.trod enc Try.prog w b sp hd n 31 cs = some x) : ∃ f : Stp3, cs = f.cells.toList ∧ Stp3.ok f := by
 have k_int : Try.prog.cellsOf 3 = 1 := by kernel_rfl
 match cs, hl with
 | [c0, c1, c2], _ =>
   obtain ⟨xs, n, _, hx, _, hlen, hg⟩ := DataW.trod_struct underlying31 h
   match xs, hlen with
   | [y0, y1, y2], _ =>
     obtain ⟨n0, e0, _, q0⟩ := DataW.trod_int underlying3 (show DataW.trod enc Try.prog w b sp hd n 3 [c0] = some y0 from by simpa [k_int] using hg 0 _ rfl)
     obtain ⟨n1, e1, _, q1⟩ := DataW.trod_int underlying3 (show DataW.trod enc Try.prog w b sp hd n 3 [c1] = some y1 from by simpa [k_int] using hg 1 _ rfl)
     obtain ⟨n2, e2, _, q2⟩ := DataW.trod_int underlying3 (show DataW.trod enc Try.prog w b sp hd n 3 [c2] = some y2 from by simpa [k_int] using hg 2 _ rfl)
     cases e0
     cases e1
     cases e2
     exact ⟨⟨n0, n1, n2⟩, rfl, ⟨wf_inI q0, wf_inI q1, wf_inI q2⟩⟩
end Go.Proofs
end
