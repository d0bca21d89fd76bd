import Derived.Test.YtmimclgihlhaeaaGreatKR710
import Derived.ChangeKeysEq
section
namespace Go.Wx
def Fx : Fact := Ta 0 0 0 false
end Go.Wx
namespace Go.Proofs.YtmimclgihlhaeaaGreat
open Go.Proofs.Tryz
open Go.Wx Go.RowKit
end Go.Proofs.YtmimclgihlhaeaaGreat
namespace Go.Wx
def Jf (b : Base) (id : Int) : Option Fact := b.Processes.find? fun f => decide (f.ID = id)
end Go.Wx
namespace Go.Proofs.YtmimclgihlhaeaaGreat
open Go.Proofs.Tryz
open Go.Wx Go.RowKit
end Go.Proofs.YtmimclgihlhaeaaGreat
namespace Go.Wx
theorem Z9 {p : Fact → Bool} {l : List Fact} {k : Nat} {x : Fact} (h : l[k]? = some x) (hx : p x = true) : (l.take (k + 1)).filter p = (l.take k).filter p ++ [x] := by
 rw [Ar h, List.filter_append, List.filter_cons, if_pos hx]; rfl
theorem lF {p : Fact → Bool} {l : List Fact} {k : Nat} {x : Fact} (h : l[k]? = some x) (hx : p x = false) : (l.take (k + 1)).filter p = (l.take k).filter p := by
 rw [Ar h, List.filter_append, List.filter_cons, if_neg (by rw [hx]; exact Bool.false_ne_true)]; simp
theorem Rj (p : Fact → Bool) (l : List Fact) (k : Nat) : ((l.take k).filter p).length ≤ k := Nat.le_trans (List.length_filter_le _ _) (by rw [List.length_take]; omega)
def Bn (c n : Int) : Int := (if c < 0 then IntKind.i64.wrap (-(IntKind.i64.wrap (c + 1))) else c).tmod n
end Go.Wx
namespace Go.Proofs.YtmimclgihlhaeaaGreat
open Go.Proofs.Tryz
open Go.Wx Go.RowKit
end Go.Proofs.YtmimclgihlhaeaaGreat
namespace Go.Wx
def Xm (b : Base) (j : Nat) : List Fact := [b.Processes, b.Measures, b.Swaps, b.Lots, b.Flows, b.Qualified, b.Holds, b.Releases, b.Resets, b.Targets, b.Gaps].getD j []
theorem Nn {j : Nat} (h : j < 11) : j = 0 ∨ j = 1 ∨ j = 2 ∨ j = 3 ∨ j = 4 ∨ j = 5 ∨ j = 6 ∨ j = 7 ∨ j = 8 ∨ j = 9 ∨ j = 10 := by omega
theorem BaseC.at_ {w : World} {bc : Array Go.Value} {b : Base} (h : BaseC w bc b) {j : Nat} (hj : j < 11) : ∃ v, bc[j]? = some v ∧ Sl w v 19 Fact.cells (Xm b j) := by
 obtain ⟨v0, v1, v2, v3, v4, v5, v6, v7, v8, v9, v10, e, h0, h1, h2, h3, h4, h5, h6, h7, h8, h9, h10⟩ := h
 subst e
 rcases Nn hj with rfl | rfl | rfl | rfl | rfl | rfl | rfl | rfl | rfl | rfl | rfl
 · exact ⟨v0, rfl, h0⟩
 · exact ⟨v1, rfl, h1⟩
 · exact ⟨v2, rfl, h2⟩
 · exact ⟨v3, rfl, h3⟩
 · exact ⟨v4, rfl, h4⟩
 · exact ⟨v5, rfl, h5⟩
 · exact ⟨v6, rfl, h6⟩
 · exact ⟨v7, rfl, h7⟩
 · exact ⟨v8, rfl, h8⟩
 · exact ⟨v9, rfl, h9⟩
 exact ⟨v10, rfl, h10⟩
end Go.Wx
namespace Go.Proofs.YtmimclgihlhaeaaGreat
open Go.Proofs.Tryz
open Go.Wx Go.RowKit
end Go.Proofs.YtmimclgihlhaeaaGreat
namespace Go.Wx
theorem dC (l : List Fact) (d : Int) {j : Nat} (hj : j < 11) : Xm (Ri l d) j = Dw [((j + 1 : Nat) : Int)] (Hd (F8 l d)) j := by
 rcases Nn hj with rfl | rfl | rfl | rfl | rfl | rfl | rfl | rfl | rfl | rfl | rfl <;> rfl
end Go.Wx
namespace Go.Proofs.YtmimclgihlhaeaaGreat
open Go.Proofs.Tryz
open Go.Wx Go.RowKit
end Go.Proofs.YtmimclgihlhaeaaGreat
end
section
namespace Go.Wx
open Go.RowKit
theorem Tu {α : Type} (f : α → List Value) (k j : Nat) (v : Value) (hf : ∀ x, (f x).length = k) (hj : j < k) : ∀ (xs : List α) (i : Nat) (x0 z : α), xs[i]? = some x0 → f z = (f x0).set j v → (xs.set i z).flatMap f = (xs.flatMap f).set (i * k + j) v
 | [], _, _, _, h, _ => by simp at h
 | x :: xs, 0, x0, z, h, hz => by
   have e : x = x0 := by simpa using h
   subst e
   rw [List.set_cons_zero, List.flatMap_cons, List.flatMap_cons, hz, List.set_append_left _ _ (by rw [hf]; omega)]
   congr 2; omega
 | x :: xs, i + 1, x0, z, h, hz => by
   rw [List.set_cons_succ, List.flatMap_cons, List.flatMap_cons, Tu f k j v hf hj xs i x0 z (by simpa using h) hz]
   have e1 : (i + 1) * k = k + i * k := by rw [Nat.add_mul, Nat.one_mul, Nat.add_comm]
   rw [List.set_append_right _ _ (by rw [hf, e1]; omega), hf, e1]
   congr 2; omega
section
variable {P : Program} {n : Nat} {ds : List Deferred} {l : Env} {w : World} {ty : TypeId} {ps : String} {af : Array Edge} {g : Option (Nat × Bool)}
theorem SEv.Tv {α : Type} {enc : α → Array Value} {k : Nat} {e T : TypeId} {x y : Operand} {B m cp i j : Nat} {xs : List α} {x0 z : α} {v : Value} (hs : ∀ w, (sizeOf T).run P w = .ok 1 w) (hk : ∀ x, (enc x).size = k) (h1 : v.oneCell' = true) (hx : Val l x (.pointer (some ⟨B, 0 + i * k + j, none⟩))) (hy : Val l y v) (ho : OwnS w 0 e k enc (.slice (some ⟨B, 0, none⟩) m cp) xs) (hx0 : xs[i]? = some x0) (hj : j < k) (hz : (enc z).toList = (enc x0).toList.set j v) :
   SEv P n ds l w ⟨none, .store T x y, ty, ps, af, g⟩ (fun w' => Stp (Al e k enc (.slice (some ⟨B, 0, none⟩) m cp) xs) (Al e k enc (.slice (some ⟨B, 0, none⟩) m cp) (xs.set i z)) w w') := fun a ha => by
 have hi := (List.getElem?_eq_some_iff.1 hx0).1
 have hkl : ∀ x, (enc x).toList.length = k := fun x => by rw [Array.length_toList, hk]
 obtain ⟨hl, ⟨e', _⟩ | ⟨g', cap, cur, e', hb, hg, hcap, hcm, hcs, htk⟩⟩ := ho
 · cases e'
 cases e'
 have hik : i * k + k ≤ xs.length * k := by
   have : (i + 1) * k ≤ xs.length * k := Nat.mul_le_mul_right k hi
   rw [Nat.add_mul, Nat.one_mul] at this
   exact this
 have hmk : xs.length * k ≤ cp * k := Nat.mul_le_mul_right k oQ
 obtain ⟨w', hr, hset⟩ := SEv.store (P := P) (n := n) (ds := ds) (l := l) (w := w) (ty := ty) (ps := ps) (af := af) (g := g) hs hx hy h1 (show Blk w B cur e from hg) (by rw [hcs]; omega) a ha
 refine ⟨w', hr, hset.sto.fr.mono (fun i (e : i = B) => by rw [e]; rfl), ⟨by rw [List.length_set, Du _ k hkl, List.length_set], .inr ⟨B, cp, _, by rw [List.length_set], hb, hset.blk, by rw [List.length_set]; omega, hcm, ?_, ?_⟩⟩, fun _ h => .inl h⟩
 · rw [Array.size_setIfInBounds]; exact hcs
 rw [List.length_set, Tu (fun x => (enc x).toList) k j v hkl hj xs i x0 z hx0 hz, ← htk, Array.toList_setIfInBounds, List.take_set, Nat.zero_add]
end
end Go.Wx
end
section
namespace Go.Wx
open Go.RowKit
section
variable {P : Program} {n : Nat} {ds : List Deferred} {l : Env} {w : World} {d : Option Tmp} {ty : TypeId} {ps : String} {af : Array Edge} {g : Option (Nat × Bool)}
theorem Mq {T e : TypeId} {x hi mx : Operand} {ad : Option Addr} {k m cap j : Nat} (hT : P.underlying T = some (.slice e)) (hs : ∀ w, (sizeOf e).run P w = .ok k w) (hx : Val l x (.slice ad m cap)) (hl : Val l hi (.int .i64 (j : Int))) (hm : Val l mx (.int .i64 (j : Int))) (hj : j ≤ cap) :
   PEv P n ds l w ⟨d, .slice T x none (some hi) (some mx), ty, ps, af, g⟩ (.slice ad j j) := fun a w' ha _ => by
 refine A9 ?_
 rw [ha.ev hx]
 simp only [Option.map_none, Option.map_some, ha.ev hl, ha.ev hm]
 cases ad with
 | none => simp [Instr.sliceAt, Instr.slice, Instr.sliceBounds, Instr.sliceBound, asIntOf, run_underlying hT, Result.andThen, hs, hj]
 | some a => simp [Instr.sliceAt, Instr.slice, Instr.sliceBounds, Instr.sliceBound, asIntOf, run_underlying hT, Result.andThen, hs, Addr.add, hj]
theorem PEv.sliceFrom {T e : TypeId} {x lo : Operand} {ad : Option Addr} {k m cap j : Nat} (hT : P.underlying T = some (.slice e)) (hs : ∀ w, (sizeOf e).run P w = .ok k w) (hx : Val l x (.slice ad m cap)) (hl : Val l lo (.int .i64 (j : Int))) (hj : j ≤ m) :
   PEv P n ds l w ⟨d, .slice T x (some lo) none none, ty, ps, af, g⟩ (.slice (if cap = j then ad else ad.map (·.add (j * k))) (m - j) (cap - j)) := fun a w' ha _ => by
 refine A9 ?_
 rw [ha.ev hx]
 simp only [Option.map_none, Option.map_some, ha.ev hl]
 simp [Instr.sliceAt, Instr.slice, Instr.sliceBounds, Instr.sliceBound, asIntOf, run_underlying hT, Result.andThen, hs, hj]
theorem Els.drop {α : Type} {enc : α → Array Value} {ad : Option Addr} {k cap j : Nat} {xs : List α} (h : Els w ad k enc xs) (hc : xs.length ≤ cap) : Sl w (.slice (if cap = j then ad else ad.map (·.add (j * k))) (xs.length - j) (cap - j)) k enc (xs.drop j) := by
 refine ⟨_, _, by rw [List.length_drop], fun i x hx => ?_⟩
 rw [List.getElem?_drop] at hx
 have hlt := (List.getElem?_eq_some_iff.1 hx).1
 obtain ⟨B, o, rfl, hc2⟩ := h _ x hx
 rw [if_neg (by omega)]
 refine ⟨B, o + j * k, by rw [Option.map_some, Eu], ?_⟩
 rw [Nat.add_mul, ← Nat.add_assoc] at hc2
 exact hc2
theorem Els.take {α : Type} {enc : α → Array Value} {ad : Option Addr} {k j : Nat} {xs : List α} (h : Els w ad k enc xs) : Els w ad k enc (xs.take j) := fun i x hx => by
 rw [List.getElem?_take] at hx
 split at hx
 · exact h i x hx
 cases hx
theorem F9 {α : Type} {enc : α → Array Value} {k bytes : Nat} {e T : TypeId} {i : TypeInfo} {z : Value} {s x : Operand} {xv : Value} {ad : Option Addr} {xs ys : List α} (hT : P.underlying T = some (.slice e)) (hi : P.info? e = some i) (hz : i.zero = some z)
   (hsize : i.size = k) (hby : i.bytes = bytes) (hzs : z.cells.size = k) (hk0 : 0 < k) (henc : ∀ x, (enc x).size = k) (hs : Val l s (.slice ad xs.length xs.length)) (hx : Val l x xv) (hE : Els w ad k enc xs) (hy : Sl w xv k enc ys)
   (h63 : xs.length + ys.length ≤ maxLen) (hbytes : (xs.length + ys.length) * bytes ≤ 140737488355328) :
   REv P n ds l w ⟨d, .call { callee := .builtin .append, args := #[s, x], argTypes := #[T, T] }, ty, ps, af, g⟩ (fun v' w' => Up w w' ∧ Sl w' v' k enc (xs ++ ys) ∧ (0 < ys.length → OwnS w' w.heap.size e k enc v' (xs ++ ys))) := by
 subst hsize
 subst hby
 obtain ⟨ad2, c, rfl, hE2⟩ := hy
 have hfl : ∀ x, (enc x).toList.length = i.size := fun x => by simp [henc]
 have fin : ∀ v' w', (Builtin.append_ #[T, T] ty #[.slice ad xs.length xs.length, .slice ad2 ys.length c]).run P w = .ok v' w' → Up w w' ∧ Sl w' v' i.size enc (xs ++ ys) ∧ (0 < ys.length → OwnS w' w.heap.size e i.size enc v' (xs ++ ys)) → REv P n ds l w ⟨d, .call { callee := .builtin .append, args := #[s, x], argTypes := #[T, T] }, ty, ps, af, g⟩ (fun v' w' => Up w w' ∧ Sl w' v' i.size enc (xs ++ ys) ∧ (0 < ys.length → OwnS w' w.heap.size e i.size enc v' (xs ++ ys))) := fun v' w' hrun hp a ha => by
   refine ⟨v', w', ?_, hp⟩
   simp only [execOp, resolve, invoke, builtin, Sem.run_bind, Sem.run_pure, Result.andThen_ok, List.map_toArray, List.map_cons, List.map_nil, ha.ev hs, ha.ev hx, hrun]
 have cells : ∀ {B o : Nat} {zs : List α}, Els w (some ⟨B, o, none⟩) i.size enc zs → ∀ (j : Nat) (u : Value), (zs.flatMap fun x => (enc x).toList)[j]? = some u → w.cell? ((⟨B, o, none⟩ : Addr).add j) = some u := fun {B o zs} hz j u hu => by
   obtain ⟨y, hy1, hy2⟩ := M6 _ i.size hk0 hfl zs j u hu
   obtain ⟨B1, o1, e1, hc⟩ := hz _ y hy1
   cases e1
   have := hc (j % i.size) u (by simpa using hy2)
   rw [Eu]
   rw [show o + j = o + j / i.size * i.size + j % i.size by have := Nat.div_add_mod j i.size; rw [Nat.mul_comm] at this; omega]
   exact this
 have hlx := Du (fun x => (enc x).toList) i.size hfl xs
 have hly := Du (fun x => (enc x).toList) i.size hfl ys
 by_cases hne : 0 < ys.length
 · obtain ⟨y0, hy0⟩ := Ac (xs := ys) (i := 0) hne
   obtain ⟨B', o, rfl, _⟩ := hE2 0 y0 hy0
   have big : ∀ v', (Builtin.append_ #[T, T] ty #[.slice ad xs.length xs.length, .slice (some ⟨B', o, none⟩) ys.length c]).run P w = .ok (.slice (some ⟨w.heap.size, 0, none⟩) (xs.length + ys.length) (grownCap w (xs.length + ys.length) xs.length e)) (w.drew.alloc (.cells ((xs.flatMap fun x => (enc x).toList).toArray ++ (ys.flatMap fun x => (enc x).toList).toArray ++ Builtin.zeroCells z.cells (grownCap w (xs.length + ys.length) xs.length e - (xs.length + ys.length))) e)) → v' = Value.slice (some ⟨w.heap.size, 0, none⟩) (xs.length + ys.length) (grownCap w (xs.length + ys.length) xs.length e) → REv P n ds l w ⟨d, .call { callee := .builtin .append, args := #[s, x], argTypes := #[T, T] }, ty, ps, af, g⟩ (fun v' w' => Up w w' ∧ Sl w' v' i.size enc (xs ++ ys) ∧ (0 < ys.length → OwnS w' w.heap.size e i.size enc v' (xs ++ ys))) := fun v' hr _ => by
     have own : OwnS (w.drew.alloc (.cells ((xs.flatMap fun x => (enc x).toList).toArray ++ (ys.flatMap fun x => (enc x).toList).toArray ++ Builtin.zeroCells z.cells (grownCap w (xs.length + ys.length) xs.length e - (xs.length + ys.length))) e)) w.heap.size e i.size enc (.slice (some ⟨w.heap.size, 0, none⟩) (xs.length + ys.length) (grownCap w (xs.length + ys.length) xs.length e)) (xs ++ ys) := by
       refine ⟨by rw [List.flatMap_append, List.length_append, hlx, hly, List.length_append, Nat.add_mul], .inr ⟨w.heap.size, _, _, by rw [List.length_append], Nat.le_refl _, heap_alloc_new w.drew _, by rw [List.length_append]; exact grownCap_ge w _ _ e, grownCap_le_maxLen w _ _ e h63, ?_, ?_⟩⟩
       · simp only [Array.size_append, List.size_toArray, size_zeroCells, hzs, hlx, hly, ← Nat.add_mul]
         congr 1
         have := grownCap_ge w (xs.length + ys.length) xs.length e
         omega
       simp only [Array.toList_append]
       rw [List.flatMap_append, List.length_append, Nat.add_mul, ← hlx, ← hly, ← List.length_append]
       exact List.take_left
     exact fin _ _ hr ⟨(Up.drew w).trans (Up.alloc _ _), own.sl henc, fun _ => own⟩
   cases ad with
   | none =>
     have hxs : xs = [] := by
       cases xs with
       | nil => rfl
       | cons x r => obtain ⟨B, o, e, _⟩ := hE 0 x rfl; cases e
     subst hxs
     refine big _ ?_ rfl
     have hr := run_append_nil (P := P) w T ty e i z hT hi hz ⟨B', o, none⟩ ys.length c _ hly (cells hE2) hne (by simp only [maxLen] at h63; simp at h63; omega) (by simp at hbytes; omega)
     simp only [List.length_nil, Nat.zero_add, List.flatMap_nil]
     rw [hr]
     simp
   | some a =>
     refine big _ ?_ rfl
     refine run_append_grow (P := P) w T ty e i z hT hi hz a xs.length xs.length _ hlx (fun j u hu => ?_) ⟨B', o, none⟩ ys.length c _ hly (cells hE2) oQ (by simp only [maxLen] at h63; omega) (growslice_fits oQ hbytes)
     have h0 : 0 < xs.length := by
       rcases Nat.eq_zero_or_pos xs.length with h | h
       · have : xs = [] := List.eq_nil_of_length_eq_zero h
         subst this; simp at hu
       exact h
     obtain ⟨x0, hx0⟩ := Ac (xs := xs) (i := 0) h0
     obtain ⟨B, o2, e2, _⟩ := hE 0 x0 hx0
     cases e2
     exact cells hE j u hu
 have hys : ys = [] := List.eq_nil_of_length_eq_zero oQ
 subst hys
 refine fin (.slice ad xs.length xs.length) w ?_ ⟨Up.refl w, by rw [List.append_nil]; exact Ak hE, fun h => absurd h hne⟩
 have hsz : ∀ w, (sizeOf e).run P w = .ok i.size w := fun w => by simp [sizeOf, typeInfo, hi]
 cases ad <;> cases ad2 <;> simp [Builtin.append_, run_underlying hT, hsz, Builtin.lenOf, Builtin.firstCells, loadCells, loadCellsFrom, storeCells, Result.andThen]
end
theorem No {α : Type} {enc : α → Array Value} {b k n cp : Nat} {e : TypeId} {w : World} {ad : Option Addr} {xs : List α} (h : OwnS w b e k enc (.slice ad n cp) xs) : xs.length ≤ cp := by
 obtain ⟨_, ⟨e1, e2⟩ | ⟨g, cap, cur, e1, _, _, hc, _⟩⟩ := h
 · cases e1; omega
 cases e1; exact hc
end Go.Wx
end
section
namespace Go.Wx
open Go.RowKit
theorem Sep.J9 {α : Type} {S0 : Nat → Prop} {w0 w : World} {As : List Asr} {e k : Nat} {enc : α → Array Value} (h : Sep S0 w0 w As) (ho : OwnS w 0 e k enc (.slice none 0 0) ([] : List α)) : Sep S0 w0 w (As ++ [Al e k enc (.slice none 0 0) ([] : List α)]) := h.add (Up.refl _) ho (fun i h => by cases h)
theorem Sep.perm {S0 : Nat → Prop} {w0 w : World} {As Bs : List Asr} (h : Sep S0 w0 w As) (p : As.Perm Bs) : Sep S0 w0 w Bs := ⟨h.fr, fun B hB => h.each B (p.mem_iff.2 hB), (p.pairwise_iff (fun {_ _} hAB i hi hj => hAB i hj hi)).1 h.apart⟩
theorem OwnS.CU {α : Type} {enc : α → Array Value} {b k n cp : Nat} {e : TypeId} {w : World} {ad : Option Addr} {xs : List α} (h : OwnS w b e k enc (.slice ad n cp) xs) (hk : ∀ x, (enc x).size = k) : Els w ad k enc xs := by
 obtain ⟨ad', c, e1, hE⟩ := h.sl hk
 cases e1
 exact hE
theorem OwnS.vM {α : Type} {enc : α → Array Value} {b k n cp : Nat} {e : TypeId} {w : World} {ad : Option Addr} {xs : List α} (h : OwnS w b e k enc (.slice ad n cp) xs) (hne : 0 < xs.length) : ∃ g, ad = some ⟨g, 0, none⟩ := by
 obtain ⟨_, ⟨e1, e2⟩ | ⟨g, cap, cur, e1, _⟩⟩ := h
 · omega
 cases e1; exact ⟨g, rfl⟩
end Go.Wx
end
section
namespace Go.Wx
def Cg (f : Fact) : K2 := (f.Time, f.ID)
def Cu (n : Int) : Bool := decide (1 ≤ n) && decide (n ≤ 1000000)
def Jg (p : Fact → Bool) (l : List Fact) : List Fact := D8 Cg (l.filter p)
theorem J0 {α : Type} {enc : α → Array Value} {e k : Nat} {w0 w : World} {v : Value} {xs : List α} {rest : List Asr} (h : Wx.Sep no w0 w (Al e k enc v xs :: rest)) : OwnS w w0.heap.size e k enc v xs := by
 have hf := h.foot 0 rfl
 obtain ⟨h1, h2⟩ := h.own 0 rfl
 refine ⟨h1, ?_⟩
 rcases h2 with h2 | ⟨g, cap, cur, e, hb, rest⟩
 · exact .inl h2
 exact .inr ⟨g, cap, cur, e, (hf g (by rw [e]; rfl)).resolve_left (fun h => h), rest⟩
end Go.Wx
namespace Go.Proofs.YtmimclgihlhaeaaGreat
open Go.Proofs.Tryz
open Go.Wx Go.RowKit
theorem U3 (a b : Fact) (w : World) : Ret Tryz.prog 164 #[.agg a.cells, .agg b.cells] w fun r w' => r = vi (W6 (Cg a) (Cg b)) ∧ Up w w' := by
 have hW := Up.refl w
 refine cS (n := 17) (m := 9) func164 rfl rfl rfl (CW.S (Ah (.C7 (.t rfl)) rfl ?_))
 rintro _ w1 ⟨B2, rfl, NB2⟩
 replace hW := hW.up NB2.up
 have hB2 := NB2.blk
 refine Ah (.C7 (.t rfl)) rfl ?_
 rintro _ w2 ⟨B3, rfl, NB3⟩
 replace hW := hW.up NB3.up
 replace hB2 := hB2.up NB3.up
 have hB3 := NB3.blk
 refine LW.C (LW.S (Fl 11 [.eq (.pointer (some ⟨B2, 5, none⟩)), .eq (vi (Cg a).1), .eq (.pointer (some ⟨B3, 5, none⟩)), .eq (vi (Cg b).1), .eq (vi (Jt (Cg a).1 (Cg b).1)), .eq (.pointer (some ⟨B2, 1, none⟩)), .eq (vi (Cg a).2), .eq (.pointer (some ⟨B3, 1, none⟩)), .eq (vi (Cg b).2), .eq (vi (Jt (Cg a).2 (Cg b).2)), .pred (fun v w => SlT 3 w v 1 Aq [Jt (Cg a).1 (Cg b).1, Jt (Cg a).2 (Cg b).2])] [15] kQ rfl kQ kQ kQ kQ kQ kQ kQ ⟨PhU.eq _, PhU.eq _, PhU.eq _, PhU.eq _, PhU.eq _, PhU.eq _, PhU.eq _, PhU.eq _, PhU.eq _, PhU.eq _, PhU.pred fun _ _ _ h u => SlT.Fu h u.Fu, trivial⟩ ?_ ?_))
 ·intro W hU0
  have hU := (Up.drew w2).trans hU0
  refine aC ⟨rfl, TU.p (.fA 5 underlying198 rfl sizeOf3 rfl) rfl⟩ (aC ⟨rfl, TU.p (.ld isAgg3 rfl ((hB2.up hU).Ai rfl)) rfl⟩ (aC ⟨rfl, TU.p (.fA 5 underlying198 rfl sizeOf3 rfl) rfl⟩ (aC ⟨rfl, TU.p (.ld isAgg3 rfl ((hB3.up hU).Ai rfl)) rfl⟩ (aC ⟨rfl, TU.c (eC (.u rfl rfl) (eZ)) (Ju _ _ _) sQ⟩ (aC ⟨rfl, TU.p (.fA 1 underlying198 rfl sizeOf3 rfl) rfl⟩ (aC ⟨rfl, TU.p (.ld isAgg3 rfl ((hB2.up hU).Ai rfl)) rfl⟩ (aC ⟨rfl, TU.p (.fA 1 underlying198 rfl sizeOf3 rfl) rfl⟩ (aC ⟨rfl, TU.p (.ld isAgg3 rfl ((hB3.up hU).Ai rfl)) rfl⟩ (aC ⟨rfl, TU.c (eC (.u rfl rfl) (eZ)) (Ju _ _ _) sQ⟩ (aC ⟨rfl, TU.r (REv.buildSlice (xs := [Jt (Cg a).1 (Cg b).1, Jt (Cg a).2 (Cg b).2]) (enc := Aq) (mk := vi) underlying30 sizeOf3 zeroValue3 rfl cQ (fun _ => rfl) (fun _ => rfl) (.cons (.t rfl) (.cons (.t rfl) .nil)) rfl) (by rintro _ W1 ⟨B, c, rfl, N, y, x⟩; exact ⟨N.up, SlT.lit ⟨B, c, rfl, N, y, x⟩⟩)⟩ ?_))))))))))
  exact allL.nil
 intro w3 g hU0 hg
 have hU := (Up.drew w2).trans hU0
 replace hW := hW.up hU
 replace hB2 := hB2.up hU
 replace hB3 := hB3.up hU
 obtain ⟨⟨ad, cp, e15, hE⟩, _⟩ := hg 10 _ 15 cQ rfl rfl
 change LW _ _ _ _ _ _ _ _ ((15, .eq (g 15)) :: _) _
 rw [e15]
 refine LW.K (eC (.o rfl) (tA)) rfl (kW ad cp _ _ hE (by simp)) ?_
 rintro _ w4 ⟨rfl, uw4⟩
 replace hW := hW.up uw4
 replace hB2 := hB2.up uw4
 replace hB3 := hB3.up uw4
 refine LW.A rfl (LW.T (CW.ret (Ae rfl rfl ⟨_, rfl, ?_⟩)))
 exact ⟨rfl, hW⟩
theorem qP (x : Fact) (w : World) : Ret Tryz.prog 162 #[.agg x.cells] w fun r w' => r = .agg x.cells ∧ Up w w' := by
 have hW := Up.refl w
 refine cS (n := 4) (m := 9) func162 rfl rfl rfl (CW.S (Ah (.C7 (.t rfl)) rfl ?_))
 rintro _ w1 ⟨B1, rfl, NB1⟩
 have eB1 := NB1.at_
 have zB1 := NB1.size
 replace hW := hW.up NB1.up
 have hB1 := NB1.blk
 refine Ah (.Az zeroValue198) rfl ?_
 rintro _ w2 ⟨B2, rfl, NB2⟩
 have eB2 := NB2.at_
 replace hW := hW.up NB2.up
 replace hB1 := hB1.up NB2.up
 have hB2 := NB2.blk
 refine LW.S (CW.region (LW.pp (.la isAgg36 sizeOf36 rfl (hB1.agg)) (LW.E (.Ay sizeOf198 rfl (.t rfl) (.t rfl) (Fact.one _) hB2 rfl) ?_)))
 intro w3 Nw3
 replace hW := hW.sto Nw3.sto oQ
 replace hB1 := hB1.sto Nw3.sto oQ
 replace hB2 := Nw3.blk
 replace hB2 : Blk w3 B2 x.cells _ := hB2
 refine LW.T (CW.ret (F0 rfl rfl isAgg198 sizeOf198 rfl (hB2.agg) ⟨_, rfl, ?_⟩))
 exact ⟨rfl, hW⟩
theorem qQ (x : Fact) (w : World) : Ret Tryz.prog 166 #[.agg x.cells] w fun r w' => r = .agg x.cells ∧ Up w w' := by
 have hW := Up.refl w
 refine cS (n := 4) (m := 9) func166 rfl rfl rfl (CW.S (Ah (.C7 (.t rfl)) rfl ?_))
 rintro _ w1 ⟨B1, rfl, NB1⟩
 have eB1 := NB1.at_
 have zB1 := NB1.size
 replace hW := hW.up NB1.up
 have hB1 := NB1.blk
 refine Ah (.Az zeroValue36) rfl ?_
 rintro _ w2 ⟨B2, rfl, NB2⟩
 have eB2 := NB2.at_
 replace hW := hW.up NB2.up
 replace hB1 := hB1.up NB2.up
 have hB2 := NB2.blk
 refine LW.S (CW.region (LW.pp (.la isAgg198 sizeOf198 rfl (hB1.agg)) (LW.E (.Ay sizeOf36 rfl (.t rfl) (.t rfl) (Fact.one _) hB2 rfl) ?_)))
 intro w3 Nw3
 replace hW := hW.sto Nw3.sto oQ
 replace hB1 := hB1.sto Nw3.sto oQ
 replace hB2 := Nw3.blk
 replace hB2 : Blk w3 B2 x.cells _ := hB2
 refine LW.T (CW.ret (F0 rfl rfl isAgg36 sizeOf36 rfl (hB2.agg) ⟨_, rfl, ?_⟩))
 exact ⟨rfl, hW⟩
theorem gM (x : Fact) (w : World) : Ret Tryz.prog 167 #[.agg x.cells] w fun r w' => r = .bool true ∧ Up w w' := by
 have hW := Up.refl w
 refine cS (n := 3) (m := 9) func167 rfl rfl rfl (CW.S (Ah (.C7 (.t rfl)) rfl ?_))
 rintro _ w1 ⟨B1, rfl, NB1⟩
 replace hW := hW.up NB1.up
 have hB1 := NB1.blk
 refine LW.C (LW.S (CW.region (LW.C (LW.T (CW.ret (Ae rfl rfl ⟨_, rfl, ?_⟩))))))
 exact ⟨rfl, hW⟩
theorem lG (pf : Nat) (lb : Array Go.Value) (p : Fact → Bool) (hen : ∀ args w, (callFunc pf args).run Tryz.prog w = .ok (.enter pf args) w) (ad : Option Addr) (cp : Nat) (l : List Fact) (w : World) (hE0 : Els w ad 19 Fact.cells l) (hl : l.length ≤ 1000000000) (hp : ∀ W, Up w W → ∀ x ∈ l, Ret Tryz.prog pf (#[.agg x.cells] ++ lb) W fun r W' => r = .bool (p x) ∧ Up W W') : Ret Tryz.prog 161 #[.slice ad l.length cp, .func (.func 162) #[] #[], .func (.func pf) #[] lb] w fun r w' => OwnS w' w.heap.size 198 19 Fact.cells r (l.filter p) ∧ Up w w' := by
 obtain ⟨w0, rfl⟩ : ∃ w0, w0 = w := ⟨_, rfl⟩
 have hS := Sep.start no w0
 refine cS (n := 27) (m := 9) func161 rfl rfl rfl (CW.S (LW.C (LW.S (CW.region (LW.C (LW.S (CW.seq ?_)))))))
 replace hS := hS.add (Up.refl _) (A' := Al 198 19 Fact.cells (.slice none 0 0) ([] : List Fact)) (OwnS.nil _ _ _ _ _) (fun i h => by cases h)
 refine CW.region (LW.M rfl (LW.pp (.Ci underlying23 (.t rfl)) (LW.pp (.move (.const _)) (LW.T (CW.block (Am (σ := Nat × Go.Value) (fun s w => (s.1 ≤ l.length) ∧ (Wx.Sep no w0 w [Al 198 19 Fact.cells s.2 ((l.take s.1).filter p)])) (fun s => [(12, .eq (vi (s.1 : Int))), (7, .eq (s.2))]) ([(1, .eq _), (2, .eq _), (6, .eq _), (10, .eq _), (11, .eq _)]) (fun s => l.length - s.1) (0, .slice none 0 0) ?_ ⟨rfl, rfl, rfl, rfl, rfl, rfl, rfl, trivial⟩ ?_))))))
 ·exact ⟨Nat.zero_le _, hS⟩
 rintro ⟨k, v⟩ w1 ⟨hk, hS⟩
 change CW _ _ _ _ _ _ _ ([(12, .eq (vi (k : Int))), (7, .eq (v))] ++ _) _
 refine CW.S (LW.pp (.lss (.t rfl) (.t rfl)) (LW.S (CW.cond (.t rfl) (fun h13 => ?_) (fun h13 => ?_))))
 ·replace h13 := dQ h13
  refine CW.skip (KW.then (CW.seq (CW.block (CW.seq ?_))))
  have hE := hE0.up hS.Ce
  refine CW.region ?_
  obtain ⟨x, hx⟩ := Ac (xs := l) (i := k) oQ
  obtain ⟨Bx, ox, ax, hcx⟩ := hE _ x hx
  refine LW.pp (.Aj underlying23 sizeOf36 (.t rfl) (.t rfl) oQ ax) (LW.pp (.la isAgg36 sizeOf36 rfl (hcx)) (Ah (.Az zeroValue36) rfl ?_))
  rintro _ w2 ⟨B9, rfl, MB9⟩
  refine LW.E (.Ay sizeOf36 rfl (.t rfl) (.t rfl) (Fact.one _) MB9.blk rfl) ?_
  intro w3 LB9
  have NB9 := MB9.set LB9
  replace hcx := hcx.up NB9.up
  replace hS := hS.Cj NB9
  refine LW.S (CW.region (LW.M rfl (LW.pp (.la isAgg36 sizeOf36 rfl ((hS.blk 1 rfl).agg)) (LW.K (Cq (.t rfl) (.cons (.t rfl) .nil) (hen)) rfl (hp _ hS.Ce x (List.mem_of_getElem? hx)) ?_))))
  rintro _ w4 ⟨rfl, uw4⟩
  replace hS := hS.up uw4
  refine LW.T (CW.cond (.t rfl) (fun h18 => ?_) (fun h18 => ?_))
  ·replace h18 := dQ h18
   have hfl := Rj p l k
   refine CW.region (LW.M rfl (LW.M rfl (LW.pp (.la isAgg36 sizeOf36 rfl ((hS.blk 1 rfl).agg)) (LW.K (C0 (.t rfl) (.cons (.t rfl) .nil) (yC)) rfl (qP _ _) ?_))))
   rintro _ w5 ⟨rfl, uw5⟩
   replace hS := hS.up uw5
   refine Ah (.buildSlice (xs := [x]) (enc := Fact.cells) (mk := fun f : Fact => .agg f.cells) underlying196 sizeOf198 zeroValue198 rfl cQ (fun _ => rfl) (fun _ => rfl) (.cons (.t rfl) .nil) rfl) rfl ?_
   rintro _ w6 ⟨B23, cB23, rfl, NB23, yB23, xB23⟩
   replace hS := hS.up NB23.up
   have hE23 := xB23
   refine Ah (.A8 (enc := Fact.cells) (bytes := 160) (i := Tryz.t198) underlying196 kQ rfl rfl rfl rfl cQ (fun _ => rfl) Fact.one (.t rfl) (.t rfl) (hS.own 0 rfl) (Ak hE23) (by have := hfl; simp [maxLen]; omega) (by have := hfl; simp; omega)) rfl ?_
   intro v24 w7 Gw7
   replace hS := hS.Dh 0 rfl Gw7
   refine LW.A rfl (LW.nil (KW.inBlock (KW.then (CW.region (LW.pp (.inc (.t rfl) oQ) (LW.M rfl (LW.nil (KW.round ?_))))))))
   exact ⟨(k + 1, v24), ⟨by show k + 1 ≤ _; omega, by (rw [Z9 hx h18]; exact hS.take 1)⟩, ⟨rfl, rfl, rfl, rfl, rfl, rfl, rfl, trivial⟩, by show l.length - (k + 1) < l.length - k; omega⟩
  replace h18 := dQ h18
  refine CW.skip (KW.inBlock (KW.then (CW.region (LW.pp (.inc (.t rfl) oQ) (LW.M rfl (LW.nil (KW.round ?_)))))))
  exact ⟨(k + 1, v), ⟨by show k + 1 ≤ _; omega, by (rw [lF hx h18]; exact hS.take 1)⟩, ⟨rfl, rfl, rfl, rfl, rfl, rfl, rfl, trivial⟩, by show l.length - (k + 1) < l.length - k; omega⟩
 replace h13 := dQ h13
 refine CW.exit (Aa (Aa (Ad (KW.then (CW.S (LW.M rfl (LW.A rfl (LW.T (CW.ret (Ae rfl rfl ⟨_, rfl, ?_⟩))))))))))
 have hkl : k = l.length := by omega
 rw [hkl, List.take_length] at hS
 exact ⟨J0 hS, hS.Ce⟩
theorem lH (pf : Nat) (lb : Array Go.Value) (p : Fact → Bool) (hen : ∀ args w, (callFunc pf args).run Tryz.prog w = .ok (.enter pf args) w) (ad : Option Addr) (cp : Nat) (l : List Fact) (w : World) (hE0 : Els w ad 19 Fact.cells l) (hl : l.length ≤ 1000000000) (hp : ∀ W, Up w W → ∀ x ∈ l, Ret Tryz.prog pf (#[.agg x.cells] ++ lb) W fun r W' => r = .bool (p x) ∧ Up W W') : Ret Tryz.prog 165 #[.slice ad l.length cp, .func (.func 166) #[] #[], .func (.func pf) #[] lb] w fun r w' => OwnS w' w.heap.size 36 19 Fact.cells r (l.filter p) ∧ Up w w' := by
 obtain ⟨w0, rfl⟩ : ∃ w0, w0 = w := ⟨_, rfl⟩
 have hS := Sep.start no w0
 refine cS (n := 27) (m := 9) func165 rfl rfl rfl (CW.S (LW.C (LW.S (CW.region (LW.C (LW.S (CW.seq ?_)))))))
 replace hS := hS.add (Up.refl _) (A' := Al 36 19 Fact.cells (.slice none 0 0) ([] : List Fact)) (OwnS.nil _ _ _ _ _) (fun i h => by cases h)
 refine CW.region (LW.M rfl (LW.pp (.Ci underlying196 (.t rfl)) (LW.pp (.move (.const _)) (LW.T (CW.block (Am (σ := Nat × Go.Value) (fun s w => (s.1 ≤ l.length) ∧ (Wx.Sep no w0 w [Al 36 19 Fact.cells s.2 ((l.take s.1).filter p)])) (fun s => [(12, .eq (vi (s.1 : Int))), (7, .eq (s.2))]) ([(1, .eq _), (2, .eq _), (6, .eq _), (10, .eq _), (11, .eq _)]) (fun s => l.length - s.1) (0, .slice none 0 0) ?_ ⟨rfl, rfl, rfl, rfl, rfl, rfl, rfl, trivial⟩ ?_))))))
 ·exact ⟨Nat.zero_le _, hS⟩
 rintro ⟨k, v⟩ w1 ⟨hk, hS⟩
 change CW _ _ _ _ _ _ _ ([(12, .eq (vi (k : Int))), (7, .eq (v))] ++ _) _
 refine CW.S (LW.pp (.lss (.t rfl) (.t rfl)) (LW.S (CW.cond (.t rfl) (fun h13 => ?_) (fun h13 => ?_))))
 ·replace h13 := dQ h13
  refine CW.skip (KW.then (CW.seq (CW.block (CW.seq ?_))))
  have hE := hE0.up hS.Ce
  refine CW.region ?_
  obtain ⟨x, hx⟩ := Ac (xs := l) (i := k) oQ
  obtain ⟨Bx, ox, ax, hcx⟩ := hE _ x hx
  refine LW.pp (.Aj underlying196 sizeOf198 (.t rfl) (.t rfl) oQ ax) (LW.pp (.la isAgg198 sizeOf198 rfl (hcx)) (Ah (.Az zeroValue198) rfl ?_))
  rintro _ w2 ⟨B9, rfl, MB9⟩
  refine LW.E (.Ay sizeOf198 rfl (.t rfl) (.t rfl) (Fact.one _) MB9.blk rfl) ?_
  intro w3 LB9
  have NB9 := MB9.set LB9
  replace hcx := hcx.up NB9.up
  replace hS := hS.Cj NB9
  refine LW.S (CW.region (LW.M rfl (LW.pp (.la isAgg198 sizeOf198 rfl ((hS.blk 1 rfl).agg)) (LW.K (Cq (.t rfl) (.cons (.t rfl) .nil) (hen)) rfl (hp _ hS.Ce x (List.mem_of_getElem? hx)) ?_))))
  rintro _ w4 ⟨rfl, uw4⟩
  replace hS := hS.up uw4
  refine LW.T (CW.cond (.t rfl) (fun h18 => ?_) (fun h18 => ?_))
  ·replace h18 := dQ h18
   have hfl := Rj p l k
   refine CW.region (LW.M rfl (LW.M rfl (LW.pp (.la isAgg198 sizeOf198 rfl ((hS.blk 1 rfl).agg)) (LW.K (C0 (.t rfl) (.cons (.t rfl) .nil) (yG)) rfl (qQ _ _) ?_))))
   rintro _ w5 ⟨rfl, uw5⟩
   replace hS := hS.up uw5
   refine Ah (.buildSlice (xs := [x]) (enc := Fact.cells) (mk := fun f : Fact => .agg f.cells) underlying23 sizeOf36 zeroValue36 rfl cQ (fun _ => rfl) (fun _ => rfl) (.cons (.t rfl) .nil) rfl) rfl ?_
   rintro _ w6 ⟨B23, cB23, rfl, NB23, yB23, xB23⟩
   replace hS := hS.up NB23.up
   have hE23 := xB23
   refine Ah (.A8 (enc := Fact.cells) (bytes := 160) (i := Tryz.t36) underlying23 kQ rfl rfl rfl rfl cQ (fun _ => rfl) Fact.one (.t rfl) (.t rfl) (hS.own 0 rfl) (Ak hE23) (by have := hfl; simp [maxLen]; omega) (by have := hfl; simp; omega)) rfl ?_
   intro v24 w7 Gw7
   replace hS := hS.Dh 0 rfl Gw7
   refine LW.A rfl (LW.nil (KW.inBlock (KW.then (CW.region (LW.pp (.inc (.t rfl) oQ) (LW.M rfl (LW.nil (KW.round ?_))))))))
   exact ⟨(k + 1, v24), ⟨by show k + 1 ≤ _; omega, by (rw [Z9 hx h18]; exact hS.take 1)⟩, ⟨rfl, rfl, rfl, rfl, rfl, rfl, rfl, trivial⟩, by show l.length - (k + 1) < l.length - k; omega⟩
  replace h18 := dQ h18
  refine CW.skip (KW.inBlock (KW.then (CW.region (LW.pp (.inc (.t rfl) oQ) (LW.M rfl (LW.nil (KW.round ?_)))))))
  exact ⟨(k + 1, v), ⟨by show k + 1 ≤ _; omega, by (rw [lF hx h18]; exact hS.take 1)⟩, ⟨rfl, rfl, rfl, rfl, rfl, rfl, rfl, trivial⟩, by show l.length - (k + 1) < l.length - k; omega⟩
 replace h13 := dQ h13
 refine CW.exit (Aa (Aa (Ad (KW.then (CW.S (LW.M rfl (LW.A rfl (LW.T (CW.ret (Ae rfl rfl ⟨_, rfl, ?_⟩))))))))))
 have hkl : k = l.length := by omega
 rw [hkl, List.take_length] at hS
 exact ⟨J0 hS, hS.Ce⟩
end Go.Proofs.YtmimclgihlhaeaaGreat
end
