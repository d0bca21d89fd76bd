/-
  An append to an owned slice: whoever holds a list that is no longer, in the same block or not, still holds it. Nothing of any program stands here.
-/
import Derived.Test.YtdelcaegofkknaaBt
import Derived.Test.YtdelcaegofkknaaBv
namespace Go.Wx
open Go.RowKit
theorem own_kept {α : Type} {enc : α → Array Value} {k g : Nat} {e : TypeId} {w w' : World} {v2 : Value} {xs : List α} {cur cs' : Array Value} (h : OwnS w 0 e k enc v2 xs) (N : Set_ w w' g cs' e) (hb : Blk w g cur e) (hs : cs'.size = cur.size) (ht : cs'.toList.take (xs.length * k) = cur.toList.take (xs.length * k)) : OwnS w' 0 e k enc v2 xs := by
  obtain ⟨hl, ⟨e', hn⟩ | ⟨g2, cap, cur2, e', hb2, hg, hcap, hcm, hcs, htk⟩⟩ := h
  · exact ⟨hl, .inl ⟨e', hn⟩⟩
  · by_cases hgg : g2 = g
    · subst hgg
      have h2 : some (Obj.cells cur2 e (0, 0)) = some (Obj.cells cur e (0, 0)) := hg.symm.trans hb
      have h3 : cur2 = cur := by injection h2 with h2; injection h2
      subst h3
      exact ⟨hl, .inr ⟨g2, cap, cs', e', hb2, N.blk, hcap, hcm, by rw [hs]; exact hcs, by rw [ht]; exact htk⟩⟩
    · exact ⟨hl, .inr ⟨g2, cap, cur2, e', hb2, (N.sto.fr.block g2 (lt_of_block hg) hgg).trans hg, hcap, hcm, hcs, htk⟩⟩
section
variable {P : Program} {n : Nat} {ds : List Deferred} {l : Env} {w : World} {d : Option Tmp} {ty : TypeId} {ps : String} {af : Array Edge} {g : Option (Nat × Bool)}
theorem REv.appendK {α : Type} {enc : α → Array Value} {k bytes : Nat} {e T : TypeId} {i : TypeInfo} {z : Value} {s x : Operand} {v xv : Value} {xs ys : List α} (hT : P.underlying T = some (.slice e)) (hi : P.info? e = some i) (hz : i.zero = some z)
    (hsize : i.size = k) (hby : i.bytes = bytes) (hzs : z.cells.size = k) (hk0 : 0 < k) (henc : ∀ x, (enc x).size = k) (h1 : ∀ x, (enc x).all (·.oneCell') = true) (hs : Val l s v) (hx : Val l x xv) (ho : OwnS w 0 e k enc v xs) (hy : Sl w xv k enc ys)
    (h63 : xs.length + ys.length ≤ maxLen) (hbytes : (xs.length + ys.length) * bytes ≤ 140737488355328) :
    REv P n ds l w ⟨d, .call { callee := .builtin .append, args := #[s, x], argTypes := #[T, T] }, ty, ps, af, g⟩ (fun v' w' => Stp (aOwn e k enc v xs) (aOwn e k enc v' (xs ++ ys)) w w' ∧ ∀ v2 (zs : List α), zs.length ≤ xs.length → OwnS w 0 e k enc v2 zs → OwnS w' 0 e k enc v2 zs) := fun a ha => by
  obtain ⟨ad, c, rfl, hE⟩ := hy
  have hfl : ∀ x, (enc x).toList.length = k := fun x => by simp [henc]
  by_cases hne : 0 < ys.length
  · obtain ⟨y0, hy0⟩ := getElem?_of_lt (xs := ys) (i := 0) hne
    obtain ⟨B, o, rfl, _⟩ := hE 0 y0 hy0
    have hnews : ∀ (j : Nat) (u : Value), (ys.flatMap fun x => (enc x).toList)[j]? = some u → w.cell? ((⟨B, o, none⟩ : Addr).add j) = some u := fun j u hu => by
      obtain ⟨y, hy1, hy2⟩ := flat_at _ k hk0 hfl ys j u hu
      obtain ⟨B', o', e', hc⟩ := hE _ y hy1
      cases e'
      have := hc (j % k) u (by simpa using hy2)
      rw [add_none]
      rw [show o + j = o + j / k * k + j % k by have := Nat.div_add_mod j k; rw [Nat.mul_comm] at this; omega]
      exact this
    have h1' : ∀ u ∈ (ys.flatMap fun x => (enc x).toList), u.oneCell' = true := fun u hu => by
      obtain ⟨y, _, hy2⟩ := List.mem_flatMap.1 hu
      exact (Array.all_eq_true_iff_forall_mem.1 (h1 y)) u (by simpa using hy2)
    obtain ⟨v', w', hr, h2, h3, _⟩ := run_append_own (P := P) w 0 T ty e i z k bytes hT hi hz hsize hby hzs hk0 v xs.length _ ho ⟨B, o, none⟩ ys.length c (ys.flatMap fun x => (enc x).toList) (flat_length _ k hfl ys) hnews h1' h63 hbytes (Nat.zero_le _)
    refine ⟨v', w', ?_, ⟨⟨h3.os, h3.tape, h3.output, h3.size, fun i hi hb => h3.block i hi (fun e => hb e.symm)⟩, (show OwnS w' 0 e k enc v' (xs ++ ys) by simpa [OwnS] using h2), ?_⟩, ?_⟩
    · simp only [execOp, resolve, invoke, builtin, Sem.run_bind, Sem.run_pure, Result.andThen_ok, List.map_toArray, List.map_cons, List.map_nil, ha.ev hs, ha.ev hx, hr]
    · subst hsize
      subst hby
      have hl : (ys.flatMap fun x => (enc x).toList).length = ys.length * i.size := flat_length _ _ hfl ys
      have hm63 : xs.length + ys.length ≤ 9223372036854775807 := by simpa [maxLen] using h63
      intro q hq
      obtain ⟨hlen, ⟨rfl, hn⟩ | ⟨g', cap, cur, rfl, _, hg, hcap, hcm, hcs, htake⟩⟩ := ho
      · have hr2 := run_append_nil (P := P) w T ty e i z hT hi hz ⟨B, o, none⟩ ys.length c _ hl hnews hne (by omega) (by have : ys.length * i.bytes ≤ (xs.length + ys.length) * i.bytes := Nat.mul_le_mul_right _ (by omega); omega)
        rw [hr] at hr2
        cases hr2
        cases hq
        exact .inr (Nat.le_refl _)
      · by_cases hroom : xs.length + ys.length ≤ cap
        · have hr2 := run_append_room (P := P) w T ty e i hT hi g' xs.length cap cur hg ⟨B, o, none⟩ ys.length c _ hl hnews h1' hroom (by rw [hl, hcs, ← Nat.add_mul]; exact Nat.mul_le_mul_right _ hroom)
          rw [hr] at hr2
          cases hr2
          exact .inl hq
        · have holds : ∀ j u, (xs.flatMap fun x => (enc x).toList)[j]? = some u → w.cell? ((⟨g', 0, none⟩ : Addr).add j) = some u := World.ownsRow.cells (g := g') (show w.ownsRow 0 e i.size (.slice (some ⟨g', 0, none⟩) xs.length cap) xs.length _ from ⟨hlen, .inr ⟨g', cap, cur, rfl, Nat.zero_le _, hg, hcap, hcm, hcs, htake⟩⟩) rfl
          have hr2 := run_append_grow (P := P) w T ty e i z hT hi hz ⟨g', 0, none⟩ xs.length cap _ hlen holds ⟨B, o, none⟩ ys.length c _ hl hnews (by omega) (by omega) (growslice_fits (by omega) hbytes)
          rw [hr] at hr2
          cases hr2
          cases hq
          exact .inr (Nat.le_refl _)
    · intro v2 zs hzle hv2
      subst hsize
      subst hby
      have hl : (ys.flatMap fun x => (enc x).toList).length = ys.length * i.size := flat_length _ _ hfl ys
      have hm63 : xs.length + ys.length ≤ 9223372036854775807 := by simpa [maxLen] using h63
      obtain ⟨hlen, ⟨rfl, hn⟩ | ⟨g', cap, cur, rfl, _, hg, hcap, hcm, hcs, htake⟩⟩ := ho
      · have hr2 := run_append_nil (P := P) w T ty e i z hT hi hz ⟨B, o, none⟩ ys.length c _ hl hnews hne (by omega) (by have : ys.length * i.bytes ≤ (xs.length + ys.length) * i.bytes := Nat.mul_le_mul_right _ (by omega); omega)
        rw [hr] at hr2
        cases hr2
        exact hv2.up ((Up.drew w).trans (Up.alloc _ _))
      · by_cases hroom : xs.length + ys.length ≤ cap
        · have hr2 := run_append_room (P := P) w T ty e i hT hi g' xs.length cap cur hg ⟨B, o, none⟩ ys.length c _ hl hnews h1' hroom (by rw [hl, hcs, ← Nat.add_mul]; exact Nat.mul_le_mul_right _ hroom)
          rw [hr] at hr2
          cases hr2
          have hmk : xs.length * i.size + ys.length * i.size ≤ cap * i.size := by rw [← Nat.add_mul]; exact Nat.mul_le_mul_right _ hroom
          have hcl : cur.toList.length = cap * i.size := by rw [Array.length_toList]; exact hcs
          refine own_kept hv2 (Set_.setRow (show Blk w g' cur e from hg)) (show Blk w g' cur e from hg) ?_ ?_
          · simp only [List.size_toArray, List.length_append, List.length_take, List.length_drop]; omega
          · have hzk : zs.length * i.size ≤ xs.length * i.size := Nat.mul_le_mul_right _ hzle
            rw [List.append_assoc, List.take_append_of_le_length (by rw [List.length_take]; omega), List.take_take, Nat.min_eq_left hzk]
        · have holds : ∀ j u, (xs.flatMap fun x => (enc x).toList)[j]? = some u → w.cell? ((⟨g', 0, none⟩ : Addr).add j) = some u := World.ownsRow.cells (g := g') (show w.ownsRow 0 e i.size (.slice (some ⟨g', 0, none⟩) xs.length cap) xs.length _ from ⟨hlen, .inr ⟨g', cap, cur, rfl, Nat.zero_le _, hg, hcap, hcm, hcs, htake⟩⟩) rfl
          have hr2 := run_append_grow (P := P) w T ty e i z hT hi hz ⟨g', 0, none⟩ xs.length cap _ hlen holds ⟨B, o, none⟩ ys.length c _ hl hnews (by omega) (by omega) (growslice_fits (by omega) hbytes)
          rw [hr] at hr2
          cases hr2
          exact hv2.up ((Up.drew w).trans (Up.alloc _ _))
  · have hys : ys = [] := List.eq_nil_of_length_eq_zero (by omega)
    subst hys
    have hrun : (Builtin.append_ #[T, T] ty #[v, .slice ad 0 c]).run P w = .ok v w := by
      have hsz : ∀ w, (sizeOf e).run P w = .ok k w := fun w => by simp [sizeOf, typeInfo, hi, hsize]
      obtain ⟨_, ⟨rfl, hn⟩ | ⟨g', cap, cur, rfl, _, _, hcap, _⟩⟩ := ho
      · cases ad <;> simp [Builtin.append_, run_underlying hT, hsz, Builtin.lenOf, Builtin.firstCells, loadCells, loadCellsFrom, Result.andThen]
      · cases ad <;> simp [Builtin.append_, run_underlying hT, hsz, Builtin.lenOf, Builtin.firstCells, loadCells, loadCellsFrom, storeCells, Result.andThen, hcap]
    refine ⟨v, w, ?_, ⟨Fr.refl _ _, (show OwnS w 0 e k enc v (xs ++ []) by simpa using ho), fun i h => .inl h⟩, fun _ _ _ h => h⟩
    simp only [execOp, resolve, invoke, builtin, Sem.run_bind, Sem.run_pure, Result.andThen_ok, List.map_toArray, List.map_cons, List.map_nil, ha.ev hs, ha.ev hx, List.length_nil, hrun]
end
end Go.Wx
