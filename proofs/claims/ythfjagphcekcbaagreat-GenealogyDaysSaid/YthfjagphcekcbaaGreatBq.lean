/-
  delete(m, k) of the entry at which a range over m stands. Nothing of any program stands here.
-/
import Derived.Test.YthfjagphcekcbaaGreatMa
namespace Go.Wx
open Go.RowKit Go.MapKept
section
variable {P : Program} {n : Nat} {ds : List Deferred} {l : Env} {w : World} {d : Option Tmp} {ty : TypeId} {ps : String} {af : Array Edge} {g : Option (Nat × Bool)}
theorem map_erase {α β : Type} (f : α → β) : ∀ (l : List α) (j : Nat), (l.eraseIdx j).map f = (l.map f).eraseIdx j
  | [], _ => rfl
  | _ :: _, 0 => rfl
  | a :: l, j + 1 => by rw [List.eraseIdx_cons_succ, List.map_cons, map_erase f l j, List.map_cons, List.eraseIdx_cons_succ]
theorem kvI_filter {kv : List (Int × Value)} {k : Int} {j : Nat} (hn : (kv.map (·.1)).Nodup) {p : Int × Value} (hj : kv[j]? = some p) (hk : p.1 = k) : kv.filter (fun p => !decide (p.1 = k)) = kv.eraseIdx j := by
  refine Go.ChangeMaps.filter_eq_eraseIdx (fun p : Int × Value => decide (p.1 = k)) kv j p hj (decide_eq_true hk) ?_
  have h := List.pairwise_map.1 hn
  exact h.imp fun {a b} hab hh => hab ((of_decide_eq_true hh.1).trans (of_decide_eq_true hh.2).symm)
theorem REv.deleteR {T K E : TypeId} {m x : Operand} {b r : Nat} {k : Int} {kv : List (Int × Value)} {done : List Int} (hT : P.underlying T = some (.map K E)) (hK : P.underlying K = some (.int .i64)) (hm : Val l m (.map (some b))) (hx : Val l x (vi k)) (h : IRng w b r kv (done ++ [k])) :
    REv P n ds l w ⟨d, .call { callee := .builtin .delete, args := #[m, x], argTypes := #[T, K] }, ty, ps, af, g⟩ (fun _ w' => IRng w' b r (kv.filter fun p => !decide (p.1 = k)) done ∧ Sto b w w' ∧ w'.heap.size = w.heap.size) := fun a ha => by
  obtain ⟨es, clock, since, seen, c0, hb, hs, he, hr, hold, hsc, hsk, hd, hdn, hdk⟩ := h
  have hne : b ≠ r := fun e => by rw [e, hr] at hb; cases hb
  have hk : IsKey (.int .i64) (vi k) := rfl
  have hkm : k ∈ kv.map (·.1) := hdk k (by simp)
  have hkn : (kv.map (·.1)).Nodup := keys_nodup hs he
  rcases findNow_spec hk es.toList 0 (isKey_all he) with ⟨h1, h2⟩ | ⟨j, e, h1, h2, h3⟩
  · exfalso
    obtain ⟨p, hp, hpk⟩ := List.mem_map.1 hkm
    obtain ⟨x', hx', hkx, _⟩ := key_entry he hp
    exact h2 x' hx' (by rw [hkx, hpk])
  · have hjs : j < es.size := by have := (List.getElem?_eq_some_iff.1 h2).1; simpa using this
    have hsub : (es.eraseIdxIfInBounds j).toList = es.toList.eraseIdx j := by
      unfold Array.eraseIdxIfInBounds
      rw [dif_pos hjs]
      simp
    obtain ⟨p, hp, hpk⟩ : ∃ p, kv[j]? = some p ∧ p.1 = k := by
      have h4 : (es.toList.map kvOf)[j]? = some (kvOf e) := by rw [List.getElem?_map, h2]; rfl
      rw [he, List.getElem?_map] at h4
      cases hkj : kv[j]? with
      | none => rw [hkj] at h4; cases h4
      | some p =>
        rw [hkj] at h4
        refine ⟨p, rfl, ?_⟩
        have h5 : kvI p = kvOf e := by simpa using h4
        have h6 : vi p.1 = e.key := congrArg Prod.fst h5
        exact vi_inj (h6.trans h3)
    have hf := kvI_filter hkn hp hpk
    have he' : (es.eraseIdxIfInBounds j).toList.map kvOf = (kv.filter fun p => !decide (p.1 = k)).map kvI := by
      rw [hsub, hf, map_erase, he, ← map_erase]
    have hset := heap_set (o' := .map (es.eraseIdxIfInBounds j) clock) hb
    refine ⟨.tuple #[], { w with heap := w.heap.setIfInBounds b (.map (es.eraseIdxIfInBounds j) clock) }, ?_, ⟨_, clock, since, seen, c0, hset.1, stamped_erase hs j, he', (hset.2 r (Ne.symm hne)).trans hr, fun x hx => hold x ?_, hsc, hsk, fun x hx k' hk' => ?_, ?_, fun k' hk' => ?_⟩, ⟨rfl, rfl, rfl, by simp, fun i _ hi => hset.2 i hi⟩, by simp⟩
    · simp [execOp, resolve, invoke, builtin, ha.ev hm, ha.ev hx, Builtin.delete_, run_underlying hT, MapKept.run_getObj_map hb, MapKept.run_checkKey hK hk, MapKept.run_findKey hK h1, MapKept.run_setObj_map _ hb, Result.andThen]
    · rw [hsub] at hx
      exact (List.eraseIdx_sublist _ _).subset hx
    · have hx0 := hx
      rw [hsub] at hx
      rw [hd x ((List.eraseIdx_sublist _ _).subset hx) k' hk']
      obtain ⟨k'', e1, e2⟩ := keys_int he' x hx0
      have e3 : k' = k'' := vi_inj (hk'.symm.trans e1)
      have e4 := (List.mem_filter.1 e2).2
      have e5 : k' ≠ k := fun e => by rw [← e3, e] at e4; simp at e4
      simp [e5]
    · exact (List.nodup_append.1 hdn).1
    · have h6 := hdk k' (by simp [hk'])
      obtain ⟨q, hq, hqk⟩ := List.mem_map.1 h6
      refine List.mem_map.2 ⟨q, List.mem_filter.2 ⟨hq, ?_⟩, hqk⟩
      have : q.1 ≠ k := fun e => (List.nodup_append.1 hdn).2.2 k' hk' k (by simp) (by rw [← hqk, e])
      simp [this]
end
theorem stp_rng {b r : Nat} {kv kv' : List (Int × Value)} {done done' : List Int} {w w' : World} (h : IRng w' b r kv' done') (k : Sto b w w') : Stp (aIRng b r kv done) (aIRng b r kv' done') w w' := ⟨k.fr.mono fun _ h => .inl h, h, fun _ h => .inl h⟩
theorem stp_set {b : Nat} {kv kv' : List (Int × Value)} {w w' : World} (h : IMap w' b kv') (k : Sto b w w') : Stp (aIMap b kv) (aIMap b kv') w w' := ⟨k.fr, h, fun _ h => .inl h⟩
theorem stp_rngEnd {b r : Nat} {kv : List (Int × Value)} {done : List Int} {w : World} (h : IRng w b r kv done) : Stp (aIRng b r kv done) (aIMap b kv) w w := ⟨Fr.refl _ _, h.map, fun _ e => .inl (.inl e)⟩
end Go.Wx
