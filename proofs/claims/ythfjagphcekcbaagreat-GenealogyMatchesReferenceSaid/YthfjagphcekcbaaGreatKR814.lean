import Derived.Test.YthfjagphcekcbaaGreatKR813
import Derived.WideKeyEntry
section
namespace Go.Wx
open Go.RowKit Go.MapKept
open Go.ChangeMaps (setBlock)
def MidM (P : Program) (T : TypeId) (w : World) (b : Nat) (kv : List (Int × Value)) (k : Int) (st : Nat) : Prop :=
  ∃ es1 clock1, w.heap[b]? = some (.map es1 clock1) ∧ ∀ (w2 : World) (val : Value), w2.heap[b]? = some (.map es1 clock1) → ∃ w', (Instr.entryStore T (.map (some b)) (goInt st) val).run P w2 = .ok () w' ∧ IMap w' b (mset kv k val) ∧ Sto b w2 w' ∧ w'.heap.size = w2.heap.size
theorem MidM.up {P : Program} {T : TypeId} {w w' : World} {b : Nat} {kv : List (Int × Value)} {k : Int} {st : Nat} (h : MidM P T w b kv k st) (u : Up w w') : MidM P T w' b kv k st :=
  let ⟨es1, c1, h1, h2⟩ := h; ⟨es1, c1, (u.block (lt_of_block h1)).trans h1, h2⟩
theorem MidM.nocell {P : Program} {T : TypeId} {w : World} {b : Nat} {kv : List (Int × Value)} {k : Int} {st : Nat} (h : MidM P T w b kv k st) : ∀ ad v, ad.block = b → w.cell? ad ≠ some v := by
  obtain ⟨es, clock, hb, _⟩ := h
  intro ad v e
  unfold World.cell?
  rw [e, hb]
  simp
theorem MidM.noblk {P : Program} {T : TypeId} {w : World} {b : Nat} {kv : List (Int × Value)} {k : Int} {st : Nat} (h : MidM P T w b kv k st) : ∀ (cs : Array Value) (T' : TypeId) (x : Nat × Nat), w.heap[b]? ≠ some (Obj.cells cs T' x) := by
  obtain ⟨es, clock, hb, _⟩ := h
  intro cs T' x e
  rw [hb] at e; cases e
section
variable {P : Program} {n : Nat} {ds : List Deferred} {l : Env} {w : World} {d : Option Tmp} {ty : TypeId} {ps : String} {af : Array Edge} {g : Option (Nat × Bool)}
theorem REv.mapEntry {T K E : TypeId} {m x : Operand} {b : Nat} {k : Int} {z : Value} {kv : List (Int × Value)} (hT : P.underlying T = some (.map K E)) (hK : P.underlying K = some (.int .i64)) (hz : ∀ w, (zeroValue E).run P w = .ok z w) (hm : Val l m (.map (some b))) (hx : Val l x (vi k)) (h : IMap w b kv) :
    REv P n ds l w ⟨d, .mapEntry T m x, ty, ps, af, g⟩ (fun v w' => ∃ v0 st, v = .tuple #[v0, goInt (st : Nat)] ∧ MidM P T w' b kv k st ∧ Sto b w w' ∧ w'.heap.size = w.heap.size) := fun a ha => by
  obtain ⟨es, clock, hb, hs, he⟩ := h
  have hlt := lt_of_block hb
  have hk : IsKey (.int .i64) (vi k) := rfl
  have fin : ∀ (w : World) (o o' : Obj), w.heap[b]? = some o' → Sto b w { w with heap := w.heap.setIfInBounds b o } := fun w o o' hb => ⟨rfl, rfl, rfl, by simp, fun i _ hne => (heap_set hb).2 i hne⟩
  rcases findNow_spec hk es.toList 0 (isKey_all he) with ⟨h1, h2⟩ | ⟨j, e, h1, h2, h3⟩
  · refine ⟨_, _, run_v (v := .tuple #[z, goInt clock]) (w' := { w with heap := w.heap.setIfInBounds b (.map (es.push { key := vi k, val := z, born := clock }) (clock + 1)) }) ?_, z, clock, rfl, ⟨_, _, (heap_set hb).1, fun w2 val hw2 => ⟨{ w2 with heap := w2.heap.setIfInBounds b (.map (es.push { key := vi k, val := val, born := clock }) (clock + 1)) }, ?_, ⟨_, _, (heap_set hw2).1, stamped_push hs h2, ?_⟩, fin w2 _ _ hw2, by simp⟩⟩, fin w _ _ hb, by simp⟩
    · rw [ha.ev hm, ha.ev hx]
      simp [Instr.mapEntry, run_underlying hT, MapKept.run_getObj_map hb, MapKept.run_checkKey hK hk, MapKept.run_findKey hK h1, hz, MapKept.run_setObj_map _ hb, Result.andThen]
    · have hidx : (es.push ⟨vi k, z, clock⟩).findIdx? (fun e => ((e.born : Nat) : Int) == ((clock : Nat) : Int)) = some es.size := by
        rw [Go.WideElems.findIdx_arr]
        exact Go.WideElems.findIdx_born (l := (es.push ⟨vi k, z, clock⟩).toList) (j := es.size) (e0 := ⟨vi k, z, clock⟩) (stamped_push hs h2).2.1 (by simp)
      have hmod : (es.push ⟨vi k, z, clock⟩).modify es.size (fun e => { e with val := val }) = es.push ⟨vi k, val, clock⟩ := by
        apply Array.ext'
        rw [Array.toList_modify, Array.toList_push, Array.toList_push, ← Array.length_toList, Go.WideElems.modify_last]
      simp [Instr.entryStore, MapKept.run_getObj_map hw2, asInt, asIntOf, goInt, hidx, hmod, MapKept.run_setObj_map _ hw2, Result.andThen]
    · have hni : k ∉ kv.map (·.1) := fun hmem => by
        obtain ⟨p, hp, hpk⟩ := List.mem_map.1 hmem
        obtain ⟨x', hx', hkx, _⟩ := key_entry he hp
        exact h2 x' hx' (by rw [hkx, hpk])
      rw [mset, if_neg hni]
      simp [he, kvOf, kvI]
  · have hj : es[j]? = some e := by simpa using h2
    have hkey : ∀ (val : Value) e', es[j]? = some e' → ({ e' with key := vi k, val := val } : MapEntry).key = e'.key := fun _ e' he' => by rw [hj] at he'; cases he'; exact h3.symm
    have hsame : es.modify j (fun e => { e with key := vi k }) = es := by
      apply Array.ext'
      rw [Array.toList_modify, Go.ChangeMaps.modify_eq_set _ _ _ _ h2]
      have : ({ e with key := vi k } : MapEntry) = e := by rw [← h3]
      rw [this]
      exact Go.WideElems.set_self _ _ _ h2
    refine ⟨_, _, run_v (v := .tuple #[e.val, goInt e.born]) (w' := { w with heap := w.heap.setIfInBounds b (.map es clock) }) ?_, e.val, e.born, rfl, ⟨_, _, (heap_set hb).1, fun w2 val hw2 => ⟨{ w2 with heap := w2.heap.setIfInBounds b (.map (es.modify j fun e => { e with key := vi k, val := val }) clock) }, ?_, ⟨_, _, (heap_set hw2).1, stamped_modify hs _ _ (fun _ _ => rfl) (fun e' _ he' => hkey val e' he'), modify_set hs he hj h3⟩, fin w2 _ _ hw2, by simp⟩⟩, fin w _ _ hb, by simp⟩
    · rw [ha.ev hm, ha.ev hx]
      simp [Instr.mapEntry, run_underlying hT, MapKept.run_getObj_map hb, MapKept.run_checkKey hK hk, MapKept.run_findKey hK h1, hj, h3, run_keyThatStays hk, hsame, MapKept.run_setObj_map _ hb, Result.andThen]
    · have hidx : es.findIdx? (fun e => ((e.born : Nat) : Int) == ((e.born : Nat) : Int)) = es.findIdx? (fun e => ((e.born : Nat) : Int) == ((e.born : Nat) : Int)) := rfl
      have hidx : es.findIdx? (fun x => ((x.born : Nat) : Int) == ((e.born : Nat) : Int)) = some j := by
        rw [Go.WideElems.findIdx_arr]
        exact Go.WideElems.findIdx_born hs.2.1 h2
      have hmod : es.modify j (fun e => { e with val := val }) = es.modify j (fun e' => { e' with key := vi k, val := val }) := by
        apply Array.ext'
        rw [Array.toList_modify, Array.toList_modify, Go.ChangeMaps.modify_eq_set _ _ _ _ h2, Go.ChangeMaps.modify_eq_set _ _ _ _ h2, ← h3]
      simp [Instr.entryStore, MapKept.run_getObj_map hw2, asInt, asIntOf, goInt, hidx, hmod, MapKept.run_setObj_map _ hw2, Result.andThen]
end
def asks (ops : Array Oper) (i j : Nat) : Bool := match ops[i]? with | some o => o.after.any fun e => Region.binds .any e && Nat.beq e.on j | none => false
theorem asks_at {ops : Array Oper} {i j : Nat} (h : asks ops i j = true) {L : Nat → Bool} (hD : DnL ops L) (hi : L i = true) : L j = true := by
  unfold asks at h
  split at h
  · rename_i o ho
    obtain ⟨e, he, hh⟩ := Array.any_eq_true.1 h
    simp only [Bool.and_eq_true] at hh
    have := hD i o ho hi _ (Array.getElem_mem he) hh.1
    rwa [Nat.eq_of_beq_eq_true hh.2] at this
  · cases h
theorem asks_now {ops : Array Oper} {i j : Nat} (h : asks ops i j = true) {o : Oper} (ho : ops[i]? = some o) {L : Nat → Bool} (hed : ∀ e ∈ o.after, Region.binds .any e = true → L e.on = true) : L j = true := by
  unfold asks at h
  rw [ho] at h
  obtain ⟨e, he, hh⟩ := Array.any_eq_true.1 h
  simp only [Bool.and_eq_true] at hh
  have := hed _ (Array.getElem_mem he) hh.1
  rwa [Nat.eq_of_beq_eq_true hh.2] at this
theorem Ag.learn2 {n : Nat} {ds : List Deferred} {w : World} {t : Nat} {v : Value} {a : Go.Act} {env : Env} (ha : Ag n ds env a w) (hv : a.tmps.getD t undef = v) : Ag n ds ((t, .eq v) :: env) a w := ⟨ha.defers, ha.size, fun s q hs => by
  by_cases e : s = t
  · subst e; rw [lk_cons_eq] at hs; cases hs; exact hv
  · rw [lk_cons_ne e] at hs; exact ha.val s q hs⟩
def SwInv (P : Program) (T : TypeId) (b : Nat) (kv : List (Int × Value)) (k1 k2 : Int) (v1 v2 : Value) (de dx : Nat) (e x s u : Nat) (w0 : World) (L : Nat → Bool) (f : Nat → Value) (W : World) : Prop :=
  Fr (· = b) w0 W ∧ (L e = false → IMap W b kv) ∧ (L e = true → L s = false → ∃ st : Nat, MidM P T W b kv k1 st ∧ (∃ v0, f de = .tuple #[v0, goInt st]) ∧ (L x = true → f dx = goInt st)) ∧
    (L s = true → L u = false → IMap W b (mset kv k1 v1)) ∧ (L u = true → IMap W b (mset (mset kv k1 v1) k2 v2))
section
variable {R : Option Nat} {m : Nat} {P : Program} {n : Nat} {ds : List Deferred} {Q : Exit → Go.Act → World → Prop} {l : Env} {w : World} {ops : Array Oper}
theorem CW.mapswap {id : Nat} {opsL : List Oper} (k b e x s u r1 r2 de dx m1 a1 c1 m2 a2 c2 : Nat) (phs : List Ph) {T K E : Nat} {z : Value} {kv : List (Int × Value)} {k1 k2 : Int} {v1 v2 : Value} (hT : P.underlying T = some (.map K E)) (hK : P.underlying K = some (.int .i64)) (hz : ∀ w, (zeroValue E).run P w = .ok z w) (hm : P.follows .mixedOrders = true) (hl : noPred l = true)
    (hA : aheadOK opsL.toArray = true) (hC : (Nat.beq k opsL.toArray.size || closOK opsL.toArray k) = true) (hF : farOK opsL.toArray k = true) (hks : Nat.ble k opsL.toArray.size = true) (hD : dstOK' n opsL.toArray 0 k = true) (hTl : tailOK opsL.toArray k = true) (hfree : freeOK l (opsL.take k) = true)
    (hask : (asks opsL.toArray e r1 && (asks opsL.toArray r1 r2 && (asks opsL.toArray x e && (asks opsL.toArray s x && asks opsL.toArray u s)))) = true) (hlt : (Nat.ble (e + 1) k && (Nat.ble (x + 1) k && (Nat.ble (s + 1) k && Nat.ble (u + 1) k))) = true)
    (hoe : ∃ ty ps af, opsL[e]? = some ⟨some de, .mapEntry T (.tmp m1) (.tmp a1), ty, ps, af, none⟩) (hox : ∃ ty ps af, opsL[x]? = some ⟨some dx, .extract (.tmp de) 1, ty, ps, af, none⟩)
    (hos : ∃ ty ps af, opsL[s]? = some ⟨none, .entryStore T (.tmp m1) (.tmp dx) (.tmp c1), ty, ps, af, none⟩) (hou : ∃ ty ps af, opsL[u]? = some ⟨none, .mapUpdate T (.tmp m2) (.tmp a2) (.tmp c2), ty, ps, af, none⟩)
    (hph : allC phs) (hpe : ∀ v W, (phs.getD e (.eq undef)).holds v W) (hpx : ∀ v W, (phs.getD x (.eq undef)).holds v W)
    (hve : ∀ o, opsL[e]? = some o → lk (knp opsL.toArray (fun i => phs.getD i (.eq undef)) 0 o ++ l) m1 = some (.eq (.map (some b))) ∧ lk (knp opsL.toArray (fun i => phs.getD i (.eq undef)) 0 o ++ l) a1 = some (.eq (vi k1)))
    (hvs : ∀ o, opsL[s]? = some o → lk (knp opsL.toArray (fun i => phs.getD i (.eq undef)) 0 o ++ l) m1 = some (.eq (.map (some b))) ∧ lk (knp opsL.toArray (fun i => phs.getD i (.eq undef)) 0 o ++ l) c1 = some (.eq v1))
    (hvu : ∀ o, opsL[u]? = some o → lk (knp opsL.toArray (fun i => phs.getD i (.eq undef)) 0 o ++ l) m2 = some (.eq (.map (some b))) ∧ lk (knp opsL.toArray (fun i => phs.getD i (.eq undef)) 0 o ++ l) a2 = some (.eq (vi k2)) ∧ lk (knp opsL.toArray (fun i => phs.getD i (.eq undef)) 0 o ++ l) c2 = some (.eq v2))
    (hM : IMap w b kv)
    (hop : ∀ W, Cel w.drew W → allL (fun i o => (i = e ∨ i = x ∨ i = s ∨ i = u) ∨ (o.guard = none ∧ (((i = r1 ∨ i = r2) → IMap W b kv) → TU P n ds (knp opsL.toArray (fun i => phs.getD i (.eq undef)) 0 o ++ l) W o (phs.getD i (.eq undef))))) 0 (opsL.take k))
    (hend : ∀ W, Fr (· = b) w.drew W → IMap W b (mset (mset kv k1 v1) k2 v2) → LW R m P n ds opsL.toArray Q (opsL.drop k) l W) :
    CW R m P n ds (.region id opsL.toArray true) Q l w := by
  simp only [Bool.and_eq_true] at hask hlt
  obtain ⟨ae, ar, ax, as_, au⟩ := hask
  obtain ⟨ke, kx, ks, ku⟩ := hlt
  have ke := Nat.le_of_ble_eq_true ke
  have kx := Nat.le_of_ble_eq_true kx
  have ks := Nat.le_of_ble_eq_true ks
  have ku := Nat.le_of_ble_eq_true ku
  have hks' : k ≤ opsL.length := by have := Nat.le_of_ble_eq_true hks; simp at this; omega
  have sub : ∀ j o, j < k → opsL.toArray[j]? = some o → (opsL.take k)[j]? = some o := fun j o hjk ho => by
    rw [List.getElem?_take_of_lt hjk]; simpa using ho
  have hbd : ∀ i ph, lk l i = some ph → ∀ (j : Nat) (o : Oper), 0 ≤ j → j < k → opsL.toArray[j]? = some o → o.dst ≠ some i := fun i ph hi j o _ hjk ho => freeOK_at hfree hi (List.mem_of_getElem? (sub j o hjk ho))
  obtain ⟨ty1, ps1, af1, hoe⟩ := hoe
  obtain ⟨ty2, ps2, af2, hox⟩ := hox
  obtain ⟨ty3, ps3, af3, hos⟩ := hos
  obtain ⟨ty4, ps4, af4, hou⟩ := hou
  have hde : ∀ i o, i < k → i ≠ e → opsL.toArray[i]? = some o → o.dst ≠ some de := fun i o hik hne ho hd =>
    (dstOK'_at hD (Nat.zero_le _) hik ho hd).2 e _ (Nat.zero_le _) ke (Ne.symm hne) (by simpa using hoe) rfl
  have hdx : ∀ i o, i < k → i ≠ x → opsL.toArray[i]? = some o → o.dst ≠ some dx := fun i o hik hne ho hd =>
    (dstOK'_at hD (Nat.zero_le _) hik ho hd).2 x _ (Nat.zero_le _) kx (Ne.symm hne) (by simpa using hox) rfl
  have hne : e ≠ x ∧ e ≠ s ∧ e ≠ u ∧ x ≠ s ∧ x ≠ u ∧ s ≠ u := by
    refine ⟨?_, ?_, ?_, ?_, ?_, ?_⟩ <;> intro h <;> subst h <;> simp_all
  obtain ⟨nex, nes, neu, nxs, nxu, nsu⟩ := hne
  refine CW.draws_up hm hl fun fuel listed a hf hu ha => ?_
  refine AWF.gen (k := k) (f0 := fun t => a.tmps.getD t undef) (fun i => phs.getD i (.eq undef)) Cel (SwInv P T b kv k1 k2 v1 v2 de dx e x s u w.drew) Cel.refl (fun _ _ _ => Cel.trans) (fun i v w w' h u => (hph.at i) v w w' h u) hA hC hF hks (by simp) hD hl hbd ?_ ?_ ?_ fuel listed a hf hu ha (fun _ => rfl)
  · intro i o _ hik hio L f W hRel hDn hLi hed ⟨hFr, I1, I2, I3, I4⟩
    have hup : L e = false → L s = false := fun h => by
      cases hs : L s with
      | false => rfl
      | true => rw [asks_at ax hDn (asks_at as_ hDn hs)] at h; cases h
    have hsu : L s = false → L u = false := fun h => by
      cases hs : L u with
      | false => rfl
      | true => rw [asks_at au hDn hs] at h; cases h
    have hxs : L x = false → L s = false := fun h => by
      cases hs : L s with
      | false => rfl
      | true => rw [asks_at as_ hDn hs] at h; cases h
    have hex : L e = false → L x = false := fun h => by
      cases hs : L x with
      | false => rfl
      | true => rw [asks_at ax hDn hs] at h; cases h
    by_cases e1 : i = e
    · subst e1
      have hio' : opsL[i]? = some o := by simpa using hio
      rw [hoe] at hio'; cases hio'
      intro a ha hsl
      rw [if_pos (by simp [Region.wanted])]
      obtain ⟨q1, q2⟩ := hve _ hoe
      have hM := I1 hLi
      obtain ⟨v, W', hr, v0, st, rfl, hMid, hsto, hzz⟩ := REv.mapEntry (P := P) (n := n) (ds := ds) (w := W) (d := some de) (ty := ty1) (ps := ps1) (af := af1) (g := none) hT hK hz (.tmp q1) (.tmp q2) hM a ha
      refine .inl (.inl ⟨_, W', hr, hsto.cel (by omega) hM.nocell hM.noblk, fun _ _ => hpe _ _, hFr.trans (hsto.fr.mono fun _ h => h), fun h => ?_, fun _ _ => ⟨st, hMid, ⟨v0, by simp [setS]⟩, fun h => ?_⟩, fun h => ?_, fun h => ?_⟩)
      · simp [setL] at h
      · rw [setL, if_neg (Ne.symm nex), hex hLi] at h; cases h
      · rw [setL, if_neg (Ne.symm nes), hup hLi] at h; cases h
      · rw [setL, if_neg (Ne.symm neu), hsu (hup hLi)] at h; cases h
    by_cases e2 : i = x
    · subst e2
      have hio' : opsL[i]? = some o := by simpa using hio
      rw [hox] at hio'; cases hio'
      intro a ha hsl
      rw [if_pos (by simp [Region.wanted])]
      have hLe : L e = true := asks_now ax hio hed
      obtain ⟨st, hMid, ⟨v0, hv0⟩, _⟩ := I2 hLe (hxs hLi)
      have hag : Ag n ds [(de, .eq (.tuple #[v0, goInt st]))] a W := ⟨ha.defers, ha.size, fun t q ht => by
        by_cases ee : t = de
        · subst ee; rw [lk_cons_eq] at ht; cases ht; exact (hsl _).trans hv0
        · rw [lk_cons_ne ee] at ht; cases ht⟩
      have hr := PEv.extract (P := P) (n := n) (ds := ds) (w := W) (d := some dx) (ty := ty2) (ps := ps2) (af := af2) (g := none) (i := 1) (v := goInt st) (.tmp (lk_cons_eq (ph := .eq (.tuple #[v0, goInt st])))) rfl a W hag (Up.refl W)
      refine .inl (.inl ⟨_, W, hr, Cel.refl W, fun _ _ => hpx _ _, hFr, fun h => ?_, fun _ _ => ⟨st, hMid, ⟨v0, ?_⟩, fun _ => by simp [setS]⟩, fun h => ?_, fun h => ?_⟩)
      · rw [setL, if_neg nex, hLe] at h; cases h
      · have : dx ≠ de := fun ee => hde i _ hik (Ne.symm nex) hio (by rw [ee])
        simp [setS, this, hv0]
      · rw [setL, if_neg (Ne.symm nxs), hxs hLi] at h; cases h
      · rw [setL, if_neg (Ne.symm nxu), hsu (hxs hLi)] at h; cases h
    by_cases e3 : i = s
    · subst e3
      have hio' : opsL[i]? = some o := by simpa using hio
      rw [hos] at hio'; cases hio'
      intro a ha hsl
      rw [if_pos (by simp [Region.wanted])]
      have hLx : L x = true := asks_now as_ hio hed
      have hLe : L e = true := asks_at ax hDn hLx
      obtain ⟨st, hMid, _, hfx⟩ := I2 hLe hLi
      obtain ⟨q1, q2⟩ := hvs _ hos
      have hag : Ag n ds ((dx, .eq (goInt st)) :: (knp opsL.toArray (fun i => phs.getD i (.eq undef)) 0 ⟨none, .entryStore T (.tmp m1) (.tmp dx) (.tmp c1), ty3, ps3, af3, none⟩ ++ l)) a W := ha.learn2 (by rw [hsl, hfx hLx])
      have v1' : ∀ (t : Nat) (v : Value), lk (knp opsL.toArray (fun i => phs.getD i (.eq undef)) 0 ⟨none, .entryStore T (.tmp m1) (.tmp dx) (.tmp c1), ty3, ps3, af3, none⟩ ++ l) t = some (.eq v) → a.tmps.getD t undef = v := fun t v h => ha.val t _ h
      have hag2 : ∀ (t : Nat) (v : Value), a.tmps.getD t undef = v → Ag n ds [(t, .eq v)] a W := fun t v hv => ⟨ha.defers, ha.size, fun t' q ht => by
        by_cases ee : t' = t
        · subst ee; rw [lk_cons_eq] at ht; cases ht; exact hv
        · rw [lk_cons_ne ee] at ht; cases ht⟩
      obtain ⟨W', h3, hM', hsto, hzz⟩ : ∃ w', (execOp a.eval ⟨none, .entryStore T (.tmp m1) (.tmp dx) (.tmp c1), ty3, ps3, af3, none⟩).run P W = .ok .skip w' ∧ IMap w' b (mset kv k1 v1) ∧ Sto b W w' ∧ w'.heap.size = W.heap.size := by
        obtain ⟨es1, cc1, h1, h2⟩ := hMid
        obtain ⟨w', h3, h4⟩ := h2 W v1 h1
        refine ⟨w', run_u ?_, h4⟩
        rw [(hag2 m1 _ (v1' m1 _ q1)).ev (.tmp lk_cons_eq), (hag2 dx _ ((hsl dx).trans (hfx hLx))).ev (.tmp lk_cons_eq), (hag2 c1 _ (v1' c1 _ q2)).ev (.tmp lk_cons_eq)]
        exact h3
      refine .inr ⟨W', h3, hsto.cel (by omega) hMid.nocell hMid.noblk, (fun d hd => by cases hd), hFr.trans (hsto.fr.mono fun _ h => h), fun h => ?_, fun _ h => ?_, fun _ _ => hM', fun h => ?_⟩
      · rw [setL, if_neg nes, hLe] at h; cases h
      · simp [setL] at h
      · rw [setL, if_neg (Ne.symm nsu), hsu hLi] at h; cases h
    by_cases e4 : i = u
    · subst e4
      have hio' : opsL[i]? = some o := by simpa using hio
      rw [hou] at hio'; cases hio'
      intro a ha hsl
      rw [if_pos (by simp [Region.wanted])]
      have hLs : L s = true := asks_now au hio hed
      have hLe : L e = true := asks_at ax hDn (asks_at as_ hDn hLs)
      have hM := I3 hLs hLi
      obtain ⟨q1, q2, q3⟩ := hvu _ hou
      obtain ⟨W', hr, hM', hsto, hzz⟩ := SEv.mapUpdate (P := P) (n := n) (ds := ds) (w := W) (ty := ty4) (ps := ps4) (af := af4) (g := none) hT hK (.tmp q1) (.tmp q2) (.tmp q3) hM a ha
      refine .inr ⟨W', hr, hsto.cel (by omega) hM.nocell hM.noblk, (fun d hd => by cases hd), hFr.trans (hsto.fr.mono fun _ h => h), fun h => ?_, fun _ h => ?_, fun _ h => ?_, fun _ => hM'⟩
      · rw [setL, if_neg neu, hLe] at h; cases h
      · rw [setL, if_neg nsu, hLs] at h; cases h
      · simp [setL] at h
    · have h0 := (hop W hRel).at (sub i o hik hio)
      rw [Nat.zero_add] at h0
      rcases h0 with h0 | ⟨hg, h0⟩
      · rcases h0 with h0 | h0 | h0 | h0
        · exact absurd h0 e1
        · exact absurd h0 e2
        · exact absurd h0 e3
        · exact absurd h0 e4
      have hrd : (i = r1 ∨ i = r2) → IMap W b kv := fun h => I1 (by
        cases hLe : L e with
        | false => rfl
        | true =>
          have h1 := asks_at ae hDn hLe
          have h2 := asks_at ar hDn h1
          rcases h with h | h
          · rw [h, h1] at hLi; cases hLi
          · rw [h, h2] at hLi; cases hLi)
      intro a ha hsl
      rw [if_pos (by simp [Region.wanted, hg])]
      have done : ∀ v W', Up W W' ∧ (phs.getD i (.eq undef)).holds v W' → Cel W W' ∧ (∀ d, o.dst = some d → (phs.getD i (.eq undef)).holds v W') ∧ SwInv P T b kv k1 k2 v1 v2 de dx e x s u w.drew (setL L i) (setS f o.dst v) W' := by
        rintro v W' ⟨hu, hv⟩
        have f1 : setS f o.dst v de = f de := by simp [setS, hde i o hik e1 hio]
        have f2 : setS f o.dst v dx = f dx := by simp [setS, hdx i o hik e2 hio]
        have le : setL L i e = L e := by simp [setL, Ne.symm e1]
        have lx : setL L i x = L x := by simp [setL, Ne.symm e2]
        have ls : setL L i s = L s := by simp [setL, Ne.symm e3]
        have lu : setL L i u = L u := by simp [setL, Ne.symm e4]
        unfold SwInv
        rw [le, lx, ls, lu, f1, f2]
        exact ⟨hu.cel, fun _ _ => hv, hFr.trans (hu.fr _), fun h => (I1 h).up hu, fun h h2 => let ⟨st, h3, h4⟩ := I2 h h2; ⟨st, h3.up hu, h4⟩, fun h h2 => (I3 h h2).up hu, fun h => (I4 h).up hu⟩
      rcases h0 hrd a ha with ⟨v, W', hr, hp⟩ | ⟨fn, args, w1, hr, hc⟩
      · exact .inl (.inl ⟨v, W', hr, done v W' hp⟩)
      · exact .inl (.inr ⟨fn, args, w1, hr, hc.mono done⟩)
  · exact ⟨Fr.refl _ _, fun _ => hM.up (Up.drew w), fun h => by simp at h, fun h => by simp at h, fun h => by simp at h⟩
  · intro f W hRel ⟨hFr, _, _, _, I4⟩ fuel' listed' a' hf' hu' ha' hsl'
    refine tail_order hTl hA (opsL.toArray.size - k) k fuel' listed' a' W rfl (by simp; omega) (Nat.le_refl _) hf' hu' ?_
    refine hend W hFr (I4 (decide_eq_true ku)) a' ⟨ha'.defers, ha'.size, fun t q ht => ha'.val t q ?_⟩
    rw [lk_right]
    · exact ht
    · cases hq : lk (allP opsL.toArray (fun i => phs.getD i (.eq undef)) 0 k) t with
      | none => rfl
      | some q' =>
        obtain ⟨j, p, _, hjk, hp, hpd, _⟩ := allP_at hq
        exact absurd hpd (hbd t q ht j p (Nat.zero_le _) hjk hp)
end
end Go.Wx
end
section
namespace Go.Wx
theorem OwnS.els {α : Type} {enc : α → Array Go.Value} {b k n cp : Nat} {e : TypeId} {w : World} {ad : Option Addr} {xs : List α} (h : OwnS w b e k enc (.slice ad n cp) xs) (hk : ∀ x, (enc x).size = k) : Els w ad k enc xs := by
  obtain ⟨ad', cp', e, hE⟩ := h.sl hk
  injection e with e1
  rw [e1]; exact hE
theorem eqb_refl (f : Fact) : Fact.eqb f f = true := by simp [Fact.eqb]
theorem eqFs_refl : ∀ (l : List Fact), eqFs l l = true
  | [] => rfl
  | x :: l => by rw [eqFs, eqb_refl, eqFs_refl l]; rfl
end Go.Wx
namespace Go.Proofs.YthfjagphcekcbaaGreat
open Go.Wx Go.RowKit
end Go.Proofs.YthfjagphcekcbaaGreat
namespace Go.Wx
end Go.Wx
namespace Go.Proofs.YthfjagphcekcbaaGreat
open Go.Wx Go.RowKit
end Go.Proofs.YthfjagphcekcbaaGreat
namespace Go.Wx
end Go.Wx
namespace Go.Proofs.YthfjagphcekcbaaGreat
open Go.Wx Go.RowKit
end Go.Proofs.YthfjagphcekcbaaGreat
end
section
namespace Go.Wx
open Go.RowKit Go.MapKept
section
variable {P : Program} {n : Nat} {ds : List Deferred} {l : Env} {w : World} {d : Option Tmp} {ty : TypeId} {ps : String} {af : Array Edge} {g : Option (Nat × Bool)}
theorem map_erase {α β : Type} (f : α → β) : ∀ (l : List α) (j : Nat), (l.eraseIdx j).map f = (l.map f).eraseIdx j
  | [], _ => rfl
  | _ :: _, 0 => rfl
  | a :: l, j + 1 => by rw [List.eraseIdx_cons_succ, List.map_cons, map_erase f l j, List.map_cons, List.eraseIdx_cons_succ]
theorem kvI_filter {kv : List (Int × Value)} {k : Int} {j : Nat} (hn : (kv.map (·.1)).Nodup) {p : Int × Value} (hj : kv[j]? = some p) (hk : p.1 = k) : kv.filter (fun p => !decide (p.1 = k)) = kv.eraseIdx j := by
  refine Go.ChangeMaps.filter_eq_eraseIdx (fun p : Int × Value => decide (p.1 = k)) kv j p hj (decide_eq_true hk) ?_
  have h := List.pairwise_map.1 hn
  exact h.imp fun {a b} hab hh => hab ((of_decide_eq_true hh.1).trans (of_decide_eq_true hh.2).symm)
theorem REv.deleteR {T K E : TypeId} {m x : Operand} {b r : Nat} {k : Int} {kv : List (Int × Value)} {done : List Int} (hT : P.underlying T = some (.map K E)) (hK : P.underlying K = some (.int .i64)) (hm : Val l m (.map (some b))) (hx : Val l x (vi k)) (h : IRng w b r kv (done ++ [k])) :
    REv P n ds l w ⟨d, .call { callee := .builtin .delete, args := #[m, x], argTypes := #[T, K] }, ty, ps, af, g⟩ (fun _ w' => IRng w' b r (kv.filter fun p => !decide (p.1 = k)) done ∧ Sto b w w' ∧ w'.heap.size = w.heap.size) := fun a ha => by
  obtain ⟨es, clock, since, seen, c0, hb, hs, he, hr, hold, hsc, hsk, hd, hdn, hdk⟩ := h
  have hne : b ≠ r := fun e => by rw [e, hr] at hb; cases hb
  have hk : IsKey (.int .i64) (vi k) := rfl
  have hkm : k ∈ kv.map (·.1) := hdk k (by simp)
  have hkn : (kv.map (·.1)).Nodup := keys_nodup hs he
  rcases findNow_spec hk es.toList 0 (isKey_all he) with ⟨h1, h2⟩ | ⟨j, e, h1, h2, h3⟩
  · exfalso
    obtain ⟨p, hp, hpk⟩ := List.mem_map.1 hkm
    obtain ⟨x', hx', hkx, _⟩ := key_entry he hp
    exact h2 x' hx' (by rw [hkx, hpk])
  · have hjs : j < es.size := by have := (List.getElem?_eq_some_iff.1 h2).1; simpa using this
    have hsub : (es.eraseIdxIfInBounds j).toList = es.toList.eraseIdx j := by
      unfold Array.eraseIdxIfInBounds
      rw [dif_pos hjs]
      simp
    obtain ⟨p, hp, hpk⟩ : ∃ p, kv[j]? = some p ∧ p.1 = k := by
      have h4 : (es.toList.map kvOf)[j]? = some (kvOf e) := by rw [List.getElem?_map, h2]; rfl
      rw [he, List.getElem?_map] at h4
      cases hkj : kv[j]? with
      | none => rw [hkj] at h4; cases h4
      | some p =>
        rw [hkj] at h4
        refine ⟨p, rfl, ?_⟩
        have h5 : kvI p = kvOf e := by simpa using h4
        have h6 : vi p.1 = e.key := congrArg Prod.fst h5
        exact vi_inj (h6.trans h3)
    have hf := kvI_filter hkn hp hpk
    have he' : (es.eraseIdxIfInBounds j).toList.map kvOf = (kv.filter fun p => !decide (p.1 = k)).map kvI := by
      rw [hsub, hf, map_erase, he, ← map_erase]
    have hset := heap_set (o' := .map (es.eraseIdxIfInBounds j) clock) hb
    refine ⟨.tuple #[], { w with heap := w.heap.setIfInBounds b (.map (es.eraseIdxIfInBounds j) clock) }, ?_, ⟨_, clock, since, seen, c0, hset.1, stamped_erase hs j, he', (hset.2 r (Ne.symm hne)).trans hr, fun x hx => hold x ?_, hsc, hsk, fun x hx k' hk' => ?_, ?_, fun k' hk' => ?_⟩, ⟨rfl, rfl, rfl, by simp, fun i _ hi => hset.2 i hi⟩, by simp⟩
    · simp [execOp, resolve, invoke, builtin, ha.ev hm, ha.ev hx, Builtin.delete_, run_underlying hT, MapKept.run_getObj_map hb, MapKept.run_checkKey hK hk, MapKept.run_findKey hK h1, MapKept.run_setObj_map _ hb, Result.andThen]
    · rw [hsub] at hx
      exact (List.eraseIdx_sublist _ _).subset hx
    · have hx0 := hx
      rw [hsub] at hx
      rw [hd x ((List.eraseIdx_sublist _ _).subset hx) k' hk']
      obtain ⟨k'', e1, e2⟩ := keys_int he' x hx0
      have e3 : k' = k'' := vi_inj (hk'.symm.trans e1)
      have e4 := (List.mem_filter.1 e2).2
      have e5 : k' ≠ k := fun e => by rw [← e3, e] at e4; simp at e4
      simp [e5]
    · exact (List.nodup_append.1 hdn).1
    · have h6 := hdk k' (by simp [hk'])
      obtain ⟨q, hq, hqk⟩ := List.mem_map.1 h6
      refine List.mem_map.2 ⟨q, List.mem_filter.2 ⟨hq, ?_⟩, hqk⟩
      have : q.1 ≠ k := fun e => (List.nodup_append.1 hdn).2.2 k' hk' k (by simp) (by rw [← hqk, e])
      simp [this]
end
theorem stp_rng {b r : Nat} {kv kv' : List (Int × Value)} {done done' : List Int} {w w' : World} (h : IRng w' b r kv' done') (k : Sto b w w') : Stp (aIRng b r kv done) (aIRng b r kv' done') w w' := ⟨k.fr.mono fun _ h => .inl h, h, fun _ h => .inl h⟩
theorem stp_set {b : Nat} {kv kv' : List (Int × Value)} {w w' : World} (h : IMap w' b kv') (k : Sto b w w') : Stp (aIMap b kv) (aIMap b kv') w w' := ⟨k.fr, h, fun _ h => .inl h⟩
theorem stp_rngEnd {b r : Nat} {kv : List (Int × Value)} {done : List Int} {w : World} (h : IRng w b r kv done) : Stp (aIRng b r kv done) (aIMap b kv) w w := ⟨Fr.refl _ _, h.map, fun _ e => .inl (.inl e)⟩
end Go.Wx
end
